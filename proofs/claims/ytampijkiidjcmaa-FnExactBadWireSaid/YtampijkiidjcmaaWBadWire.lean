/- The walk of the law BadWire. -/
import Derived.Test.YtampijkiidjcmaaLwW
import Derived.Test.YtampijkiidjcmaaBoV
import Derived.Test.YtampijkiidjcmaaFToN
import Derived.Test.YtampijkiidjcmaaFEqN
import Derived.Test.YtampijkiidjcmaaFSz
import Derived.Deep.RegionHeld3
namespace Go.Proofs.Ytampijkiidjcmaa
open Go.RowKit
set_option linter.unusedVariables false
set_option linter.unusedSimpArgs false
set_option maxRecDepth 100000

set_option maxHeartbeats 8000000 in
theorem walk_BadWire (w : World) (v0 : Value) (x : DNet) (R0 : RdT netRd w w.heap.size v0 x) (v1 : Value) (rev : List Bool) (R1 : RdS boolRd 1 w w.heap.size v1 rev) :
    Calls Try.prog 9 #[v0, v1] w fun e w' => e = .returned (.bool true) ∧ Below w.heap.size w w' := by
  obtain ⟨a0A0, a0n0, a0c0, rfl⟩ : ∃ a0A0 a0n0 a0c0, v0 = .agg #[.slice a0A0 a0n0 a0c0] := by obtain ⟨cs, rfl, ⟨A0, n0, c0, rfl, _⟩⟩ := R0; exact ⟨A0, n0, c0, rfl⟩
  obtain ⟨a1A, a1n, a1c, rfl⟩ : ∃ A n c, v1 = .slice A n c := by obtain ⟨A, n, c, e, _⟩ := R1; exact ⟨A, n, c, e⟩
  have la1 : a1n = rev.length := by obtain ⟨A, n, c, e, h, _⟩ := R1; injection e with _ e2 _; rw [e2]; exact h.len
  subst la1
  by_cases dl1 : rev.length ≤ 1048576
  case neg =>
    have T := Below.refl w.heap.size w
    have T : Below w.heap.size w (w.alloc (.cells #[.slice a0A0 a0n0 a0c0] 24)) := T.alloc (by first | exact Nat.le_refl _ | (simp; done) | (simp; omega)) _
    have B0 : Blk (w.alloc (.cells #[.slice a0A0 a0n0 a0c0] 24)) (w.heap.size) 24 #[.slice a0A0 a0n0 a0c0] := by have := Blk.new w 24 #[.slice a0A0 a0n0 a0c0]; simpa using this
    have zb0 : (w.alloc (.cells #[.slice a0A0 a0n0 a0c0] 24)).heap.size = w.heap.size + 1 := by simp
    go_enter Try.func9, Try.ntmps9
    go_wp2_with fail
    go_ret
    exact ⟨rfl, T⟩
  have s1 : lenOk rev := by unfold lenOk; omega
  by_cases d0 : (szNet x : Int) ≤ 1048576
  case neg =>
    have T := Below.refl w.heap.size w
    have T : Below w.heap.size w (w.alloc (.cells #[.slice a0A0 a0n0 a0c0] 24)) := T.alloc (by first | exact Nat.le_refl _ | (simp; done) | (simp; omega)) _
    have B0 : Blk (w.alloc (.cells #[.slice a0A0 a0n0 a0c0] 24)) (w.heap.size) 24 #[.slice a0A0 a0n0 a0c0] := by have := Blk.new w 24 #[.slice a0A0 a0n0 a0c0]; simpa using this
    have zb0 : (w.alloc (.cells #[.slice a0A0 a0n0 a0c0] 24)).heap.size = w.heap.size + 1 := by simp
    go_enter Try.func9, Try.ntmps9
    go_wp2_with fail
    refine (szNet_v _ x (1048576) _ (R0.below netRd_ok T) T.size (by omega) (by omega)).mono ?_
    rw [szL_neg (by omega)]
    rintro e w1 ⟨rfl, b1⟩
    have z1 := b1.size
    have B0 := B0.below b1 (by omega)
    have T := T.trans (b1.mono (by omega))
    have gB0 := B0.cell
    go_wp2_with fail
    go_ret
    exact ⟨rfl, T⟩
  have s0 : szNet x ≤ 1048576 := by omega
  have qa1 : eqL rev rev = true := decide_eq_true rfl
  have T := Below.refl w.heap.size w
  have T : Below w.heap.size w (w.alloc (.cells #[.slice a0A0 a0n0 a0c0] 24)) := T.alloc (by first | exact Nat.le_refl _ | (simp; done) | (simp; omega)) _
  have B0 : Blk (w.alloc (.cells #[.slice a0A0 a0n0 a0c0] 24)) (w.heap.size) 24 #[.slice a0A0 a0n0 a0c0] := by have := Blk.new w 24 #[.slice a0A0 a0n0 a0c0]; simpa using this
  have zb0 : (w.alloc (.cells #[.slice a0A0 a0n0 a0c0] 24)).heap.size = w.heap.size + 1 := by simp
  go_enter Try.func9, Try.ntmps9
  go_wp2_with fail
  refine (szNet_v _ x (1048576) _ (R0.below netRd_ok T) T.size (by omega) (by omega)).mono ?_
  rw [szL_pos (by omega)]
  rintro e w1 ⟨rfl, b1⟩
  have z1 := b1.size
  have B0 := B0.below b1 (by omega)
  have T := T.trans (b1.mono (by omega))
  have gB0 := B0.cell
  go_wp2_with fail
  refine (toNet_v _ x _ (R0.below netRd_ok T) T.size s0).mono ?_
  rintro e w2 ⟨⟨t1, rfl, p2⟩, b2⟩
  have z2 := b2.size
  have B0 := B0.below b2 (by omega)
  have T := T.trans (b2.mono (by omega))
  clear gB0
  have gB0 := B0.cell
  go_wp2_with fail
  refine (toBoolS_v _ rev _ (R1.below boolRd_ok T) T.size s1).mono ?_
  rintro e w3 ⟨⟨t3, rfl, p4⟩, b3⟩
  have z3 := b3.size
  have B0 := B0.below b3 (by omega)
  have p2 := p2.below netOw_ok b3 (by omega)
  have T := T.trans (b3.mono (by omega))
  clear gB0
  have gB0 := B0.cell
  go_wp2_with fail
  refine (specBadWire_v _ _ x rev _ (p2.reads (netOw_reads (w3).heap.size) (by omega)) (p4.reads (boolOw_reads (w3).heap.size) (by omega)) (Nat.le_refl _) (Nat.le_refl _) s0 s1).mono ?_
  rintro e w4 ⟨rfl, b4⟩
  have z4 := b4.size
  have B0 := B0.below b4 (by omega)
  have p2 := p2.below netOw_ok b4 (by omega)
  have p4 := p4.below boolOw_ok b4 (by omega)
  have T := T.trans (b4.mono (by omega))
  have G5 : OwT wireOw w4 (.agg #[.int .i64 (badWire x rev).1.a.agent, .int .i64 (badWire x rev).1.a.slot, .int .i64 (badWire x rev).1.b.agent, .int .i64 (badWire x rev).1.b.slot]) (badWire x rev).1 w4.heap.size w4.heap.size := ⟨_, [], rfl, ⟨rfl, rfl⟩, List.nodup_nil, fun b hb => by simp at hb⟩
  clear gB0
  have gB0 := B0.cell
  clear p2
  clear p4
  have b5 : Below w4.heap.size w4 (w4.alloc (.cells #[.int .i64 (badWire x rev).1.a.agent, .int .i64 (badWire x rev).1.a.slot, .int .i64 (badWire x rev).1.b.agent, .int .i64 (badWire x rev).1.b.slot] 55)) := (Below.refl _ _).alloc (Nat.le_refl _) _
  have z5 : (w4.alloc (.cells #[.int .i64 (badWire x rev).1.a.agent, .int .i64 (badWire x rev).1.a.slot, .int .i64 (badWire x rev).1.b.agent, .int .i64 (badWire x rev).1.b.slot] 55)).heap.size = w4.heap.size + 1 := World.size_alloc _ _
  have B0 := B0.below b5 (by omega)
  have G5 := G5.below wireOw_ok b5 (by omega)
  have T := T.trans (b5.mono (by omega))
  have X6 : Blk (w4.alloc (.cells #[.int .i64 (badWire x rev).1.a.agent, .int .i64 (badWire x rev).1.a.slot, .int .i64 (badWire x rev).1.b.agent, .int .i64 (badWire x rev).1.b.slot] 55)) w4.heap.size 55 #[.int .i64 (badWire x rev).1.a.agent, .int .i64 (badWire x rev).1.a.slot, .int .i64 (badWire x rev).1.b.agent, .int .i64 (badWire x rev).1.b.slot] := Blk.new _ _ _
  clear gB0
  have gB0 := B0.cell
  have gX6 := X6.cell
  go_wp2_with fail
  refine (toNet_v _ x _ (R0.below netRd_ok T) T.size s0).mono ?_
  rintro e w6 ⟨⟨t8, rfl, p9⟩, b6⟩
  have z6 := b6.size
  have B0 := B0.below b6 (by omega)
  have X6 := X6.below b6 (by omega)
  have G5 := G5.below wireOw_ok b6 (by omega)
  have T := T.trans (b6.mono (by omega))
  clear gB0
  clear gX6
  have gB0 := B0.cell
  have gX6 := X6.cell
  obtain ⟨l11A0, l11n0, l11c0, rfl⟩ : ∃ l11A0 l11n0 l11c0, t8 = .agg #[.slice l11A0 l11n0 l11c0] := by obtain ⟨cs, bs, rfl, ⟨A0, n0, c0, b0, rfl, _⟩, _⟩ := p9; exact ⟨A0, n0, c0, rfl⟩
  have b7 : Below w6.heap.size w6 (w6.alloc (.cells #[.slice l11A0 l11n0 l11c0] 30)) := (Below.refl _ _).alloc (Nat.le_refl _) _
  have z7 : (w6.alloc (.cells #[.slice l11A0 l11n0 l11c0] 30)).heap.size = w6.heap.size + 1 := World.size_alloc _ _
  have B0 := B0.below b7 (by omega)
  have X6 := X6.below b7 (by omega)
  have G5 := G5.below wireOw_ok b7 (by omega)
  have p9 := p9.below netOw_ok b7 (by omega)
  have T := T.trans (b7.mono (by omega))
  have X10 : Blk (w6.alloc (.cells #[.slice l11A0 l11n0 l11c0] 30)) w6.heap.size 30 #[.slice l11A0 l11n0 l11c0] := Blk.new _ _ _
  clear gB0
  clear gX6
  have gB0 := B0.cell
  have gX6 := X6.cell
  have gX10 := X10.cell
  go_wp2_with fail
  refine (toBoolS_v _ rev _ (R1.below boolRd_ok T) T.size s1).mono ?_
  rintro e w8 ⟨⟨t12, rfl, p13⟩, b8⟩
  have z8 := b8.size
  have B0 := B0.below b8 (by omega)
  have X6 := X6.below b8 (by omega)
  have X10 := X10.below b8 (by omega)
  have G5 := G5.below wireOw_ok b8 (by omega)
  have p9 := p9.below netOw_ok b8 (by omega)
  have T := T.trans (b8.mono (by omega))
  clear gB0
  clear gX6
  clear gX10
  have gB0 := B0.cell
  have gX6 := X6.cell
  have gX10 := X10.cell
  go_wp2_with fail
  refine (implBadWire_v _ _ x rev _ (p9.reads (netOw_reads (w8).heap.size) (by omega)) (p13.reads (boolOw_reads (w8).heap.size) (by omega)) (Nat.le_refl _) (Nat.le_refl _) s0 s1).mono ?_
  rintro e w9 ⟨rfl, b9⟩
  have z9 := b9.size
  have B0 := B0.below b9 (by omega)
  have X6 := X6.below b9 (by omega)
  have X10 := X10.below b9 (by omega)
  have G5 := G5.below wireOw_ok b9 (by omega)
  have p9 := p9.below netOw_ok b9 (by omega)
  have p13 := p13.below boolOw_ok b9 (by omega)
  have T := T.trans (b9.mono (by omega))
  have G14 : OwT wireOw w9 (.agg #[.int .i64 (badWire x rev).1.a.agent, .int .i64 (badWire x rev).1.a.slot, .int .i64 (badWire x rev).1.b.agent, .int .i64 (badWire x rev).1.b.slot]) (badWire x rev).1 w9.heap.size w9.heap.size := ⟨_, [], rfl, ⟨rfl, rfl⟩, List.nodup_nil, fun b hb => by simp at hb⟩
  clear gB0
  clear gX6
  clear gX10
  have gB0 := B0.cell
  have gX6 := X6.cell
  have gX10 := X10.cell
  have b10 : Below w9.heap.size w9 (w9.alloc (.cells #[.int .i64 (badWire x rev).1.a.agent, .int .i64 (badWire x rev).1.a.slot, .int .i64 (badWire x rev).1.b.agent, .int .i64 (badWire x rev).1.b.slot] 55)) := (Below.refl _ _).alloc (Nat.le_refl _) _
  have z10 : (w9.alloc (.cells #[.int .i64 (badWire x rev).1.a.agent, .int .i64 (badWire x rev).1.a.slot, .int .i64 (badWire x rev).1.b.agent, .int .i64 (badWire x rev).1.b.slot] 55)).heap.size = w9.heap.size + 1 := World.size_alloc _ _
  have B0 := B0.below b10 (by omega)
  have X6 := X6.below b10 (by omega)
  have X10 := X10.below b10 (by omega)
  have G5 := G5.below wireOw_ok b10 (by omega)
  have p9 := p9.below netOw_ok b10 (by omega)
  have p13 := p13.below boolOw_ok b10 (by omega)
  have G14 := G14.below wireOw_ok b10 (by omega)
  have T := T.trans (b10.mono (by omega))
  have X15 : Blk (w9.alloc (.cells #[.int .i64 (badWire x rev).1.a.agent, .int .i64 (badWire x rev).1.a.slot, .int .i64 (badWire x rev).1.b.agent, .int .i64 (badWire x rev).1.b.slot] 55)) w9.heap.size 55 #[.int .i64 (badWire x rev).1.a.agent, .int .i64 (badWire x rev).1.a.slot, .int .i64 (badWire x rev).1.b.agent, .int .i64 (badWire x rev).1.b.slot] := Blk.new _ _ _
  clear gB0
  clear gX6
  clear gX10
  have gB0 := B0.cell
  have gX6 := X6.cell
  have gX10 := X10.cell
  have gX15 := X15.cell
  go_wp2_with fail
  refine (eqWire_v _ _ _ _ _ (G14.reads (wireOw_reads ((w9.alloc (.cells #[.int .i64 (badWire x rev).1.a.agent, .int .i64 (badWire x rev).1.a.slot, .int .i64 (badWire x rev).1.b.agent, .int .i64 (badWire x rev).1.b.slot] 55))).heap.size) (by omega)) (G5.reads (wireOw_reads ((w9.alloc (.cells #[.int .i64 (badWire x rev).1.a.agent, .int .i64 (badWire x rev).1.a.slot, .int .i64 (badWire x rev).1.b.agent, .int .i64 (badWire x rev).1.b.slot] 55))).heap.size) (by omega)) (Nat.le_refl _) (Nat.le_refl _)).mono ?_
  rintro e w11 ⟨rfl, b11⟩
  have z11 := b11.size
  have B0 := B0.below b11 (by omega)
  have X6 := X6.below b11 (by omega)
  have X10 := X10.below b11 (by omega)
  have X15 := X15.below b11 (by omega)
  have G5 := G5.below wireOw_ok b11 (by omega)
  have p9 := p9.below netOw_ok b11 (by omega)
  have p13 := p13.below boolOw_ok b11 (by omega)
  have G14 := G14.below wireOw_ok b11 (by omega)
  have T := T.trans (b11.mono (by omega))
  clear gB0
  clear gX6
  clear gX10
  clear gX15
  have gB0 := B0.cell
  have gX6 := X6.cell
  have gX10 := X10.cell
  have gX15 := X15.cell
  go_wp2_with fail
  have T := T.drew
  have B0 := B0.drew
  have X6 := X6.drew
  have X10 := X10.drew
  have X15 := X15.drew
  have G5 := G5.keep wireOw_ok (w' := w11.drew) (fun _ _ _ => rfl)
  have p9 := p9.keep netOw_ok (w' := w11.drew) (fun _ _ _ => rfl)
  have p13 := p13.keep boolOw_ok (w' := w11.drew) (fun _ _ _ => rfl)
  have G14 := G14.keep wireOw_ok (w' := w11.drew) (fun _ _ _ => rfl)
  have zd12 : w11.drew.heap.size = w11.heap.size := rfl
  go_region_held3 (fun w' => w'.cell? ⟨w6.heap.size, 0, none⟩ = some (.slice l11A0 l11n0 l11c0) ∧ w'.cell? ⟨w.heap.size, 0, none⟩ = some (.slice a0A0 a0n0 a0c0)) (exact ⟨gX10 0, gB0 0⟩) (first
    | (go_at_call 17; refine (toNet_v _ x _ (R0.below netRd_ok T) T.size s0).mono ?_; rintro e w13 ⟨⟨t17, rfl, p18⟩, b13⟩; have z13 := b13.size; have B0 := B0.below b13 (by omega); have X6 := X6.below b13 (by omega); have X10 := X10.below b13 (by omega); have X15 := X15.below b13 (by omega); have G5 := G5.below wireOw_ok b13 (by omega); have p9 := p9.below netOw_ok b13 (by omega); have p13 := p13.below boolOw_ok b13 (by omega); have G14 := G14.below wireOw_ok b13 (by omega); have T := T.trans (b13.mono (by omega)); clear gB0; clear gX6; clear gX10; clear gX15; have gB0 := B0.cell; have gX6 := X6.cell; have gX10 := X10.cell; have gX15 := X15.cell)
    | (go_at_call 19; refine (eqNet_v _ _ _ _ _ (p9.reads (netOw_reads (w13).heap.size) (by omega)) (p18.reads (netOw_reads (w13).heap.size) (by omega)) (Nat.le_refl _) (Nat.le_refl _)).mono ?_; rintro e w14 ⟨rfl, b14⟩; have z14 := b14.size; have B0 := B0.below b14 (by omega); have X6 := X6.below b14 (by omega); have X10 := X10.below b14 (by omega); have X15 := X15.below b14 (by omega); have G5 := G5.below wireOw_ok b14 (by omega); have p9 := p9.below netOw_ok b14 (by omega); have p13 := p13.below boolOw_ok b14 (by omega); have G14 := G14.below wireOw_ok b14 (by omega); have p18 := p18.below netOw_ok b14 (by omega); have T := T.trans (b14.mono (by omega)); clear gB0; clear gX6; clear gX10; clear gX15; have gB0 := B0.cell; have gX6 := X6.cell; have gX10 := X10.cell; have gX15 := X15.cell))
  go_wp2_with fail
  refine (toBoolS_v _ rev _ (R1.below boolRd_ok T) T.size s1).mono ?_
  rintro e w15 ⟨⟨t19, rfl, p20⟩, b15⟩
  have z15 := b15.size
  have B0 := B0.below b15 (by omega)
  have X6 := X6.below b15 (by omega)
  have X10 := X10.below b15 (by omega)
  have X15 := X15.below b15 (by omega)
  have G5 := G5.below wireOw_ok b15 (by omega)
  have p9 := p9.below netOw_ok b15 (by omega)
  have p13 := p13.below boolOw_ok b15 (by omega)
  have G14 := G14.below wireOw_ok b15 (by omega)
  have p18 := p18.below netOw_ok b15 (by omega)
  have T := T.trans (b15.mono (by omega))
  clear gB0
  clear gX6
  clear gX10
  clear gX15
  have gB0 := B0.cell
  have gX6 := X6.cell
  have gX10 := X10.cell
  have gX15 := X15.cell
  go_wp2_with fail
  refine (eqBoolS_v _ _ _ _ _ (p13.reads (boolOw_reads (w15).heap.size) (by omega)) (p20.reads (boolOw_reads (w15).heap.size) (by omega)) (Nat.le_refl _) (Nat.le_refl _)).mono ?_
  rintro e w16 ⟨rfl, b16⟩
  have z16 := b16.size
  have B0 := B0.below b16 (by omega)
  have X6 := X6.below b16 (by omega)
  have X10 := X10.below b16 (by omega)
  have X15 := X15.below b16 (by omega)
  have G5 := G5.below wireOw_ok b16 (by omega)
  have p9 := p9.below netOw_ok b16 (by omega)
  have p13 := p13.below boolOw_ok b16 (by omega)
  have G14 := G14.below wireOw_ok b16 (by omega)
  have p18 := p18.below netOw_ok b16 (by omega)
  have p20 := p20.below boolOw_ok b16 (by omega)
  have T := T.trans (b16.mono (by omega))
  clear gB0
  clear gX6
  clear gX10
  clear gX15
  have gB0 := B0.cell
  have gX6 := X6.cell
  have gX10 := X10.cell
  have gX15 := X15.cell
  go_wp2_with fail
  go_ret
  exact ⟨rfl, T⟩

end Go.Proofs.Ytampijkiidjcmaa
