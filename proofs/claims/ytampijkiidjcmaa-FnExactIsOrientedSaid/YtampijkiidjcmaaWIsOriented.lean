/- The walk of the law IsOriented. -/
import Derived.Test.YtampijkiidjcmaaLwW
import Derived.Test.YtampijkiidjcmaaBoV
import Derived.Test.YtampijkiidjcmaaFToN
import Derived.Test.YtampijkiidjcmaaFEqN
import Derived.Test.YtampijkiidjcmaaFSz
import Derived.Deep.RegionHeld3
namespace Go.Proofs.Ytampijkiidjcmaa
open Go.RowKit
set_option linter.unusedVariables false
set_option linter.unusedSimpArgs false
set_option maxRecDepth 100000

set_option maxHeartbeats 8000000 in
theorem walk_IsOriented (w : World) (v0 : Value) (x : DNet) (R0 : RdT netRd w w.heap.size v0 x) (v1 : Value) (rev : List Bool) (R1 : RdS boolRd 1 w w.heap.size v1 rev) :
    Calls Try.prog 8 #[v0, v1] w fun e w' => e = .returned (.bool true) ∧ Below w.heap.size w w' := by
  obtain ⟨a0A0, a0n0, a0c0, rfl⟩ : ∃ a0A0 a0n0 a0c0, v0 = .agg #[.slice a0A0 a0n0 a0c0] := by obtain ⟨cs, rfl, ⟨A0, n0, c0, rfl, _⟩⟩ := R0; exact ⟨A0, n0, c0, rfl⟩
  obtain ⟨a1A, a1n, a1c, rfl⟩ : ∃ A n c, v1 = .slice A n c := by obtain ⟨A, n, c, e, _⟩ := R1; exact ⟨A, n, c, e⟩
  have la1 : a1n = rev.length := by obtain ⟨A, n, c, e, h, _⟩ := R1; injection e with _ e2 _; rw [e2]; exact h.len
  subst la1
  by_cases dl1 : rev.length ≤ 1048576
  case neg =>
    have T := Below.refl w.heap.size w
    have T : Below w.heap.size w (w.alloc (.cells #[.slice a0A0 a0n0 a0c0] 24)) := T.alloc (by first | exact Nat.le_refl _ | (simp; done) | (simp; omega)) _
    have B0 : Blk (w.alloc (.cells #[.slice a0A0 a0n0 a0c0] 24)) (w.heap.size) 24 #[.slice a0A0 a0n0 a0c0] := by have := Blk.new w 24 #[.slice a0A0 a0n0 a0c0]; simpa using this
    have zb0 : (w.alloc (.cells #[.slice a0A0 a0n0 a0c0] 24)).heap.size = w.heap.size + 1 := by simp
    go_enter Try.func8, Try.ntmps8
    go_wp2_with fail
    go_ret
    exact ⟨rfl, T⟩
  have s1 : lenOk rev := by unfold lenOk; omega
  by_cases d0 : (szNet x : Int) ≤ 1048576
  case neg =>
    have T := Below.refl w.heap.size w
    have T : Below w.heap.size w (w.alloc (.cells #[.slice a0A0 a0n0 a0c0] 24)) := T.alloc (by first | exact Nat.le_refl _ | (simp; done) | (simp; omega)) _
    have B0 : Blk (w.alloc (.cells #[.slice a0A0 a0n0 a0c0] 24)) (w.heap.size) 24 #[.slice a0A0 a0n0 a0c0] := by have := Blk.new w 24 #[.slice a0A0 a0n0 a0c0]; simpa using this
    have zb0 : (w.alloc (.cells #[.slice a0A0 a0n0 a0c0] 24)).heap.size = w.heap.size + 1 := by simp
    go_enter Try.func8, Try.ntmps8
    go_wp2_with fail
    refine (szNet_v _ x (1048576) _ (R0.below netRd_ok T) T.size (by omega) (by omega)).mono ?_
    rw [szL_neg (by omega)]
    rintro e w1 ⟨rfl, b1⟩
    have z1 := b1.size
    have B0 := B0.below b1 (by omega)
    have T := T.trans (b1.mono (by omega))
    have gB0 := B0.cell
    go_wp2_with fail
    go_ret
    exact ⟨rfl, T⟩
  have s0 : szNet x ≤ 1048576 := by omega
  have qa1 : eqL rev rev = true := decide_eq_true rfl
  have T := Below.refl w.heap.size w
  have T : Below w.heap.size w (w.alloc (.cells #[.slice a0A0 a0n0 a0c0] 24)) := T.alloc (by first | exact Nat.le_refl _ | (simp; done) | (simp; omega)) _
  have B0 : Blk (w.alloc (.cells #[.slice a0A0 a0n0 a0c0] 24)) (w.heap.size) 24 #[.slice a0A0 a0n0 a0c0] := by have := Blk.new w 24 #[.slice a0A0 a0n0 a0c0]; simpa using this
  have zb0 : (w.alloc (.cells #[.slice a0A0 a0n0 a0c0] 24)).heap.size = w.heap.size + 1 := by simp
  go_enter Try.func8, Try.ntmps8
  go_wp2_with fail
  refine (szNet_v _ x (1048576) _ (R0.below netRd_ok T) T.size (by omega) (by omega)).mono ?_
  rw [szL_pos (by omega)]
  rintro e w1 ⟨rfl, b1⟩
  have z1 := b1.size
  have B0 := B0.below b1 (by omega)
  have T := T.trans (b1.mono (by omega))
  have gB0 := B0.cell
  go_wp2_with fail
  refine (toNet_v _ x _ (R0.below netRd_ok T) T.size s0).mono ?_
  rintro e w2 ⟨⟨t1, rfl, p2⟩, b2⟩
  have z2 := b2.size
  have B0 := B0.below b2 (by omega)
  have T := T.trans (b2.mono (by omega))
  clear gB0
  have gB0 := B0.cell
  go_wp2_with fail
  refine (toBoolS_v _ rev _ (R1.below boolRd_ok T) T.size s1).mono ?_
  rintro e w3 ⟨⟨t3, rfl, p4⟩, b3⟩
  have z3 := b3.size
  have B0 := B0.below b3 (by omega)
  have p2 := p2.below netOw_ok b3 (by omega)
  have T := T.trans (b3.mono (by omega))
  clear gB0
  have gB0 := B0.cell
  go_wp2_with fail
  refine (specIsOriented_v _ _ x rev _ (p2.reads (netOw_reads (w3).heap.size) (by omega)) (p4.reads (boolOw_reads (w3).heap.size) (by omega)) (Nat.le_refl _) (Nat.le_refl _) s0 s1).mono ?_
  rintro e w4 ⟨rfl, b4⟩
  have z4 := b4.size
  have B0 := B0.below b4 (by omega)
  have p2 := p2.below netOw_ok b4 (by omega)
  have p4 := p4.below boolOw_ok b4 (by omega)
  have T := T.trans (b4.mono (by omega))
  clear gB0
  have gB0 := B0.cell
  clear p2
  clear p4
  go_wp2_with fail
  refine (toNet_v _ x _ (R0.below netRd_ok T) T.size s0).mono ?_
  rintro e w5 ⟨⟨t6, rfl, p7⟩, b5⟩
  have z5 := b5.size
  have B0 := B0.below b5 (by omega)
  have T := T.trans (b5.mono (by omega))
  clear gB0
  have gB0 := B0.cell
  obtain ⟨l9A0, l9n0, l9c0, rfl⟩ : ∃ l9A0 l9n0 l9c0, t6 = .agg #[.slice l9A0 l9n0 l9c0] := by obtain ⟨cs, bs, rfl, ⟨A0, n0, c0, b0, rfl, _⟩, _⟩ := p7; exact ⟨A0, n0, c0, rfl⟩
  have b6 : Below w5.heap.size w5 (w5.alloc (.cells #[.slice l9A0 l9n0 l9c0] 30)) := (Below.refl _ _).alloc (Nat.le_refl _) _
  have z6 : (w5.alloc (.cells #[.slice l9A0 l9n0 l9c0] 30)).heap.size = w5.heap.size + 1 := World.size_alloc _ _
  have B0 := B0.below b6 (by omega)
  have p7 := p7.below netOw_ok b6 (by omega)
  have T := T.trans (b6.mono (by omega))
  have X8 : Blk (w5.alloc (.cells #[.slice l9A0 l9n0 l9c0] 30)) w5.heap.size 30 #[.slice l9A0 l9n0 l9c0] := Blk.new _ _ _
  clear gB0
  have gB0 := B0.cell
  have gX8 := X8.cell
  go_wp2_with fail
  refine (toBoolS_v _ rev _ (R1.below boolRd_ok T) T.size s1).mono ?_
  rintro e w7 ⟨⟨t10, rfl, p11⟩, b7⟩
  have z7 := b7.size
  have B0 := B0.below b7 (by omega)
  have X8 := X8.below b7 (by omega)
  have p7 := p7.below netOw_ok b7 (by omega)
  have T := T.trans (b7.mono (by omega))
  clear gB0
  clear gX8
  have gB0 := B0.cell
  have gX8 := X8.cell
  go_wp2_with fail
  refine (implIsOriented_v _ _ x rev _ (p7.reads (netOw_reads (w7).heap.size) (by omega)) (p11.reads (boolOw_reads (w7).heap.size) (by omega)) (Nat.le_refl _) (Nat.le_refl _) s0 s1).mono ?_
  rintro e w8 ⟨rfl, b8⟩
  have z8 := b8.size
  have B0 := B0.below b8 (by omega)
  have X8 := X8.below b8 (by omega)
  have p7 := p7.below netOw_ok b8 (by omega)
  have p11 := p11.below boolOw_ok b8 (by omega)
  have T := T.trans (b8.mono (by omega))
  clear gB0
  clear gX8
  have gB0 := B0.cell
  have gX8 := X8.cell
  go_wp2_with fail
  have T := T.drew
  have B0 := B0.drew
  have X8 := X8.drew
  have p7 := p7.keep netOw_ok (w' := w8.drew) (fun _ _ _ => rfl)
  have p11 := p11.keep boolOw_ok (w' := w8.drew) (fun _ _ _ => rfl)
  have zd9 : w8.drew.heap.size = w8.heap.size := rfl
  go_region_held3 (fun w' => w'.cell? ⟨w5.heap.size, 0, none⟩ = some (.slice l9A0 l9n0 l9c0) ∧ w'.cell? ⟨w.heap.size, 0, none⟩ = some (.slice a0A0 a0n0 a0c0)) (exact ⟨gX8 0, gB0 0⟩) (first
    | (go_at_call 17; refine (toNet_v _ x _ (R0.below netRd_ok T) T.size s0).mono ?_; rintro e w10 ⟨⟨t13, rfl, p14⟩, b10⟩; have z10 := b10.size; have B0 := B0.below b10 (by omega); have X8 := X8.below b10 (by omega); have p7 := p7.below netOw_ok b10 (by omega); have p11 := p11.below boolOw_ok b10 (by omega); have T := T.trans (b10.mono (by omega)); clear gB0; clear gX8; have gB0 := B0.cell; have gX8 := X8.cell)
    | (go_at_call 19; refine (eqNet_v _ _ _ _ _ (p7.reads (netOw_reads (w10).heap.size) (by omega)) (p14.reads (netOw_reads (w10).heap.size) (by omega)) (Nat.le_refl _) (Nat.le_refl _)).mono ?_; rintro e w11 ⟨rfl, b11⟩; have z11 := b11.size; have B0 := B0.below b11 (by omega); have X8 := X8.below b11 (by omega); have p7 := p7.below netOw_ok b11 (by omega); have p11 := p11.below boolOw_ok b11 (by omega); have p14 := p14.below netOw_ok b11 (by omega); have T := T.trans (b11.mono (by omega)); clear gB0; clear gX8; have gB0 := B0.cell; have gX8 := X8.cell))
  go_wp2_with fail
  refine (toBoolS_v _ rev _ (R1.below boolRd_ok T) T.size s1).mono ?_
  rintro e w12 ⟨⟨t15, rfl, p16⟩, b12⟩
  have z12 := b12.size
  have B0 := B0.below b12 (by omega)
  have X8 := X8.below b12 (by omega)
  have p7 := p7.below netOw_ok b12 (by omega)
  have p11 := p11.below boolOw_ok b12 (by omega)
  have p14 := p14.below netOw_ok b12 (by omega)
  have T := T.trans (b12.mono (by omega))
  clear gB0
  clear gX8
  have gB0 := B0.cell
  have gX8 := X8.cell
  go_wp2_with fail
  refine (eqBoolS_v _ _ _ _ _ (p11.reads (boolOw_reads (w12).heap.size) (by omega)) (p16.reads (boolOw_reads (w12).heap.size) (by omega)) (Nat.le_refl _) (Nat.le_refl _)).mono ?_
  rintro e w13 ⟨rfl, b13⟩
  have z13 := b13.size
  have B0 := B0.below b13 (by omega)
  have X8 := X8.below b13 (by omega)
  have p7 := p7.below netOw_ok b13 (by omega)
  have p11 := p11.below boolOw_ok b13 (by omega)
  have p14 := p14.below netOw_ok b13 (by omega)
  have p16 := p16.below boolOw_ok b13 (by omega)
  have T := T.trans (b13.mono (by omega))
  clear gB0
  clear gX8
  have gB0 := B0.cell
  have gX8 := X8.cell
  go_wp2_with fail
  go_ret
  exact ⟨rfl, T⟩

end Go.Proofs.Ytampijkiidjcmaa
