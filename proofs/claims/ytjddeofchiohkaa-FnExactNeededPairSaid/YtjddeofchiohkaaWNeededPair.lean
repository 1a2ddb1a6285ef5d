/- The walk of the law NeededPair. -/
import Derived.Test.YtjddeofchiohkaaLwR
import Derived.Test.YtjddeofchiohkaaFToN
import Derived.Test.YtjddeofchiohkaaFEqN
import Derived.Test.YtjddeofchiohkaaFSz
import Derived.Deep.RegionHeld3
namespace Go.Proofs.Ytjddeofchiohkaa
open Go.RowKit
set_option linter.unusedVariables false
set_option linter.unusedSimpArgs false
set_option maxRecDepth 100000

set_option maxHeartbeats 8000000 in
theorem walk_NeededPair (w : World) (v0 : Value) (x : DNet) (R0 : RdT netRd w w.heap.size v0 x) (v1 : Value) (p : DPort) (R1 : RdT portRd w w.heap.size v1 p) :
    Calls Try.prog 13 #[v0, v1] w fun e w' => e = .returned (.bool true) ∧ Below w.heap.size w w' := by
  obtain ⟨a0A0, a0n0, a0c0, rfl⟩ : ∃ a0A0 a0n0 a0c0, v0 = .agg #[.slice a0A0 a0n0 a0c0] := by obtain ⟨cs, rfl, ⟨A0, n0, c0, rfl, _⟩⟩ := R0; exact ⟨A0, n0, c0, rfl⟩
  obtain rfl : v1 = .agg #[.int .i64 p.agent, .int .i64 p.slot] := by obtain ⟨cs, rfl, hcs⟩ := R1; rw [hcs]
  by_cases d0 : (szNet x : Int) ≤ 1048576
  case neg =>
    have T := Below.refl w.heap.size w
    have T : Below w.heap.size w (w.alloc (.cells #[.slice a0A0 a0n0 a0c0] 24)) := T.alloc (by first | exact Nat.le_refl _ | (simp; done) | (simp; omega)) _
    have B0 : Blk (w.alloc (.cells #[.slice a0A0 a0n0 a0c0] 24)) (w.heap.size) 24 #[.slice a0A0 a0n0 a0c0] := by have := Blk.new w 24 #[.slice a0A0 a0n0 a0c0]; simpa using this
    have zb0 : (w.alloc (.cells #[.slice a0A0 a0n0 a0c0] 24)).heap.size = w.heap.size + 1 := by simp
    have T : Below w.heap.size w ((w.alloc (.cells #[.slice a0A0 a0n0 a0c0] 24)).alloc (.cells #[.int .i64 p.agent, .int .i64 p.slot] 34)) := T.alloc (by first | exact Nat.le_refl _ | (simp; done) | (simp; omega)) _
    have B0 := B0.alloc (.cells #[.int .i64 p.agent, .int .i64 p.slot] 34)
    have B1 : Blk ((w.alloc (.cells #[.slice a0A0 a0n0 a0c0] 24)).alloc (.cells #[.int .i64 p.agent, .int .i64 p.slot] 34)) (w.heap.size + 1) 34 #[.int .i64 p.agent, .int .i64 p.slot] := by have := Blk.new (w.alloc (.cells #[.slice a0A0 a0n0 a0c0] 24)) 34 #[.int .i64 p.agent, .int .i64 p.slot]; simpa using this
    have zb1 : ((w.alloc (.cells #[.slice a0A0 a0n0 a0c0] 24)).alloc (.cells #[.int .i64 p.agent, .int .i64 p.slot] 34)).heap.size = w.heap.size + 1 + 1 := by simp
    go_enter Try.func13, Try.ntmps13
    go_wp2_with fail
    refine (szNet_v _ x (1048576) _ (R0.below netRd_ok T) T.size (by omega) (by omega)).mono ?_
    rw [szL_neg (by omega)]
    rintro e w1 ⟨rfl, b1⟩
    have z1 := b1.size
    have B0 := B0.below b1 (by omega)
    have B1 := B1.below b1 (by omega)
    have T := T.trans (b1.mono (by omega))
    have gB0 := B0.cell
    have gB1 := B1.cell
    go_wp2_with fail
    go_ret
    exact ⟨rfl, T⟩
  have s0 : szNet x ≤ 1048576 := by omega
  have T := Below.refl w.heap.size w
  have T : Below w.heap.size w (w.alloc (.cells #[.slice a0A0 a0n0 a0c0] 24)) := T.alloc (by first | exact Nat.le_refl _ | (simp; done) | (simp; omega)) _
  have B0 : Blk (w.alloc (.cells #[.slice a0A0 a0n0 a0c0] 24)) (w.heap.size) 24 #[.slice a0A0 a0n0 a0c0] := by have := Blk.new w 24 #[.slice a0A0 a0n0 a0c0]; simpa using this
  have zb0 : (w.alloc (.cells #[.slice a0A0 a0n0 a0c0] 24)).heap.size = w.heap.size + 1 := by simp
  have T : Below w.heap.size w ((w.alloc (.cells #[.slice a0A0 a0n0 a0c0] 24)).alloc (.cells #[.int .i64 p.agent, .int .i64 p.slot] 34)) := T.alloc (by first | exact Nat.le_refl _ | (simp; done) | (simp; omega)) _
  have B0 := B0.alloc (.cells #[.int .i64 p.agent, .int .i64 p.slot] 34)
  have B1 : Blk ((w.alloc (.cells #[.slice a0A0 a0n0 a0c0] 24)).alloc (.cells #[.int .i64 p.agent, .int .i64 p.slot] 34)) (w.heap.size + 1) 34 #[.int .i64 p.agent, .int .i64 p.slot] := by have := Blk.new (w.alloc (.cells #[.slice a0A0 a0n0 a0c0] 24)) 34 #[.int .i64 p.agent, .int .i64 p.slot]; simpa using this
  have zb1 : ((w.alloc (.cells #[.slice a0A0 a0n0 a0c0] 24)).alloc (.cells #[.int .i64 p.agent, .int .i64 p.slot] 34)).heap.size = w.heap.size + 1 + 1 := by simp
  go_enter Try.func13, Try.ntmps13
  go_wp2_with fail
  refine (szNet_v _ x (1048576) _ (R0.below netRd_ok T) T.size (by omega) (by omega)).mono ?_
  rw [szL_pos (by omega)]
  rintro e w1 ⟨rfl, b1⟩
  have z1 := b1.size
  have B0 := B0.below b1 (by omega)
  have B1 := B1.below b1 (by omega)
  have T := T.trans (b1.mono (by omega))
  have gB0 := B0.cell
  have gB1 := B1.cell
  go_wp2_with fail
  have T := T.drew
  have B0 := B0.drew
  have B1 := B1.drew
  have zd2 : w1.drew.heap.size = w1.heap.size := rfl
  go_region_held3 (fun w' => w'.cell? ⟨w.heap.size, 0, none⟩ = some (.slice a0A0 a0n0 a0c0) ∧ w'.cell? ⟨w.heap.size + 1, 0, none⟩ = some (.int .i64 p.agent) ∧ w'.cell? ⟨w.heap.size + 1, 1, none⟩ = some (.int .i64 p.slot)) (exact ⟨gB0 0, gB1 0, gB1 1⟩) (first
    | (go_at_call 17; refine (toNet_v _ x _ (R0.below netRd_ok T) T.size s0).mono ?_; rintro e w3 ⟨⟨t1, rfl, p2⟩, b3⟩; have z3 := b3.size; have B0 := B0.below b3 (by omega); have B1 := B1.below b3 (by omega); have T := T.trans (b3.mono (by omega)); clear gB0; clear gB1; have gB0 := B0.cell; have gB1 := B1.cell)
    | (go_at_call 21; refine (toPort_v _ p _ (R1.below portRd_ok T)).mono ?_; rintro e w4 ⟨rfl, b4⟩; have z4 := b4.size; have B0 := B0.below b4 (by omega); have B1 := B1.below b4 (by omega); have p2 := p2.below netOw_ok b4 (by omega); have T := T.trans (b4.mono (by omega)); have p4 : OwT portOw w4 _ p w4.heap.size w4.heap.size := ⟨_, [], rfl, ⟨rfl, rfl⟩, List.nodup_nil, fun b hb => by simp at hb⟩; clear gB0; clear gB1; have gB0 := B0.cell; have gB1 := B1.cell)
    | (go_at_call 52; refine (specNeededPair_v _ _ x p _ (p2.reads (netOw_reads (w4).heap.size) (by omega)) (p4.reads (portOw_reads (w4).heap.size) (by omega)) (Nat.le_refl _) (Nat.le_refl _) s0).mono ?_; rintro e w5 ⟨rfl, b5⟩; have z5 := b5.size; have B0 := B0.below b5 (by omega); have B1 := B1.below b5 (by omega); have p2 := p2.below netOw_ok b5 (by omega); have p4 := p4.below portOw_ok b5 (by omega); have T := T.trans (b5.mono (by omega)); clear gB0; clear gB1; have gB0 := B0.cell; have gB1 := B1.cell; clear p2; clear p4))
  go_wp2_with fail
  refine (toNet_v _ x _ (R0.below netRd_ok T) T.size s0).mono ?_
  rintro e w6 ⟨⟨t6, rfl, p7⟩, b6⟩
  have z6 := b6.size
  have B0 := B0.below b6 (by omega)
  have B1 := B1.below b6 (by omega)
  have T := T.trans (b6.mono (by omega))
  clear gB0
  clear gB1
  have gB0 := B0.cell
  have gB1 := B1.cell
  obtain ⟨l9A0, l9n0, l9c0, rfl⟩ : ∃ l9A0 l9n0 l9c0, t6 = .agg #[.slice l9A0 l9n0 l9c0] := by obtain ⟨cs, bs, rfl, ⟨A0, n0, c0, b0, rfl, _⟩, _⟩ := p7; exact ⟨A0, n0, c0, rfl⟩
  have b7 : Below w6.heap.size w6 (w6.alloc (.cells #[.slice l9A0 l9n0 l9c0] 29)) := (Below.refl _ _).alloc (Nat.le_refl _) _
  have z7 : (w6.alloc (.cells #[.slice l9A0 l9n0 l9c0] 29)).heap.size = w6.heap.size + 1 := World.size_alloc _ _
  have B0 := B0.below b7 (by omega)
  have B1 := B1.below b7 (by omega)
  have p7 := p7.below netOw_ok b7 (by omega)
  have T := T.trans (b7.mono (by omega))
  have X8 : Blk (w6.alloc (.cells #[.slice l9A0 l9n0 l9c0] 29)) w6.heap.size 29 #[.slice l9A0 l9n0 l9c0] := Blk.new _ _ _
  clear gB0
  clear gB1
  have gB0 := B0.cell
  have gB1 := B1.cell
  have gX8 := X8.cell
  go_wp2_with fail
  have T := T.drew
  have B0 := B0.drew
  have B1 := B1.drew
  have X8 := X8.drew
  have p7 := p7.keep netOw_ok (w' := (w6.alloc (.cells #[.slice l9A0 l9n0 l9c0] 29)).drew) (fun _ _ _ => rfl)
  have zd8 : (w6.alloc (.cells #[.slice l9A0 l9n0 l9c0] 29)).drew.heap.size = (w6.alloc (.cells #[.slice l9A0 l9n0 l9c0] 29)).heap.size := rfl
  go_region_held3 (fun w' => w'.cell? ⟨w6.heap.size, 0, none⟩ = some (.slice l9A0 l9n0 l9c0) ∧ w'.cell? ⟨w.heap.size + 1, 0, none⟩ = some (.int .i64 p.agent) ∧ w'.cell? ⟨w.heap.size + 1, 1, none⟩ = some (.int .i64 p.slot)) (exact ⟨gX8 0, gB1 0, gB1 1⟩) (first
    | (go_at_call 21; refine (toPort_v _ p _ (R1.below portRd_ok T)).mono ?_; rintro e w9 ⟨rfl, b9⟩; have z9 := b9.size; have B0 := B0.below b9 (by omega); have B1 := B1.below b9 (by omega); have X8 := X8.below b9 (by omega); have p7 := p7.below netOw_ok b9 (by omega); have T := T.trans (b9.mono (by omega)); have p11 : OwT portOw w9 _ p w9.heap.size w9.heap.size := ⟨_, [], rfl, ⟨rfl, rfl⟩, List.nodup_nil, fun b hb => by simp at hb⟩; clear gB0; clear gB1; clear gX8; have gB0 := B0.cell; have gB1 := B1.cell; have gX8 := X8.cell)
    | (go_at_call 53; refine (implNeededPair_v _ _ x p _ (p7.reads (netOw_reads (w9).heap.size) (by omega)) (p11.reads (portOw_reads (w9).heap.size) (by omega)) (Nat.le_refl _) (Nat.le_refl _) s0).mono ?_; rintro e w10 ⟨rfl, b10⟩; have z10 := b10.size; have B0 := B0.below b10 (by omega); have B1 := B1.below b10 (by omega); have X8 := X8.below b10 (by omega); have p7 := p7.below netOw_ok b10 (by omega); have p11 := p11.below portOw_ok b10 (by omega); have T := T.trans (b10.mono (by omega)); clear gB0; clear gB1; clear gX8; have gB0 := B0.cell; have gB1 := B1.cell; have gX8 := X8.cell; clear p11))
  go_wp2_with fail
  have T := T.drew
  have B0 := B0.drew
  have B1 := B1.drew
  have X8 := X8.drew
  have p7 := p7.keep netOw_ok (w' := w10.drew) (fun _ _ _ => rfl)
  have zd11 : w10.drew.heap.size = w10.heap.size := rfl
  go_region_held3 (fun w' => w'.cell? ⟨w6.heap.size, 0, none⟩ = some (.slice l9A0 l9n0 l9c0) ∧ w'.cell? ⟨w.heap.size, 0, none⟩ = some (.slice a0A0 a0n0 a0c0)) (exact ⟨gX8 0, gB0 0⟩) (first
    | (go_at_call 17; refine (toNet_v _ x _ (R0.below netRd_ok T) T.size s0).mono ?_; rintro e w12 ⟨⟨t13, rfl, p14⟩, b12⟩; have z12 := b12.size; have B0 := B0.below b12 (by omega); have B1 := B1.below b12 (by omega); have X8 := X8.below b12 (by omega); have p7 := p7.below netOw_ok b12 (by omega); have T := T.trans (b12.mono (by omega)); clear gB0; clear gB1; clear gX8; have gB0 := B0.cell; have gB1 := B1.cell; have gX8 := X8.cell)
    | (go_at_call 19; refine (eqNet_v _ _ _ _ _ (p7.reads (netOw_reads (w12).heap.size) (by omega)) (p14.reads (netOw_reads (w12).heap.size) (by omega)) (Nat.le_refl _) (Nat.le_refl _)).mono ?_; rintro e w13 ⟨rfl, b13⟩; have z13 := b13.size; have B0 := B0.below b13 (by omega); have B1 := B1.below b13 (by omega); have X8 := X8.below b13 (by omega); have p7 := p7.below netOw_ok b13 (by omega); have p14 := p14.below netOw_ok b13 (by omega); have T := T.trans (b13.mono (by omega)); clear gB0; clear gB1; clear gX8; have gB0 := B0.cell; have gB1 := B1.cell; have gX8 := X8.cell))
  go_wp2_with fail
  go_ret
  exact ⟨rfl, T⟩

end Go.Proofs.Ytjddeofchiohkaa
