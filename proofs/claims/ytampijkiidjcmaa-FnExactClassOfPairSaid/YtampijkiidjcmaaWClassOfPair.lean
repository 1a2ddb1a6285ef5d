/- The walk of the law ClassOfPair. -/
import Derived.Test.YtampijkiidjcmaaLwU
import Derived.Test.YtampijkiidjcmaaFToN
import Derived.Test.YtampijkiidjcmaaFEqN
import Derived.Test.YtampijkiidjcmaaFSz
import Derived.Deep.RegionHeld3
namespace Go.Proofs.Ytampijkiidjcmaa
open Go.RowKit
set_option linter.unusedVariables false
set_option linter.unusedSimpArgs false
set_option maxRecDepth 100000

set_option maxHeartbeats 8000000 in
theorem walk_ClassOfPair (w : World) (v0 : Value) (x : DNet) (R0 : RdT netRd w w.heap.size v0 x) (k : Int) (wk : (Lit.int IntKind.i64 k).wf = true) :
    Calls Try.prog 3 #[v0, .int .i64 k] w fun e w' => e = .returned (.bool true) ∧ Below w.heap.size w w' := by
  obtain ⟨a0A0, a0n0, a0c0, rfl⟩ : ∃ a0A0 a0n0 a0c0, v0 = .agg #[.slice a0A0 a0n0 a0c0] := by obtain ⟨cs, rfl, ⟨A0, n0, c0, rfl, _⟩⟩ := R0; exact ⟨A0, n0, c0, rfl⟩
  by_cases d0 : (szNet x : Int) ≤ 1048576
  case neg =>
    have T := Below.refl w.heap.size w
    have T : Below w.heap.size w (w.alloc (.cells #[.slice a0A0 a0n0 a0c0] 24)) := T.alloc (by first | exact Nat.le_refl _ | (simp; done) | (simp; omega)) _
    have B0 : Blk (w.alloc (.cells #[.slice a0A0 a0n0 a0c0] 24)) (w.heap.size) 24 #[.slice a0A0 a0n0 a0c0] := by have := Blk.new w 24 #[.slice a0A0 a0n0 a0c0]; simpa using this
    have zb0 : (w.alloc (.cells #[.slice a0A0 a0n0 a0c0] 24)).heap.size = w.heap.size + 1 := by simp
    go_enter Try.func3, Try.ntmps3
    go_wp2_with fail
    refine (szNet_v _ x (1048576) _ (R0.below netRd_ok T) T.size (by omega) (by omega)).mono ?_
    rw [szL_neg (by omega)]
    rintro e w1 ⟨rfl, b1⟩
    have z1 := b1.size
    have B0 := B0.below b1 (by omega)
    have T := T.trans (b1.mono (by omega))
    have gB0 := B0.cell
    go_wp2_with fail
    go_ret
    exact ⟨rfl, T⟩
  have s0 : szNet x ≤ 1048576 := by omega
  have T := Below.refl w.heap.size w
  have T : Below w.heap.size w (w.alloc (.cells #[.slice a0A0 a0n0 a0c0] 24)) := T.alloc (by first | exact Nat.le_refl _ | (simp; done) | (simp; omega)) _
  have B0 : Blk (w.alloc (.cells #[.slice a0A0 a0n0 a0c0] 24)) (w.heap.size) 24 #[.slice a0A0 a0n0 a0c0] := by have := Blk.new w 24 #[.slice a0A0 a0n0 a0c0]; simpa using this
  have zb0 : (w.alloc (.cells #[.slice a0A0 a0n0 a0c0] 24)).heap.size = w.heap.size + 1 := by simp
  go_enter Try.func3, Try.ntmps3
  go_wp2_with fail
  refine (szNet_v _ x (1048576) _ (R0.below netRd_ok T) T.size (by omega) (by omega)).mono ?_
  rw [szL_pos (by omega)]
  rintro e w1 ⟨rfl, b1⟩
  have z1 := b1.size
  have B0 := B0.below b1 (by omega)
  have T := T.trans (b1.mono (by omega))
  have gB0 := B0.cell
  go_wp2_with fail
  refine (toNet_v _ x _ (R0.below netRd_ok T) T.size s0).mono ?_
  rintro e w2 ⟨⟨t1, rfl, p2⟩, b2⟩
  have z2 := b2.size
  have B0 := B0.below b2 (by omega)
  have T := T.trans (b2.mono (by omega))
  clear gB0
  have gB0 := B0.cell
  go_wp2_with fail
  refine (specClassOfPair_v _ x k _ (p2.reads (netOw_reads (w2).heap.size) (by omega)) (Nat.le_refl _) s0).mono ?_
  rintro e w3 ⟨rfl, b3⟩
  have z3 := b3.size
  have B0 := B0.below b3 (by omega)
  have p2 := p2.below netOw_ok b3 (by omega)
  have T := T.trans (b3.mono (by omega))
  clear gB0
  have gB0 := B0.cell
  clear p2
  go_wp2_with fail
  refine (toNet_v _ x _ (R0.below netRd_ok T) T.size s0).mono ?_
  rintro e w4 ⟨⟨t4, rfl, p5⟩, b4⟩
  have z4 := b4.size
  have B0 := B0.below b4 (by omega)
  have T := T.trans (b4.mono (by omega))
  clear gB0
  have gB0 := B0.cell
  obtain ⟨l7A0, l7n0, l7c0, rfl⟩ : ∃ l7A0 l7n0 l7c0, t4 = .agg #[.slice l7A0 l7n0 l7c0] := by obtain ⟨cs, bs, rfl, ⟨A0, n0, c0, b0, rfl, _⟩, _⟩ := p5; exact ⟨A0, n0, c0, rfl⟩
  have b5 : Below w4.heap.size w4 (w4.alloc (.cells #[.slice l7A0 l7n0 l7c0] 30)) := (Below.refl _ _).alloc (Nat.le_refl _) _
  have z5 : (w4.alloc (.cells #[.slice l7A0 l7n0 l7c0] 30)).heap.size = w4.heap.size + 1 := World.size_alloc _ _
  have B0 := B0.below b5 (by omega)
  have p5 := p5.below netOw_ok b5 (by omega)
  have T := T.trans (b5.mono (by omega))
  have X6 : Blk (w4.alloc (.cells #[.slice l7A0 l7n0 l7c0] 30)) w4.heap.size 30 #[.slice l7A0 l7n0 l7c0] := Blk.new _ _ _
  clear gB0
  have gB0 := B0.cell
  have gX6 := X6.cell
  go_wp2_with fail
  refine (implClassOfPair_v _ x k _ (p5.reads (netOw_reads ((w4.alloc (.cells #[.slice l7A0 l7n0 l7c0] 30))).heap.size) (by omega)) (Nat.le_refl _) s0).mono ?_
  rintro e w6 ⟨rfl, b6⟩
  have z6 := b6.size
  have B0 := B0.below b6 (by omega)
  have X6 := X6.below b6 (by omega)
  have p5 := p5.below netOw_ok b6 (by omega)
  have T := T.trans (b6.mono (by omega))
  clear gB0
  clear gX6
  have gB0 := B0.cell
  have gX6 := X6.cell
  go_wp2_with fail
  have T := T.drew
  have B0 := B0.drew
  have X6 := X6.drew
  have p5 := p5.keep netOw_ok (w' := w6.drew) (fun _ _ _ => rfl)
  have zd7 : w6.drew.heap.size = w6.heap.size := rfl
  go_region_held3 (fun w' => w'.cell? ⟨w4.heap.size, 0, none⟩ = some (.slice l7A0 l7n0 l7c0) ∧ w'.cell? ⟨w.heap.size, 0, none⟩ = some (.slice a0A0 a0n0 a0c0)) (exact ⟨gX6 0, gB0 0⟩) (first
    | (go_at_call 17; refine (toNet_v _ x _ (R0.below netRd_ok T) T.size s0).mono ?_; rintro e w8 ⟨⟨t9, rfl, p10⟩, b8⟩; have z8 := b8.size; have B0 := B0.below b8 (by omega); have X6 := X6.below b8 (by omega); have p5 := p5.below netOw_ok b8 (by omega); have T := T.trans (b8.mono (by omega)); clear gB0; clear gX6; have gB0 := B0.cell; have gX6 := X6.cell)
    | (go_at_call 19; refine (eqNet_v _ _ _ _ _ (p5.reads (netOw_reads (w8).heap.size) (by omega)) (p10.reads (netOw_reads (w8).heap.size) (by omega)) (Nat.le_refl _) (Nat.le_refl _)).mono ?_; rintro e w9 ⟨rfl, b9⟩; have z9 := b9.size; have B0 := B0.below b9 (by omega); have X6 := X6.below b9 (by omega); have p5 := p5.below netOw_ok b9 (by omega); have p10 := p10.below netOw_ok b9 (by omega); have T := T.trans (b9.mono (by omega)); clear gB0; clear gX6; have gB0 := B0.cell; have gX6 := X6.cell))
  go_wp2_with fail
  go_ret
  exact ⟨rfl, T⟩

end Go.Proofs.Ytampijkiidjcmaa
