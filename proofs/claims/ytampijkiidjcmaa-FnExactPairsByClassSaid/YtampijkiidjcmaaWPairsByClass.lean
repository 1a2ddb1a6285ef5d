/- The walk of the law PairsByClass. -/
import Derived.Test.YtampijkiidjcmaaLwV
import Derived.Test.YtampijkiidjcmaaFMkN
import Derived.Test.YtampijkiidjcmaaFToN
import Derived.Test.YtampijkiidjcmaaFEqN
import Derived.Test.YtampijkiidjcmaaFSz
import Derived.Deep.RegionHeld3
namespace Go.Proofs.Ytampijkiidjcmaa
open Go.RowKit
set_option linter.unusedVariables false
set_option linter.unusedSimpArgs false
set_option maxRecDepth 100000

set_option maxHeartbeats 8000000 in
theorem walk_PairsByClass (w : World) (v0 : Value) (x : DNet) (R0 : RdT netRd w w.heap.size v0 x) :
    Calls Try.prog 4 #[v0] w fun e w' => e = .returned (.bool true) ∧ Below w.heap.size w w' := by
  obtain ⟨a0A0, a0n0, a0c0, rfl⟩ : ∃ a0A0 a0n0 a0c0, v0 = .agg #[.slice a0A0 a0n0 a0c0] := by obtain ⟨cs, rfl, ⟨A0, n0, c0, rfl, _⟩⟩ := R0; exact ⟨A0, n0, c0, rfl⟩
  by_cases d0 : (szNet x : Int) ≤ 1048576
  case neg =>
    have T := Below.refl w.heap.size w
    have T : Below w.heap.size w (w.alloc (.cells #[.slice a0A0 a0n0 a0c0] 24)) := T.alloc (by first | exact Nat.le_refl _ | (simp; done) | (simp; omega)) _
    have B0 : Blk (w.alloc (.cells #[.slice a0A0 a0n0 a0c0] 24)) (w.heap.size) 24 #[.slice a0A0 a0n0 a0c0] := by have := Blk.new w 24 #[.slice a0A0 a0n0 a0c0]; simpa using this
    have zb0 : (w.alloc (.cells #[.slice a0A0 a0n0 a0c0] 24)).heap.size = w.heap.size + 1 := by simp
    go_enter Try.func4, Try.ntmps4
    go_wp2_with fail
    refine (szNet_v _ x (1048576) _ (R0.below netRd_ok T) T.size (by omega) (by omega)).mono ?_
    rw [szL_neg (by omega)]
    rintro e w1 ⟨rfl, b1⟩
    have z1 := b1.size
    have B0 := B0.below b1 (by omega)
    have T := T.trans (b1.mono (by omega))
    have gB0 := B0.cell
    go_wp2_with fail
    go_ret
    exact ⟨rfl, T⟩
  have s0 : szNet x ≤ 1048576 := by omega
  have sr := pairsByClass_len x s0
  have q_r : eqL ((pairsByClass x).1) ((pairsByClass x).1) = true := decide_eq_true rfl
  have T := Below.refl w.heap.size w
  have T : Below w.heap.size w (w.alloc (.cells #[.slice a0A0 a0n0 a0c0] 24)) := T.alloc (by first | exact Nat.le_refl _ | (simp; done) | (simp; omega)) _
  have B0 : Blk (w.alloc (.cells #[.slice a0A0 a0n0 a0c0] 24)) (w.heap.size) 24 #[.slice a0A0 a0n0 a0c0] := by have := Blk.new w 24 #[.slice a0A0 a0n0 a0c0]; simpa using this
  have zb0 : (w.alloc (.cells #[.slice a0A0 a0n0 a0c0] 24)).heap.size = w.heap.size + 1 := by simp
  go_enter Try.func4, Try.ntmps4
  go_wp2_with fail
  refine (szNet_v _ x (1048576) _ (R0.below netRd_ok T) T.size (by omega) (by omega)).mono ?_
  rw [szL_pos (by omega)]
  rintro e w1 ⟨rfl, b1⟩
  have z1 := b1.size
  have B0 := B0.below b1 (by omega)
  have T := T.trans (b1.mono (by omega))
  have gB0 := B0.cell
  go_wp2_with fail
  refine (toNet_v _ x _ (R0.below netRd_ok T) T.size s0).mono ?_
  rintro e w2 ⟨⟨t1, rfl, p2⟩, b2⟩
  have z2 := b2.size
  have B0 := B0.below b2 (by omega)
  have T := T.trans (b2.mono (by omega))
  clear gB0
  have gB0 := B0.cell
  go_wp2_with fail
  refine (specPairsByClass_v _ x _ (p2.reads (netOw_reads (w2).heap.size) (by omega)) (Nat.le_refl _) s0).mono ?_
  rintro e w3 ⟨⟨u4, rfl, G3⟩, b3⟩
  have z3 := b3.size
  have B0 := B0.below b3 (by omega)
  have p2 := p2.below netOw_ok b3 (by omega)
  have T := T.trans (b3.mono (by omega))
  clear gB0
  have gB0 := B0.cell
  clear p2
  go_wp2_with fail
  refine (toNet_v _ x _ (R0.below netRd_ok T) T.size s0).mono ?_
  rintro e w4 ⟨⟨t5, rfl, p6⟩, b4⟩
  have z4 := b4.size
  have B0 := B0.below b4 (by omega)
  have G3 := G3.below intOw_ok b4 (by omega)
  have T := T.trans (b4.mono (by omega))
  clear gB0
  have gB0 := B0.cell
  obtain ⟨l8A0, l8n0, l8c0, rfl⟩ : ∃ l8A0 l8n0 l8c0, t5 = .agg #[.slice l8A0 l8n0 l8c0] := by obtain ⟨cs, bs, rfl, ⟨A0, n0, c0, b0, rfl, _⟩, _⟩ := p6; exact ⟨A0, n0, c0, rfl⟩
  have b5 : Below w4.heap.size w4 (w4.alloc (.cells #[.slice l8A0 l8n0 l8c0] 30)) := (Below.refl _ _).alloc (Nat.le_refl _) _
  have z5 : (w4.alloc (.cells #[.slice l8A0 l8n0 l8c0] 30)).heap.size = w4.heap.size + 1 := World.size_alloc _ _
  have B0 := B0.below b5 (by omega)
  have G3 := G3.below intOw_ok b5 (by omega)
  have p6 := p6.below netOw_ok b5 (by omega)
  have T := T.trans (b5.mono (by omega))
  have X7 : Blk (w4.alloc (.cells #[.slice l8A0 l8n0 l8c0] 30)) w4.heap.size 30 #[.slice l8A0 l8n0 l8c0] := Blk.new _ _ _
  clear gB0
  have gB0 := B0.cell
  have gX7 := X7.cell
  go_wp2_with fail
  refine (implPairsByClass_v _ x _ (p6.reads (netOw_reads ((w4.alloc (.cells #[.slice l8A0 l8n0 l8c0] 30))).heap.size) (by omega)) (Nat.le_refl _) s0).mono ?_
  rintro e w6 ⟨⟨u10, rfl, G9⟩, b6⟩
  have z6 := b6.size
  have B0 := B0.below b6 (by omega)
  have X7 := X7.below b6 (by omega)
  have G3 := G3.below intOw_ok b6 (by omega)
  have p6 := p6.below netOw_ok b6 (by omega)
  have T := T.trans (b6.mono (by omega))
  clear gB0
  clear gX7
  have gB0 := B0.cell
  have gX7 := X7.cell
  go_wp2_with fail
  refine (eqInt64S_v _ _ _ _ _ (G9.reads (intOw_reads (w6).heap.size) (by omega)) (G3.reads (intOw_reads (w6).heap.size) (by omega)) (Nat.le_refl _) (Nat.le_refl _)).mono ?_
  rintro e w7 ⟨rfl, b7⟩
  have z7 := b7.size
  have B0 := B0.below b7 (by omega)
  have X7 := X7.below b7 (by omega)
  have G3 := G3.below intOw_ok b7 (by omega)
  have p6 := p6.below netOw_ok b7 (by omega)
  have G9 := G9.below intOw_ok b7 (by omega)
  have T := T.trans (b7.mono (by omega))
  clear gB0
  clear gX7
  have gB0 := B0.cell
  have gX7 := X7.cell
  go_wp2_with fail
  have T := T.drew
  have B0 := B0.drew
  have X7 := X7.drew
  have G3 := G3.keep intOw_ok (w' := w7.drew) (fun _ _ _ => rfl)
  have p6 := p6.keep netOw_ok (w' := w7.drew) (fun _ _ _ => rfl)
  have G9 := G9.keep intOw_ok (w' := w7.drew) (fun _ _ _ => rfl)
  have zd8 : w7.drew.heap.size = w7.heap.size := rfl
  go_region_held3 (fun w' => w'.cell? ⟨w4.heap.size, 0, none⟩ = some (.slice l8A0 l8n0 l8c0) ∧ w'.cell? ⟨w.heap.size, 0, none⟩ = some (.slice a0A0 a0n0 a0c0)) (exact ⟨gX7 0, gB0 0⟩) (first
    | (go_at_call 17; refine (toNet_v _ x _ (R0.below netRd_ok T) T.size s0).mono ?_; rintro e w9 ⟨⟨t11, rfl, p12⟩, b9⟩; have z9 := b9.size; have B0 := B0.below b9 (by omega); have X7 := X7.below b9 (by omega); have G3 := G3.below intOw_ok b9 (by omega); have p6 := p6.below netOw_ok b9 (by omega); have G9 := G9.below intOw_ok b9 (by omega); have T := T.trans (b9.mono (by omega)); clear gB0; clear gX7; have gB0 := B0.cell; have gX7 := X7.cell)
    | (go_at_call 19; refine (eqNet_v _ _ _ _ _ (p6.reads (netOw_reads (w9).heap.size) (by omega)) (p12.reads (netOw_reads (w9).heap.size) (by omega)) (Nat.le_refl _) (Nat.le_refl _)).mono ?_; rintro e w10 ⟨rfl, b10⟩; have z10 := b10.size; have B0 := B0.below b10 (by omega); have X7 := X7.below b10 (by omega); have G3 := G3.below intOw_ok b10 (by omega); have p6 := p6.below netOw_ok b10 (by omega); have G9 := G9.below intOw_ok b10 (by omega); have p12 := p12.below netOw_ok b10 (by omega); have T := T.trans (b10.mono (by omega)); clear gB0; clear gX7; have gB0 := B0.cell; have gX7 := X7.cell))
  go_wp2_with fail
  refine (markNet_v _ _ _ _ _ _ p6 (by omega) s0 (by omega) (by omega)).mono ?_
  rintro e w11 ⟨m13, rfl, wb11, b11, e11, b12⟩
  clear p6
  have z11 := b11.size
  have B0 := B0.below b11 (by omega)
  have X7 := X7.below b11 (by omega)
  have G3 := G3.below intOw_ok b11 (by omega)
  have G9 := G9.below intOw_ok b11 (by omega)
  have p12 := p12.below netOw_ok b11 (by omega)
  have T := T.trans (b11.mono (by omega))
  have z12 := Nat.le_of_eq e11
  have y12 := Nat.le_of_eq e11.symm
  have B0 := B0.only b12 (by omega)
  have X7 := X7.only b12 (by omega)
  have G3 := G3.only intOw_ok b12 (by omega)
  have G9 := G9.only intOw_ok b12 (by omega)
  have p12 := p12.only netOw_ok b12 (by omega)
  have T := T.trans (b12.below.mono (by omega))
  have hm13 : decide ((m13 : Int) < 0) = false := by simp
  clear gB0
  clear gX7
  have gB0 := B0.cell
  have gX7 := X7.cell
  go_wp2_with fail
  refine (eqInt64S_v _ _ _ _ _ (G9.reads (intOw_reads (w11).heap.size) (by omega)) (G3.reads (intOw_reads (w11).heap.size) (by omega)) (Nat.le_refl _) (Nat.le_refl _)).mono ?_
  rintro e w13 ⟨rfl, b13⟩
  have z13 := b13.size
  have B0 := B0.below b13 (by omega)
  have X7 := X7.below b13 (by omega)
  have G3 := G3.below intOw_ok b13 (by omega)
  have G9 := G9.below intOw_ok b13 (by omega)
  have p12 := p12.below netOw_ok b13 (by omega)
  have T := T.trans (b13.mono (by omega))
  clear gB0
  clear gX7
  have gB0 := B0.cell
  have gX7 := X7.cell
  go_wp2_with fail
  refine (markInt64S_v _ _ _ _ _ _ G9 sr (by omega) (by omega)).mono ?_
  rintro e w14 ⟨rfl, G9, b14⟩
  have z14 := Nat.le_of_eq b14.size
  have y14 := Nat.le_of_eq b14.size.symm
  have B0 := B0.only b14 (by omega)
  have X7 := X7.only b14 (by omega)
  have G3 := G3.only intOw_ok b14 (by omega)
  have p12 := p12.only netOw_ok b14 (by omega)
  have T := T.trans (b14.below.mono (by omega))
  clear gB0
  clear gX7
  have gB0 := B0.cell
  have gX7 := X7.cell
  go_wp2_with fail
  refine (heldInt64S_v _ (pairsByClass x).1 _ _ (G9.reads (intOw_reads (w14).heap.size) (by omega)) sr (by omega) (by omega)).mono ?_
  rintro e w15 ⟨rfl, b15⟩
  have z15 := b15.size
  have B0 := B0.below b15 (by omega)
  have X7 := X7.below b15 (by omega)
  have G3 := G3.below intOw_ok b15 (by omega)
  have G9 := G9.below intOw_ok b15 (by omega)
  have p12 := p12.below netOw_ok b15 (by omega)
  have T := T.trans (b15.mono (by omega))
  clear gB0
  clear gX7
  have gB0 := B0.cell
  have gX7 := X7.cell
  go_wp2_with fail
  refine (toNet_v _ x _ (R0.below netRd_ok T) T.size s0).mono ?_
  rintro e w16 ⟨⟨t14, rfl, p15⟩, b16⟩
  have z16 := b16.size
  have B0 := B0.below b16 (by omega)
  have X7 := X7.below b16 (by omega)
  have G3 := G3.below intOw_ok b16 (by omega)
  have G9 := G9.below intOw_ok b16 (by omega)
  have p12 := p12.below netOw_ok b16 (by omega)
  have T := T.trans (b16.mono (by omega))
  clear gB0
  clear gX7
  have gB0 := B0.cell
  have gX7 := X7.cell
  go_wp2_with fail
  refine (implPairsByClass_v _ x _ (p15.reads (netOw_reads (w16).heap.size) (by omega)) (Nat.le_refl _) s0).mono ?_
  rintro e w17 ⟨⟨u17, rfl, G16⟩, b17⟩
  have z17 := b17.size
  have B0 := B0.below b17 (by omega)
  have X7 := X7.below b17 (by omega)
  have G3 := G3.below intOw_ok b17 (by omega)
  have G9 := G9.below intOw_ok b17 (by omega)
  have p12 := p12.below netOw_ok b17 (by omega)
  have p15 := p15.below netOw_ok b17 (by omega)
  have T := T.trans (b17.mono (by omega))
  clear gB0
  clear gX7
  have gB0 := B0.cell
  have gX7 := X7.cell
  clear p15
  go_wp2_with fail
  refine (eqInt64S_v _ _ _ _ _ (G16.reads (intOw_reads (w17).heap.size) (by omega)) (G3.reads (intOw_reads (w17).heap.size) (by omega)) (Nat.le_refl _) (Nat.le_refl _)).mono ?_
  rintro e w18 ⟨rfl, b18⟩
  have z18 := b18.size
  have B0 := B0.below b18 (by omega)
  have X7 := X7.below b18 (by omega)
  have G3 := G3.below intOw_ok b18 (by omega)
  have G9 := G9.below intOw_ok b18 (by omega)
  have p12 := p12.below netOw_ok b18 (by omega)
  have G16 := G16.below intOw_ok b18 (by omega)
  have T := T.trans (b18.mono (by omega))
  clear gB0
  clear gX7
  have gB0 := B0.cell
  have gX7 := X7.cell
  go_wp2_with fail
  refine (heldInt64S_v _ (pairsByClass x).1 _ _ (G9.reads (intOw_reads (w18).heap.size) (by omega)) sr (by omega) (by omega)).mono ?_
  rintro e w19 ⟨rfl, b19⟩
  have z19 := b19.size
  have B0 := B0.below b19 (by omega)
  have X7 := X7.below b19 (by omega)
  have G3 := G3.below intOw_ok b19 (by omega)
  have G9 := G9.below intOw_ok b19 (by omega)
  have p12 := p12.below netOw_ok b19 (by omega)
  have G16 := G16.below intOw_ok b19 (by omega)
  have T := T.trans (b19.mono (by omega))
  clear gB0
  clear gX7
  have gB0 := B0.cell
  have gX7 := X7.cell
  go_wp2_with fail
  go_ret
  exact ⟨rfl, T⟩

end Go.Proofs.Ytampijkiidjcmaa
