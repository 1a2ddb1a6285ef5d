/- Lemmas of the proof of FindIsomorphism, part 8. No condition. -/
import Derived.Test.YtebioddcnldjkaaGreatZFindIsomorphism7
namespace Go.Proofs.YtebioddcnldjkaaGreat
section
open Go.RowKit
set_option linter.unusedVariables false
set_option linter.unusedSimpArgs false
set_option maxRecDepth 100000
set_option maxHeartbeats 8000000 in
theorem walk_FindIsomorphism (w : World) (v0 : Value) (x : DNet) (R0 : RdT netRd w w.heap.size v0 x) (v1 : Value) (y : DNet) (R1 : RdT netRd w w.heap.size v1 y) :
    Calls Tryz.prog 6 #[v0, v1] w fun e w' => e = .returned (.bool true) ∧ Below w.heap.size w w' := by
  obtain ⟨a0A0, a0n0, a0c0, rfl⟩ : ∃ a0A0 a0n0 a0c0, v0 = .agg #[.slice a0A0 a0n0 a0c0] := by obtain ⟨cs, rfl, ⟨A0, n0, c0, rfl, _⟩⟩ := R0; exact ⟨A0, n0, c0, rfl⟩
  obtain ⟨a1A0, a1n0, a1c0, rfl⟩ : ∃ a1A0 a1n0 a1c0, v1 = .agg #[.slice a1A0 a1n0 a1c0] := by obtain ⟨cs, rfl, ⟨A0, n0, c0, rfl, _⟩⟩ := R1; exact ⟨A0, n0, c0, rfl⟩
  by_cases d0 : (szNet x : Int) ≤ 1048576
  case neg =>
    have T := Below.refl w.heap.size w
    have T : Below w.heap.size w (w.alloc (.cells #[.slice a0A0 a0n0 a0c0] 24)) := T.alloc (by first | exact Nat.le_refl _ | (simp; done) | (simp; omega)) _
    have B0 : Blk (w.alloc (.cells #[.slice a0A0 a0n0 a0c0] 24)) (w.heap.size) 24 #[.slice a0A0 a0n0 a0c0] := by have := Blk.new w 24 #[.slice a0A0 a0n0 a0c0]; simpa using this
    have zb0 : (w.alloc (.cells #[.slice a0A0 a0n0 a0c0] 24)).heap.size = w.heap.size + 1 := by simp
    have T : Below w.heap.size w ((w.alloc (.cells #[.slice a0A0 a0n0 a0c0] 24)).alloc (.cells #[.slice a1A0 a1n0 a1c0] 24)) := T.alloc (by first | exact Nat.le_refl _ | (simp; done) | (simp; omega)) _
    have B0 := B0.alloc (.cells #[.slice a1A0 a1n0 a1c0] 24)
    have B1 : Blk ((w.alloc (.cells #[.slice a0A0 a0n0 a0c0] 24)).alloc (.cells #[.slice a1A0 a1n0 a1c0] 24)) (w.heap.size + 1) 24 #[.slice a1A0 a1n0 a1c0] := by have := Blk.new (w.alloc (.cells #[.slice a0A0 a0n0 a0c0] 24)) 24 #[.slice a1A0 a1n0 a1c0]; simpa using this
    have zb1 : ((w.alloc (.cells #[.slice a0A0 a0n0 a0c0] 24)).alloc (.cells #[.slice a1A0 a1n0 a1c0] 24)).heap.size = w.heap.size + 1 + 1 := by simp
    go_enter Tryz.func6, Tryz.ntmps6
    go_wp2_with fail
    refine (szNet_v _ x (1048576) _ (R0.below netRd_ok T) T.size (by omega) (by omega)).mono ?_
    rw [szL_neg (by omega)]
    rintro e w1 ⟨rfl, b1⟩
    have z1 := b1.size
    have B0 := B0.below b1 (by omega)
    have B1 := B1.below b1 (by omega)
    have T := T.trans (b1.mono (by omega))
    have gB0 := B0.cell
    have gB1 := B1.cell
    go_wp2_with fail
    go_ret
    exact ⟨rfl, T⟩
  by_cases d1 : (szNet y : Int) ≤ 1048576 - (szNet x : Int)
  case neg =>
    have T := Below.refl w.heap.size w
    have T : Below w.heap.size w (w.alloc (.cells #[.slice a0A0 a0n0 a0c0] 24)) := T.alloc (by first | exact Nat.le_refl _ | (simp; done) | (simp; omega)) _
    have B0 : Blk (w.alloc (.cells #[.slice a0A0 a0n0 a0c0] 24)) (w.heap.size) 24 #[.slice a0A0 a0n0 a0c0] := by have := Blk.new w 24 #[.slice a0A0 a0n0 a0c0]; simpa using this
    have zb0 : (w.alloc (.cells #[.slice a0A0 a0n0 a0c0] 24)).heap.size = w.heap.size + 1 := by simp
    have T : Below w.heap.size w ((w.alloc (.cells #[.slice a0A0 a0n0 a0c0] 24)).alloc (.cells #[.slice a1A0 a1n0 a1c0] 24)) := T.alloc (by first | exact Nat.le_refl _ | (simp; done) | (simp; omega)) _
    have B0 := B0.alloc (.cells #[.slice a1A0 a1n0 a1c0] 24)
    have B1 : Blk ((w.alloc (.cells #[.slice a0A0 a0n0 a0c0] 24)).alloc (.cells #[.slice a1A0 a1n0 a1c0] 24)) (w.heap.size + 1) 24 #[.slice a1A0 a1n0 a1c0] := by have := Blk.new (w.alloc (.cells #[.slice a0A0 a0n0 a0c0] 24)) 24 #[.slice a1A0 a1n0 a1c0]; simpa using this
    have zb1 : ((w.alloc (.cells #[.slice a0A0 a0n0 a0c0] 24)).alloc (.cells #[.slice a1A0 a1n0 a1c0] 24)).heap.size = w.heap.size + 1 + 1 := by simp
    go_enter Tryz.func6, Tryz.ntmps6
    go_wp2_with fail
    refine (szNet_v _ x (1048576) _ (R0.below netRd_ok T) T.size (by omega) (by omega)).mono ?_
    rw [szL_pos (by omega)]
    rintro e w1 ⟨rfl, b1⟩
    have z1 := b1.size
    have B0 := B0.below b1 (by omega)
    have B1 := B1.below b1 (by omega)
    have T := T.trans (b1.mono (by omega))
    have gB0 := B0.cell
    have gB1 := B1.cell
    go_wp2_with fail
    refine (szNet_v _ y (1048576 - (szNet x : Int)) _ (R1.below netRd_ok T) T.size (by omega) (by omega)).mono ?_
    rw [szL_neg (by omega)]
    rintro e w2 ⟨rfl, b2⟩
    have z2 := b2.size
    have B0 := B0.below b2 (by omega)
    have B1 := B1.below b2 (by omega)
    have T := T.trans (b2.mono (by omega))
    clear gB0
    clear gB1
    have gB0 := B0.cell
    have gB1 := B1.cell
    go_wp2_with fail
    go_ret
    exact ⟨rfl, T⟩
  have s0 : szNet x ≤ 1048576 := by omega
  have s1 : szNet y ≤ 1048576 := by omega
  have sr := findIso_len x y s0
  have q_r : eqL ((findIso x y).1) ((findIso x y).1) = true := decide_eq_true rfl
  have T := Below.refl w.heap.size w
  have T : Below w.heap.size w (w.alloc (.cells #[.slice a0A0 a0n0 a0c0] 24)) := T.alloc (by first | exact Nat.le_refl _ | (simp; done) | (simp; omega)) _
  have B0 : Blk (w.alloc (.cells #[.slice a0A0 a0n0 a0c0] 24)) (w.heap.size) 24 #[.slice a0A0 a0n0 a0c0] := by have := Blk.new w 24 #[.slice a0A0 a0n0 a0c0]; simpa using this
  have zb0 : (w.alloc (.cells #[.slice a0A0 a0n0 a0c0] 24)).heap.size = w.heap.size + 1 := by simp
  have T : Below w.heap.size w ((w.alloc (.cells #[.slice a0A0 a0n0 a0c0] 24)).alloc (.cells #[.slice a1A0 a1n0 a1c0] 24)) := T.alloc (by first | exact Nat.le_refl _ | (simp; done) | (simp; omega)) _
  have B0 := B0.alloc (.cells #[.slice a1A0 a1n0 a1c0] 24)
  have B1 : Blk ((w.alloc (.cells #[.slice a0A0 a0n0 a0c0] 24)).alloc (.cells #[.slice a1A0 a1n0 a1c0] 24)) (w.heap.size + 1) 24 #[.slice a1A0 a1n0 a1c0] := by have := Blk.new (w.alloc (.cells #[.slice a0A0 a0n0 a0c0] 24)) 24 #[.slice a1A0 a1n0 a1c0]; simpa using this
  have zb1 : ((w.alloc (.cells #[.slice a0A0 a0n0 a0c0] 24)).alloc (.cells #[.slice a1A0 a1n0 a1c0] 24)).heap.size = w.heap.size + 1 + 1 := by simp
  go_enter Tryz.func6, Tryz.ntmps6
  go_wp2_with fail
  refine (szNet_v _ x (1048576) _ (R0.below netRd_ok T) T.size (by omega) (by omega)).mono ?_
  rw [szL_pos (by omega)]
  rintro e w1 ⟨rfl, b1⟩
  have z1 := b1.size
  have B0 := B0.below b1 (by omega)
  have B1 := B1.below b1 (by omega)
  have T := T.trans (b1.mono (by omega))
  have gB0 := B0.cell
  have gB1 := B1.cell
  go_wp2_with fail
  refine (szNet_v _ y (1048576 - (szNet x : Int)) _ (R1.below netRd_ok T) T.size (by omega) (by omega)).mono ?_
  rw [szL_pos (by omega)]
  rintro e w2 ⟨rfl, b2⟩
  have z2 := b2.size
  have B0 := B0.below b2 (by omega)
  have B1 := B1.below b2 (by omega)
  have T := T.trans (b2.mono (by omega))
  clear gB0
  clear gB1
  have gB0 := B0.cell
  have gB1 := B1.cell
  go_wp2_with fail
  have T := T.drew
  have B0 := B0.drew
  have B1 := B1.drew
  have zd3 : w2.drew.heap.size = w2.heap.size := rfl
  go_region_held3 (fun w' => w'.cell? ⟨w.heap.size, 0, none⟩ = some (.slice a0A0 a0n0 a0c0) ∧ w'.cell? ⟨w.heap.size + 1, 0, none⟩ = some (.slice a1A0 a1n0 a1c0)) (exact ⟨gB0 0, gB1 0⟩) (first
    | (go_at_call_of 9 (a0A0); refine (toNet_v _ x _ (R0.below netRd_ok T) T.size s0).mono ?_; rintro e w4 ⟨⟨t1, rfl, p2⟩, b4⟩; have z4 := b4.size; have B0 := B0.below b4 (by omega); have B1 := B1.below b4 (by omega); have T := T.trans (b4.mono (by omega)); clear gB0; clear gB1; have gB0 := B0.cell; have gB1 := B1.cell)
    | (go_at_call_of 9 (a1A0); refine (toNet_v _ y _ (R1.below netRd_ok T) T.size s1).mono ?_; rintro e w5 ⟨⟨t3, rfl, p4⟩, b5⟩; have z5 := b5.size; have B0 := B0.below b5 (by omega); have B1 := B1.below b5 (by omega); have p2 := p2.below netOw_ok b5 (by omega); have T := T.trans (b5.mono (by omega)); clear gB0; clear gB1; have gB0 := B0.cell; have gB1 := B1.cell)
    | (go_at_call 21; refine (specFindIsomorphism_v _ _ x y _ (p2.reads (netOw_reads (w5).heap.size) (by omega)) (p4.reads (netOw_reads (w5).heap.size) (by omega)) (Nat.le_refl _) (Nat.le_refl _) s0 s1).mono ?_; rintro e w6 ⟨⟨u6, rfl, G5⟩, b6⟩; have z6 := b6.size; have B0 := B0.below b6 (by omega); have B1 := B1.below b6 (by omega); have p2 := p2.below netOw_ok b6 (by omega); have p4 := p4.below netOw_ok b6 (by omega); have T := T.trans (b6.mono (by omega)); clear gB0; clear gB1; have gB0 := B0.cell; have gB1 := B1.cell; clear p2; clear p4))
  go_wp2_with fail
  refine (toNet_v _ x _ (R0.below netRd_ok T) T.size s0).mono ?_
  rintro e w7 ⟨⟨t7, rfl, p8⟩, b7⟩
  have z7 := b7.size
  have B0 := B0.below b7 (by omega)
  have B1 := B1.below b7 (by omega)
  have G5 := G5.below intOw_ok b7 (by omega)
  have T := T.trans (b7.mono (by omega))
  clear gB0
  clear gB1
  have gB0 := B0.cell
  have gB1 := B1.cell
  obtain ⟨l10A0, l10n0, l10c0, rfl⟩ : ∃ l10A0 l10n0 l10c0, t7 = .agg #[.slice l10A0 l10n0 l10c0] := by obtain ⟨cs, bs, rfl, ⟨A0, n0, c0, b0, rfl, _⟩, _⟩ := p8; exact ⟨A0, n0, c0, rfl⟩
  have b8 : Below w7.heap.size w7 (w7.alloc (.cells #[.slice l10A0 l10n0 l10c0] 31)) := (Below.refl _ _).alloc (Nat.le_refl _) _
  have z8 : (w7.alloc (.cells #[.slice l10A0 l10n0 l10c0] 31)).heap.size = w7.heap.size + 1 := World.size_alloc _ _
  have B0 := B0.below b8 (by omega)
  have B1 := B1.below b8 (by omega)
  have G5 := G5.below intOw_ok b8 (by omega)
  have p8 := p8.below netOw_ok b8 (by omega)
  have T := T.trans (b8.mono (by omega))
  have X9 : Blk (w7.alloc (.cells #[.slice l10A0 l10n0 l10c0] 31)) w7.heap.size 31 #[.slice l10A0 l10n0 l10c0] := Blk.new _ _ _
  clear gB0
  clear gB1
  have gB0 := B0.cell
  have gB1 := B1.cell
  have gX9 := X9.cell
  go_wp2_with fail
  refine (toNet_v _ y _ (R1.below netRd_ok T) T.size s1).mono ?_
  rintro e w9 ⟨⟨t11, rfl, p12⟩, b9⟩
  have z9 := b9.size
  have B0 := B0.below b9 (by omega)
  have B1 := B1.below b9 (by omega)
  have X9 := X9.below b9 (by omega)
  have G5 := G5.below intOw_ok b9 (by omega)
  have p8 := p8.below netOw_ok b9 (by omega)
  have T := T.trans (b9.mono (by omega))
  clear gB0
  clear gB1
  clear gX9
  have gB0 := B0.cell
  have gB1 := B1.cell
  have gX9 := X9.cell
  obtain ⟨l14A0, l14n0, l14c0, rfl⟩ : ∃ l14A0 l14n0 l14c0, t11 = .agg #[.slice l14A0 l14n0 l14c0] := by obtain ⟨cs, bs, rfl, ⟨A0, n0, c0, b0, rfl, _⟩, _⟩ := p12; exact ⟨A0, n0, c0, rfl⟩
  have b10 : Below w9.heap.size w9 (w9.alloc (.cells #[.slice l14A0 l14n0 l14c0] 31)) := (Below.refl _ _).alloc (Nat.le_refl _) _
  have z10 : (w9.alloc (.cells #[.slice l14A0 l14n0 l14c0] 31)).heap.size = w9.heap.size + 1 := World.size_alloc _ _
  have B0 := B0.below b10 (by omega)
  have B1 := B1.below b10 (by omega)
  have X9 := X9.below b10 (by omega)
  have G5 := G5.below intOw_ok b10 (by omega)
  have p8 := p8.below netOw_ok b10 (by omega)
  have p12 := p12.below netOw_ok b10 (by omega)
  have T := T.trans (b10.mono (by omega))
  have X13 : Blk (w9.alloc (.cells #[.slice l14A0 l14n0 l14c0] 31)) w9.heap.size 31 #[.slice l14A0 l14n0 l14c0] := Blk.new _ _ _
  clear gB0
  clear gB1
  clear gX9
  have gB0 := B0.cell
  have gB1 := B1.cell
  have gX9 := X9.cell
  have gX13 := X13.cell
  go_wp2_with fail
  refine (implFindIsomorphism_v _ _ x y _ (p8.reads (netOw_reads ((w9.alloc (.cells #[.slice l14A0 l14n0 l14c0] 31))).heap.size) (by omega)) (p12.reads (netOw_reads ((w9.alloc (.cells #[.slice l14A0 l14n0 l14c0] 31))).heap.size) (by omega)) (Nat.le_refl _) (Nat.le_refl _) s0 s1).mono ?_
  rintro e w11 ⟨⟨u16, rfl, G15⟩, b11⟩
  have z11 := b11.size
  have B0 := B0.below b11 (by omega)
  have B1 := B1.below b11 (by omega)
  have X9 := X9.below b11 (by omega)
  have X13 := X13.below b11 (by omega)
  have G5 := G5.below intOw_ok b11 (by omega)
  have p8 := p8.below netOw_ok b11 (by omega)
  have p12 := p12.below netOw_ok b11 (by omega)
  have T := T.trans (b11.mono (by omega))
  clear gB0
  clear gB1
  clear gX9
  clear gX13
  have gB0 := B0.cell
  have gB1 := B1.cell
  have gX9 := X9.cell
  have gX13 := X13.cell
  go_wp2_with fail
  refine (eqInt64S_v _ _ _ _ _ (G15.reads (intOw_reads (w11).heap.size) (by omega)) (G5.reads (intOw_reads (w11).heap.size) (by omega)) (Nat.le_refl _) (Nat.le_refl _)).mono ?_
  rintro e w12 ⟨rfl, b12⟩
  have z12 := b12.size
  have B0 := B0.below b12 (by omega)
  have B1 := B1.below b12 (by omega)
  have X9 := X9.below b12 (by omega)
  have X13 := X13.below b12 (by omega)
  have G5 := G5.below intOw_ok b12 (by omega)
  have p8 := p8.below netOw_ok b12 (by omega)
  have p12 := p12.below netOw_ok b12 (by omega)
  have G15 := G15.below intOw_ok b12 (by omega)
  have T := T.trans (b12.mono (by omega))
  clear gB0
  clear gB1
  clear gX9
  clear gX13
  have gB0 := B0.cell
  have gB1 := B1.cell
  have gX9 := X9.cell
  have gX13 := X13.cell
  go_wp2_with fail
  have T := T.drew
  have B0 := B0.drew
  have B1 := B1.drew
  have X9 := X9.drew
  have X13 := X13.drew
  have G5 := G5.keep intOw_ok (w' := w12.drew) (fun _ _ _ => rfl)
  have p8 := p8.keep netOw_ok (w' := w12.drew) (fun _ _ _ => rfl)
  have p12 := p12.keep netOw_ok (w' := w12.drew) (fun _ _ _ => rfl)
  have G15 := G15.keep intOw_ok (w' := w12.drew) (fun _ _ _ => rfl)
  have zd13 : w12.drew.heap.size = w12.heap.size := rfl
  go_region_held3 (fun w' => w'.cell? ⟨w7.heap.size, 0, none⟩ = some (.slice l10A0 l10n0 l10c0) ∧ w'.cell? ⟨w.heap.size, 0, none⟩ = some (.slice a0A0 a0n0 a0c0)) (exact ⟨gX9 0, gB0 0⟩) (first
    | (go_at_call 9; refine (toNet_v _ x _ (R0.below netRd_ok T) T.size s0).mono ?_; rintro e w14 ⟨⟨t17, rfl, p18⟩, b14⟩; have z14 := b14.size; have B0 := B0.below b14 (by omega); have B1 := B1.below b14 (by omega); have X9 := X9.below b14 (by omega); have X13 := X13.below b14 (by omega); have G5 := G5.below intOw_ok b14 (by omega); have p8 := p8.below netOw_ok b14 (by omega); have p12 := p12.below netOw_ok b14 (by omega); have G15 := G15.below intOw_ok b14 (by omega); have T := T.trans (b14.mono (by omega)); clear gB0; clear gB1; clear gX9; clear gX13; have gB0 := B0.cell; have gB1 := B1.cell; have gX9 := X9.cell; have gX13 := X13.cell)
    | (go_at_call 12; refine (eqNet_v _ _ _ _ _ (p8.reads (netOw_reads (w14).heap.size) (by omega)) (p18.reads (netOw_reads (w14).heap.size) (by omega)) (Nat.le_refl _) (Nat.le_refl _)).mono ?_; rintro e w15 ⟨rfl, b15⟩; have z15 := b15.size; have B0 := B0.below b15 (by omega); have B1 := B1.below b15 (by omega); have X9 := X9.below b15 (by omega); have X13 := X13.below b15 (by omega); have G5 := G5.below intOw_ok b15 (by omega); have p8 := p8.below netOw_ok b15 (by omega); have p12 := p12.below netOw_ok b15 (by omega); have G15 := G15.below intOw_ok b15 (by omega); have p18 := p18.below netOw_ok b15 (by omega); have T := T.trans (b15.mono (by omega)); clear gB0; clear gB1; clear gX9; clear gX13; have gB0 := B0.cell; have gB1 := B1.cell; have gX9 := X9.cell; have gX13 := X13.cell))
  go_wp2_with fail
  have T := T.drew
  have B0 := B0.drew
  have B1 := B1.drew
  have X9 := X9.drew
  have X13 := X13.drew
  have G5 := G5.keep intOw_ok (w' := w15.drew) (fun _ _ _ => rfl)
  have p8 := p8.keep netOw_ok (w' := w15.drew) (fun _ _ _ => rfl)
  have p12 := p12.keep netOw_ok (w' := w15.drew) (fun _ _ _ => rfl)
  have G15 := G15.keep intOw_ok (w' := w15.drew) (fun _ _ _ => rfl)
  have p18 := p18.keep netOw_ok (w' := w15.drew) (fun _ _ _ => rfl)
  have zd16 : w15.drew.heap.size = w15.heap.size := rfl
  go_region_held3 (fun w' => w'.cell? ⟨w9.heap.size, 0, none⟩ = some (.slice l14A0 l14n0 l14c0) ∧ w'.cell? ⟨w.heap.size + 1, 0, none⟩ = some (.slice a1A0 a1n0 a1c0)) (exact ⟨gX13 0, gB1 0⟩) (first
    | (go_at_call 9; refine (toNet_v _ y _ (R1.below netRd_ok T) T.size s1).mono ?_; rintro e w17 ⟨⟨t19, rfl, p20⟩, b17⟩; have z17 := b17.size; have B0 := B0.below b17 (by omega); have B1 := B1.below b17 (by omega); have X9 := X9.below b17 (by omega); have X13 := X13.below b17 (by omega); have G5 := G5.below intOw_ok b17 (by omega); have p8 := p8.below netOw_ok b17 (by omega); have p12 := p12.below netOw_ok b17 (by omega); have G15 := G15.below intOw_ok b17 (by omega); have p18 := p18.below netOw_ok b17 (by omega); have T := T.trans (b17.mono (by omega)); clear gB0; clear gB1; clear gX9; clear gX13; have gB0 := B0.cell; have gB1 := B1.cell; have gX9 := X9.cell; have gX13 := X13.cell)
    | (go_at_call 12; refine (eqNet_v _ _ _ _ _ (p12.reads (netOw_reads (w17).heap.size) (by omega)) (p20.reads (netOw_reads (w17).heap.size) (by omega)) (Nat.le_refl _) (Nat.le_refl _)).mono ?_; rintro e w18 ⟨rfl, b18⟩; have z18 := b18.size; have B0 := B0.below b18 (by omega); have B1 := B1.below b18 (by omega); have X9 := X9.below b18 (by omega); have X13 := X13.below b18 (by omega); have G5 := G5.below intOw_ok b18 (by omega); have p8 := p8.below netOw_ok b18 (by omega); have p12 := p12.below netOw_ok b18 (by omega); have G15 := G15.below intOw_ok b18 (by omega); have p18 := p18.below netOw_ok b18 (by omega); have p20 := p20.below netOw_ok b18 (by omega); have T := T.trans (b18.mono (by omega)); clear gB0; clear gB1; clear gX9; clear gX13; have gB0 := B0.cell; have gB1 := B1.cell; have gX9 := X9.cell; have gX13 := X13.cell))
  go_wp2_with fail
  obtain ⟨m21, em21⟩ : ∃ m : Nat, m = (1 : Int).toNat + cntL cntA (x).agents := ⟨_, rfl⟩
  have lm21 : m21 ≤ 8388608 := by have h1 := cntL_agents (x).agents; have h2 : szNet x = szAgentS (x).agents := rfl; omega
  have hm21 : decide ((m21 : Int) < 0) = false := by simp
  refine (markNet_r _ _ _ _ _ _ m21 em21 p8 (by omega) s0 (by omega) (by omega)).mono ?_
  rintro e w19 ⟨rfl, wb19, b19, e19, b20, _⟩
  clear p8
  clear em21
  have z19 := b19.size
  have B0 := B0.below b19 (by omega)
  have B1 := B1.below b19 (by omega)
  have X9 := X9.below b19 (by omega)
  have X13 := X13.below b19 (by omega)
  have G5 := G5.below intOw_ok b19 (by omega)
  have p12 := p12.below netOw_ok b19 (by omega)
  have G15 := G15.below intOw_ok b19 (by omega)
  have p18 := p18.below netOw_ok b19 (by omega)
  have p20 := p20.below netOw_ok b19 (by omega)
  have T := T.trans (b19.mono (by omega))
  have z20 := Nat.le_of_eq e19
  have y20 := Nat.le_of_eq e19.symm
  have B0 := B0.only b20 (by omega)
  have B1 := B1.only b20 (by omega)
  have X9 := X9.only b20 (by omega)
  have X13 := X13.only b20 (by omega)
  have G5 := G5.only intOw_ok b20 (by omega)
  have p12 := p12.only netOw_ok b20 (by omega)
  have G15 := G15.only intOw_ok b20 (by omega)
  have p18 := p18.only netOw_ok b20 (by omega)
  have p20 := p20.only netOw_ok b20 (by omega)
  have T := T.trans (b20.below.mono (by omega))
  clear gB0
  clear gB1
  clear gX9
  clear gX13
  have gB0 := B0.cell
  have gB1 := B1.cell
  have gX9 := X9.cell
  have gX13 := X13.cell
  go_wp2_with fail
  obtain ⟨m22, em22⟩ : ∃ m : Nat, m = (m21 : Int).toNat + cntL cntA (y).agents := ⟨_, rfl⟩
  have lm22 : m22 ≤ 16777216 := by have h1 := cntL_agents (y).agents; have h2 : szNet y = szAgentS (y).agents := rfl; omega
  have hm22 : decide ((m22 : Int) < 0) = false := by simp
  refine (markNet_r _ _ _ _ _ _ m22 em22 p12 (by omega) s1 (by omega) (by omega)).mono ?_
  rintro e w21 ⟨rfl, wb21, b21, e21, b22, _⟩
  clear p12
  clear em22
  have z21 := b21.size
  have B0 := B0.below b21 (by omega)
  have B1 := B1.below b21 (by omega)
  have X9 := X9.below b21 (by omega)
  have X13 := X13.below b21 (by omega)
  have G5 := G5.below intOw_ok b21 (by omega)
  have G15 := G15.below intOw_ok b21 (by omega)
  have p18 := p18.below netOw_ok b21 (by omega)
  have p20 := p20.below netOw_ok b21 (by omega)
  have T := T.trans (b21.mono (by omega))
  have z22 := Nat.le_of_eq e21
  have y22 := Nat.le_of_eq e21.symm
  have B0 := B0.only b22 (by omega)
  have B1 := B1.only b22 (by omega)
  have X9 := X9.only b22 (by omega)
  have X13 := X13.only b22 (by omega)
  have G5 := G5.only intOw_ok b22 (by omega)
  have G15 := G15.only intOw_ok b22 (by omega)
  have p18 := p18.only netOw_ok b22 (by omega)
  have p20 := p20.only netOw_ok b22 (by omega)
  have T := T.trans (b22.below.mono (by omega))
  clear gB0
  clear gB1
  clear gX9
  clear gX13
  have gB0 := B0.cell
  have gB1 := B1.cell
  have gX9 := X9.cell
  have gX13 := X13.cell
  go_wp2_with fail
  refine (eqInt64S_v _ _ _ _ _ (G15.reads (intOw_reads (w21).heap.size) (by omega)) (G5.reads (intOw_reads (w21).heap.size) (by omega)) (Nat.le_refl _) (Nat.le_refl _)).mono ?_
  rintro e w23 ⟨rfl, b23⟩
  have z23 := b23.size
  have B0 := B0.below b23 (by omega)
  have B1 := B1.below b23 (by omega)
  have X9 := X9.below b23 (by omega)
  have X13 := X13.below b23 (by omega)
  have G5 := G5.below intOw_ok b23 (by omega)
  have G15 := G15.below intOw_ok b23 (by omega)
  have p18 := p18.below netOw_ok b23 (by omega)
  have p20 := p20.below netOw_ok b23 (by omega)
  have T := T.trans (b23.mono (by omega))
  clear gB0
  clear gB1
  clear gX9
  clear gX13
  have gB0 := B0.cell
  have gB1 := B1.cell
  have gX9 := X9.cell
  have gX13 := X13.cell
  go_wp2_with fail
  refine (markInt64S_v _ _ _ _ _ _ G15 sr (by omega) (by omega)).mono ?_
  rintro e w24 ⟨rfl, G15, b24⟩
  have z24 := Nat.le_of_eq b24.size
  have y24 := Nat.le_of_eq b24.size.symm
  have B0 := B0.only b24 (by omega)
  have B1 := B1.only b24 (by omega)
  have X9 := X9.only b24 (by omega)
  have X13 := X13.only b24 (by omega)
  have G5 := G5.only intOw_ok b24 (by omega)
  have p18 := p18.only netOw_ok b24 (by omega)
  have p20 := p20.only netOw_ok b24 (by omega)
  have T := T.trans (b24.below.mono (by omega))
  clear gB0
  clear gB1
  clear gX9
  clear gX13
  have gB0 := B0.cell
  have gB1 := B1.cell
  have gX9 := X9.cell
  have gX13 := X13.cell
  go_wp2_with fail
  refine (heldInt64S_v _ (findIso x y).1 _ _ (G15.reads (intOw_reads (w24).heap.size) (by omega)) sr (by omega) (by omega)).mono ?_
  rintro e w25 ⟨rfl, b25⟩
  have z25 := b25.size
  have B0 := B0.below b25 (by omega)
  have B1 := B1.below b25 (by omega)
  have X9 := X9.below b25 (by omega)
  have X13 := X13.below b25 (by omega)
  have G5 := G5.below intOw_ok b25 (by omega)
  have G15 := G15.below intOw_ok b25 (by omega)
  have p18 := p18.below netOw_ok b25 (by omega)
  have p20 := p20.below netOw_ok b25 (by omega)
  have T := T.trans (b25.mono (by omega))
  clear gB0
  clear gB1
  clear gX9
  clear gX13
  have gB0 := B0.cell
  have gB1 := B1.cell
  have gX9 := X9.cell
  have gX13 := X13.cell
  go_wp2_with fail
  have T := T.drew
  have B0 := B0.drew
  have B1 := B1.drew
  have X9 := X9.drew
  have X13 := X13.drew
  have G5 := G5.keep intOw_ok (w' := w25.drew) (fun _ _ _ => rfl)
  have G15 := G15.keep intOw_ok (w' := w25.drew) (fun _ _ _ => rfl)
  have p18 := p18.keep netOw_ok (w' := w25.drew) (fun _ _ _ => rfl)
  have p20 := p20.keep netOw_ok (w' := w25.drew) (fun _ _ _ => rfl)
  have zd26 : w25.drew.heap.size = w25.heap.size := rfl
  go_region_held3 (fun w' => w'.cell? ⟨w.heap.size, 0, none⟩ = some (.slice a0A0 a0n0 a0c0) ∧ w'.cell? ⟨w.heap.size + 1, 0, none⟩ = some (.slice a1A0 a1n0 a1c0)) (exact ⟨gB0 0, gB1 0⟩) (first
    | (go_at_call_of 9 (a0A0); refine (toNet_v _ x _ (R0.below netRd_ok T) T.size s0).mono ?_; rintro e w27 ⟨⟨t23, rfl, p24⟩, b27⟩; have z27 := b27.size; have B0 := B0.below b27 (by omega); have B1 := B1.below b27 (by omega); have X9 := X9.below b27 (by omega); have X13 := X13.below b27 (by omega); have G5 := G5.below intOw_ok b27 (by omega); have G15 := G15.below intOw_ok b27 (by omega); have p18 := p18.below netOw_ok b27 (by omega); have p20 := p20.below netOw_ok b27 (by omega); have T := T.trans (b27.mono (by omega)); clear gB0; clear gB1; clear gX9; clear gX13; have gB0 := B0.cell; have gB1 := B1.cell; have gX9 := X9.cell; have gX13 := X13.cell)
    | (go_at_call_of 9 (a1A0); refine (toNet_v _ y _ (R1.below netRd_ok T) T.size s1).mono ?_; rintro e w28 ⟨⟨t25, rfl, p26⟩, b28⟩; have z28 := b28.size; have B0 := B0.below b28 (by omega); have B1 := B1.below b28 (by omega); have X9 := X9.below b28 (by omega); have X13 := X13.below b28 (by omega); have G5 := G5.below intOw_ok b28 (by omega); have G15 := G15.below intOw_ok b28 (by omega); have p18 := p18.below netOw_ok b28 (by omega); have p20 := p20.below netOw_ok b28 (by omega); have p24 := p24.below netOw_ok b28 (by omega); have T := T.trans (b28.mono (by omega)); clear gB0; clear gB1; clear gX9; clear gX13; have gB0 := B0.cell; have gB1 := B1.cell; have gX9 := X9.cell; have gX13 := X13.cell)
    | (go_at_call 22; refine (implFindIsomorphism_v _ _ x y _ (p24.reads (netOw_reads (w28).heap.size) (by omega)) (p26.reads (netOw_reads (w28).heap.size) (by omega)) (Nat.le_refl _) (Nat.le_refl _) s0 s1).mono ?_; rintro e w29 ⟨⟨u28, rfl, G27⟩, b29⟩; have z29 := b29.size; have B0 := B0.below b29 (by omega); have B1 := B1.below b29 (by omega); have X9 := X9.below b29 (by omega); have X13 := X13.below b29 (by omega); have G5 := G5.below intOw_ok b29 (by omega); have G15 := G15.below intOw_ok b29 (by omega); have p18 := p18.below netOw_ok b29 (by omega); have p20 := p20.below netOw_ok b29 (by omega); have p24 := p24.below netOw_ok b29 (by omega); have p26 := p26.below netOw_ok b29 (by omega); have T := T.trans (b29.mono (by omega)); clear gB0; clear gB1; clear gX9; clear gX13; have gB0 := B0.cell; have gB1 := B1.cell; have gX9 := X9.cell; have gX13 := X13.cell; clear p24; clear p26))
  go_wp2_with fail
  refine (eqInt64S_v _ _ _ _ _ (G27.reads (intOw_reads (w29).heap.size) (by omega)) (G5.reads (intOw_reads (w29).heap.size) (by omega)) (Nat.le_refl _) (Nat.le_refl _)).mono ?_
  rintro e w30 ⟨rfl, b30⟩
  have z30 := b30.size
  have B0 := B0.below b30 (by omega)
  have B1 := B1.below b30 (by omega)
  have X9 := X9.below b30 (by omega)
  have X13 := X13.below b30 (by omega)
  have G5 := G5.below intOw_ok b30 (by omega)
  have G15 := G15.below intOw_ok b30 (by omega)
  have p18 := p18.below netOw_ok b30 (by omega)
  have p20 := p20.below netOw_ok b30 (by omega)
  have G27 := G27.below intOw_ok b30 (by omega)
  have T := T.trans (b30.mono (by omega))
  clear gB0
  clear gB1
  clear gX9
  clear gX13
  have gB0 := B0.cell
  have gB1 := B1.cell
  have gX9 := X9.cell
  have gX13 := X13.cell
  go_wp2_with fail
  refine (heldInt64S_v _ (findIso x y).1 _ _ (G15.reads (intOw_reads (w30).heap.size) (by omega)) sr (by omega) (by omega)).mono ?_
  rintro e w31 ⟨rfl, b31⟩
  have z31 := b31.size
  have B0 := B0.below b31 (by omega)
  have B1 := B1.below b31 (by omega)
  have X9 := X9.below b31 (by omega)
  have X13 := X13.below b31 (by omega)
  have G5 := G5.below intOw_ok b31 (by omega)
  have G15 := G15.below intOw_ok b31 (by omega)
  have p18 := p18.below netOw_ok b31 (by omega)
  have p20 := p20.below netOw_ok b31 (by omega)
  have G27 := G27.below intOw_ok b31 (by omega)
  have T := T.trans (b31.mono (by omega))
  clear gB0
  clear gB1
  clear gX9
  clear gX13
  have gB0 := B0.cell
  have gB1 := B1.cell
  have gX9 := X9.cell
  have gX13 := X13.cell
  go_wp2_with fail
  go_ret
  exact ⟨rfl, T⟩
end
section
open Go.RowKit Go.ChangeShapes Go.WideShapes Go.Deep Go.WideMaps
set_option linter.unusedVariables false
def Opens {α : Type} (P : Program) (t : TypeId) (R : Rd α) : Prop := ∀ (H : Type) (enc : TypeId × Value → H) (W : World) (fuel : Nat) (cs : List Value) (x : DataW H × List MemPlace),
  DataW.trod enc P W 0 (fun _ => true) true fuel t cs = some x → ∃ d, R W W.heap.size cs d
theorem opens_int {P : Program} {t : TypeId} (ht : P.underlying t = some (.int .i64)) : Opens P t intRd := fun H enc W fuel cs x h => by
  obtain ⟨n, hc, _, _⟩ := DataW.trod_int ht h
  exact ⟨n, hc⟩
theorem spot_none {w : World} {a : Addr} {v : Value} (h : w.cell? a = some v) : a.spot = none := by
  unfold World.cell? at h
  split at h
  · cases hs : a.spot with
    | none => rfl
    | some s => simp [hs] at h
  · simp at h
theorem opens_slice {α : Type} {P : Program} {t e : TypeId} {R : Rd α} {sz : Nat} (ht : P.underlying t = some (.slice e)) (hsz : P.cellsOf e = sz) (hpos : 0 < sz) (ok : RdOk R sz) (he : Opens P e R) : Opens P t (slRd R sz) := fun H enc W fuel cs x h => by
  rcases open_slice ht h with ⟨rfl, rfl⟩ | ⟨a, len, cap, m, n, D, Pl, rfl, hb, hl, hm, hmm, hx, hel⟩
  · exact ⟨[], none, 0, 0, rfl, SlAt.none_, Nat.le_refl _, Nat.zero_le _⟩
  · have hmc : len ≤ m := by rw [hmm]; simp; omega
    have hel' : ∀ i, i < len → ∃ p : List Value × α, R W W.heap.size p.1 p.2 ∧ ∀ j, j < sz → W.cell? (a.add (i * sz + j)) = p.1[j]? := fun i hi => by
      obtain ⟨cs', hc, htr⟩ := hel i (by omega)
      obtain ⟨d, hd⟩ := he H enc W n cs' (D i, Pl i) htr
      obtain ⟨_, hlen, hat⟩ := World.cells?_some hc
      exact ⟨(cs', d), hd, fun j hj => by
        have := hat j (by rw [hsz]; exact hj)
        rw [hsz, Go.Deep.add_add] at this
        exact this⟩
    rcases Nat.eq_zero_or_pos len with h0 | h0
    · subst h0
      exact ⟨[], some a, 0, cap, rfl, SlAt.none_, Nat.zero_le _, hm⟩
    · have hne : Nonempty (List Value × α) := let ⟨p, _⟩ := hel' 0 h0; ⟨p⟩
      have hf : ∃ f : Nat → List Value × α, ∀ i, i < len → R W W.heap.size (f i).1 (f i).2 ∧ ∀ j, j < sz → W.cell? (a.add (i * sz + j)) = (f i).1[j]? := by
        classical
        refine ⟨fun i => if hi : i < len then Classical.choose (hel' i hi) else Classical.choice hne, fun i hi => ?_⟩
        simp only [dif_pos hi]
        exact Classical.choose_spec (hel' i hi)
      obtain ⟨f, hf⟩ := hf
      have hc0 : ∃ v, W.cell? a = some v := by
        obtain ⟨hR, hc⟩ := hf 0 h0
        have hlR := ok.len hR
        have h1 := hc 0 hpos
        have h2 : a.add (0 * sz + 0) = a := by simp [Addr.add]
        rw [h2, List.getElem?_eq_getElem (by omega)] at h1
        exact ⟨_, h1⟩
      obtain ⟨v0, hv0⟩ := hc0
      have hsp := spot_none hv0
      have hbl := World.block_lt_of_cell? _ _ hv0
      have ea : a = ⟨a.block, a.off, none⟩ := by cases a; simp_all
      refine ⟨(List.range len).map fun i => (f i).2, some a, len, cap, rfl, ⟨by simp, fun _ => ⟨a.block, a.off, by rw [← ea], hbl, fun i x hx => ?_⟩⟩, hl, hm⟩
      have hi : i < len := by simpa using lt_of_some hx
      have hx' : (f i).2 = x := by simpa [hi] using hx
      subst hx'
      obtain ⟨hR, hc⟩ := hf i hi
      refine ⟨_, hR, fun j v hj => ?_⟩
      have hj' : j < sz := by have := lt_of_some hj; rw [ok.len hR] at this; exact this
      have h1 := hc j hj'
      rw [hj] at h1
      have e2 : a.add (i * sz + j) = ⟨a.block, a.off + i * sz + j, none⟩ := by
        rw [ea]; simp only [Addr.add_lit]; congr 1; omega
      rw [← e2]
      exact h1
/-- An argument's value as its cells. -/
theorem opens_arg {α : Type} {P : Program} {t : TypeId} {R : Rd α} (h : Opens P t R) {H : Type} {enc : TypeId × Value → H} {W : World} {v : Value} {d : DataW H} {ps : List MemPlace} (ht : DataW.Trod enc P W 0 (fun _ => true) true t v d ps) : ∃ x, R W W.heap.size v.cells.toList x := by
  obtain ⟨fuel, hf⟩ := ht
  exact h H enc W fuel _ _ hf
end
section
open Go.RowKit
theorem opens_ints : Opens Tryz.prog 26 (slRd intRd 1) := opens_slice Tryz.underlying26 (by kernel_rfl) (by decide) intRd_ok (opens_int Tryz.underlying2)
end
section
open Go.RowKit Go.ChangeShapes Go.WideShapes Go.Deep Go.WideMaps
set_option linter.unusedVariables false
set_option linter.unusedSimpArgs false
theorem trod_fields {P : Program} {t : TypeId} {fs : Array Field} {H : Type} {enc : TypeId × Value → H} {W : World} {fuel : Nat} {cs : List Value} {x : DataW H × List MemPlace} (ht : P.underlying t = some (.struct fs)) (h : DataW.trod enc P W 0 (fun _ => true) true fuel t cs = some x) :
    cs.length = P.cellsOf t ∧ ∃ n, ∀ (i : Nat) (f : Field), fs[i]? = some f → ∃ y, DataW.trod enc P W 0 (fun _ => true) true n f.type ((cs.drop f.offset).take (P.cellsOf f.type)) = some y := by
  obtain ⟨xs, n, _, _, hl, hlen, hf⟩ := DataW.trod_struct ht h
  refine ⟨hl, n, fun i f hi => ?_⟩
  have hlt : i < fs.size := (Array.getElem?_eq_some_iff.1 hi).1
  exact ⟨xs[i], by rw [hf i f hi]; exact List.getElem?_eq_getElem (by omega)⟩
/-- A struct argument. -/
theorem open_st {α : Type} {P : Program} {t : TypeId} {fs : Array Field} {R : Rd α} (h : Opens P t R) (ht : P.underlying t = some (.struct fs)) {r : Reach} {b0 : Nat} {H : Type} {enc : TypeId × Value → H} {W : World} {v : Value} {d : DataW H} {ps : List MemPlace}
    (hv : Value.okWide P W r b0 t v) (hd : DataW.Trod enc P W 0 (fun _ => true) true t v d ps) : ∃ x, RdT R W W.heap.size v x := by
  obtain ⟨cs, rfl, _⟩ := okWide_struct ht hv
  obtain ⟨x, hx⟩ := opens_arg h hd
  exact ⟨x, cs.toList, by simp, by simpa [Value.cells] using hx⟩
theorem len1 {α : Type} {l : List α} (h : l.length = 1) : ∃ a0, l = [a0] := by
  match l, h with
  | [a0], _ => exact ⟨a0, rfl⟩
theorem len2 {α : Type} {l : List α} (h : l.length = 2) : ∃ a0 a1, l = [a0, a1] := by
  match l, h with
  | [a0, a1], _ => exact ⟨a0, a1, rfl⟩
theorem len5 {α : Type} {l : List α} (h : l.length = 5) : ∃ a0 a1 a2 a3 a4, l = [a0, a1, a2, a3, a4] := by
  match l, h with
  | [a0, a1, a2, a3, a4], _ => exact ⟨a0, a1, a2, a3, a4, rfl⟩
theorem opens_Port : Opens Tryz.prog 116 portRd := fun H enc W fuel cs x h => by
  obtain ⟨hl, m, hf⟩ := trod_fields Tryz.underlying116 h
  replace hl : cs.length = 2 := hl.trans (by kernel_rfl)
  obtain ⟨a0, a1, rfl⟩ := len2 hl
  obtain ⟨y0, h0⟩ : ∃ y, DataW.trod enc Tryz.prog W 0 (fun _ => true) true m 2 (([a0, a1].drop 0).take (Tryz.prog.cellsOf 2)) = some y := hf 0 _ rfl
  have k0 : Tryz.prog.cellsOf 2 = 1 := by kernel_rfl
  rw [k0] at h0; simp only [List.drop_zero, List.drop_succ_cons, List.take_succ_cons, List.take_zero] at h0
  obtain ⟨d0, e0⟩ := opens_int Tryz.underlying2 H enc W _ _ _ h0
  unfold intRd at e0; simp only [List.cons.injEq, and_true] at e0
  obtain ⟨y1, h1⟩ : ∃ y, DataW.trod enc Tryz.prog W 0 (fun _ => true) true m 2 (([a0, a1].drop 1).take (Tryz.prog.cellsOf 2)) = some y := hf 1 _ rfl
  have k1 : Tryz.prog.cellsOf 2 = 1 := by kernel_rfl
  rw [k1] at h1; simp only [List.drop_zero, List.drop_succ_cons, List.take_succ_cons, List.take_zero] at h1
  obtain ⟨d1, e1⟩ := opens_int Tryz.underlying2 H enc W _ _ _ h1
  unfold intRd at e1; simp only [List.cons.injEq, and_true] at e1
  subst e0; subst e1
  exact ⟨⟨d0, d1⟩, rfl⟩
theorem opens_PortS : Opens Tryz.prog 56 (slRd portRd 2) := opens_slice Tryz.underlying56 (by kernel_rfl) (by decide) portRd_ok opens_Port
theorem opens_Agent : Opens Tryz.prog 58 agentRd := fun H enc W fuel cs x h => by
  obtain ⟨hl, m, hf⟩ := trod_fields Tryz.underlying58 h
  replace hl : cs.length = 5 := hl.trans (by kernel_rfl)
  obtain ⟨a0, a1, a2, a3, a4, rfl⟩ := len5 hl
  obtain ⟨y0, h0⟩ : ∃ y, DataW.trod enc Tryz.prog W 0 (fun _ => true) true m 2 (([a0, a1, a2, a3, a4].drop 0).take (Tryz.prog.cellsOf 2)) = some y := hf 0 _ rfl
  have k0 : Tryz.prog.cellsOf 2 = 1 := by kernel_rfl
  rw [k0] at h0; simp only [List.drop_zero, List.drop_succ_cons, List.take_succ_cons, List.take_zero] at h0
  obtain ⟨d0, e0⟩ := opens_int Tryz.underlying2 H enc W _ _ _ h0
  unfold intRd at e0; simp only [List.cons.injEq, and_true] at e0
  obtain ⟨y1, h1⟩ : ∃ y, DataW.trod enc Tryz.prog W 0 (fun _ => true) true m 2 (([a0, a1, a2, a3, a4].drop 1).take (Tryz.prog.cellsOf 2)) = some y := hf 1 _ rfl
  have k1 : Tryz.prog.cellsOf 2 = 1 := by kernel_rfl
  rw [k1] at h1; simp only [List.drop_zero, List.drop_succ_cons, List.take_succ_cons, List.take_zero] at h1
  obtain ⟨d1, e1⟩ := opens_int Tryz.underlying2 H enc W _ _ _ h1
  unfold intRd at e1; simp only [List.cons.injEq, and_true] at e1
  obtain ⟨y2, h2⟩ : ∃ y, DataW.trod enc Tryz.prog W 0 (fun _ => true) true m 2 (([a0, a1, a2, a3, a4].drop 2).take (Tryz.prog.cellsOf 2)) = some y := hf 2 _ rfl
  have k2 : Tryz.prog.cellsOf 2 = 1 := by kernel_rfl
  rw [k2] at h2; simp only [List.drop_zero, List.drop_succ_cons, List.take_succ_cons, List.take_zero] at h2
  obtain ⟨d2, e2⟩ := opens_int Tryz.underlying2 H enc W _ _ _ h2
  unfold intRd at e2; simp only [List.cons.injEq, and_true] at e2
  obtain ⟨y3, h3⟩ : ∃ y, DataW.trod enc Tryz.prog W 0 (fun _ => true) true m 26 (([a0, a1, a2, a3, a4].drop 3).take (Tryz.prog.cellsOf 26)) = some y := hf 3 _ rfl
  have k3 : Tryz.prog.cellsOf 26 = 1 := by kernel_rfl
  rw [k3] at h3; simp only [List.drop_zero, List.drop_succ_cons, List.take_succ_cons, List.take_zero] at h3
  obtain ⟨d3, A3, n3, c3, e3, g3, r3⟩ := opens_ints H enc W _ _ _ h3
  simp only [List.cons.injEq, and_true] at e3
  obtain ⟨y4, h4⟩ : ∃ y, DataW.trod enc Tryz.prog W 0 (fun _ => true) true m 56 (([a0, a1, a2, a3, a4].drop 4).take (Tryz.prog.cellsOf 56)) = some y := hf 4 _ rfl
  have k4 : Tryz.prog.cellsOf 56 = 1 := by kernel_rfl
  rw [k4] at h4; simp only [List.drop_zero, List.drop_succ_cons, List.take_succ_cons, List.take_zero] at h4
  obtain ⟨d4, A4, n4, c4, e4, g4, r4⟩ := opens_PortS H enc W _ _ _ h4
  simp only [List.cons.injEq, and_true] at e4
  subst e0; subst e1; subst e2; subst e3; subst e4
  exact ⟨⟨d0, d1, d2, d3, d4⟩, A3, n3, c3, A4, n4, c4, rfl, ⟨g3, r3⟩, ⟨g4, r4⟩⟩
theorem opens_AgentS : Opens Tryz.prog 22 (slRd agentRd 5) := opens_slice Tryz.underlying22 (by kernel_rfl) (by decide) agentRd_ok opens_Agent
theorem opens_Net : Opens Tryz.prog 24 netRd := fun H enc W fuel cs x h => by
  obtain ⟨hl, m, hf⟩ := trod_fields Tryz.underlying24 h
  replace hl : cs.length = 1 := hl.trans (by kernel_rfl)
  obtain ⟨a0, rfl⟩ := len1 hl
  obtain ⟨y0, h0⟩ : ∃ y, DataW.trod enc Tryz.prog W 0 (fun _ => true) true m 22 (([a0].drop 0).take (Tryz.prog.cellsOf 22)) = some y := hf 0 _ rfl
  have k0 : Tryz.prog.cellsOf 22 = 1 := by kernel_rfl
  rw [k0] at h0; simp only [List.drop_zero, List.drop_succ_cons, List.take_succ_cons, List.take_zero] at h0
  obtain ⟨d0, A0, n0, c0, e0, g0, r0⟩ := opens_AgentS H enc W _ _ _ h0
  simp only [List.cons.injEq, and_true] at e0
  subst e0
  exact ⟨⟨d0⟩, A0, n0, c0, rfl, ⟨g0, r0⟩⟩
end
section
open Go.ChangeShapes Go.WideShapes Go.ChangeAt Go.RowKit Go.WideElems
set_option linter.unusedVariables false
theorem own : ownKnob Tryz.prog.godebug = none := by kernel_rfl
theorem laid : laidOutB Tryz.prog = true := by kernel_rfl
section
variable {H : Type} {enc : TypeId × Value → H}
theorem trodAll_stays {W W' : World} {sp : Nat → Bool} (hb : Below W.heap.size W W') : ∀ (ts : List TypeId) (vs : List Value) (ds : List (DataW H)) (ps : List MemPlace),
    (∀ t ∈ ts, Tryz.prog.readableRec t = true ∧ t < Tryz.prog.types.size) → DataW.TrodAll enc Tryz.prog W 0 (fun _ => true) true ts vs ds ps →
    (∀ x ∈ ps, x.block < W.heap.size) → (∀ x ∈ ps, sp x.block = true) → DataW.TrodAll enc Tryz.prog W' 0 sp true ts vs ds ps
  | [], [], [], ps, _, h, _, _ => h
  | t :: ts, v :: vs, d :: ds, ps, hts, h, hlt, hsp => by
    obtain ⟨p, q, h1, h2, rfl⟩ := h
    have ht := hts t (by simp)
    exact ⟨p, q, Trod_stays laid ht.1 ht.2 h1 (fun x hx => hb.same (hlt x (by simp [hx]))) (fun x hx => hsp x (by simp [hx])),
      trodAll_stays hb ts vs ds q (fun t' h' => hts t' (by simp [h'])) h2 (fun x hx => hlt x (by simp [hx])) (fun x hx => hsp x (by simp [hx])), rfl⟩
  | [], _ :: _, _, _, _, h, _, _ => h.elim
  | [], [], _ :: _, _, _, h, _, _ => h.elim
  | _ :: _, [], _, _, _, h, _, _ => h.elim
  | _ :: _, _ :: _, [], _, _, h, _, _ => h.elim
theorem post_law {f : Func} {s : ChangeSpec} {W W' : World} {args : Array Value} {ds : List (DataW H)} {before : List MemPlace}
    (hv : s.vars = []) (hr1 : f.resultTypes = #[4])
    (hp0 : (f.params.toList.all fun t => Tryz.prog.readableRec t && decide (t < Tryz.prog.types.size)) = true)
    (hres : (s.fn H (ds ++ [])).results = [.lit (.bool true)]) (hargs : (s.fn H (ds ++ [])).args = ds) (hvars : (s.fn H (ds ++ [])).vars = [])
    (hW : DataW.Whole enc Tryz.prog f.params.toList s.vars false W args.toList ds [] before)
    (hb : Below W.heap.size W W') :
    s.post enc Tryz.prog f false true false false W args (.bool true) W' := by
  have hp : ∀ t ∈ f.params.toList, Tryz.prog.readableRec t = true ∧ t < Tryz.prog.types.size := fun t ht => by simpa using List.all_eq_true.1 hp0 t ht
  have hlt : ∀ p ∈ before, p.block < W.heap.size := fun p hp => hW.lt p hp
  have hold : ∀ p ∈ before, (fun b => decide (b < W.heap.size)) p.block = true := fun p hp => by simpa using hlt p hp
  have hWh := hW
  obtain ⟨p, q, hA, hV, rfl, hfz, _⟩ := hWh
  rw [hv] at hV
  obtain rfl : q = [] := hV
  rw [List.append_nil] at hlt hold
  have hA' : ∀ sp : Nat → Bool, (∀ x ∈ p, sp x.block = true) → DataW.TrodAll enc Tryz.prog W' 0 sp true f.params.toList args.toList ds p := fun sp hsp =>
    trodAll_stays hb _ _ _ _ hp hA hlt hsp
  rw [List.append_nil] at hW
  refine ⟨ds, [], p, [], p, [], hW, ?_, ?_, ?_, World.keptBut_mono (fun x hx => ⟨hx, ?_⟩) (hb.frame (· ∈ p)), fun h => by cases h⟩
  · rw [hres, hr1]
    exact trodAll_cons_mk (shut_bool Tryz.underlying4 _) trodAll_mk0
  · rw [hargs]
    exact hA' _ hold
  · rw [hvars, hv]
    rfl
  · simp [hx]
end
end
end Go.Proofs.YtebioddcnldjkaaGreat
