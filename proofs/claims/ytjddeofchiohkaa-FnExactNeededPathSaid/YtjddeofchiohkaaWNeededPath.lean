/- The walk of the law NeededPath. -/
import Derived.Test.YtjddeofchiohkaaLwR
import Derived.Test.YtjddeofchiohkaaFMkN
import Derived.Test.YtjddeofchiohkaaFToN
import Derived.Test.YtjddeofchiohkaaFEqN
import Derived.Test.YtjddeofchiohkaaFSz
import Derived.Deep.RegionHeld3
namespace Go.Proofs.Ytjddeofchiohkaa
open Go.RowKit
set_option linter.unusedVariables false
set_option linter.unusedSimpArgs false
set_option maxRecDepth 100000

set_option maxHeartbeats 8000000 in
theorem walk_NeededPath (w : World) (v0 : Value) (x : DNet) (R0 : RdT netRd w w.heap.size v0 x) (v1 : Value) (p : DPort) (R1 : RdT portRd w w.heap.size v1 p) :
    Calls Try.prog 12 #[v0, v1] w fun e w' => e = .returned (.bool true) ∧ Below w.heap.size w w' := by
  obtain ⟨a0A0, a0n0, a0c0, rfl⟩ : ∃ a0A0 a0n0 a0c0, v0 = .agg #[.slice a0A0 a0n0 a0c0] := by obtain ⟨cs, rfl, ⟨A0, n0, c0, rfl, _⟩⟩ := R0; exact ⟨A0, n0, c0, rfl⟩
  obtain rfl : v1 = .agg #[.int .i64 p.agent, .int .i64 p.slot] := by obtain ⟨cs, rfl, hcs⟩ := R1; rw [hcs]
  by_cases d0 : (szNet x : Int) ≤ 1048576
  case neg =>
    have T := Below.refl w.heap.size w
    have T : Below w.heap.size w (w.alloc (.cells #[.slice a0A0 a0n0 a0c0] 24)) := T.alloc (by first | exact Nat.le_refl _ | (simp; done) | (simp; omega)) _
    have B0 : Blk (w.alloc (.cells #[.slice a0A0 a0n0 a0c0] 24)) (w.heap.size) 24 #[.slice a0A0 a0n0 a0c0] := by have := Blk.new w 24 #[.slice a0A0 a0n0 a0c0]; simpa using this
    have zb0 : (w.alloc (.cells #[.slice a0A0 a0n0 a0c0] 24)).heap.size = w.heap.size + 1 := by simp
    have T : Below w.heap.size w ((w.alloc (.cells #[.slice a0A0 a0n0 a0c0] 24)).alloc (.cells #[.int .i64 p.agent, .int .i64 p.slot] 34)) := T.alloc (by first | exact Nat.le_refl _ | (simp; done) | (simp; omega)) _
    have B0 := B0.alloc (.cells #[.int .i64 p.agent, .int .i64 p.slot] 34)
    have B1 : Blk ((w.alloc (.cells #[.slice a0A0 a0n0 a0c0] 24)).alloc (.cells #[.int .i64 p.agent, .int .i64 p.slot] 34)) (w.heap.size + 1) 34 #[.int .i64 p.agent, .int .i64 p.slot] := by have := Blk.new (w.alloc (.cells #[.slice a0A0 a0n0 a0c0] 24)) 34 #[.int .i64 p.agent, .int .i64 p.slot]; simpa using this
    have zb1 : ((w.alloc (.cells #[.slice a0A0 a0n0 a0c0] 24)).alloc (.cells #[.int .i64 p.agent, .int .i64 p.slot] 34)).heap.size = w.heap.size + 1 + 1 := by simp
    go_enter Try.func12, Try.ntmps12
    go_wp2_with fail
    refine (szNet_v _ x (1048576) _ (R0.below netRd_ok T) T.size (by omega) (by omega)).mono ?_
    rw [szL_neg (by omega)]
    rintro e w1 ⟨rfl, b1⟩
    have z1 := b1.size
    have B0 := B0.below b1 (by omega)
    have B1 := B1.below b1 (by omega)
    have T := T.trans (b1.mono (by omega))
    have gB0 := B0.cell
    have gB1 := B1.cell
    go_wp2_with fail
    go_ret
    exact ⟨rfl, T⟩
  have s0 : szNet x ≤ 1048576 := by omega
  have sr := neededPath_len x p s0
  have q_r : eqL ((neededPath x p).1) ((neededPath x p).1) = true := decide_eq_true rfl
  have T := Below.refl w.heap.size w
  have T : Below w.heap.size w (w.alloc (.cells #[.slice a0A0 a0n0 a0c0] 24)) := T.alloc (by first | exact Nat.le_refl _ | (simp; done) | (simp; omega)) _
  have B0 : Blk (w.alloc (.cells #[.slice a0A0 a0n0 a0c0] 24)) (w.heap.size) 24 #[.slice a0A0 a0n0 a0c0] := by have := Blk.new w 24 #[.slice a0A0 a0n0 a0c0]; simpa using this
  have zb0 : (w.alloc (.cells #[.slice a0A0 a0n0 a0c0] 24)).heap.size = w.heap.size + 1 := by simp
  have T : Below w.heap.size w ((w.alloc (.cells #[.slice a0A0 a0n0 a0c0] 24)).alloc (.cells #[.int .i64 p.agent, .int .i64 p.slot] 34)) := T.alloc (by first | exact Nat.le_refl _ | (simp; done) | (simp; omega)) _
  have B0 := B0.alloc (.cells #[.int .i64 p.agent, .int .i64 p.slot] 34)
  have B1 : Blk ((w.alloc (.cells #[.slice a0A0 a0n0 a0c0] 24)).alloc (.cells #[.int .i64 p.agent, .int .i64 p.slot] 34)) (w.heap.size + 1) 34 #[.int .i64 p.agent, .int .i64 p.slot] := by have := Blk.new (w.alloc (.cells #[.slice a0A0 a0n0 a0c0] 24)) 34 #[.int .i64 p.agent, .int .i64 p.slot]; simpa using this
  have zb1 : ((w.alloc (.cells #[.slice a0A0 a0n0 a0c0] 24)).alloc (.cells #[.int .i64 p.agent, .int .i64 p.slot] 34)).heap.size = w.heap.size + 1 + 1 := by simp
  go_enter Try.func12, Try.ntmps12
  go_wp2_with fail
  refine (szNet_v _ x (1048576) _ (R0.below netRd_ok T) T.size (by omega) (by omega)).mono ?_
  rw [szL_pos (by omega)]
  rintro e w1 ⟨rfl, b1⟩
  have z1 := b1.size
  have B0 := B0.below b1 (by omega)
  have B1 := B1.below b1 (by omega)
  have T := T.trans (b1.mono (by omega))
  have gB0 := B0.cell
  have gB1 := B1.cell
  go_wp2_with fail
  have T := T.drew
  have B0 := B0.drew
  have B1 := B1.drew
  have zd2 : w1.drew.heap.size = w1.heap.size := rfl
  go_region_held3 (fun w' => w'.cell? ⟨w.heap.size, 0, none⟩ = some (.slice a0A0 a0n0 a0c0) ∧ w'.cell? ⟨w.heap.size + 1, 0, none⟩ = some (.int .i64 p.agent) ∧ w'.cell? ⟨w.heap.size + 1, 1, none⟩ = some (.int .i64 p.slot)) (exact ⟨gB0 0, gB1 0, gB1 1⟩) (first
    | (go_at_call 17; refine (toNet_v _ x _ (R0.below netRd_ok T) T.size s0).mono ?_; rintro e w3 ⟨⟨t1, rfl, p2⟩, b3⟩; have z3 := b3.size; have B0 := B0.below b3 (by omega); have B1 := B1.below b3 (by omega); have T := T.trans (b3.mono (by omega)); clear gB0; clear gB1; have gB0 := B0.cell; have gB1 := B1.cell)
    | (go_at_call 21; refine (toPort_v _ p _ (R1.below portRd_ok T)).mono ?_; rintro e w4 ⟨rfl, b4⟩; have z4 := b4.size; have B0 := B0.below b4 (by omega); have B1 := B1.below b4 (by omega); have p2 := p2.below netOw_ok b4 (by omega); have T := T.trans (b4.mono (by omega)); have p4 : OwT portOw w4 _ p w4.heap.size w4.heap.size := ⟨_, [], rfl, ⟨rfl, rfl⟩, List.nodup_nil, fun b hb => by simp at hb⟩; clear gB0; clear gB1; have gB0 := B0.cell; have gB1 := B1.cell)
    | (go_at_call 50; refine (specNeededPath_v _ _ x p _ (p2.reads (netOw_reads (w4).heap.size) (by omega)) (p4.reads (portOw_reads (w4).heap.size) (by omega)) (Nat.le_refl _) (Nat.le_refl _) s0).mono ?_; rintro e w5 ⟨⟨u6, rfl, G5⟩, b5⟩; have z5 := b5.size; have B0 := B0.below b5 (by omega); have B1 := B1.below b5 (by omega); have p2 := p2.below netOw_ok b5 (by omega); have p4 := p4.below portOw_ok b5 (by omega); have T := T.trans (b5.mono (by omega)); clear gB0; clear gB1; have gB0 := B0.cell; have gB1 := B1.cell; clear p2; clear p4))
  go_wp2_with fail
  refine (toNet_v _ x _ (R0.below netRd_ok T) T.size s0).mono ?_
  rintro e w6 ⟨⟨t7, rfl, p8⟩, b6⟩
  have z6 := b6.size
  have B0 := B0.below b6 (by omega)
  have B1 := B1.below b6 (by omega)
  have G5 := G5.below intOw_ok b6 (by omega)
  have T := T.trans (b6.mono (by omega))
  clear gB0
  clear gB1
  have gB0 := B0.cell
  have gB1 := B1.cell
  obtain ⟨l10A0, l10n0, l10c0, rfl⟩ : ∃ l10A0 l10n0 l10c0, t7 = .agg #[.slice l10A0 l10n0 l10c0] := by obtain ⟨cs, bs, rfl, ⟨A0, n0, c0, b0, rfl, _⟩, _⟩ := p8; exact ⟨A0, n0, c0, rfl⟩
  have b7 : Below w6.heap.size w6 (w6.alloc (.cells #[.slice l10A0 l10n0 l10c0] 29)) := (Below.refl _ _).alloc (Nat.le_refl _) _
  have z7 : (w6.alloc (.cells #[.slice l10A0 l10n0 l10c0] 29)).heap.size = w6.heap.size + 1 := World.size_alloc _ _
  have B0 := B0.below b7 (by omega)
  have B1 := B1.below b7 (by omega)
  have G5 := G5.below intOw_ok b7 (by omega)
  have p8 := p8.below netOw_ok b7 (by omega)
  have T := T.trans (b7.mono (by omega))
  have X9 : Blk (w6.alloc (.cells #[.slice l10A0 l10n0 l10c0] 29)) w6.heap.size 29 #[.slice l10A0 l10n0 l10c0] := Blk.new _ _ _
  clear gB0
  clear gB1
  have gB0 := B0.cell
  have gB1 := B1.cell
  have gX9 := X9.cell
  go_wp2_with fail
  have T := T.drew
  have B0 := B0.drew
  have B1 := B1.drew
  have X9 := X9.drew
  have G5 := G5.keep intOw_ok (w' := (w6.alloc (.cells #[.slice l10A0 l10n0 l10c0] 29)).drew) (fun _ _ _ => rfl)
  have p8 := p8.keep netOw_ok (w' := (w6.alloc (.cells #[.slice l10A0 l10n0 l10c0] 29)).drew) (fun _ _ _ => rfl)
  have zd8 : (w6.alloc (.cells #[.slice l10A0 l10n0 l10c0] 29)).drew.heap.size = (w6.alloc (.cells #[.slice l10A0 l10n0 l10c0] 29)).heap.size := rfl
  go_region_held3 (fun w' => w'.cell? ⟨w6.heap.size, 0, none⟩ = some (.slice l10A0 l10n0 l10c0) ∧ w'.cell? ⟨w.heap.size + 1, 0, none⟩ = some (.int .i64 p.agent) ∧ w'.cell? ⟨w.heap.size + 1, 1, none⟩ = some (.int .i64 p.slot)) (exact ⟨gX9 0, gB1 0, gB1 1⟩) (first
    | (go_at_call 21; refine (toPort_v _ p _ (R1.below portRd_ok T)).mono ?_; rintro e w9 ⟨rfl, b9⟩; have z9 := b9.size; have B0 := B0.below b9 (by omega); have B1 := B1.below b9 (by omega); have X9 := X9.below b9 (by omega); have G5 := G5.below intOw_ok b9 (by omega); have p8 := p8.below netOw_ok b9 (by omega); have T := T.trans (b9.mono (by omega)); have p12 : OwT portOw w9 _ p w9.heap.size w9.heap.size := ⟨_, [], rfl, ⟨rfl, rfl⟩, List.nodup_nil, fun b hb => by simp at hb⟩; clear gB0; clear gB1; clear gX9; have gB0 := B0.cell; have gB1 := B1.cell; have gX9 := X9.cell)
    | (go_at_call 51; refine (implNeededPath_v _ _ x p _ (p8.reads (netOw_reads (w9).heap.size) (by omega)) (p12.reads (portOw_reads (w9).heap.size) (by omega)) (Nat.le_refl _) (Nat.le_refl _) s0).mono ?_; rintro e w10 ⟨⟨u14, rfl, G13⟩, b10⟩; have z10 := b10.size; have B0 := B0.below b10 (by omega); have B1 := B1.below b10 (by omega); have X9 := X9.below b10 (by omega); have G5 := G5.below intOw_ok b10 (by omega); have p8 := p8.below netOw_ok b10 (by omega); have p12 := p12.below portOw_ok b10 (by omega); have T := T.trans (b10.mono (by omega)); clear gB0; clear gB1; clear gX9; have gB0 := B0.cell; have gB1 := B1.cell; have gX9 := X9.cell; clear p12))
  go_wp2_with fail
  refine (eqInt64S_v _ _ _ _ _ (G13.reads (intOw_reads (w10).heap.size) (by omega)) (G5.reads (intOw_reads (w10).heap.size) (by omega)) (Nat.le_refl _) (Nat.le_refl _)).mono ?_
  rintro e w11 ⟨rfl, b11⟩
  have z11 := b11.size
  have B0 := B0.below b11 (by omega)
  have B1 := B1.below b11 (by omega)
  have X9 := X9.below b11 (by omega)
  have G5 := G5.below intOw_ok b11 (by omega)
  have p8 := p8.below netOw_ok b11 (by omega)
  have G13 := G13.below intOw_ok b11 (by omega)
  have T := T.trans (b11.mono (by omega))
  clear gB0
  clear gB1
  clear gX9
  have gB0 := B0.cell
  have gB1 := B1.cell
  have gX9 := X9.cell
  go_wp2_with fail
  have T := T.drew
  have B0 := B0.drew
  have B1 := B1.drew
  have X9 := X9.drew
  have G5 := G5.keep intOw_ok (w' := w11.drew) (fun _ _ _ => rfl)
  have p8 := p8.keep netOw_ok (w' := w11.drew) (fun _ _ _ => rfl)
  have G13 := G13.keep intOw_ok (w' := w11.drew) (fun _ _ _ => rfl)
  have zd12 : w11.drew.heap.size = w11.heap.size := rfl
  go_region_held3 (fun w' => w'.cell? ⟨w6.heap.size, 0, none⟩ = some (.slice l10A0 l10n0 l10c0) ∧ w'.cell? ⟨w.heap.size, 0, none⟩ = some (.slice a0A0 a0n0 a0c0)) (exact ⟨gX9 0, gB0 0⟩) (first
    | (go_at_call 17; refine (toNet_v _ x _ (R0.below netRd_ok T) T.size s0).mono ?_; rintro e w13 ⟨⟨t15, rfl, p16⟩, b13⟩; have z13 := b13.size; have B0 := B0.below b13 (by omega); have B1 := B1.below b13 (by omega); have X9 := X9.below b13 (by omega); have G5 := G5.below intOw_ok b13 (by omega); have p8 := p8.below netOw_ok b13 (by omega); have G13 := G13.below intOw_ok b13 (by omega); have T := T.trans (b13.mono (by omega)); clear gB0; clear gB1; clear gX9; have gB0 := B0.cell; have gB1 := B1.cell; have gX9 := X9.cell)
    | (go_at_call 19; refine (eqNet_v _ _ _ _ _ (p8.reads (netOw_reads (w13).heap.size) (by omega)) (p16.reads (netOw_reads (w13).heap.size) (by omega)) (Nat.le_refl _) (Nat.le_refl _)).mono ?_; rintro e w14 ⟨rfl, b14⟩; have z14 := b14.size; have B0 := B0.below b14 (by omega); have B1 := B1.below b14 (by omega); have X9 := X9.below b14 (by omega); have G5 := G5.below intOw_ok b14 (by omega); have p8 := p8.below netOw_ok b14 (by omega); have G13 := G13.below intOw_ok b14 (by omega); have p16 := p16.below netOw_ok b14 (by omega); have T := T.trans (b14.mono (by omega)); clear gB0; clear gB1; clear gX9; have gB0 := B0.cell; have gB1 := B1.cell; have gX9 := X9.cell))
  go_wp2_with fail
  refine (markNet_v _ _ _ _ _ _ p8 (by omega) s0 (by omega) (by omega)).mono ?_
  rintro e w15 ⟨m17, rfl, wb15, b15, e15, b16⟩
  clear p8
  have z15 := b15.size
  have B0 := B0.below b15 (by omega)
  have B1 := B1.below b15 (by omega)
  have X9 := X9.below b15 (by omega)
  have G5 := G5.below intOw_ok b15 (by omega)
  have G13 := G13.below intOw_ok b15 (by omega)
  have p16 := p16.below netOw_ok b15 (by omega)
  have T := T.trans (b15.mono (by omega))
  have z16 := Nat.le_of_eq e15
  have y16 := Nat.le_of_eq e15.symm
  have B0 := B0.only b16 (by omega)
  have B1 := B1.only b16 (by omega)
  have X9 := X9.only b16 (by omega)
  have G5 := G5.only intOw_ok b16 (by omega)
  have G13 := G13.only intOw_ok b16 (by omega)
  have p16 := p16.only netOw_ok b16 (by omega)
  have T := T.trans (b16.below.mono (by omega))
  have hm17 : decide ((m17 : Int) < 0) = false := by simp
  clear gB0
  clear gB1
  clear gX9
  have gB0 := B0.cell
  have gB1 := B1.cell
  have gX9 := X9.cell
  go_wp2_with fail
  refine (eqInt64S_v _ _ _ _ _ (G13.reads (intOw_reads (w15).heap.size) (by omega)) (G5.reads (intOw_reads (w15).heap.size) (by omega)) (Nat.le_refl _) (Nat.le_refl _)).mono ?_
  rintro e w17 ⟨rfl, b17⟩
  have z17 := b17.size
  have B0 := B0.below b17 (by omega)
  have B1 := B1.below b17 (by omega)
  have X9 := X9.below b17 (by omega)
  have G5 := G5.below intOw_ok b17 (by omega)
  have G13 := G13.below intOw_ok b17 (by omega)
  have p16 := p16.below netOw_ok b17 (by omega)
  have T := T.trans (b17.mono (by omega))
  clear gB0
  clear gB1
  clear gX9
  have gB0 := B0.cell
  have gB1 := B1.cell
  have gX9 := X9.cell
  go_wp2_with fail
  refine (markInt64S_v _ _ _ _ _ _ G13 sr (by omega) (by omega)).mono ?_
  rintro e w18 ⟨rfl, G13, b18⟩
  have z18 := Nat.le_of_eq b18.size
  have y18 := Nat.le_of_eq b18.size.symm
  have B0 := B0.only b18 (by omega)
  have B1 := B1.only b18 (by omega)
  have X9 := X9.only b18 (by omega)
  have G5 := G5.only intOw_ok b18 (by omega)
  have p16 := p16.only netOw_ok b18 (by omega)
  have T := T.trans (b18.below.mono (by omega))
  clear gB0
  clear gB1
  clear gX9
  have gB0 := B0.cell
  have gB1 := B1.cell
  have gX9 := X9.cell
  go_wp2_with fail
  refine (heldInt64S_v _ (neededPath x p).1 _ _ (G13.reads (intOw_reads (w18).heap.size) (by omega)) sr (by omega) (by omega)).mono ?_
  rintro e w19 ⟨rfl, b19⟩
  have z19 := b19.size
  have B0 := B0.below b19 (by omega)
  have B1 := B1.below b19 (by omega)
  have X9 := X9.below b19 (by omega)
  have G5 := G5.below intOw_ok b19 (by omega)
  have G13 := G13.below intOw_ok b19 (by omega)
  have p16 := p16.below netOw_ok b19 (by omega)
  have T := T.trans (b19.mono (by omega))
  clear gB0
  clear gB1
  clear gX9
  have gB0 := B0.cell
  have gB1 := B1.cell
  have gX9 := X9.cell
  go_wp2_with fail
  have T := T.drew
  have B0 := B0.drew
  have B1 := B1.drew
  have X9 := X9.drew
  have G5 := G5.keep intOw_ok (w' := w19.drew) (fun _ _ _ => rfl)
  have G13 := G13.keep intOw_ok (w' := w19.drew) (fun _ _ _ => rfl)
  have p16 := p16.keep netOw_ok (w' := w19.drew) (fun _ _ _ => rfl)
  have zd20 : w19.drew.heap.size = w19.heap.size := rfl
  go_region_held3 (fun w' => w'.cell? ⟨w.heap.size, 0, none⟩ = some (.slice a0A0 a0n0 a0c0) ∧ w'.cell? ⟨w.heap.size + 1, 0, none⟩ = some (.int .i64 p.agent) ∧ w'.cell? ⟨w.heap.size + 1, 1, none⟩ = some (.int .i64 p.slot)) (exact ⟨gB0 0, gB1 0, gB1 1⟩) (first
    | (go_at_call 17; refine (toNet_v _ x _ (R0.below netRd_ok T) T.size s0).mono ?_; rintro e w21 ⟨⟨t18, rfl, p19⟩, b21⟩; have z21 := b21.size; have B0 := B0.below b21 (by omega); have B1 := B1.below b21 (by omega); have X9 := X9.below b21 (by omega); have G5 := G5.below intOw_ok b21 (by omega); have G13 := G13.below intOw_ok b21 (by omega); have p16 := p16.below netOw_ok b21 (by omega); have T := T.trans (b21.mono (by omega)); clear gB0; clear gB1; clear gX9; have gB0 := B0.cell; have gB1 := B1.cell; have gX9 := X9.cell)
    | (go_at_call 21; refine (toPort_v _ p _ (R1.below portRd_ok T)).mono ?_; rintro e w22 ⟨rfl, b22⟩; have z22 := b22.size; have B0 := B0.below b22 (by omega); have B1 := B1.below b22 (by omega); have X9 := X9.below b22 (by omega); have G5 := G5.below intOw_ok b22 (by omega); have G13 := G13.below intOw_ok b22 (by omega); have p16 := p16.below netOw_ok b22 (by omega); have p19 := p19.below netOw_ok b22 (by omega); have T := T.trans (b22.mono (by omega)); have p21 : OwT portOw w22 _ p w22.heap.size w22.heap.size := ⟨_, [], rfl, ⟨rfl, rfl⟩, List.nodup_nil, fun b hb => by simp at hb⟩; clear gB0; clear gB1; clear gX9; have gB0 := B0.cell; have gB1 := B1.cell; have gX9 := X9.cell)
    | (go_at_call 51; refine (implNeededPath_v _ _ x p _ (p19.reads (netOw_reads (w22).heap.size) (by omega)) (p21.reads (portOw_reads (w22).heap.size) (by omega)) (Nat.le_refl _) (Nat.le_refl _) s0).mono ?_; rintro e w23 ⟨⟨u23, rfl, G22⟩, b23⟩; have z23 := b23.size; have B0 := B0.below b23 (by omega); have B1 := B1.below b23 (by omega); have X9 := X9.below b23 (by omega); have G5 := G5.below intOw_ok b23 (by omega); have G13 := G13.below intOw_ok b23 (by omega); have p16 := p16.below netOw_ok b23 (by omega); have p19 := p19.below netOw_ok b23 (by omega); have p21 := p21.below portOw_ok b23 (by omega); have T := T.trans (b23.mono (by omega)); clear gB0; clear gB1; clear gX9; have gB0 := B0.cell; have gB1 := B1.cell; have gX9 := X9.cell; clear p19; clear p21))
  go_wp2_with fail
  refine (eqInt64S_v _ _ _ _ _ (G22.reads (intOw_reads (w23).heap.size) (by omega)) (G5.reads (intOw_reads (w23).heap.size) (by omega)) (Nat.le_refl _) (Nat.le_refl _)).mono ?_
  rintro e w24 ⟨rfl, b24⟩
  have z24 := b24.size
  have B0 := B0.below b24 (by omega)
  have B1 := B1.below b24 (by omega)
  have X9 := X9.below b24 (by omega)
  have G5 := G5.below intOw_ok b24 (by omega)
  have G13 := G13.below intOw_ok b24 (by omega)
  have p16 := p16.below netOw_ok b24 (by omega)
  have G22 := G22.below intOw_ok b24 (by omega)
  have T := T.trans (b24.mono (by omega))
  clear gB0
  clear gB1
  clear gX9
  have gB0 := B0.cell
  have gB1 := B1.cell
  have gX9 := X9.cell
  go_wp2_with fail
  refine (heldInt64S_v _ (neededPath x p).1 _ _ (G13.reads (intOw_reads (w24).heap.size) (by omega)) sr (by omega) (by omega)).mono ?_
  rintro e w25 ⟨rfl, b25⟩
  have z25 := b25.size
  have B0 := B0.below b25 (by omega)
  have B1 := B1.below b25 (by omega)
  have X9 := X9.below b25 (by omega)
  have G5 := G5.below intOw_ok b25 (by omega)
  have G13 := G13.below intOw_ok b25 (by omega)
  have p16 := p16.below netOw_ok b25 (by omega)
  have G22 := G22.below intOw_ok b25 (by omega)
  have T := T.trans (b25.mono (by omega))
  clear gB0
  clear gB1
  clear gX9
  have gB0 := B0.cell
  have gB1 := B1.cell
  have gX9 := X9.cell
  go_wp2_with fail
  go_ret
  exact ⟨rfl, T⟩

end Go.Proofs.Ytjddeofchiohkaa
