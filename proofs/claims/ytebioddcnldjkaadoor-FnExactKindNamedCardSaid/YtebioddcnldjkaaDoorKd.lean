/- The kind with a name. -/
import Derived.Test.YtebioddcnldjkaaDoorKn
namespace Go.Proofs.YtebioddcnldjkaaDoor
open Go.RowKit
set_option linter.unusedVariables false
set_option linter.unusedSimpArgs false
def kindNamed (s : ByteArray) : Int :=
  if s = kindName 1 then 1 else if s = kindName 2 then 2 else if s = kindName 3 then 3 else if s = kindName 4 then 4 else if s = kindName 5 then 5 else if s = kindName 6 then 6 else if s = kindName 7 then 7 else if s = kindName 8 then 8 else if s = kindName 9 then 9 else if s = kindName 10 then 10 else if s = kindName 11 then 11 else if s = kindName 12 then 12 else 0
def NoKind (s : ByteArray) (k : Nat) : Prop := ∀ j : Nat, j < k → s ≠ kindName ((j : Int) + 1)
theorem NoKind.step {s : ByteArray} {k : Nat} (h : NoKind s k) (hk : s ≠ kindName ((k : Int) + 1)) : NoKind s (k + 1) := fun j hj => by
  by_cases he : j = k
  · subst he; exact hk
  · exact h j (by omega)
theorem kindNamed_none {s : ByteArray} (h : NoKind s 12) : kindNamed s = 0 := by
  unfold kindNamed
  rw [if_neg (show ¬ (s = kindName 1) from h 0 (by decide)), if_neg (show ¬ (s = kindName 2) from h 1 (by decide)), if_neg (show ¬ (s = kindName 3) from h 2 (by decide)), if_neg (show ¬ (s = kindName 4) from h 3 (by decide)), if_neg (show ¬ (s = kindName 5) from h 4 (by decide)), if_neg (show ¬ (s = kindName 6) from h 5 (by decide)), if_neg (show ¬ (s = kindName 7) from h 6 (by decide)), if_neg (show ¬ (s = kindName 8) from h 7 (by decide)), if_neg (show ¬ (s = kindName 9) from h 8 (by decide)), if_neg (show ¬ (s = kindName 10) from h 9 (by decide)), if_neg (show ¬ (s = kindName 11) from h 10 (by decide)), if_neg (show ¬ (s = kindName 12) from h 11 (by decide))]
theorem str_ne {a b : ByteArray} (h : ¬ (a = b)) : (a.toList == b.toList) = false := by
  rw [beq_eq_false_iff_ne]
  intro e
  rw [ByteArray.toList_eq, ByteArray.toList_eq] at e
  exact h (Go.WideShapes.bytes_inj e)
theorem kindNamed_at : ∀ k : Nat, k < 12 → kindNamed (kindName ((k : Int) + 1)) = (k : Int) + 1 := by decide

set_option maxHeartbeats 4000000 in
set_option maxRecDepth 100000 in
theorem impl_KindNamed (s : ByteArray) (w : World) (hg : KindsAt w) : Calls Tryd.prog 8 #[.string s] w fun e w' => e = .returned (.int .i64 (kindNamed s)) ∧ Below w.heap.size w w' := by
  have hr := Below.refl w.heap.size w
  obtain ⟨g1, g2, g3, g4, g5, g6, g7, g8, g9, g10, g11, g12⟩ := kinds_all hg
  clear hg
  go_enter Tryd.func8, Tryd.ntmps8
  go_wp2_with fail
  go_loop [3, 4, 6] (fun a b i => ∃ k : Nat, k ≤ 12 ∧ i = .int .i64 k ∧ Hid (NoKind s k)) (fun _ _ i => 12 - (intOf i).toNat)
  case atStart => exact ⟨0, by omega, rfl, fun j hj => absurd hj (Nat.not_lt_zero j)⟩
  case round =>
    obtain ⟨k, hk, rfl, hf⟩ := hrel
    by_cases hlt : k < 12
    · have hk : k = 0 ∨ k = 1 ∨ k = 2 ∨ k = 3 ∨ k = 4 ∨ k = 5 ∨ k = 6 ∨ k = 7 ∨ k = 8 ∨ k = 9 ∨ k = 10 ∨ k = 11 := by omega
      rcases hk with rfl | rfl | rfl | rfl | rfl | rfl | rfl | rfl | rfl | rfl | rfl | rfl
      · have hx : (Instr.index 28 (.agg #[.string (kindName 1), .string (kindName 2), .string (kindName 3), .string (kindName 4), .string (kindName 5), .string (kindName 6), .string (kindName 7), .string (kindName 8), .string (kindName 9), .string (kindName 10), .string (kindName 11), .string (kindName 12)]) (.int .i64 0)).run Tryd.prog w = .ok (.string (kindName 1)) w := by kernel_rfl
        by_cases hs : kindName 1 = s
        · subst hs
          have He := Lib.hid (kindNamed_at 0 (by decide))
          clear hf
          go_wp2
          go_ret
          exact ⟨by rw [show kindNamed (kindName 1) = 1 from He.out]; rfl, hr⟩
        · have Hs := Lib.hid (NoKind.step hf.out (k := 0) (fun h => hs h.symm))
          have Hq := str_ne hs
          clear hf hs
          go_wp2
          go_round
          case rel => exact ⟨1, by omega, by go_num, Hs.out⟩
          case measure => simp [intOf]
      · have hx : (Instr.index 28 (.agg #[.string (kindName 1), .string (kindName 2), .string (kindName 3), .string (kindName 4), .string (kindName 5), .string (kindName 6), .string (kindName 7), .string (kindName 8), .string (kindName 9), .string (kindName 10), .string (kindName 11), .string (kindName 12)]) (.int .i64 1)).run Tryd.prog w = .ok (.string (kindName 2)) w := by kernel_rfl
        by_cases hs : kindName 2 = s
        · subst hs
          have He := Lib.hid (kindNamed_at 1 (by decide))
          clear hf
          go_wp2
          go_ret
          exact ⟨by rw [show kindNamed (kindName 2) = 2 from He.out]; rfl, hr⟩
        · have Hs := Lib.hid (NoKind.step hf.out (k := 1) (fun h => hs h.symm))
          have Hq := str_ne hs
          clear hf hs
          go_wp2
          go_round
          case rel => exact ⟨2, by omega, by go_num, Hs.out⟩
          case measure => simp [intOf]
      · have hx : (Instr.index 28 (.agg #[.string (kindName 1), .string (kindName 2), .string (kindName 3), .string (kindName 4), .string (kindName 5), .string (kindName 6), .string (kindName 7), .string (kindName 8), .string (kindName 9), .string (kindName 10), .string (kindName 11), .string (kindName 12)]) (.int .i64 2)).run Tryd.prog w = .ok (.string (kindName 3)) w := by kernel_rfl
        by_cases hs : kindName 3 = s
        · subst hs
          have He := Lib.hid (kindNamed_at 2 (by decide))
          clear hf
          go_wp2
          go_ret
          exact ⟨by rw [show kindNamed (kindName 3) = 3 from He.out]; rfl, hr⟩
        · have Hs := Lib.hid (NoKind.step hf.out (k := 2) (fun h => hs h.symm))
          have Hq := str_ne hs
          clear hf hs
          go_wp2
          go_round
          case rel => exact ⟨3, by omega, by go_num, Hs.out⟩
          case measure => simp [intOf]
      · have hx : (Instr.index 28 (.agg #[.string (kindName 1), .string (kindName 2), .string (kindName 3), .string (kindName 4), .string (kindName 5), .string (kindName 6), .string (kindName 7), .string (kindName 8), .string (kindName 9), .string (kindName 10), .string (kindName 11), .string (kindName 12)]) (.int .i64 3)).run Tryd.prog w = .ok (.string (kindName 4)) w := by kernel_rfl
        by_cases hs : kindName 4 = s
        · subst hs
          have He := Lib.hid (kindNamed_at 3 (by decide))
          clear hf
          go_wp2
          go_ret
          exact ⟨by rw [show kindNamed (kindName 4) = 4 from He.out]; rfl, hr⟩
        · have Hs := Lib.hid (NoKind.step hf.out (k := 3) (fun h => hs h.symm))
          have Hq := str_ne hs
          clear hf hs
          go_wp2
          go_round
          case rel => exact ⟨4, by omega, by go_num, Hs.out⟩
          case measure => simp [intOf]
      · have hx : (Instr.index 28 (.agg #[.string (kindName 1), .string (kindName 2), .string (kindName 3), .string (kindName 4), .string (kindName 5), .string (kindName 6), .string (kindName 7), .string (kindName 8), .string (kindName 9), .string (kindName 10), .string (kindName 11), .string (kindName 12)]) (.int .i64 4)).run Tryd.prog w = .ok (.string (kindName 5)) w := by kernel_rfl
        by_cases hs : kindName 5 = s
        · subst hs
          have He := Lib.hid (kindNamed_at 4 (by decide))
          clear hf
          go_wp2
          go_ret
          exact ⟨by rw [show kindNamed (kindName 5) = 5 from He.out]; rfl, hr⟩
        · have Hs := Lib.hid (NoKind.step hf.out (k := 4) (fun h => hs h.symm))
          have Hq := str_ne hs
          clear hf hs
          go_wp2
          go_round
          case rel => exact ⟨5, by omega, by go_num, Hs.out⟩
          case measure => simp [intOf]
      · have hx : (Instr.index 28 (.agg #[.string (kindName 1), .string (kindName 2), .string (kindName 3), .string (kindName 4), .string (kindName 5), .string (kindName 6), .string (kindName 7), .string (kindName 8), .string (kindName 9), .string (kindName 10), .string (kindName 11), .string (kindName 12)]) (.int .i64 5)).run Tryd.prog w = .ok (.string (kindName 6)) w := by kernel_rfl
        by_cases hs : kindName 6 = s
        · subst hs
          have He := Lib.hid (kindNamed_at 5 (by decide))
          clear hf
          go_wp2
          go_ret
          exact ⟨by rw [show kindNamed (kindName 6) = 6 from He.out]; rfl, hr⟩
        · have Hs := Lib.hid (NoKind.step hf.out (k := 5) (fun h => hs h.symm))
          have Hq := str_ne hs
          clear hf hs
          go_wp2
          go_round
          case rel => exact ⟨6, by omega, by go_num, Hs.out⟩
          case measure => simp [intOf]
      · have hx : (Instr.index 28 (.agg #[.string (kindName 1), .string (kindName 2), .string (kindName 3), .string (kindName 4), .string (kindName 5), .string (kindName 6), .string (kindName 7), .string (kindName 8), .string (kindName 9), .string (kindName 10), .string (kindName 11), .string (kindName 12)]) (.int .i64 6)).run Tryd.prog w = .ok (.string (kindName 7)) w := by kernel_rfl
        by_cases hs : kindName 7 = s
        · subst hs
          have He := Lib.hid (kindNamed_at 6 (by decide))
          clear hf
          go_wp2
          go_ret
          exact ⟨by rw [show kindNamed (kindName 7) = 7 from He.out]; rfl, hr⟩
        · have Hs := Lib.hid (NoKind.step hf.out (k := 6) (fun h => hs h.symm))
          have Hq := str_ne hs
          clear hf hs
          go_wp2
          go_round
          case rel => exact ⟨7, by omega, by go_num, Hs.out⟩
          case measure => simp [intOf]
      · have hx : (Instr.index 28 (.agg #[.string (kindName 1), .string (kindName 2), .string (kindName 3), .string (kindName 4), .string (kindName 5), .string (kindName 6), .string (kindName 7), .string (kindName 8), .string (kindName 9), .string (kindName 10), .string (kindName 11), .string (kindName 12)]) (.int .i64 7)).run Tryd.prog w = .ok (.string (kindName 8)) w := by kernel_rfl
        by_cases hs : kindName 8 = s
        · subst hs
          have He := Lib.hid (kindNamed_at 7 (by decide))
          clear hf
          go_wp2
          go_ret
          exact ⟨by rw [show kindNamed (kindName 8) = 8 from He.out]; rfl, hr⟩
        · have Hs := Lib.hid (NoKind.step hf.out (k := 7) (fun h => hs h.symm))
          have Hq := str_ne hs
          clear hf hs
          go_wp2
          go_round
          case rel => exact ⟨8, by omega, by go_num, Hs.out⟩
          case measure => simp [intOf]
      · have hx : (Instr.index 28 (.agg #[.string (kindName 1), .string (kindName 2), .string (kindName 3), .string (kindName 4), .string (kindName 5), .string (kindName 6), .string (kindName 7), .string (kindName 8), .string (kindName 9), .string (kindName 10), .string (kindName 11), .string (kindName 12)]) (.int .i64 8)).run Tryd.prog w = .ok (.string (kindName 9)) w := by kernel_rfl
        by_cases hs : kindName 9 = s
        · subst hs
          have He := Lib.hid (kindNamed_at 8 (by decide))
          clear hf
          go_wp2
          go_ret
          exact ⟨by rw [show kindNamed (kindName 9) = 9 from He.out]; rfl, hr⟩
        · have Hs := Lib.hid (NoKind.step hf.out (k := 8) (fun h => hs h.symm))
          have Hq := str_ne hs
          clear hf hs
          go_wp2
          go_round
          case rel => exact ⟨9, by omega, by go_num, Hs.out⟩
          case measure => simp [intOf]
      · have hx : (Instr.index 28 (.agg #[.string (kindName 1), .string (kindName 2), .string (kindName 3), .string (kindName 4), .string (kindName 5), .string (kindName 6), .string (kindName 7), .string (kindName 8), .string (kindName 9), .string (kindName 10), .string (kindName 11), .string (kindName 12)]) (.int .i64 9)).run Tryd.prog w = .ok (.string (kindName 10)) w := by kernel_rfl
        by_cases hs : kindName 10 = s
        · subst hs
          have He := Lib.hid (kindNamed_at 9 (by decide))
          clear hf
          go_wp2
          go_ret
          exact ⟨by rw [show kindNamed (kindName 10) = 10 from He.out]; rfl, hr⟩
        · have Hs := Lib.hid (NoKind.step hf.out (k := 9) (fun h => hs h.symm))
          have Hq := str_ne hs
          clear hf hs
          go_wp2
          go_round
          case rel => exact ⟨10, by omega, by go_num, Hs.out⟩
          case measure => simp [intOf]
      · have hx : (Instr.index 28 (.agg #[.string (kindName 1), .string (kindName 2), .string (kindName 3), .string (kindName 4), .string (kindName 5), .string (kindName 6), .string (kindName 7), .string (kindName 8), .string (kindName 9), .string (kindName 10), .string (kindName 11), .string (kindName 12)]) (.int .i64 10)).run Tryd.prog w = .ok (.string (kindName 11)) w := by kernel_rfl
        by_cases hs : kindName 11 = s
        · subst hs
          have He := Lib.hid (kindNamed_at 10 (by decide))
          clear hf
          go_wp2
          go_ret
          exact ⟨by rw [show kindNamed (kindName 11) = 11 from He.out]; rfl, hr⟩
        · have Hs := Lib.hid (NoKind.step hf.out (k := 10) (fun h => hs h.symm))
          have Hq := str_ne hs
          clear hf hs
          go_wp2
          go_round
          case rel => exact ⟨11, by omega, by go_num, Hs.out⟩
          case measure => simp [intOf]
      · have hx : (Instr.index 28 (.agg #[.string (kindName 1), .string (kindName 2), .string (kindName 3), .string (kindName 4), .string (kindName 5), .string (kindName 6), .string (kindName 7), .string (kindName 8), .string (kindName 9), .string (kindName 10), .string (kindName 11), .string (kindName 12)]) (.int .i64 11)).run Tryd.prog w = .ok (.string (kindName 12)) w := by kernel_rfl
        by_cases hs : kindName 12 = s
        · subst hs
          have He := Lib.hid (kindNamed_at 11 (by decide))
          clear hf
          go_wp2
          go_ret
          exact ⟨by rw [show kindNamed (kindName 12) = 12 from He.out]; rfl, hr⟩
        · have Hs := Lib.hid (NoKind.step hf.out (k := 11) (fun h => hs h.symm))
          have Hq := str_ne hs
          clear hf hs
          go_wp2
          go_round
          case rel => exact ⟨12, by omega, by go_num, Hs.out⟩
          case measure => simp [intOf]
    · have He : Hid (kindNamed s = 0) := by
        have hk : k = 12 := by omega
        subst hk
        exact kindNamed_none hf.out
      go_wp2
      go_ret
      exact ⟨by rw [He.out]; rfl, hr⟩

set_option maxHeartbeats 4000000 in
set_option maxRecDepth 100000 in
theorem spec_KindNamed (s : ByteArray) (w : World) : Calls Tryd.prog 7 #[.string s] w fun e w' => e = .returned (.int .i64 (kindNamed s)) ∧ Below w.heap.size w w' := by
  have hr : Below w.heap.size w (w.alloc (.cells kindCells 9)) := (Below.refl _ _).alloc (Nat.le_refl _) _
  go_enter Tryd.func7, Tryd.ntmps7
  go_wp2_with fail
  refine (spec_l10Kinds _).mono ?_
  rintro e w' ⟨rfl, rfl⟩
  simp only [kindCells] at hr ⊢
  go_wp2_with fail
  go_loop [4] (fun i => ∃ k : Nat, k ≤ 12 ∧ i = .int .i64 k ∧ Hid (NoKind s k)) (fun i => 12 - (intOf i).toNat)
  case atStart => exact ⟨0, by omega, rfl, fun j hj => absurd hj (Nat.not_lt_zero j)⟩
  case round =>
    obtain ⟨k, hk, rfl, hf⟩ := hrel
    by_cases hlt : k < 12
    · have hk : k = 0 ∨ k = 1 ∨ k = 2 ∨ k = 3 ∨ k = 4 ∨ k = 5 ∨ k = 6 ∨ k = 7 ∨ k = 8 ∨ k = 9 ∨ k = 10 ∨ k = 11 := by omega
      rcases hk with rfl | rfl | rfl | rfl | rfl | rfl | rfl | rfl | rfl | rfl | rfl | rfl
      · by_cases hs : kindName 1 = s
        · subst hs
          have He := Lib.hid (kindNamed_at 0 (by decide))
          clear hf
          go_wp2
          go_ret
          exact ⟨by rw [show kindNamed (kindName 1) = 1 from He.out]; rfl, hr⟩
        · have Hs := Lib.hid (NoKind.step hf.out (k := 0) (fun h => hs h.symm))
          have Hq := str_ne hs
          clear hf hs
          go_wp2
          go_round
          case rel => exact ⟨1, by omega, by go_num, Hs.out⟩
          case measure => simp [intOf]
      · by_cases hs : kindName 2 = s
        · subst hs
          have He := Lib.hid (kindNamed_at 1 (by decide))
          clear hf
          go_wp2
          go_ret
          exact ⟨by rw [show kindNamed (kindName 2) = 2 from He.out]; rfl, hr⟩
        · have Hs := Lib.hid (NoKind.step hf.out (k := 1) (fun h => hs h.symm))
          have Hq := str_ne hs
          clear hf hs
          go_wp2
          go_round
          case rel => exact ⟨2, by omega, by go_num, Hs.out⟩
          case measure => simp [intOf]
      · by_cases hs : kindName 3 = s
        · subst hs
          have He := Lib.hid (kindNamed_at 2 (by decide))
          clear hf
          go_wp2
          go_ret
          exact ⟨by rw [show kindNamed (kindName 3) = 3 from He.out]; rfl, hr⟩
        · have Hs := Lib.hid (NoKind.step hf.out (k := 2) (fun h => hs h.symm))
          have Hq := str_ne hs
          clear hf hs
          go_wp2
          go_round
          case rel => exact ⟨3, by omega, by go_num, Hs.out⟩
          case measure => simp [intOf]
      · by_cases hs : kindName 4 = s
        · subst hs
          have He := Lib.hid (kindNamed_at 3 (by decide))
          clear hf
          go_wp2
          go_ret
          exact ⟨by rw [show kindNamed (kindName 4) = 4 from He.out]; rfl, hr⟩
        · have Hs := Lib.hid (NoKind.step hf.out (k := 3) (fun h => hs h.symm))
          have Hq := str_ne hs
          clear hf hs
          go_wp2
          go_round
          case rel => exact ⟨4, by omega, by go_num, Hs.out⟩
          case measure => simp [intOf]
      · by_cases hs : kindName 5 = s
        · subst hs
          have He := Lib.hid (kindNamed_at 4 (by decide))
          clear hf
          go_wp2
          go_ret
          exact ⟨by rw [show kindNamed (kindName 5) = 5 from He.out]; rfl, hr⟩
        · have Hs := Lib.hid (NoKind.step hf.out (k := 4) (fun h => hs h.symm))
          have Hq := str_ne hs
          clear hf hs
          go_wp2
          go_round
          case rel => exact ⟨5, by omega, by go_num, Hs.out⟩
          case measure => simp [intOf]
      · by_cases hs : kindName 6 = s
        · subst hs
          have He := Lib.hid (kindNamed_at 5 (by decide))
          clear hf
          go_wp2
          go_ret
          exact ⟨by rw [show kindNamed (kindName 6) = 6 from He.out]; rfl, hr⟩
        · have Hs := Lib.hid (NoKind.step hf.out (k := 5) (fun h => hs h.symm))
          have Hq := str_ne hs
          clear hf hs
          go_wp2
          go_round
          case rel => exact ⟨6, by omega, by go_num, Hs.out⟩
          case measure => simp [intOf]
      · by_cases hs : kindName 7 = s
        · subst hs
          have He := Lib.hid (kindNamed_at 6 (by decide))
          clear hf
          go_wp2
          go_ret
          exact ⟨by rw [show kindNamed (kindName 7) = 7 from He.out]; rfl, hr⟩
        · have Hs := Lib.hid (NoKind.step hf.out (k := 6) (fun h => hs h.symm))
          have Hq := str_ne hs
          clear hf hs
          go_wp2
          go_round
          case rel => exact ⟨7, by omega, by go_num, Hs.out⟩
          case measure => simp [intOf]
      · by_cases hs : kindName 8 = s
        · subst hs
          have He := Lib.hid (kindNamed_at 7 (by decide))
          clear hf
          go_wp2
          go_ret
          exact ⟨by rw [show kindNamed (kindName 8) = 8 from He.out]; rfl, hr⟩
        · have Hs := Lib.hid (NoKind.step hf.out (k := 7) (fun h => hs h.symm))
          have Hq := str_ne hs
          clear hf hs
          go_wp2
          go_round
          case rel => exact ⟨8, by omega, by go_num, Hs.out⟩
          case measure => simp [intOf]
      · by_cases hs : kindName 9 = s
        · subst hs
          have He := Lib.hid (kindNamed_at 8 (by decide))
          clear hf
          go_wp2
          go_ret
          exact ⟨by rw [show kindNamed (kindName 9) = 9 from He.out]; rfl, hr⟩
        · have Hs := Lib.hid (NoKind.step hf.out (k := 8) (fun h => hs h.symm))
          have Hq := str_ne hs
          clear hf hs
          go_wp2
          go_round
          case rel => exact ⟨9, by omega, by go_num, Hs.out⟩
          case measure => simp [intOf]
      · by_cases hs : kindName 10 = s
        · subst hs
          have He := Lib.hid (kindNamed_at 9 (by decide))
          clear hf
          go_wp2
          go_ret
          exact ⟨by rw [show kindNamed (kindName 10) = 10 from He.out]; rfl, hr⟩
        · have Hs := Lib.hid (NoKind.step hf.out (k := 9) (fun h => hs h.symm))
          have Hq := str_ne hs
          clear hf hs
          go_wp2
          go_round
          case rel => exact ⟨10, by omega, by go_num, Hs.out⟩
          case measure => simp [intOf]
      · by_cases hs : kindName 11 = s
        · subst hs
          have He := Lib.hid (kindNamed_at 10 (by decide))
          clear hf
          go_wp2
          go_ret
          exact ⟨by rw [show kindNamed (kindName 11) = 11 from He.out]; rfl, hr⟩
        · have Hs := Lib.hid (NoKind.step hf.out (k := 10) (fun h => hs h.symm))
          have Hq := str_ne hs
          clear hf hs
          go_wp2
          go_round
          case rel => exact ⟨11, by omega, by go_num, Hs.out⟩
          case measure => simp [intOf]
      · by_cases hs : kindName 12 = s
        · subst hs
          have He := Lib.hid (kindNamed_at 11 (by decide))
          clear hf
          go_wp2
          go_ret
          exact ⟨by rw [show kindNamed (kindName 12) = 12 from He.out]; rfl, hr⟩
        · have Hs := Lib.hid (NoKind.step hf.out (k := 11) (fun h => hs h.symm))
          have Hq := str_ne hs
          clear hf hs
          go_wp2
          go_round
          case rel => exact ⟨12, by omega, by go_num, Hs.out⟩
          case measure => simp [intOf]
    · have He : Hid (kindNamed s = 0) := by
        have hk : k = 12 := by omega
        subst hk
        exact kindNamed_none hf.out
      go_wp2
      go_ret
      exact ⟨by rw [He.out]; rfl, hr⟩

theorem walk_KindNamed (w : World) (s : ByteArray) (hg : KindsAt w) : Calls Tryd.prog 4 #[.string s] w fun e w' => e = .returned (.bool true) ∧ Below w.heap.size w w' := by
  have Hg := Lib.hid hg
  clear hg
  have hr := Below.refl w.heap.size w
  by_cases hl : (s.size : Int) > 1048576
  · go_enter Tryd.func4, Tryd.ntmps4
    go_wp2
    go_ret
    exact ⟨rfl, hr⟩
  · go_enter Tryd.func4, Tryd.ntmps4
    go_wp2_with fail
    refine (spec_KindNamed _ _).mono ?_
    rintro e w1 ⟨rfl, hb1⟩
    go_wp2_with fail
    refine (impl_KindNamed _ _ (Hg.out.below hb1)).mono ?_
    rintro e w2 ⟨rfl, hb2⟩
    go_wp2
    all_goals go_ret
    all_goals exact ⟨rfl, hb1.trans (hb2.mono hb1.size)⟩

end Go.Proofs.YtebioddcnldjkaaDoor
