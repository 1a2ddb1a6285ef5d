/- Contracts of the functions on numbers alone, both of the program and of the reference: each returns what the plain function of Dat says, and leaves the world as it is. -/
import Derived.Test.YtbjaogagdjgjdaaRows
import Derived.Test.YtbjaogagdjgjdaaDat
import Derived.WalkKit
import Derived.ProofKit
import Derived.Deep.QuietTactic
import Derived.BigQuiet
namespace Go.Proofs.Ytbjaogagdjgjdaa
open Go.RowKit
set_option linter.unusedVariables false

theorem spec_HasLevel (k : Int) (w : World) : Calls Try.prog 9 #[.int .i64 k] w fun e w' => e = .returned (.bool (hasLevel k)) ∧ w = w' := by
  go_enter Try.func9, Try.ntmps9
  go_wp2
  all_goals go_ret
  all_goals refine ⟨retB ?_, rfl⟩
  all_goals (simp only [beq_iff_eq, beq_eq_false_iff_ne] at *)
  all_goals (rw [Bool.eq_iff_iff]; simp [hasLevel]; try omega)

theorem impl_isKind (k : Int) (w : World) : Calls Try.prog 15 #[.int .i64 k] w fun e w' => e = .returned (.bool (isKind k)) ∧ w = w' := by
  go_enter Try.func15, Try.ntmps15
  go_wp2
  all_goals go_ret
  all_goals refine ⟨retB ?_, rfl⟩
  all_goals (rw [Bool.eq_iff_iff]; simp [isKind]; try omega)

theorem impl_HasLevel (k : Int) (w : World) : Calls Try.prog 10 #[.int .i64 k] w fun e w' => e = .returned (.bool (hasLevel k)) ∧ w = w' := by
  go_enter Try.func10, Try.ntmps10
  go_wp2_with (go_at_call 15; refine (impl_isKind _ _).mono ?_; rintro e w' ⟨rfl, rfl⟩)
  all_goals go_ret
  all_goals refine ⟨retB ?_, rfl⟩
  all_goals (rw [Bool.eq_iff_iff]; simp_all [hasLevel, isKind]; try omega)

theorem spec_IsConsumer (k : Int) (w : World) : Calls Try.prog 7 #[.int .i64 k] w fun e w' => e = .returned (.bool (consumer k)) ∧ w = w' := by
  go_enter Try.func7, Try.ntmps7
  go_wp2
  all_goals go_ret
  all_goals refine ⟨retB ?_, rfl⟩
  all_goals (simp only [beq_iff_eq, beq_eq_false_iff_ne] at *)
  all_goals (rw [Bool.eq_iff_iff]; simp [consumer]; try omega)

theorem impl_IsConsumer (k : Int) (w : World) : Calls Try.prog 8 #[.int .i64 k] w fun e w' => e = .returned (.bool (consumer k)) ∧ w = w' := by
  go_enter Try.func8, Try.ntmps8
  go_wp2
  all_goals go_ret
  all_goals refine ⟨retB ?_, rfl⟩
  all_goals (rw [Bool.eq_iff_iff]; simp_all [consumer]; try omega)

theorem spec_l00In (n lo hi : Int) (w : World) : Calls Try.prog 16 #[.int .i64 n, .int .i64 lo, .int .i64 hi] w fun e w' => e = .returned (.bool (inR n lo hi)) ∧ w = w' := by
  go_enter Try.func16, Try.ntmps16
  go_wp2
  all_goals go_ret
  all_goals refine ⟨retB ?_, rfl⟩
  all_goals (rw [Bool.eq_iff_iff]; simp_all [inR]; try omega)

theorem spec_PortsOf (k f : Int) (w : World) : Calls Try.prog 13 #[.int .i64 k, .int .i64 f] w fun e w' => e = .returned (.int .i64 (portsOf k f)) ∧ w = w' := by
  go_enter Try.func13, Try.ntmps13
  go_wp2_with (go_at_call 16; refine (spec_l00In _ _ _ _).mono ?_; rintro e w' ⟨rfl, rfl⟩)
  all_goals go_ret
  all_goals refine ⟨retI ?_, rfl⟩
  all_goals (first | grind [portsOf, inR] | (unfold wrap64; grind [portsOf, inR]))

theorem ports_idx (k : Int) (h1 : 1 ≤ k) (h2 : k ≤ 12) (h9 : k ≠ 9) (w : World) :
    (Instr.index 30 (.agg #[.int .i64 0, .int .i64 1, .int .i64 3, .int .i64 3, .int .i64 3, .int .i64 1, .int .i64 1, .int .i64 3, .int .i64 2, .int .i64 0, .int .i64 2, .int .i64 2, .int .i64 1]) (.int .i64 k)).run Try.prog w = .ok (.int .i64 (portsOf k 0)) w := by
  have hk : k = 1 ∨ k = 2 ∨ k = 3 ∨ k = 4 ∨ k = 5 ∨ k = 6 ∨ k = 7 ∨ k = 8 ∨ k = 10 ∨ k = 11 ∨ k = 12 := by omega
  rcases hk with rfl | rfl | rfl | rfl | rfl | rfl | rfl | rfl | rfl | rfl | rfl <;> (show _ = _; kernel_rfl)
theorem impl_PortsOf (k f : Int) (w : World) : Calls Try.prog 14 #[.int .i64 k, .int .i64 f] w fun e w' => e = .returned (.int .i64 (portsOf k f)) ∧ w = w' := by
  by_cases h9 : k = 9
  · subst h9
    go_enter Try.func14, Try.ntmps14
    go_wp2_with (go_at_call 15; refine (impl_isKind _ _).mono ?_; rintro e w' ⟨rfl, rfl⟩)
    all_goals go_ret
    all_goals refine ⟨retI ?_, rfl⟩
    all_goals grind [portsOf]
  · have h9' : (k == 9) = false := by simp [h9]
    by_cases hk : 1 ≤ k ∧ k ≤ 12
    · obtain ⟨h1, h2⟩ := hk
      have hx := ports_idx k h1 h2 h9
      have hik : isKind k = true := by simp [isKind]; omega
      by_cases hf : f = 0
      · subst hf
        go_enter Try.func14, Try.ntmps14
        go_wp2_with (go_at_call 15; refine (impl_isKind _ _).mono ?_; rintro e w' ⟨rfl, rfl⟩)
        all_goals go_ret
        all_goals exact ⟨rfl, rfl⟩
      · have hf' : (f != 0) = true := by simp [hf]
        go_enter Try.func14, Try.ntmps14
        go_wp2_with (go_at_call 15; refine (impl_isKind _ _).mono ?_; rintro e w' ⟨rfl, rfl⟩)
        all_goals go_ret
        all_goals refine ⟨retI ?_, rfl⟩
        all_goals grind [portsOf]
    · have hik : isKind k = false := by simp [isKind]; omega
      go_enter Try.func14, Try.ntmps14
      go_wp2_with (go_at_call 15; refine (impl_isKind _ _).mono ?_; rintro e w' ⟨rfl, rfl⟩)
      all_goals go_ret
      all_goals refine ⟨retI ?_, rfl⟩
      all_goals grind [portsOf]

end Go.Proofs.Ytbjaogagdjgjdaa
