/- Contracts of the functions on numbers alone, both of the program and of the reference: each returns what the plain function of Dat says, and leaves the world as it is. -/
import Derived.Test.YtjddeofchiohkaaRows
import Derived.Test.YtjddeofchiohkaaDat
import Derived.WalkKit
import Derived.ProofKit
import Derived.Deep.QuietTactic
import Derived.BigQuiet
namespace Go.Proofs.Ytjddeofchiohkaa
open Go.RowKit
set_option linter.unusedVariables false

theorem spec_HasLevel (k : Int) (w : World) : Calls Try.prog 154 #[.int .i64 k] w fun e w' => e = .returned (.bool (hasLevel k)) ∧ w = w' := by
  go_enter Try.func154, Try.ntmps154
  go_wp2
  all_goals go_ret
  all_goals refine ⟨retB ?_, rfl⟩
  all_goals (simp only [beq_iff_eq, beq_eq_false_iff_ne] at *)
  all_goals (rw [Bool.eq_iff_iff]; simp [hasLevel]; try omega)

theorem impl_isKind (k : Int) (w : World) : Calls Try.prog 70 #[.int .i64 k] w fun e w' => e = .returned (.bool (isKind k)) ∧ w = w' := by
  go_enter Try.func70, Try.ntmps70
  go_wp2
  all_goals go_ret
  all_goals refine ⟨retB ?_, rfl⟩
  all_goals (rw [Bool.eq_iff_iff]; simp [isKind]; try omega)

theorem impl_HasLevel (k : Int) (w : World) : Calls Try.prog 147 #[.int .i64 k] w fun e w' => e = .returned (.bool (hasLevel k)) ∧ w = w' := by
  go_enter Try.func147, Try.ntmps147
  go_wp2_with (go_at_call 70; refine (impl_isKind _ _).mono ?_; rintro e w' ⟨rfl, rfl⟩)
  all_goals go_ret
  all_goals refine ⟨retB ?_, rfl⟩
  all_goals (rw [Bool.eq_iff_iff]; simp_all [hasLevel, isKind]; try omega)

theorem spec_IsConsumer (k : Int) (w : World) : Calls Try.prog 151 #[.int .i64 k] w fun e w' => e = .returned (.bool (consumer k)) ∧ w = w' := by
  go_enter Try.func151, Try.ntmps151
  go_wp2
  all_goals go_ret
  all_goals refine ⟨retB ?_, rfl⟩
  all_goals (simp only [beq_iff_eq, beq_eq_false_iff_ne] at *)
  all_goals (rw [Bool.eq_iff_iff]; simp [consumer]; try omega)

theorem impl_IsConsumer (k : Int) (w : World) : Calls Try.prog 153 #[.int .i64 k] w fun e w' => e = .returned (.bool (consumer k)) ∧ w = w' := by
  go_enter Try.func153, Try.ntmps153
  go_wp2
  all_goals go_ret
  all_goals refine ⟨retB ?_, rfl⟩
  all_goals (rw [Bool.eq_iff_iff]; simp_all [consumer]; try omega)

theorem spec_l00In (n lo hi : Int) (w : World) : Calls Try.prog 107 #[.int .i64 n, .int .i64 lo, .int .i64 hi] w fun e w' => e = .returned (.bool (inR n lo hi)) ∧ w = w' := by
  go_enter Try.func107, Try.ntmps107
  go_wp2
  all_goals go_ret
  all_goals refine ⟨retB ?_, rfl⟩
  all_goals (rw [Bool.eq_iff_iff]; simp_all [inR]; try omega)

theorem spec_l10Kind (k : Int) (w : World) : Calls Try.prog 68 #[.int .i64 k] w fun e w' => e = .returned (.bool (isKind k)) ∧ w = w' := by
  go_enter Try.func68, Try.ntmps68
  go_wp2_with (go_at_call 107; refine (spec_l00In _ _ _ _).mono ?_; rintro e w' ⟨rfl, rfl⟩)
  all_goals go_ret
  all_goals exact ⟨retB rfl, rfl⟩

theorem impl_isLevel (k : Int) (w : World) : Calls Try.prog 148 #[.int .i64 k] w fun e w' => e = .returned (.bool (isLevel k)) ∧ w = w' := by
  go_enter Try.func148, Try.ntmps148
  go_wp2
  all_goals go_ret
  all_goals refine ⟨retB ?_, rfl⟩
  all_goals (rw [Bool.eq_iff_iff]; simp_all [isLevel]; try omega)

theorem spec_l10Level (k l : Int) (w : World) : Calls Try.prog 145 #[.int .i64 k, .int .i64 l] w fun e w' => e = .returned (.bool (allowed k l)) ∧ w = w' := by
  go_enter Try.func145, Try.ntmps145
  go_wp2_with (first | (go_at_call 154; refine (spec_HasLevel _ _).mono ?_; rintro e w' ⟨rfl, rfl⟩) | (go_at_call 107; refine (spec_l00In _ _ _ _).mono ?_; rintro e w' ⟨rfl, rfl⟩) | (go_at_call 68; refine (spec_l10Kind _ _).mono ?_; rintro e w' ⟨rfl, rfl⟩))
  all_goals go_ret
  all_goals refine ⟨retB ?_, rfl⟩
  all_goals (rw [Bool.eq_iff_iff]; simp_all [allowed, isKind, hasLevel, isLevel, inR]; try omega)

theorem impl_isAllowed (k l : Int) (w : World) : Calls Try.prog 131 #[.int .i64 k, .int .i64 l] w fun e w' => e = .returned (.bool (allowed k l)) ∧ w = w' := by
  go_enter Try.func131, Try.ntmps131
  go_wp2_with (first | (go_at_call 147; refine (impl_HasLevel _ _).mono ?_; rintro e w' ⟨rfl, rfl⟩) | (go_at_call 70; refine (impl_isKind _ _).mono ?_; rintro e w' ⟨rfl, rfl⟩) | (go_at_call 148; refine (impl_isLevel _ _).mono ?_; rintro e w' ⟨rfl, rfl⟩))
  all_goals go_ret
  all_goals refine ⟨retB ?_, rfl⟩
  all_goals (rw [Bool.eq_iff_iff]; simp_all [allowed, isKind, hasLevel, isLevel]; try omega)

theorem spec_Duplicates (a k l : Int) (w : World) : Calls Try.prog 150 #[.int .i64 a, .int .i64 k, .int .i64 l] w fun e w' => e = .returned (.bool (dup a k l)) ∧ w = w' := by
  go_enter Try.func150, Try.ntmps150
  go_wp2_with (first | (go_at_call 107; refine (spec_l00In _ _ _ _).mono ?_; rintro e w' ⟨rfl, rfl⟩) | (go_at_call 145; refine (spec_l10Level _ _ _).mono ?_; rintro e w' ⟨rfl, rfl⟩) | (go_at_call 154; refine (spec_HasLevel _ _).mono ?_; rintro e w' ⟨rfl, rfl⟩))
  all_goals go_ret
  all_goals refine ⟨retB ?_, rfl⟩
  all_goals (rw [Bool.eq_iff_iff]; simp_all [dup, isLevel, inR]; try omega)

theorem impl_Duplicates (a k l : Int) (w : World) : Calls Try.prog 152 #[.int .i64 a, .int .i64 k, .int .i64 l] w fun e w' => e = .returned (.bool (dup a k l)) ∧ w = w' := by
  go_enter Try.func152, Try.ntmps152
  go_wp2_with (first | (go_at_call 148; refine (impl_isLevel _ _).mono ?_; rintro e w' ⟨rfl, rfl⟩) | (go_at_call 131; refine (impl_isAllowed _ _ _).mono ?_; rintro e w' ⟨rfl, rfl⟩) | (go_at_call 147; refine (impl_HasLevel _ _).mono ?_; rintro e w' ⟨rfl, rfl⟩))
  all_goals go_ret
  all_goals refine ⟨retB ?_, rfl⟩
  all_goals (rw [Bool.eq_iff_iff]; simp_all [dup, isLevel]; try omega)

theorem spec_l10Rule (ka la kb lb : Int) (w : World) : Calls Try.prog 141 #[.int .i64 ka, .int .i64 la, .int .i64 kb, .int .i64 lb] w fun e w' => e = .returned (.int .i64 (rule ka la kb lb)) ∧ w = w' := by
  go_enter Try.func141, Try.ntmps141
  go_wp2_with (first | (go_at_call 150; refine (spec_Duplicates _ _ _ _).mono ?_; rintro e w' ⟨rfl, rfl⟩) | (go_at_call 151; refine (spec_IsConsumer _ _).mono ?_; rintro e w' ⟨rfl, rfl⟩))
  all_goals go_ret
  all_goals refine ⟨retI ?_, rfl⟩
  all_goals (simp_all [rule]; try omega)

theorem impl_classOf (ka la kb lb : Int) (w : World) : Calls Try.prog 142 #[.int .i64 ka, .int .i64 la, .int .i64 kb, .int .i64 lb] w fun e w' => e = .returned (.int .i64 (rule ka la kb lb)) ∧ w = w' := by
  go_enter Try.func142, Try.ntmps142
  go_wp2_with (first | (go_at_call 152; refine (impl_Duplicates _ _ _ _).mono ?_; rintro e w' ⟨rfl, rfl⟩) | (go_at_call 153; refine (impl_IsConsumer _ _).mono ?_; rintro e w' ⟨rfl, rfl⟩))
  all_goals go_ret
  all_goals refine ⟨retI ?_, rfl⟩
  all_goals (simp_all [rule]; try omega)

theorem spec_l10Pair (ka la kb lb : Int) (w : World) : Calls Try.prog 140 #[.int .i64 ka, .int .i64 la, .int .i64 kb, .int .i64 lb] w fun e w' => e = .returned (.bool (mayPair ka la kb lb)) ∧ w = w' := by
  go_enter Try.func140, Try.ntmps140
  go_wp2_with (first | (go_at_call 145; refine (spec_l10Level _ _ _).mono ?_; rintro e w' ⟨rfl, rfl⟩))
  all_goals go_ret
  all_goals refine ⟨retB ?_, rfl⟩
  all_goals (rw [Bool.eq_iff_iff]; simp_all [mayPair]; try omega)

theorem spec_PairClass (ka la kb lb : Int) (w : World) : Calls Try.prog 122 #[.int .i64 ka, .int .i64 la, .int .i64 kb, .int .i64 lb] w fun e w' => e = .returned (.int .i64 (pairClass ka la kb lb)) ∧ w = w' := by
  go_enter Try.func122, Try.ntmps122
  go_wp2_with (first | (go_at_call 140; refine (spec_l10Pair _ _ _ _ _).mono ?_; rintro e w' ⟨rfl, rfl⟩) | (go_at_call 141; refine (spec_l10Rule _ _ _ _ _).mono ?_; rintro e w' ⟨rfl, rfl⟩))
  all_goals go_ret
  all_goals refine ⟨retI ?_, rfl⟩
  all_goals (simp_all [pairClass]; try omega)

theorem impl_pairOf (ka la kb lb : Int) (w : World) : Calls Try.prog 123 #[.int .i64 ka, .int .i64 la, .int .i64 kb, .int .i64 lb] w fun e w' => e = .returned (.tuple #[.int .i64 (pairClass ka la kb lb), .int .i64 (pairFirst ka la kb lb)]) ∧ w = w' := by
  go_enter Try.func123, Try.ntmps123
  go_wp2_with (first | (go_at_call 131; refine (impl_isAllowed _ _ _).mono ?_; rintro e w' ⟨rfl, rfl⟩) | (go_at_call 142; refine (impl_classOf _ _ _ _ _).mono ?_; rintro e w' ⟨rfl, rfl⟩))
  all_goals go_ret2
  all_goals refine ⟨retI2 ?_, rfl⟩
  all_goals (simp_all [pairFirst, pairClass, mayPair]; try omega)

theorem spec_PortsOf (k f : Int) (w : World) : Calls Try.prog 143 #[.int .i64 k, .int .i64 f] w fun e w' => e = .returned (.int .i64 (portsOf k f)) ∧ w = w' := by
  go_enter Try.func143, Try.ntmps143
  go_wp2_with (go_at_call 107; refine (spec_l00In _ _ _ _).mono ?_; rintro e w' ⟨rfl, rfl⟩)
  all_goals go_ret
  all_goals refine ⟨retI ?_, rfl⟩
  all_goals (first | grind [portsOf, inR] | (unfold wrap64; grind [portsOf, inR]))

theorem ports_idx (k : Int) (h1 : 1 ≤ k) (h2 : k ≤ 12) (h9 : k ≠ 9) (w : World) :
    (Instr.index 155 (.agg #[.int .i64 0, .int .i64 1, .int .i64 3, .int .i64 3, .int .i64 3, .int .i64 1, .int .i64 1, .int .i64 3, .int .i64 2, .int .i64 0, .int .i64 2, .int .i64 2, .int .i64 1]) (.int .i64 k)).run Try.prog w = .ok (.int .i64 (portsOf k 0)) w := by
  have hk : k = 1 ∨ k = 2 ∨ k = 3 ∨ k = 4 ∨ k = 5 ∨ k = 6 ∨ k = 7 ∨ k = 8 ∨ k = 10 ∨ k = 11 ∨ k = 12 := by omega
  rcases hk with rfl | rfl | rfl | rfl | rfl | rfl | rfl | rfl | rfl | rfl | rfl <;> (show _ = _; kernel_rfl)
theorem impl_PortsOf (k f : Int) (w : World) : Calls Try.prog 129 #[.int .i64 k, .int .i64 f] w fun e w' => e = .returned (.int .i64 (portsOf k f)) ∧ w = w' := by
  by_cases h9 : k = 9
  · subst h9
    go_enter Try.func129, Try.ntmps129
    go_wp2_with (go_at_call 70; refine (impl_isKind _ _).mono ?_; rintro e w' ⟨rfl, rfl⟩)
    all_goals go_ret
    all_goals refine ⟨retI ?_, rfl⟩
    all_goals grind [portsOf]
  · have h9' : (k == 9) = false := by simp [h9]
    by_cases hk : 1 ≤ k ∧ k ≤ 12
    · obtain ⟨h1, h2⟩ := hk
      have hx := ports_idx k h1 h2 h9
      have hik : isKind k = true := by simp [isKind]; omega
      by_cases hf : f = 0
      · subst hf
        go_enter Try.func129, Try.ntmps129
        go_wp2_with (go_at_call 70; refine (impl_isKind _ _).mono ?_; rintro e w' ⟨rfl, rfl⟩)
        all_goals go_ret
        all_goals exact ⟨rfl, rfl⟩
      · have hf' : (f != 0) = true := by simp [hf]
        go_enter Try.func129, Try.ntmps129
        go_wp2_with (go_at_call 70; refine (impl_isKind _ _).mono ?_; rintro e w' ⟨rfl, rfl⟩)
        all_goals go_ret
        all_goals refine ⟨retI ?_, rfl⟩
        all_goals grind [portsOf]
    · have hik : isKind k = false := by simp [isKind]; omega
      go_enter Try.func129, Try.ntmps129
      go_wp2_with (go_at_call 70; refine (impl_isKind _ _).mono ?_; rintro e w' ⟨rfl, rfl⟩)
      all_goals go_ret
      all_goals refine ⟨retI ?_, rfl⟩
      all_goals grind [portsOf]

theorem spec_l19Turns (k : Int) (w : World) : Calls Try.prog 114 #[.int .i64 k] w fun e w' => e = .returned (.bool (turns k)) ∧ w = w' := by
  go_enter Try.func114, Try.ntmps114
  go_wp2
  all_goals go_ret
  all_goals refine ⟨retB ?_, rfl⟩
  all_goals grind [turns]

theorem impl_canReverse (k : Int) (w : World) : Calls Try.prog 116 #[.int .i64 k] w fun e w' => e = .returned (.bool (turns k)) ∧ w = w' := by
  go_enter Try.func116, Try.ntmps116
  go_wp2
  all_goals go_ret
  all_goals refine ⟨retB ?_, rfl⟩
  all_goals grind [turns]

theorem impl_isOutput (k s : Int) (r : Bool) (w : World) : Calls Try.prog 139 #[.int .i64 k, .int .i64 s, .bool r] w fun e w' => e = .returned (.bool (outB k s r)) ∧ w = w' := by
  go_enter Try.func139, Try.ntmps139
  go_wp2
  all_goals go_ret
  all_goals refine ⟨retB ?_, rfl⟩
  all_goals grind [outB]

theorem impl_PortRole (k s : Int) (r : Bool) (w : World) : Calls Try.prog 117 #[.int .i64 k, .int .i64 s, .bool r] w fun e w' => e = .returned (.int .i64 (portRole k s r)) ∧ w = w' := by
  have hm : (portsOf 9 3) = 4 := by decide
  by_cases h9 : k = 9
  · subst h9
    cases r
    all_goals
      go_enter Try.func117, Try.ntmps117
      go_wp2_with (first | (go_at_call 129; refine (impl_PortsOf _ _ _).mono ?_; rintro e w' ⟨rfl, rfl⟩) | (go_at_call 116; refine (impl_canReverse _ _).mono ?_; rintro e w' ⟨rfl, rfl⟩) | (go_at_call 139; refine (impl_isOutput _ _ _ _).mono ?_; rintro e w' ⟨rfl, rfl⟩))
      all_goals go_ret
      all_goals refine ⟨retI ?_, rfl⟩
      all_goals grind [portRole, roleMost, portsOf, turns, outB]
  · have h9' : (k == 9) = false := by simp [h9]
    cases r
    all_goals
      go_enter Try.func117, Try.ntmps117
      go_wp2_with (first | (go_at_call 129; refine (impl_PortsOf _ _ _).mono ?_; rintro e w' ⟨rfl, rfl⟩) | (go_at_call 116; refine (impl_canReverse _ _).mono ?_; rintro e w' ⟨rfl, rfl⟩) | (go_at_call 139; refine (impl_isOutput _ _ _ _).mono ?_; rintro e w' ⟨rfl, rfl⟩))
      all_goals go_ret
      all_goals refine ⟨retI ?_, rfl⟩
      all_goals grind [portRole, roleMost, turns]

theorem spec_l19Plain (k s : Int) (w : World) : Calls Try.prog 138 #[.int .i64 k, .int .i64 s] w fun e w' => e = .returned (.int .i64 (rolePlain k s)) ∧ w = w' := by
  go_enter Try.func138, Try.ntmps138
  go_wp2
  all_goals go_ret
  all_goals refine ⟨retI ?_, rfl⟩
  all_goals grind [rolePlain]

theorem rolePlain_bd (k s : Int) : 1 ≤ rolePlain k s ∧ rolePlain k s ≤ 2 := by unfold rolePlain; split <;> omega
theorem spec_l19Role (k s : Int) (r : Bool) (w : World) : Calls Try.prog 115 #[.int .i64 k, .int .i64 s, .bool r] w fun e w' => e = .returned (.int .i64 (roleSpec k s r)) ∧ w = w' := by
  obtain ⟨b1, b2⟩ := rolePlain_bd k s
  cases r
  all_goals
    go_enter Try.func115, Try.ntmps115
    go_wp2_with (go_at_call 138; refine (spec_l19Plain _ _ _).mono ?_; rintro e w' ⟨rfl, rfl⟩)
    all_goals go_ret
    all_goals exact ⟨retI (by simp [roleSpec]), rfl⟩

end Go.Proofs.Ytjddeofchiohkaa
