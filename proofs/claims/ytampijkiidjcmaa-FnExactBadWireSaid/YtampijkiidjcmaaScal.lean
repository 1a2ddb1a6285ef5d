/- Contracts of the functions on numbers alone, both of the program and of the reference: each returns what the plain function of Dat says, and leaves the world as it is. -/
import Derived.Test.YtampijkiidjcmaaRows
import Derived.Test.YtampijkiidjcmaaDat
import Derived.WalkKit
import Derived.ProofKit
import Derived.Deep.QuietTactic
import Derived.BigQuiet
namespace Go.Proofs.Ytampijkiidjcmaa
open Go.RowKit
set_option linter.unusedVariables false

theorem spec_HasLevel (k : Int) (w : World) : Calls Try.prog 78 #[.int .i64 k] w fun e w' => e = .returned (.bool (hasLevel k)) ∧ w = w' := by
  go_enter Try.func78, Try.ntmps78
  go_wp2
  all_goals go_ret
  all_goals refine ⟨retB ?_, rfl⟩
  all_goals (simp only [beq_iff_eq, beq_eq_false_iff_ne] at *)
  all_goals (rw [Bool.eq_iff_iff]; simp [hasLevel]; try omega)

theorem impl_isKind (k : Int) (w : World) : Calls Try.prog 170 #[.int .i64 k] w fun e w' => e = .returned (.bool (isKind k)) ∧ w = w' := by
  go_enter Try.func170, Try.ntmps170
  go_wp2
  all_goals go_ret
  all_goals refine ⟨retB ?_, rfl⟩
  all_goals (rw [Bool.eq_iff_iff]; simp [isKind]; try omega)

theorem impl_HasLevel (k : Int) (w : World) : Calls Try.prog 133 #[.int .i64 k] w fun e w' => e = .returned (.bool (hasLevel k)) ∧ w = w' := by
  go_enter Try.func133, Try.ntmps133
  go_wp2_with (go_at_call 170; refine (impl_isKind _ _).mono ?_; rintro e w' ⟨rfl, rfl⟩)
  all_goals go_ret
  all_goals refine ⟨retB ?_, rfl⟩
  all_goals (rw [Bool.eq_iff_iff]; simp_all [hasLevel, isKind]; try omega)

theorem spec_IsConsumer (k : Int) (w : World) : Calls Try.prog 178 #[.int .i64 k] w fun e w' => e = .returned (.bool (consumer k)) ∧ w = w' := by
  go_enter Try.func178, Try.ntmps178
  go_wp2
  all_goals go_ret
  all_goals refine ⟨retB ?_, rfl⟩
  all_goals (simp only [beq_iff_eq, beq_eq_false_iff_ne] at *)
  all_goals (rw [Bool.eq_iff_iff]; simp [consumer]; try omega)

theorem impl_IsConsumer (k : Int) (w : World) : Calls Try.prog 181 #[.int .i64 k] w fun e w' => e = .returned (.bool (consumer k)) ∧ w = w' := by
  go_enter Try.func181, Try.ntmps181
  go_wp2
  all_goals go_ret
  all_goals refine ⟨retB ?_, rfl⟩
  all_goals (rw [Bool.eq_iff_iff]; simp_all [consumer]; try omega)

theorem spec_l00In (n lo hi : Int) (w : World) : Calls Try.prog 75 #[.int .i64 n, .int .i64 lo, .int .i64 hi] w fun e w' => e = .returned (.bool (inR n lo hi)) ∧ w = w' := by
  go_enter Try.func75, Try.ntmps75
  go_wp2
  all_goals go_ret
  all_goals refine ⟨retB ?_, rfl⟩
  all_goals (rw [Bool.eq_iff_iff]; simp_all [inR]; try omega)

theorem spec_l10Kind (k : Int) (w : World) : Calls Try.prog 193 #[.int .i64 k] w fun e w' => e = .returned (.bool (isKind k)) ∧ w = w' := by
  go_enter Try.func193, Try.ntmps193
  go_wp2_with (go_at_call 75; refine (spec_l00In _ _ _ _).mono ?_; rintro e w' ⟨rfl, rfl⟩)
  all_goals go_ret
  all_goals exact ⟨retB rfl, rfl⟩

theorem impl_isLevel (k : Int) (w : World) : Calls Try.prog 79 #[.int .i64 k] w fun e w' => e = .returned (.bool (isLevel k)) ∧ w = w' := by
  go_enter Try.func79, Try.ntmps79
  go_wp2
  all_goals go_ret
  all_goals refine ⟨retB ?_, rfl⟩
  all_goals (rw [Bool.eq_iff_iff]; simp_all [isLevel]; try omega)

theorem spec_l10Level (k l : Int) (w : World) : Calls Try.prog 176 #[.int .i64 k, .int .i64 l] w fun e w' => e = .returned (.bool (allowed k l)) ∧ w = w' := by
  go_enter Try.func176, Try.ntmps176
  go_wp2_with (first | (go_at_call 78; refine (spec_HasLevel _ _).mono ?_; rintro e w' ⟨rfl, rfl⟩) | (go_at_call 75; refine (spec_l00In _ _ _ _).mono ?_; rintro e w' ⟨rfl, rfl⟩) | (go_at_call 193; refine (spec_l10Kind _ _).mono ?_; rintro e w' ⟨rfl, rfl⟩))
  all_goals go_ret
  all_goals refine ⟨retB ?_, rfl⟩
  all_goals (rw [Bool.eq_iff_iff]; simp_all [allowed, isKind, hasLevel, isLevel, inR]; try omega)

theorem impl_isAllowed (k l : Int) (w : World) : Calls Try.prog 162 #[.int .i64 k, .int .i64 l] w fun e w' => e = .returned (.bool (allowed k l)) ∧ w = w' := by
  go_enter Try.func162, Try.ntmps162
  go_wp2_with (first | (go_at_call 133; refine (impl_HasLevel _ _).mono ?_; rintro e w' ⟨rfl, rfl⟩) | (go_at_call 170; refine (impl_isKind _ _).mono ?_; rintro e w' ⟨rfl, rfl⟩) | (go_at_call 79; refine (impl_isLevel _ _).mono ?_; rintro e w' ⟨rfl, rfl⟩))
  all_goals go_ret
  all_goals refine ⟨retB ?_, rfl⟩
  all_goals (rw [Bool.eq_iff_iff]; simp_all [allowed, isKind, hasLevel, isLevel]; try omega)

theorem spec_Duplicates (a k l : Int) (w : World) : Calls Try.prog 177 #[.int .i64 a, .int .i64 k, .int .i64 l] w fun e w' => e = .returned (.bool (dup a k l)) ∧ w = w' := by
  go_enter Try.func177, Try.ntmps177
  go_wp2_with (first | (go_at_call 75; refine (spec_l00In _ _ _ _).mono ?_; rintro e w' ⟨rfl, rfl⟩) | (go_at_call 176; refine (spec_l10Level _ _ _).mono ?_; rintro e w' ⟨rfl, rfl⟩) | (go_at_call 78; refine (spec_HasLevel _ _).mono ?_; rintro e w' ⟨rfl, rfl⟩))
  all_goals go_ret
  all_goals refine ⟨retB ?_, rfl⟩
  all_goals (rw [Bool.eq_iff_iff]; simp_all [dup, isLevel, inR]; try omega)

theorem impl_Duplicates (a k l : Int) (w : World) : Calls Try.prog 180 #[.int .i64 a, .int .i64 k, .int .i64 l] w fun e w' => e = .returned (.bool (dup a k l)) ∧ w = w' := by
  go_enter Try.func180, Try.ntmps180
  go_wp2_with (first | (go_at_call 79; refine (impl_isLevel _ _).mono ?_; rintro e w' ⟨rfl, rfl⟩) | (go_at_call 162; refine (impl_isAllowed _ _ _).mono ?_; rintro e w' ⟨rfl, rfl⟩) | (go_at_call 133; refine (impl_HasLevel _ _).mono ?_; rintro e w' ⟨rfl, rfl⟩))
  all_goals go_ret
  all_goals refine ⟨retB ?_, rfl⟩
  all_goals (rw [Bool.eq_iff_iff]; simp_all [dup, isLevel]; try omega)

theorem spec_l10Rule (ka la kb lb : Int) (w : World) : Calls Try.prog 160 #[.int .i64 ka, .int .i64 la, .int .i64 kb, .int .i64 lb] w fun e w' => e = .returned (.int .i64 (rule ka la kb lb)) ∧ w = w' := by
  go_enter Try.func160, Try.ntmps160
  go_wp2_with (first | (go_at_call 177; refine (spec_Duplicates _ _ _ _).mono ?_; rintro e w' ⟨rfl, rfl⟩) | (go_at_call 178; refine (spec_IsConsumer _ _).mono ?_; rintro e w' ⟨rfl, rfl⟩))
  all_goals go_ret
  all_goals refine ⟨retI ?_, rfl⟩
  all_goals (simp_all [rule]; try omega)

theorem impl_classOf (ka la kb lb : Int) (w : World) : Calls Try.prog 163 #[.int .i64 ka, .int .i64 la, .int .i64 kb, .int .i64 lb] w fun e w' => e = .returned (.int .i64 (rule ka la kb lb)) ∧ w = w' := by
  go_enter Try.func163, Try.ntmps163
  go_wp2_with (first | (go_at_call 180; refine (impl_Duplicates _ _ _ _).mono ?_; rintro e w' ⟨rfl, rfl⟩) | (go_at_call 181; refine (impl_IsConsumer _ _).mono ?_; rintro e w' ⟨rfl, rfl⟩))
  all_goals go_ret
  all_goals refine ⟨retI ?_, rfl⟩
  all_goals (simp_all [rule]; try omega)

theorem spec_l10Pair (ka la kb lb : Int) (w : World) : Calls Try.prog 159 #[.int .i64 ka, .int .i64 la, .int .i64 kb, .int .i64 lb] w fun e w' => e = .returned (.bool (mayPair ka la kb lb)) ∧ w = w' := by
  go_enter Try.func159, Try.ntmps159
  go_wp2_with (first | (go_at_call 176; refine (spec_l10Level _ _ _).mono ?_; rintro e w' ⟨rfl, rfl⟩))
  all_goals go_ret
  all_goals refine ⟨retB ?_, rfl⟩
  all_goals (rw [Bool.eq_iff_iff]; simp_all [mayPair]; try omega)

theorem spec_PairClass (ka la kb lb : Int) (w : World) : Calls Try.prog 109 #[.int .i64 ka, .int .i64 la, .int .i64 kb, .int .i64 lb] w fun e w' => e = .returned (.int .i64 (pairClass ka la kb lb)) ∧ w = w' := by
  go_enter Try.func109, Try.ntmps109
  go_wp2_with (first | (go_at_call 159; refine (spec_l10Pair _ _ _ _ _).mono ?_; rintro e w' ⟨rfl, rfl⟩) | (go_at_call 160; refine (spec_l10Rule _ _ _ _ _).mono ?_; rintro e w' ⟨rfl, rfl⟩))
  all_goals go_ret
  all_goals refine ⟨retI ?_, rfl⟩
  all_goals (simp_all [pairClass]; try omega)

theorem spec_FirstOfPair (ka la kb lb : Int) (w : World) : Calls Try.prog 175 #[.int .i64 ka, .int .i64 la, .int .i64 kb, .int .i64 lb] w fun e w' => e = .returned (.int .i64 (pairFirst ka la kb lb)) ∧ w = w' := by
  go_enter Try.func175, Try.ntmps175
  go_wp2_with (first | (go_at_call 159; refine (spec_l10Pair _ _ _ _ _).mono ?_; rintro e w' ⟨rfl, rfl⟩) | (go_at_call 160; refine (spec_l10Rule _ _ _ _ _).mono ?_; rintro e w' ⟨rfl, rfl⟩))
  all_goals go_ret
  all_goals refine ⟨retI ?_, rfl⟩
  all_goals (simp_all [pairFirst]; try omega)

theorem impl_pairOf (ka la kb lb : Int) (w : World) : Calls Try.prog 111 #[.int .i64 ka, .int .i64 la, .int .i64 kb, .int .i64 lb] w fun e w' => e = .returned (.tuple #[.int .i64 (pairClass ka la kb lb), .int .i64 (pairFirst ka la kb lb)]) ∧ w = w' := by
  go_enter Try.func111, Try.ntmps111
  go_wp2_with (first | (go_at_call 162; refine (impl_isAllowed _ _ _).mono ?_; rintro e w' ⟨rfl, rfl⟩) | (go_at_call 163; refine (impl_classOf _ _ _ _ _).mono ?_; rintro e w' ⟨rfl, rfl⟩))
  all_goals go_ret2
  all_goals refine ⟨retI2 ?_, rfl⟩
  all_goals (simp_all [pairFirst, pairClass, mayPair]; try omega)

theorem spec_PortsOf (k f : Int) (w : World) : Calls Try.prog 182 #[.int .i64 k, .int .i64 f] w fun e w' => e = .returned (.int .i64 (portsOf k f)) ∧ w = w' := by
  go_enter Try.func182, Try.ntmps182
  go_wp2_with (go_at_call 75; refine (spec_l00In _ _ _ _).mono ?_; rintro e w' ⟨rfl, rfl⟩)
  all_goals go_ret
  all_goals refine ⟨retI ?_, rfl⟩
  all_goals (first | grind [portsOf, inR] | (unfold wrap64; grind [portsOf, inR]))

theorem spec_Growth (c p : Int) (w : World) : Calls Try.prog 155 #[.int .i64 c, .int .i64 p] w fun e w' => e = .returned (.tuple #[.int .i64 (growth c p).1, .int .i64 (growth c p).2]) ∧ w = w' := by
  go_enter Try.func155, Try.ntmps155
  go_wp2_with (go_at_call 75; refine (spec_l00In _ _ _ _).mono ?_; rintro e w' ⟨rfl, rfl⟩)
  all_goals go_ret2
  all_goals refine ⟨retI2 ?_, rfl⟩
  all_goals (first | grind [growth, inR] | (unfold wrap64; grind [growth, inR]))

theorem impl_Growth (c p : Int) (w : World) : Calls Try.prog 156 #[.int .i64 c, .int .i64 p] w fun e w' => e = .returned (.tuple #[.int .i64 (growth c p).1, .int .i64 (growth c p).2]) ∧ w = w' := by
  go_enter Try.func156, Try.ntmps156
  go_wp2
  all_goals go_ret2
  all_goals refine ⟨retI2 ?_, rfl⟩
  all_goals (first | grind [growth] | (unfold wrap64; grind [growth]))

theorem ports_idx (k : Int) (h1 : 1 ≤ k) (h2 : k ≤ 12) (h9 : k ≠ 9) (w : World) :
    (Instr.index 199 (.agg #[.int .i64 0, .int .i64 1, .int .i64 3, .int .i64 3, .int .i64 3, .int .i64 1, .int .i64 1, .int .i64 3, .int .i64 2, .int .i64 0, .int .i64 2, .int .i64 2, .int .i64 1]) (.int .i64 k)).run Try.prog w = .ok (.int .i64 (portsOf k 0)) w := by
  have hk : k = 1 ∨ k = 2 ∨ k = 3 ∨ k = 4 ∨ k = 5 ∨ k = 6 ∨ k = 7 ∨ k = 8 ∨ k = 10 ∨ k = 11 ∨ k = 12 := by omega
  rcases hk with rfl | rfl | rfl | rfl | rfl | rfl | rfl | rfl | rfl | rfl | rfl <;> (show _ = _; kernel_rfl)
theorem impl_PortsOf (k f : Int) (w : World) : Calls Try.prog 184 #[.int .i64 k, .int .i64 f] w fun e w' => e = .returned (.int .i64 (portsOf k f)) ∧ w = w' := by
  by_cases h9 : k = 9
  · subst h9
    go_enter Try.func184, Try.ntmps184
    go_wp2_with (go_at_call 170; refine (impl_isKind _ _).mono ?_; rintro e w' ⟨rfl, rfl⟩)
    all_goals go_ret
    all_goals refine ⟨retI ?_, rfl⟩
    all_goals grind [portsOf]
  · have h9' : (k == 9) = false := by simp [h9]
    by_cases hk : 1 ≤ k ∧ k ≤ 12
    · obtain ⟨h1, h2⟩ := hk
      have hx := ports_idx k h1 h2 h9
      have hik : isKind k = true := by simp [isKind]; omega
      by_cases hf : f = 0
      · subst hf
        go_enter Try.func184, Try.ntmps184
        go_wp2_with (go_at_call 170; refine (impl_isKind _ _).mono ?_; rintro e w' ⟨rfl, rfl⟩)
        all_goals go_ret
        all_goals exact ⟨rfl, rfl⟩
      · have hf' : (f != 0) = true := by simp [hf]
        go_enter Try.func184, Try.ntmps184
        go_wp2_with (go_at_call 170; refine (impl_isKind _ _).mono ?_; rintro e w' ⟨rfl, rfl⟩)
        all_goals go_ret
        all_goals refine ⟨retI ?_, rfl⟩
        all_goals grind [portsOf]
    · have hik : isKind k = false := by simp [isKind]; omega
      go_enter Try.func184, Try.ntmps184
      go_wp2_with (go_at_call 170; refine (impl_isKind _ _).mono ?_; rintro e w' ⟨rfl, rfl⟩)
      all_goals go_ret
      all_goals refine ⟨retI ?_, rfl⟩
      all_goals grind [portsOf]

theorem spec_l19Turns (k : Int) (w : World) : Calls Try.prog 137 #[.int .i64 k] w fun e w' => e = .returned (.bool (turns k)) ∧ w = w' := by
  go_enter Try.func137, Try.ntmps137
  go_wp2
  all_goals go_ret
  all_goals refine ⟨retB ?_, rfl⟩
  all_goals grind [turns]

theorem impl_canReverse (k : Int) (w : World) : Calls Try.prog 140 #[.int .i64 k] w fun e w' => e = .returned (.bool (turns k)) ∧ w = w' := by
  go_enter Try.func140, Try.ntmps140
  go_wp2
  all_goals go_ret
  all_goals refine ⟨retB ?_, rfl⟩
  all_goals grind [turns]

theorem impl_isOutput (k s : Int) (r : Bool) (w : World) : Calls Try.prog 192 #[.int .i64 k, .int .i64 s, .bool r] w fun e w' => e = .returned (.bool (outB k s r)) ∧ w = w' := by
  go_enter Try.func192, Try.ntmps192
  go_wp2
  all_goals go_ret
  all_goals refine ⟨retB ?_, rfl⟩
  all_goals grind [outB]

theorem impl_PortRole (k s : Int) (r : Bool) (w : World) : Calls Try.prog 174 #[.int .i64 k, .int .i64 s, .bool r] w fun e w' => e = .returned (.int .i64 (portRole k s r)) ∧ w = w' := by
  have hm : (portsOf 9 3) = 4 := by decide
  by_cases h9 : k = 9
  · subst h9
    cases r
    all_goals
      go_enter Try.func174, Try.ntmps174
      go_wp2_with (first | (go_at_call 184; refine (impl_PortsOf _ _ _).mono ?_; rintro e w' ⟨rfl, rfl⟩) | (go_at_call 140; refine (impl_canReverse _ _).mono ?_; rintro e w' ⟨rfl, rfl⟩) | (go_at_call 192; refine (impl_isOutput _ _ _ _).mono ?_; rintro e w' ⟨rfl, rfl⟩))
      all_goals go_ret
      all_goals refine ⟨retI ?_, rfl⟩
      all_goals grind [portRole, roleMost, portsOf, turns, outB]
  · have h9' : (k == 9) = false := by simp [h9]
    cases r
    all_goals
      go_enter Try.func174, Try.ntmps174
      go_wp2_with (first | (go_at_call 184; refine (impl_PortsOf _ _ _).mono ?_; rintro e w' ⟨rfl, rfl⟩) | (go_at_call 140; refine (impl_canReverse _ _).mono ?_; rintro e w' ⟨rfl, rfl⟩) | (go_at_call 192; refine (impl_isOutput _ _ _ _).mono ?_; rintro e w' ⟨rfl, rfl⟩))
      all_goals go_ret
      all_goals refine ⟨retI ?_, rfl⟩
      all_goals grind [portRole, roleMost, turns]

theorem spec_l19Plain (k s : Int) (w : World) : Calls Try.prog 191 #[.int .i64 k, .int .i64 s] w fun e w' => e = .returned (.int .i64 (rolePlain k s)) ∧ w = w' := by
  go_enter Try.func191, Try.ntmps191
  go_wp2
  all_goals go_ret
  all_goals refine ⟨retI ?_, rfl⟩
  all_goals grind [rolePlain]

theorem rolePlain_bd (k s : Int) : 1 ≤ rolePlain k s ∧ rolePlain k s ≤ 2 := by unfold rolePlain; split <;> omega
theorem spec_l19Role (k s : Int) (r : Bool) (w : World) : Calls Try.prog 173 #[.int .i64 k, .int .i64 s, .bool r] w fun e w' => e = .returned (.int .i64 (roleSpec k s r)) ∧ w = w' := by
  obtain ⟨b1, b2⟩ := rolePlain_bd k s
  cases r
  all_goals
    go_enter Try.func173, Try.ntmps173
    go_wp2_with (go_at_call 191; refine (spec_l19Plain _ _ _).mono ?_; rintro e w' ⟨rfl, rfl⟩)
    all_goals go_ret
    all_goals exact ⟨retI (by simp [roleSpec]), rfl⟩

end Go.Proofs.Ytampijkiidjcmaa
