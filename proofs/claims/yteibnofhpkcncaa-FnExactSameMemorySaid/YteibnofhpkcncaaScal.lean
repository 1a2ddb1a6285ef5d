/- Contracts of the functions on numbers alone, both of the program and of the reference: each returns what the plain function of Dat says, and leaves the world as it is. -/
import Derived.Test.YteibnofhpkcncaaRows
import Derived.Test.YteibnofhpkcncaaDat
import Derived.WalkKit
import Derived.ProofKit
import Derived.Deep.QuietTactic
import Derived.BigQuiet
namespace Go.Proofs.Yteibnofhpkcncaa
open Go.RowKit
set_option linter.unusedVariables false

theorem spec_HasLevel (k : Int) (w : World) : Calls Try.prog 51 #[.int .i64 k] w fun e w' => e = .returned (.bool (hasLevel k)) ∧ w = w' := by
  go_enter Try.func51, Try.ntmps51
  go_wp2
  all_goals go_ret
  all_goals refine ⟨retB ?_, rfl⟩
  all_goals (simp only [beq_iff_eq, beq_eq_false_iff_ne] at *)
  all_goals (rw [Bool.eq_iff_iff]; simp [hasLevel]; try omega)

theorem impl_isKind (k : Int) (w : World) : Calls Try.prog 96 #[.int .i64 k] w fun e w' => e = .returned (.bool (isKind k)) ∧ w = w' := by
  go_enter Try.func96, Try.ntmps96
  go_wp2
  all_goals go_ret
  all_goals refine ⟨retB ?_, rfl⟩
  all_goals (rw [Bool.eq_iff_iff]; simp [isKind]; try omega)

theorem impl_HasLevel (k : Int) (w : World) : Calls Try.prog 54 #[.int .i64 k] w fun e w' => e = .returned (.bool (hasLevel k)) ∧ w = w' := by
  go_enter Try.func54, Try.ntmps54
  go_wp2_with (go_at_call 96; refine (impl_isKind _ _).mono ?_; rintro e w' ⟨rfl, rfl⟩)
  all_goals go_ret
  all_goals refine ⟨retB ?_, rfl⟩
  all_goals (rw [Bool.eq_iff_iff]; simp_all [hasLevel, isKind]; try omega)

theorem spec_IsConsumer (k : Int) (w : World) : Calls Try.prog 99 #[.int .i64 k] w fun e w' => e = .returned (.bool (consumer k)) ∧ w = w' := by
  go_enter Try.func99, Try.ntmps99
  go_wp2
  all_goals go_ret
  all_goals refine ⟨retB ?_, rfl⟩
  all_goals (simp only [beq_iff_eq, beq_eq_false_iff_ne] at *)
  all_goals (rw [Bool.eq_iff_iff]; simp [consumer]; try omega)

theorem impl_IsConsumer (k : Int) (w : World) : Calls Try.prog 118 #[.int .i64 k] w fun e w' => e = .returned (.bool (consumer k)) ∧ w = w' := by
  go_enter Try.func118, Try.ntmps118
  go_wp2
  all_goals go_ret
  all_goals refine ⟨retB ?_, rfl⟩
  all_goals (rw [Bool.eq_iff_iff]; simp_all [consumer]; try omega)

theorem spec_l00In (n lo hi : Int) (w : World) : Calls Try.prog 49 #[.int .i64 n, .int .i64 lo, .int .i64 hi] w fun e w' => e = .returned (.bool (inR n lo hi)) ∧ w = w' := by
  go_enter Try.func49, Try.ntmps49
  go_wp2
  all_goals go_ret
  all_goals refine ⟨retB ?_, rfl⟩
  all_goals (rw [Bool.eq_iff_iff]; simp_all [inR]; try omega)

theorem spec_l10Kind (k : Int) (w : World) : Calls Try.prog 95 #[.int .i64 k] w fun e w' => e = .returned (.bool (isKind k)) ∧ w = w' := by
  go_enter Try.func95, Try.ntmps95
  go_wp2_with (go_at_call 49; refine (spec_l00In _ _ _ _).mono ?_; rintro e w' ⟨rfl, rfl⟩)
  all_goals go_ret
  all_goals exact ⟨retB rfl, rfl⟩

theorem impl_isLevel (k : Int) (w : World) : Calls Try.prog 52 #[.int .i64 k] w fun e w' => e = .returned (.bool (isLevel k)) ∧ w = w' := by
  go_enter Try.func52, Try.ntmps52
  go_wp2
  all_goals go_ret
  all_goals refine ⟨retB ?_, rfl⟩
  all_goals (rw [Bool.eq_iff_iff]; simp_all [isLevel]; try omega)

theorem spec_l10Level (k l : Int) (w : World) : Calls Try.prog 50 #[.int .i64 k, .int .i64 l] w fun e w' => e = .returned (.bool (allowed k l)) ∧ w = w' := by
  go_enter Try.func50, Try.ntmps50
  go_wp2_with (first | (go_at_call 51; refine (spec_HasLevel _ _).mono ?_; rintro e w' ⟨rfl, rfl⟩) | (go_at_call 49; refine (spec_l00In _ _ _ _).mono ?_; rintro e w' ⟨rfl, rfl⟩) | (go_at_call 95; refine (spec_l10Kind _ _).mono ?_; rintro e w' ⟨rfl, rfl⟩))
  all_goals go_ret
  all_goals refine ⟨retB ?_, rfl⟩
  all_goals (rw [Bool.eq_iff_iff]; simp_all [allowed, isKind, hasLevel, isLevel, inR]; try omega)

theorem impl_isAllowed (k l : Int) (w : World) : Calls Try.prog 53 #[.int .i64 k, .int .i64 l] w fun e w' => e = .returned (.bool (allowed k l)) ∧ w = w' := by
  go_enter Try.func53, Try.ntmps53
  go_wp2_with (first | (go_at_call 54; refine (impl_HasLevel _ _).mono ?_; rintro e w' ⟨rfl, rfl⟩) | (go_at_call 96; refine (impl_isKind _ _).mono ?_; rintro e w' ⟨rfl, rfl⟩) | (go_at_call 52; refine (impl_isLevel _ _).mono ?_; rintro e w' ⟨rfl, rfl⟩))
  all_goals go_ret
  all_goals refine ⟨retB ?_, rfl⟩
  all_goals (rw [Bool.eq_iff_iff]; simp_all [allowed, isKind, hasLevel, isLevel]; try omega)

theorem spec_Duplicates (a k l : Int) (w : World) : Calls Try.prog 15 #[.int .i64 a, .int .i64 k, .int .i64 l] w fun e w' => e = .returned (.bool (dup a k l)) ∧ w = w' := by
  go_enter Try.func15, Try.ntmps15
  go_wp2_with (first | (go_at_call 49; refine (spec_l00In _ _ _ _).mono ?_; rintro e w' ⟨rfl, rfl⟩) | (go_at_call 50; refine (spec_l10Level _ _ _).mono ?_; rintro e w' ⟨rfl, rfl⟩) | (go_at_call 51; refine (spec_HasLevel _ _).mono ?_; rintro e w' ⟨rfl, rfl⟩))
  all_goals go_ret
  all_goals refine ⟨retB ?_, rfl⟩
  all_goals (rw [Bool.eq_iff_iff]; simp_all [dup, isLevel, inR]; try omega)

theorem impl_Duplicates (a k l : Int) (w : World) : Calls Try.prog 16 #[.int .i64 a, .int .i64 k, .int .i64 l] w fun e w' => e = .returned (.bool (dup a k l)) ∧ w = w' := by
  go_enter Try.func16, Try.ntmps16
  go_wp2_with (first | (go_at_call 52; refine (impl_isLevel _ _).mono ?_; rintro e w' ⟨rfl, rfl⟩) | (go_at_call 53; refine (impl_isAllowed _ _ _).mono ?_; rintro e w' ⟨rfl, rfl⟩) | (go_at_call 54; refine (impl_HasLevel _ _).mono ?_; rintro e w' ⟨rfl, rfl⟩))
  all_goals go_ret
  all_goals refine ⟨retB ?_, rfl⟩
  all_goals (rw [Bool.eq_iff_iff]; simp_all [dup, isLevel]; try omega)

theorem spec_l10Rule (ka la kb lb : Int) (w : World) : Calls Try.prog 68 #[.int .i64 ka, .int .i64 la, .int .i64 kb, .int .i64 lb] w fun e w' => e = .returned (.int .i64 (rule ka la kb lb)) ∧ w = w' := by
  go_enter Try.func68, Try.ntmps68
  go_wp2_with (first | (go_at_call 15; refine (spec_Duplicates _ _ _ _).mono ?_; rintro e w' ⟨rfl, rfl⟩) | (go_at_call 99; refine (spec_IsConsumer _ _).mono ?_; rintro e w' ⟨rfl, rfl⟩))
  all_goals go_ret
  all_goals refine ⟨retI ?_, rfl⟩
  all_goals (simp_all [rule]; try omega)

theorem impl_classOf (ka la kb lb : Int) (w : World) : Calls Try.prog 100 #[.int .i64 ka, .int .i64 la, .int .i64 kb, .int .i64 lb] w fun e w' => e = .returned (.int .i64 (rule ka la kb lb)) ∧ w = w' := by
  go_enter Try.func100, Try.ntmps100
  go_wp2_with (first | (go_at_call 16; refine (impl_Duplicates _ _ _ _).mono ?_; rintro e w' ⟨rfl, rfl⟩) | (go_at_call 118; refine (impl_IsConsumer _ _).mono ?_; rintro e w' ⟨rfl, rfl⟩))
  all_goals go_ret
  all_goals refine ⟨retI ?_, rfl⟩
  all_goals (simp_all [rule]; try omega)

theorem spec_l10Pair (ka la kb lb : Int) (w : World) : Calls Try.prog 67 #[.int .i64 ka, .int .i64 la, .int .i64 kb, .int .i64 lb] w fun e w' => e = .returned (.bool (mayPair ka la kb lb)) ∧ w = w' := by
  go_enter Try.func67, Try.ntmps67
  go_wp2_with (first | (go_at_call 50; refine (spec_l10Level _ _ _).mono ?_; rintro e w' ⟨rfl, rfl⟩))
  all_goals go_ret
  all_goals refine ⟨retB ?_, rfl⟩
  all_goals (rw [Bool.eq_iff_iff]; simp_all [mayPair]; try omega)

theorem spec_PairClass (ka la kb lb : Int) (w : World) : Calls Try.prog 35 #[.int .i64 ka, .int .i64 la, .int .i64 kb, .int .i64 lb] w fun e w' => e = .returned (.int .i64 (pairClass ka la kb lb)) ∧ w = w' := by
  go_enter Try.func35, Try.ntmps35
  go_wp2_with (first | (go_at_call 67; refine (spec_l10Pair _ _ _ _ _).mono ?_; rintro e w' ⟨rfl, rfl⟩) | (go_at_call 68; refine (spec_l10Rule _ _ _ _ _).mono ?_; rintro e w' ⟨rfl, rfl⟩))
  all_goals go_ret
  all_goals refine ⟨retI ?_, rfl⟩
  all_goals (simp_all [pairClass]; try omega)

theorem spec_FirstOfPair (ka la kb lb : Int) (w : World) : Calls Try.prog 33 #[.int .i64 ka, .int .i64 la, .int .i64 kb, .int .i64 lb] w fun e w' => e = .returned (.int .i64 (pairFirst ka la kb lb)) ∧ w = w' := by
  go_enter Try.func33, Try.ntmps33
  go_wp2_with (first | (go_at_call 67; refine (spec_l10Pair _ _ _ _ _).mono ?_; rintro e w' ⟨rfl, rfl⟩) | (go_at_call 68; refine (spec_l10Rule _ _ _ _ _).mono ?_; rintro e w' ⟨rfl, rfl⟩))
  all_goals go_ret
  all_goals refine ⟨retI ?_, rfl⟩
  all_goals (simp_all [pairFirst]; try omega)

theorem impl_pairOf (ka la kb lb : Int) (w : World) : Calls Try.prog 69 #[.int .i64 ka, .int .i64 la, .int .i64 kb, .int .i64 lb] w fun e w' => e = .returned (.tuple #[.int .i64 (pairClass ka la kb lb), .int .i64 (pairFirst ka la kb lb)]) ∧ w = w' := by
  go_enter Try.func69, Try.ntmps69
  go_wp2_with (first | (go_at_call 53; refine (impl_isAllowed _ _ _).mono ?_; rintro e w' ⟨rfl, rfl⟩) | (go_at_call 100; refine (impl_classOf _ _ _ _ _).mono ?_; rintro e w' ⟨rfl, rfl⟩))
  all_goals go_ret2
  all_goals refine ⟨retI2 ?_, rfl⟩
  all_goals (simp_all [pairFirst, pairClass, mayPair]; try omega)

theorem impl_PairClass (ka la kb lb : Int) (w : World) : Calls Try.prog 36 #[.int .i64 ka, .int .i64 la, .int .i64 kb, .int .i64 lb] w fun e w' => e = .returned (.int .i64 (pairClass ka la kb lb)) ∧ w = w' := by
  go_enter Try.func36, Try.ntmps36
  go_wp2_with (go_at_call 69; refine (impl_pairOf _ _ _ _ _).mono ?_; rintro e w' ⟨rfl, rfl⟩)
  go_ret
  exact ⟨rfl, rfl⟩

theorem impl_FirstOfPair (ka la kb lb : Int) (w : World) : Calls Try.prog 34 #[.int .i64 ka, .int .i64 la, .int .i64 kb, .int .i64 lb] w fun e w' => e = .returned (.int .i64 (pairFirst ka la kb lb)) ∧ w = w' := by
  go_enter Try.func34, Try.ntmps34
  go_wp2_with (go_at_call 69; refine (impl_pairOf _ _ _ _ _).mono ?_; rintro e w' ⟨rfl, rfl⟩)
  go_ret
  exact ⟨rfl, rfl⟩

theorem spec_PortsOf (k f : Int) (w : World) : Calls Try.prog 61 #[.int .i64 k, .int .i64 f] w fun e w' => e = .returned (.int .i64 (portsOf k f)) ∧ w = w' := by
  go_enter Try.func61, Try.ntmps61
  go_wp2_with (go_at_call 49; refine (spec_l00In _ _ _ _).mono ?_; rintro e w' ⟨rfl, rfl⟩)
  all_goals go_ret
  all_goals refine ⟨retI ?_, rfl⟩
  all_goals (first | grind [portsOf, inR] | (unfold wrap64; grind [portsOf, inR]))

theorem spec_Growth (c p : Int) (w : World) : Calls Try.prog 23 #[.int .i64 c, .int .i64 p] w fun e w' => e = .returned (.tuple #[.int .i64 (growth c p).1, .int .i64 (growth c p).2]) ∧ w = w' := by
  go_enter Try.func23, Try.ntmps23
  go_wp2_with (go_at_call 49; refine (spec_l00In _ _ _ _).mono ?_; rintro e w' ⟨rfl, rfl⟩)
  all_goals go_ret2
  all_goals refine ⟨retI2 ?_, rfl⟩
  all_goals (first | grind [growth, inR] | (unfold wrap64; grind [growth, inR]))

theorem impl_Growth (c p : Int) (w : World) : Calls Try.prog 24 #[.int .i64 c, .int .i64 p] w fun e w' => e = .returned (.tuple #[.int .i64 (growth c p).1, .int .i64 (growth c p).2]) ∧ w = w' := by
  go_enter Try.func24, Try.ntmps24
  go_wp2
  all_goals go_ret2
  all_goals refine ⟨retI2 ?_, rfl⟩
  all_goals (first | grind [growth] | (unfold wrap64; grind [growth]))

theorem ports_idx (k : Int) (h1 : 1 ≤ k) (h2 : k ≤ 12) (h9 : k ≠ 9) (w : World) :
    (Instr.index 106 (.agg #[.int .i64 0, .int .i64 1, .int .i64 3, .int .i64 3, .int .i64 3, .int .i64 1, .int .i64 1, .int .i64 3, .int .i64 2, .int .i64 0, .int .i64 2, .int .i64 2, .int .i64 1]) (.int .i64 k)).run Try.prog w = .ok (.int .i64 (portsOf k 0)) w := by
  have hk : k = 1 ∨ k = 2 ∨ k = 3 ∨ k = 4 ∨ k = 5 ∨ k = 6 ∨ k = 7 ∨ k = 8 ∨ k = 10 ∨ k = 11 ∨ k = 12 := by omega
  rcases hk with rfl | rfl | rfl | rfl | rfl | rfl | rfl | rfl | rfl | rfl | rfl <;> (show _ = _; kernel_rfl)
theorem impl_PortsOf (k f : Int) (w : World) : Calls Try.prog 64 #[.int .i64 k, .int .i64 f] w fun e w' => e = .returned (.int .i64 (portsOf k f)) ∧ w = w' := by
  by_cases h9 : k = 9
  · subst h9
    go_enter Try.func64, Try.ntmps64
    go_wp2_with (go_at_call 96; refine (impl_isKind _ _).mono ?_; rintro e w' ⟨rfl, rfl⟩)
    all_goals go_ret
    all_goals refine ⟨retI ?_, rfl⟩
    all_goals grind [portsOf]
  · have h9' : (k == 9) = false := by simp [h9]
    by_cases hk : 1 ≤ k ∧ k ≤ 12
    · obtain ⟨h1, h2⟩ := hk
      have hx := ports_idx k h1 h2 h9
      have hik : isKind k = true := by simp [isKind]; omega
      by_cases hf : f = 0
      · subst hf
        go_enter Try.func64, Try.ntmps64
        go_wp2_with (go_at_call 96; refine (impl_isKind _ _).mono ?_; rintro e w' ⟨rfl, rfl⟩)
        all_goals go_ret
        all_goals exact ⟨rfl, rfl⟩
      · have hf' : (f != 0) = true := by simp [hf]
        go_enter Try.func64, Try.ntmps64
        go_wp2_with (go_at_call 96; refine (impl_isKind _ _).mono ?_; rintro e w' ⟨rfl, rfl⟩)
        all_goals go_ret
        all_goals refine ⟨retI ?_, rfl⟩
        all_goals grind [portsOf]
    · have hik : isKind k = false := by simp [isKind]; omega
      go_enter Try.func64, Try.ntmps64
      go_wp2_with (go_at_call 96; refine (impl_isKind _ _).mono ?_; rintro e w' ⟨rfl, rfl⟩)
      all_goals go_ret
      all_goals refine ⟨retI ?_, rfl⟩
      all_goals grind [portsOf]

theorem spec_l19Turns (k : Int) (w : World) : Calls Try.prog 62 #[.int .i64 k] w fun e w' => e = .returned (.bool (turns k)) ∧ w = w' := by
  go_enter Try.func62, Try.ntmps62
  go_wp2
  all_goals go_ret
  all_goals refine ⟨retB ?_, rfl⟩
  all_goals grind [turns]

theorem impl_canReverse (k : Int) (w : World) : Calls Try.prog 65 #[.int .i64 k] w fun e w' => e = .returned (.bool (turns k)) ∧ w = w' := by
  go_enter Try.func65, Try.ntmps65
  go_wp2
  all_goals go_ret
  all_goals refine ⟨retB ?_, rfl⟩
  all_goals grind [turns]

theorem impl_isOutput (k s : Int) (r : Bool) (w : World) : Calls Try.prog 66 #[.int .i64 k, .int .i64 s, .bool r] w fun e w' => e = .returned (.bool (outB k s r)) ∧ w = w' := by
  go_enter Try.func66, Try.ntmps66
  go_wp2
  all_goals go_ret
  all_goals refine ⟨retB ?_, rfl⟩
  all_goals grind [outB]

theorem impl_PortRole (k s : Int) (r : Bool) (w : World) : Calls Try.prog 32 #[.int .i64 k, .int .i64 s, .bool r] w fun e w' => e = .returned (.int .i64 (portRole k s r)) ∧ w = w' := by
  have hm : (portsOf 9 3) = 4 := by decide
  by_cases h9 : k = 9
  · subst h9
    cases r
    all_goals
      go_enter Try.func32, Try.ntmps32
      go_wp2_with (first | (go_at_call 64; refine (impl_PortsOf _ _ _).mono ?_; rintro e w' ⟨rfl, rfl⟩) | (go_at_call 65; refine (impl_canReverse _ _).mono ?_; rintro e w' ⟨rfl, rfl⟩) | (go_at_call 66; refine (impl_isOutput _ _ _ _).mono ?_; rintro e w' ⟨rfl, rfl⟩))
      all_goals go_ret
      all_goals refine ⟨retI ?_, rfl⟩
      all_goals grind [portRole, roleMost, portsOf, turns, outB]
  · have h9' : (k == 9) = false := by simp [h9]
    cases r
    all_goals
      go_enter Try.func32, Try.ntmps32
      go_wp2_with (first | (go_at_call 64; refine (impl_PortsOf _ _ _).mono ?_; rintro e w' ⟨rfl, rfl⟩) | (go_at_call 65; refine (impl_canReverse _ _).mono ?_; rintro e w' ⟨rfl, rfl⟩) | (go_at_call 66; refine (impl_isOutput _ _ _ _).mono ?_; rintro e w' ⟨rfl, rfl⟩))
      all_goals go_ret
      all_goals refine ⟨retI ?_, rfl⟩
      all_goals grind [portRole, roleMost, turns]

theorem spec_l19Plain (k s : Int) (w : World) : Calls Try.prog 98 #[.int .i64 k, .int .i64 s] w fun e w' => e = .returned (.int .i64 (rolePlain k s)) ∧ w = w' := by
  go_enter Try.func98, Try.ntmps98
  go_wp2
  all_goals go_ret
  all_goals refine ⟨retI ?_, rfl⟩
  all_goals grind [rolePlain]

theorem rolePlain_bd (k s : Int) : 1 ≤ rolePlain k s ∧ rolePlain k s ≤ 2 := by unfold rolePlain; split <;> omega
theorem spec_l19Role (k s : Int) (r : Bool) (w : World) : Calls Try.prog 63 #[.int .i64 k, .int .i64 s, .bool r] w fun e w' => e = .returned (.int .i64 (roleSpec k s r)) ∧ w = w' := by
  obtain ⟨b1, b2⟩ := rolePlain_bd k s
  cases r
  all_goals
    go_enter Try.func63, Try.ntmps63
    go_wp2_with (go_at_call 98; refine (spec_l19Plain _ _ _).mono ?_; rintro e w' ⟨rfl, rfl⟩)
    all_goals go_ret
    all_goals exact ⟨retI (by simp [roleSpec]), rfl⟩

theorem portsOf_bd (k : Int) : 0 ≤ portsOf k 0 ∧ portsOf k 0 ≤ 3 := by grind [portsOf]
theorem spec_PortRole (k s : Int) (r : Bool) (w : World) : Calls Try.prog 31 #[.int .i64 k, .int .i64 s, .bool r] w fun e w' => e = .returned (.int .i64 (portRole k s r)) ∧ w = w' := by
  obtain ⟨b1, b2⟩ := portsOf_bd k
  by_cases h9 : k = 9
  · subst h9
    cases r
    all_goals
      go_enter Try.func31, Try.ntmps31
      go_wp2_with (first | (go_at_call 61; refine (spec_PortsOf _ _ _).mono ?_; rintro e w' ⟨rfl, rfl⟩) | (go_at_call 49; refine (spec_l00In _ _ _ _).mono ?_; rintro e w' ⟨rfl, rfl⟩) | (go_at_call 62; refine (spec_l19Turns _ _).mono ?_; rintro e w' ⟨rfl, rfl⟩) | (go_at_call 63; refine (spec_l19Role _ _ _ _).mono ?_; rintro e w' ⟨rfl, rfl⟩))
      all_goals go_ret
      all_goals refine ⟨retI ?_, rfl⟩
      all_goals grind [portRole, roleMost, inR, turns, roleSpec_eq]
  · have h9' : (k == 9) = false := by simp [h9]
    cases r
    all_goals
      go_enter Try.func31, Try.ntmps31
      go_wp2_with (first | (go_at_call 61; refine (spec_PortsOf _ _ _).mono ?_; rintro e w' ⟨rfl, rfl⟩) | (go_at_call 49; refine (spec_l00In _ _ _ _).mono ?_; rintro e w' ⟨rfl, rfl⟩) | (go_at_call 62; refine (spec_l19Turns _ _).mono ?_; rintro e w' ⟨rfl, rfl⟩) | (go_at_call 63; refine (spec_l19Role _ _ _ _).mono ?_; rintro e w' ⟨rfl, rfl⟩))
      all_goals go_ret
      all_goals refine ⟨retI ?_, rfl⟩
      all_goals grind [portRole, roleMost, inR, turns, roleSpec_eq]

end Go.Proofs.Yteibnofhpkcncaa
