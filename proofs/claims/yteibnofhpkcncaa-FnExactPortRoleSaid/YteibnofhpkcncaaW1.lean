/- The walks of the laws on numbers: the program's and the reference's functions meet one plain function, so the law returns true. -/
import Derived.Test.YteibnofhpkcncaaScal
namespace Go.Proofs.Yteibnofhpkcncaa
open Go.RowKit
set_option linter.unusedVariables false

theorem walk_Duplicates (a0 : Int) (wa0 : (Lit.int .i64 a0).wf = true) (a1 : Int) (wa1 : (Lit.int .i64 a1).wf = true) (a2 : Int) (wa2 : (Lit.int .i64 a2).wf = true) (w : World) : Calls Try.prog 3 #[.int .i64 a0, .int .i64 a1, .int .i64 a2] w fun e w' => e = .returned (.bool true) ∧ Below w.heap.size w w' := by
  have hw := Below.refl w.heap.size w
  clear wa0 wa1 wa2
  go_enter Try.func3, Try.ntmps3
  go_wp2_with (first | (go_at_call 15; refine (spec_Duplicates _ _ _ _).mono ?_; rintro e w' ⟨rfl, rfl⟩) | (go_at_call 16; refine (impl_Duplicates _ _ _ _).mono ?_; rintro e w' ⟨rfl, rfl⟩))
  all_goals go_ret
  all_goals exact ⟨rfl, hw⟩

theorem walk_Growth (a0 : Int) (wa0 : (Lit.int .i64 a0).wf = true) (a1 : Int) (wa1 : (Lit.int .i64 a1).wf = true) (w : World) : Calls Try.prog 6 #[.int .i64 a0, .int .i64 a1] w fun e w' => e = .returned (.bool true) ∧ Below w.heap.size w w' := by
  have hw := Below.refl w.heap.size w
  clear wa0 wa1
  go_enter Try.func6, Try.ntmps6
  go_wp2_with (first | (go_at_call 23; refine (spec_Growth _ _ _).mono ?_; rintro e w' ⟨rfl, rfl⟩) | (go_at_call 24; refine (impl_Growth _ _ _).mono ?_; rintro e w' ⟨rfl, rfl⟩))
  all_goals go_ret
  all_goals exact ⟨rfl, hw⟩

theorem walk_PortRole (a0 : Int) (wa0 : (Lit.int .i64 a0).wf = true) (a1 : Int) (wa1 : (Lit.int .i64 a1).wf = true) (a2 : Bool) (w : World) : Calls Try.prog 9 #[.int .i64 a0, .int .i64 a1, .bool a2] w fun e w' => e = .returned (.bool true) ∧ Below w.heap.size w w' := by
  have hw := Below.refl w.heap.size w
  clear wa0 wa1
  go_enter Try.func9, Try.ntmps9
  go_wp2_with (first | (go_at_call 31; refine (spec_PortRole _ _ _ _).mono ?_; rintro e w' ⟨rfl, rfl⟩) | (go_at_call 32; refine (impl_PortRole _ _ _ _).mono ?_; rintro e w' ⟨rfl, rfl⟩))
  all_goals go_ret
  all_goals exact ⟨rfl, hw⟩

theorem walk_FirstOfPair (a0 : Int) (wa0 : (Lit.int .i64 a0).wf = true) (a1 : Int) (wa1 : (Lit.int .i64 a1).wf = true) (a2 : Int) (wa2 : (Lit.int .i64 a2).wf = true) (a3 : Int) (wa3 : (Lit.int .i64 a3).wf = true) (w : World) : Calls Try.prog 10 #[.int .i64 a0, .int .i64 a1, .int .i64 a2, .int .i64 a3] w fun e w' => e = .returned (.bool true) ∧ Below w.heap.size w w' := by
  have hw := Below.refl w.heap.size w
  clear wa0 wa1 wa2 wa3
  go_enter Try.func10, Try.ntmps10
  go_wp2_with (first | (go_at_call 33; refine (spec_FirstOfPair _ _ _ _ _).mono ?_; rintro e w' ⟨rfl, rfl⟩) | (go_at_call 34; refine (impl_FirstOfPair _ _ _ _ _).mono ?_; rintro e w' ⟨rfl, rfl⟩))
  all_goals go_ret
  all_goals exact ⟨rfl, hw⟩

theorem walk_PairClass (a0 : Int) (wa0 : (Lit.int .i64 a0).wf = true) (a1 : Int) (wa1 : (Lit.int .i64 a1).wf = true) (a2 : Int) (wa2 : (Lit.int .i64 a2).wf = true) (a3 : Int) (wa3 : (Lit.int .i64 a3).wf = true) (w : World) : Calls Try.prog 11 #[.int .i64 a0, .int .i64 a1, .int .i64 a2, .int .i64 a3] w fun e w' => e = .returned (.bool true) ∧ Below w.heap.size w w' := by
  have hw := Below.refl w.heap.size w
  clear wa0 wa1 wa2 wa3
  go_enter Try.func11, Try.ntmps11
  go_wp2_with (first | (go_at_call 35; refine (spec_PairClass _ _ _ _ _).mono ?_; rintro e w' ⟨rfl, rfl⟩) | (go_at_call 36; refine (impl_PairClass _ _ _ _ _).mono ?_; rintro e w' ⟨rfl, rfl⟩))
  all_goals go_ret
  all_goals exact ⟨rfl, hw⟩

end Go.Proofs.Yteibnofhpkcncaa
