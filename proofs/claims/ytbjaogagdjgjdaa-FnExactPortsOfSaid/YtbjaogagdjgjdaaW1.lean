/- The walks of the laws on numbers: the program's and the reference's functions meet one plain function, so the law returns true. -/
import Derived.Test.YtbjaogagdjgjdaaScal
namespace Go.Proofs.Ytbjaogagdjgjdaa
open Go.RowKit
set_option linter.unusedVariables false

theorem walk_IsConsumer (a : Int) (wa : (Lit.int .i64 a).wf = true) (w : World) : Calls Try.prog 3 #[.int .i64 a] w fun e w' => e = .returned (.bool true) ∧ Below w.heap.size w w' := by
  have hw := Below.refl w.heap.size w
  clear wa
  go_enter Try.func3, Try.ntmps3
  go_wp2_with (first | (go_at_call 7; refine (spec_IsConsumer _ _).mono ?_; rintro e w' ⟨rfl, rfl⟩) | (go_at_call 8; refine (impl_IsConsumer _ _).mono ?_; rintro e w' ⟨rfl, rfl⟩))
  all_goals go_ret
  all_goals exact ⟨rfl, hw⟩

theorem walk_HasLevel (a : Int) (wa : (Lit.int .i64 a).wf = true) (w : World) : Calls Try.prog 4 #[.int .i64 a] w fun e w' => e = .returned (.bool true) ∧ Below w.heap.size w w' := by
  have hw := Below.refl w.heap.size w
  clear wa
  go_enter Try.func4, Try.ntmps4
  go_wp2_with (first | (go_at_call 9; refine (spec_HasLevel _ _).mono ?_; rintro e w' ⟨rfl, rfl⟩) | (go_at_call 10; refine (impl_HasLevel _ _).mono ?_; rintro e w' ⟨rfl, rfl⟩))
  all_goals go_ret
  all_goals exact ⟨rfl, hw⟩

theorem walk_PortsOf (a : Int) (wa : (Lit.int .i64 a).wf = true) (b : Int) (wb : (Lit.int .i64 b).wf = true) (w : World) : Calls Try.prog 6 #[.int .i64 a, .int .i64 b] w fun e w' => e = .returned (.bool true) ∧ Below w.heap.size w w' := by
  have hw := Below.refl w.heap.size w
  clear wa wb
  go_enter Try.func6, Try.ntmps6
  go_wp2_with (first | (go_at_call 13; refine (spec_PortsOf _ _ _).mono ?_; rintro e w' ⟨rfl, rfl⟩) | (go_at_call 14; refine (impl_PortsOf _ _ _).mono ?_; rintro e w' ⟨rfl, rfl⟩))
  all_goals go_ret
  all_goals exact ⟨rfl, hw⟩

end Go.Proofs.Ytbjaogagdjgjdaa
