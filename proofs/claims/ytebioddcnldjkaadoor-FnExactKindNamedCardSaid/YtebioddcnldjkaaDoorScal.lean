/- Contracts of the functions on numbers alone, both of the program and of the reference: each returns what the plain function of Dat says, and leaves the world as it is. -/
import Derived.Test.YtebioddcnldjkaaDoorRows
import Derived.Test.YtebioddcnldjkaaDoorDat
import Derived.WalkKit
import Derived.ProofKit
import Derived.Deep.QuietTactic
import Derived.BigQuiet
namespace Go.Proofs.YtebioddcnldjkaaDoor
open Go.RowKit
set_option linter.unusedVariables false

theorem impl_isKind (k : Int) (w : World) : Calls Tryd.prog 11 #[.int .i64 k] w fun e w' => e = .returned (.bool (isKind k)) ∧ w = w' := by
  go_enter Tryd.func11, Tryd.ntmps11
  go_wp2
  all_goals go_ret
  all_goals refine ⟨retB ?_, rfl⟩
  all_goals (rw [Bool.eq_iff_iff]; simp [isKind]; try omega)

theorem spec_l00In (n lo hi : Int) (w : World) : Calls Tryd.prog 12 #[.int .i64 n, .int .i64 lo, .int .i64 hi] w fun e w' => e = .returned (.bool (inR n lo hi)) ∧ w = w' := by
  go_enter Tryd.func12, Tryd.ntmps12
  go_wp2
  all_goals go_ret
  all_goals refine ⟨retB ?_, rfl⟩
  all_goals (rw [Bool.eq_iff_iff]; simp_all [inR]; try omega)

theorem spec_l10Kind (k : Int) (w : World) : Calls Tryd.prog 9 #[.int .i64 k] w fun e w' => e = .returned (.bool (isKind k)) ∧ w = w' := by
  go_enter Tryd.func9, Tryd.ntmps9
  go_wp2_with (go_at_call 12; refine (spec_l00In _ _ _ _).mono ?_; rintro e w' ⟨rfl, rfl⟩)
  all_goals go_ret
  all_goals exact ⟨retB rfl, rfl⟩

end Go.Proofs.YtebioddcnldjkaaDoor
