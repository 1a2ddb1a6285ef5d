/- How the arguments of this seat's laws are opened. -/
import Derived.Test.YtjddeofchiohkaaRows
import Derived.Test.YtjddeofchiohkaaOpen
namespace Go.Proofs.Ytjddeofchiohkaa
open Go.RowKit

theorem opens_ints : Opens Try.prog 55 (slRd intRd 1) := opens_slice Try.underlying55 (by kernel_rfl) (by decide) intRd_ok (opens_int Try.underlying2)

theorem opens_bools : Opens Try.prog 60 (slRd boolRd 1) := opens_slice Try.underlying60 (by kernel_rfl) (by decide) boolRd_ok (opens_bool Try.underlying4)

end Go.Proofs.Ytjddeofchiohkaa
