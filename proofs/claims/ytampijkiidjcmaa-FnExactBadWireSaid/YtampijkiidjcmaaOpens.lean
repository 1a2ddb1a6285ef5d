/- How the arguments of this seat's laws are opened. -/
import Derived.Test.YtampijkiidjcmaaRows
import Derived.Test.YtampijkiidjcmaaOpen
namespace Go.Proofs.Ytampijkiidjcmaa
open Go.RowKit

theorem opens_ints : Opens Try.prog 34 (slRd intRd 1) := opens_slice Try.underlying34 (by kernel_rfl) (by decide) intRd_ok (opens_int Try.underlying2)

theorem opens_bools : Opens Try.prog 47 (slRd boolRd 1) := opens_slice Try.underlying47 (by kernel_rfl) (by decide) boolRd_ok (opens_bool Try.underlying4)

end Go.Proofs.Ytampijkiidjcmaa
