/- How the arguments of this seat's laws are opened. -/
import Derived.Test.YteibnofhpkcncaaRows
import Derived.Test.YteibnofhpkcncaaOpen
namespace Go.Proofs.Yteibnofhpkcncaa
open Go.RowKit

theorem opens_ints : Opens Try.prog 23 (slRd intRd 1) := opens_slice Try.underlying23 (by kernel_rfl) (by decide) intRd_ok (opens_int Try.underlying2)

end Go.Proofs.Yteibnofhpkcncaa
