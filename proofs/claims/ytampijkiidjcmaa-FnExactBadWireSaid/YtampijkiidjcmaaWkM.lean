/- The map types. -/
import Derived.Test.YtampijkiidjcmaaWkJ
import Derived.Test.YtampijkiidjcmaaRows
namespace Go.Proofs.Ytampijkiidjcmaa
open Go.RowKit
set_option maxRecDepth 100000
def encVI (x : Int) : Value := .int .i64 x
def encVB (x : Bool) : Value := .bool x

theorem mt_int64_bool : MapT Try.prog 136 2 keyI litI goodI (.bool false) := mapTI (e := 4) Try.underlying2 Try.underlying136 (by kernel_rfl)

theorem mt_int64_int64 : MapT Try.prog 168 2 keyI litI goodI (.int .i64 0) := mapTI (e := 2) Try.underlying2 Try.underlying168 (by kernel_rfl)

end Go.Proofs.Ytampijkiidjcmaa
