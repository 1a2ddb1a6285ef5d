/- The slice types that are appended to. -/
import Derived.Test.YtampijkiidjcmaaWkF
import Derived.Test.YtampijkiidjcmaaRows
namespace Go.Proofs.Ytampijkiidjcmaa
open Go.RowKit

theorem app_int64 : AppT Try.prog 34 2 (.int .i64 0) 1 8 := ⟨by kernel_rfl, by kernel_rfl, rfl, by decide⟩

theorem app_bool : AppT Try.prog 47 4 (.bool false) 1 1 := ⟨by kernel_rfl, by kernel_rfl, rfl, by decide⟩

theorem app_impl_Port : AppT Try.prog 87 53 (.agg #[.int .i64 0, .int .i64 0]) 2 16 := ⟨by kernel_rfl, by kernel_rfl, rfl, by decide⟩

theorem app_impl_Pair : AppT Try.prog 96 81 (.agg #[.int .i64 0, .int .i64 0]) 2 16 := ⟨by kernel_rfl, by kernel_rfl, rfl, by decide⟩

theorem app_impl_Wire : AppT Try.prog 117 55 (.agg #[.int .i64 0, .int .i64 0, .int .i64 0, .int .i64 0]) 4 32 := ⟨by kernel_rfl, by kernel_rfl, rfl, by decide⟩

end Go.Proofs.Ytampijkiidjcmaa
