/- Contracts of ClassOfPair in the form that a law's walk asks. -/
import Derived.Test.YtampijkiidjcmaaPU
namespace Go.Proofs.Ytampijkiidjcmaa
open Go.RowKit
set_option linter.unusedVariables false
theorem specClassOfPair_v (v : Value) (x : DNet) (k : Int) (w : World) {B : Nat} (h : RdT netRd w B v x) (hB : B ≤ w.heap.size) (hs : szNet x ≤ 1048576) :
    Calls Try.prog 16 #[v, .int .i64 k] w fun e w' => e = .returned (.tuple #[.int .i64 (classOfPair x k).1, .int .i64 (classOfPair x k).2]) ∧ Below w.heap.size w w' :=
  c_m_spec_ClassOfPair x k _ (p_sClassOfPair x k hs) v w (h.more netRd_ok hB)
theorem implClassOfPair_v (v : Value) (x : DNet) (k : Int) (w : World) {B : Nat} (h : RdT netRd w B v x) (hB : B ≤ w.heap.size) (hs : szNet x ≤ 1048576) :
    Calls Try.prog 18 #[v, .int .i64 k] w fun e w' => e = .returned (.tuple #[.int .i64 (classOfPair x k).1, .int .i64 (classOfPair x k).2]) ∧ Below w.heap.size w w' :=
  c_m_impl_ClassOfPair x k _ (p_iClassOfPair x k hs) v w (h.more netRd_ok hB)
end Go.Proofs.Ytampijkiidjcmaa
