/- Contracts of FirstClash, CountRoles in the form that a law's walk asks. -/
import Derived.Test.YtjddeofchiohkaaPQ
namespace Go.Proofs.Ytjddeofchiohkaa
open Go.RowKit
set_option linter.unusedVariables false

theorem specFirstClash_v (v : Value) (x : DNet) (w : World) {B : Nat} (h : RdT netRd w B v x) (hB : B ≤ w.heap.size) (hs : szNet x ≤ 1048576) :
    Calls Try.prog 54 #[v] w fun e w' => e = .returned (.tuple #[.int .i64 (firstClash x).1, .int .i64 (firstClash x).2]) ∧ Below w.heap.size w w' :=
  c_m_spec_FirstClash x _ (p_sFirstClash x hs) v w (h.more netRd_ok hB)

theorem implFirstClash_v (v : Value) (x : DNet) (w : World) {B : Nat} (h : RdT netRd w B v x) (hB : B ≤ w.heap.size) (hs : szNet x ≤ 1048576) :
    Calls Try.prog 55 #[v] w fun e w' => e = .returned (.tuple #[.int .i64 (firstClash x).1, .int .i64 (firstClash x).2]) ∧ Below w.heap.size w w' :=
  c_m_impl_FirstClash x _ (p_iFirstClash x hs) v w (h.more netRd_ok hB)

theorem specCountRoles_v (v u : Value) (x : DNet) (rev : List Bool) (w : World) {B B' : Nat} (h : RdT netRd w B v x) (h' : RdS boolRd 1 w B' u rev) (hB : B ≤ w.heap.size) (hB' : B' ≤ w.heap.size) (hs : szNet x ≤ 1048576) (hr : lenOk rev) :
    Calls Try.prog 46 #[v, u] w fun e w' => e = .returned (.tuple #[.int .i64 (countRoles x rev).1, .int .i64 (countRoles x rev).2.1, .int .i64 (countRoles x rev).2.2]) ∧ Below w.heap.size w w' :=
  c_m_spec_CountRoles x rev _ (p_sCountRoles x rev hs) v u w (h.more netRd_ok hB) (h'.more boolRd_ok hB')

theorem implCountRoles_v (v u : Value) (x : DNet) (rev : List Bool) (w : World) {B B' : Nat} (h : RdT netRd w B v x) (h' : RdS boolRd 1 w B' u rev) (hB : B ≤ w.heap.size) (hB' : B' ≤ w.heap.size) (hs : szNet x ≤ 1048576) (hr : lenOk rev) :
    Calls Try.prog 48 #[v, u] w fun e w' => e = .returned (.tuple #[.int .i64 (countRoles x rev).1, .int .i64 (countRoles x rev).2.1, .int .i64 (countRoles x rev).2.2]) ∧ Below w.heap.size w w' :=
  c_m_impl_CountRoles x rev _ (p_iCountRoles x rev hs) v u w (h.more netRd_ok hB) (h'.more boolRd_ok hB')

end Go.Proofs.Ytjddeofchiohkaa
