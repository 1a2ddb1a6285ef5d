/- Contracts of IsOriented, BadWire in the form that a law's walk asks. -/
import Derived.Test.YtampijkiidjcmaaPW
namespace Go.Proofs.Ytampijkiidjcmaa
open Go.RowKit
set_option linter.unusedVariables false
theorem specIsOriented_v (v u : Value) (x : DNet) (rev : List Bool) (w : World) {B B' : Nat} (h : RdT netRd w B v x) (h' : RdS boolRd 1 w B' u rev) (hB : B ≤ w.heap.size) (hB' : B' ≤ w.heap.size) (hs : szNet x ≤ 1048576) (hr : lenOk rev) :
    Calls Try.prog 34 #[v, u] w fun e w' => e = .returned (.bool (isOriented x rev)) ∧ Below w.heap.size w w' :=
  c_m_spec_IsOriented x rev _ (p_sIsOriented x rev hs) v u w (h.more netRd_ok hB) (h'.more boolRd_ok hB')
theorem implIsOriented_v (v u : Value) (x : DNet) (rev : List Bool) (w : World) {B B' : Nat} (h : RdT netRd w B v x) (h' : RdS boolRd 1 w B' u rev) (hB : B ≤ w.heap.size) (hB' : B' ≤ w.heap.size) (hs : szNet x ≤ 1048576) (hr : lenOk rev) :
    Calls Try.prog 36 #[v, u] w fun e w' => e = .returned (.bool (isOriented x rev)) ∧ Below w.heap.size w w' :=
  c_m_impl_IsOriented x rev _ (p_iIsOriented x rev hs) v u w (h.more netRd_ok hB) (h'.more boolRd_ok hB')
theorem specBadWire_v (v u : Value) (x : DNet) (rev : List Bool) (w : World) {B B' : Nat} (h : RdT netRd w B v x) (h' : RdS boolRd 1 w B' u rev) (hB : B ≤ w.heap.size) (hB' : B' ≤ w.heap.size) (hs : szNet x ≤ 1048576) (hr : lenOk rev) :
    Calls Try.prog 38 #[v, u] w fun e w' => e = .returned (.tuple #[.agg #[.int .i64 (badWire x rev).1.a.agent, .int .i64 (badWire x rev).1.a.slot, .int .i64 (badWire x rev).1.b.agent, .int .i64 (badWire x rev).1.b.slot], .int .i64 (badWire x rev).2]) ∧ Below w.heap.size w w' :=
  c_m_spec_BadWire x rev _ (p_sBadWire x rev hs) v u w (h.more netRd_ok hB) (h'.more boolRd_ok hB')
theorem implBadWire_v (v u : Value) (x : DNet) (rev : List Bool) (w : World) {B B' : Nat} (h : RdT netRd w B v x) (h' : RdS boolRd 1 w B' u rev) (hB : B ≤ w.heap.size) (hB' : B' ≤ w.heap.size) (hs : szNet x ≤ 1048576) (hr : lenOk rev) :
    Calls Try.prog 39 #[v, u] w fun e w' => e = .returned (.tuple #[.agg #[.int .i64 (badWire x rev).1.a.agent, .int .i64 (badWire x rev).1.a.slot, .int .i64 (badWire x rev).1.b.agent, .int .i64 (badWire x rev).1.b.slot], .int .i64 (badWire x rev).2]) ∧ Below w.heap.size w w' :=
  c_m_impl_BadWire x rev _ (p_iBadWire x rev hs) v u w (h.more netRd_ok hB) (h'.more boolRd_ok hB')
end Go.Proofs.Ytampijkiidjcmaa
