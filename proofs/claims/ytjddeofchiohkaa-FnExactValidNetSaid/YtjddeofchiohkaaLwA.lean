/- Contracts of spec.ValidNet, impl.ValidNet in the form that a law's walk asks. -/
import Derived.Test.YtjddeofchiohkaaPN
namespace Go.Proofs.Ytjddeofchiohkaa
open Go.RowKit
set_option linter.unusedVariables false

theorem p_specValidNet (d : DNet) (hs : Small d.agents) : m_spec_ValidNet d = some (validNet d) := by
  unfold m_spec_ValidNet
  rw [p_ok d hs, Option.bind_some]
theorem specValidNet_v (v : Value) (x : DNet) (w : World) {B : Nat} (h : RdT netRd w B v x) (hB : B ≤ w.heap.size) (hs : szNet x ≤ 1048576) :
    Calls Try.prog 16 #[v] w fun e w' => e = .returned (.bool (validNet x)) ∧ Below w.heap.size w w' :=
  c_m_spec_ValidNet x _ (p_specValidNet x hs) v w (h.more netRd_ok hB)

theorem implValidNet_v (v : Value) (x : DNet) (w : World) {B : Nat} (h : RdT netRd w B v x) (hB : B ≤ w.heap.size) (hs : szNet x ≤ 1048576) :
    Calls Try.prog 18 #[v] w fun e w' => e = .returned (.bool (validNet x)) ∧ Below w.heap.size w w' :=
  c_m_impl_ValidNet x _ (p_valid x hs) v w (h.more netRd_ok hB)

end Go.Proofs.Ytjddeofchiohkaa
