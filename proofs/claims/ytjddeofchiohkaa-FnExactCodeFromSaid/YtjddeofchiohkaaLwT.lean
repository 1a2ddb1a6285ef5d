/- Contracts of CodeFrom in the form that a law's walk asks. -/
import Derived.Test.YtjddeofchiohkaaPT
namespace Go.Proofs.Ytjddeofchiohkaa
open Go.RowKit
set_option linter.unusedVariables false

theorem specCodeFrom_v (v : Value) (x : DNet) (s : Int) (w : World) {B : Nat} (h : RdT netRd w B v x) (hB : B ≤ w.heap.size) (hs : szNet x ≤ 1048576) :
    Calls Try.prog 42 #[v, .int .i64 s] w fun e w' => (∃ v', e = .returned (.tuple #[v', .int .i64 (codeFrom x s).2]) ∧ OwS intOw 1 w' v' (codeFrom x s).1 w.heap.size w'.heap.size) ∧ Below w.heap.size w w' :=
  (c_m_spec_CodeFrom x s _ (p_sCodeFrom x s hs) v w (h.more netRd_ok hB)).mono fun e w' ⟨⟨v', he, ho⟩, hb⟩ => ⟨⟨v', he, ho.own fI⟩, hb⟩

theorem implCodeFrom_v (v : Value) (x : DNet) (s : Int) (w : World) {B : Nat} (h : RdT netRd w B v x) (hB : B ≤ w.heap.size) (hs : szNet x ≤ 1048576) :
    Calls Try.prog 43 #[v, .int .i64 s] w fun e w' => (∃ v', e = .returned (.tuple #[v', .int .i64 (codeFrom x s).2]) ∧ OwS intOw 1 w' v' (codeFrom x s).1 w.heap.size w'.heap.size) ∧ Below w.heap.size w w' :=
  (c_m_impl_CodeFrom x s _ (p_iCodeFrom x s hs) v w (h.more netRd_ok hB)).mono fun e w' ⟨⟨v', he, ho⟩, hb⟩ => ⟨⟨v', he, ho.own fI⟩, hb⟩

end Go.Proofs.Ytjddeofchiohkaa
