/- Contracts of TraverseFrom in the form that a law's walk asks. -/
import Derived.Test.YtjddeofchiohkaaPS
namespace Go.Proofs.Ytjddeofchiohkaa
open Go.RowKit
set_option linter.unusedVariables false

theorem specTraverseFrom_v (v : Value) (x : DNet) (s : Int) (w : World) {B : Nat} (h : RdT netRd w B v x) (hB : B ≤ w.heap.size) (hs : szNet x ≤ 1048576) :
    Calls Try.prog 37 #[v, .int .i64 s] w fun e w' => (∃ v', e = .returned (.tuple #[v', .int .i64 (traverseFrom x s).2]) ∧ OwS intOw 1 w' v' (traverseFrom x s).1 w.heap.size w'.heap.size) ∧ Below w.heap.size w w' :=
  (c_m_spec_TraverseFrom x s _ (p_sTraverseFrom x s hs) v w (h.more netRd_ok hB)).mono fun e w' ⟨⟨v', he, ho⟩, hb⟩ => ⟨⟨v', he, ho.own fI⟩, hb⟩

theorem implTraverseFrom_v (v : Value) (x : DNet) (s : Int) (w : World) {B : Nat} (h : RdT netRd w B v x) (hB : B ≤ w.heap.size) (hs : szNet x ≤ 1048576) :
    Calls Try.prog 38 #[v, .int .i64 s] w fun e w' => (∃ v', e = .returned (.tuple #[v', .int .i64 (traverseFrom x s).2]) ∧ OwS intOw 1 w' v' (traverseFrom x s).1 w.heap.size w'.heap.size) ∧ Below w.heap.size w w' :=
  (c_m_impl_TraverseFrom x s _ (p_iTraverseFrom x s hs) v w (h.more netRd_ok hB)).mono fun e w' ⟨⟨v', he, ho⟩, hb⟩ => ⟨⟨v', he, ho.own fI⟩, hb⟩

end Go.Proofs.Ytjddeofchiohkaa
