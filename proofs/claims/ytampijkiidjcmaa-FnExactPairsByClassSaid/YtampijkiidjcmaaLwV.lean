/- Contracts of PairsByClass in the form that a law's walk asks. -/
import Derived.Test.YtampijkiidjcmaaPV
namespace Go.Proofs.Ytampijkiidjcmaa
open Go.RowKit
set_option linter.unusedVariables false
theorem specPairsByClass_v (v : Value) (x : DNet) (w : World) {B : Nat} (h : RdT netRd w B v x) (hB : B ≤ w.heap.size) (hs : szNet x ≤ 1048576) :
    Calls Try.prog 20 #[v] w fun e w' => (∃ v', e = .returned (.tuple #[v', .int .i64 (pairsByClass x).2]) ∧ OwS intOw 1 w' v' (pairsByClass x).1 w.heap.size w'.heap.size) ∧ Below w.heap.size w w' :=
  (c_m_spec_PairsByClass x _ (p_sPairsByClass x hs) v w (h.more netRd_ok hB)).mono fun e w' ⟨⟨v', he, ho⟩, hb⟩ => ⟨⟨v', he, ho.own fI⟩, hb⟩
theorem implPairsByClass_v (v : Value) (x : DNet) (w : World) {B : Nat} (h : RdT netRd w B v x) (hB : B ≤ w.heap.size) (hs : szNet x ≤ 1048576) :
    Calls Try.prog 21 #[v] w fun e w' => (∃ v', e = .returned (.tuple #[v', .int .i64 (pairsByClass x).2]) ∧ OwS intOw 1 w' v' (pairsByClass x).1 w.heap.size w'.heap.size) ∧ Below w.heap.size w w' :=
  (c_m_impl_PairsByClass x _ (p_iPairsByClass x hs) v w (h.more netRd_ok hB)).mono fun e w' ⟨⟨v', he, ho⟩, hb⟩ => ⟨⟨v', he, ho.own fI⟩, hb⟩
end Go.Proofs.Ytampijkiidjcmaa
