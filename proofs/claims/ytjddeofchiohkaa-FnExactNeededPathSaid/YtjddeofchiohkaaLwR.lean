/- Contracts of NeededPath, NeededPair in the form that a law's walk asks. -/
import Derived.Test.YtjddeofchiohkaaPR
namespace Go.Proofs.Ytjddeofchiohkaa
open Go.RowKit
set_option linter.unusedVariables false

theorem specNeededPath_v (v u : Value) (x : DNet) (p : DPort) (w : World) {B B' : Nat} (h : RdT netRd w B v x) (h' : RdT portRd w B' u p) (hB : B ≤ w.heap.size) (hB' : B' ≤ w.heap.size) (hs : szNet x ≤ 1048576) :
    Calls Try.prog 50 #[v, u] w fun e w' => (∃ v', e = .returned (.tuple #[v', .int .i64 (neededPath x p).2]) ∧ OwS intOw 1 w' v' (neededPath x p).1 w.heap.size w'.heap.size) ∧ Below w.heap.size w w' := by
  obtain ⟨cs, rfl, rfl⟩ := h'
  exact (c_m_spec_NeededPath x p _ (p_sNeededPath x p hs) v w (h.more netRd_ok hB)).mono fun e w' ⟨⟨v', he, ho⟩, hb⟩ => ⟨⟨v', he, ho.own fI⟩, hb⟩

theorem implNeededPath_v (v u : Value) (x : DNet) (p : DPort) (w : World) {B B' : Nat} (h : RdT netRd w B v x) (h' : RdT portRd w B' u p) (hB : B ≤ w.heap.size) (hB' : B' ≤ w.heap.size) (hs : szNet x ≤ 1048576) :
    Calls Try.prog 51 #[v, u] w fun e w' => (∃ v', e = .returned (.tuple #[v', .int .i64 (neededPath x p).2]) ∧ OwS intOw 1 w' v' (neededPath x p).1 w.heap.size w'.heap.size) ∧ Below w.heap.size w w' := by
  obtain ⟨cs, rfl, rfl⟩ := h'
  exact (c_m_impl_NeededPath x p _ (p_iNeededPath x p hs) v w (h.more netRd_ok hB)).mono fun e w' ⟨⟨v', he, ho⟩, hb⟩ => ⟨⟨v', he, ho.own fI⟩, hb⟩

theorem specNeededPair_v (v u : Value) (x : DNet) (p : DPort) (w : World) {B B' : Nat} (h : RdT netRd w B v x) (h' : RdT portRd w B' u p) (hB : B ≤ w.heap.size) (hB' : B' ≤ w.heap.size) (hs : szNet x ≤ 1048576) :
    Calls Try.prog 52 #[v, u] w fun e w' => e = .returned (.tuple #[.int .i64 (neededPair x p).1, .int .i64 (neededPair x p).2]) ∧ Below w.heap.size w w' := by
  obtain ⟨cs, rfl, rfl⟩ := h'
  exact c_m_spec_NeededPair x p _ (p_sNeededPair x p hs) v w (h.more netRd_ok hB)

theorem implNeededPair_v (v u : Value) (x : DNet) (p : DPort) (w : World) {B B' : Nat} (h : RdT netRd w B v x) (h' : RdT portRd w B' u p) (hB : B ≤ w.heap.size) (hB' : B' ≤ w.heap.size) (hs : szNet x ≤ 1048576) :
    Calls Try.prog 53 #[v, u] w fun e w' => e = .returned (.tuple #[.int .i64 (neededPair x p).1, .int .i64 (neededPair x p).2]) ∧ Below w.heap.size w w' := by
  obtain ⟨cs, rfl, rfl⟩ := h'
  exact c_m_impl_NeededPair x p _ (p_iNeededPair x p hs) v w (h.more netRd_ok hB)

end Go.Proofs.Ytjddeofchiohkaa
