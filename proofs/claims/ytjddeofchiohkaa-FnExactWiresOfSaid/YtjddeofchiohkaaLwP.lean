/- Contracts of PeerOf and CountKind in the form that a law's walk asks. -/
import Derived.Test.YtjddeofchiohkaaPO
namespace Go.Proofs.Ytjddeofchiohkaa
open Go.RowKit
set_option linter.unusedVariables false

theorem specPeerOf_v (v u : Value) (x : DNet) (p : DPort) (w : World) {B B' : Nat} (h : RdT netRd w B v x) (h' : RdT portRd w B' u p) (hB : B ≤ w.heap.size) (hB' : B' ≤ w.heap.size) (hs : szNet x ≤ 1048576) :
    Calls Try.prog 20 #[v, u] w fun e w' => e = .returned (.tuple #[.agg #[.int .i64 (peerOf x p).1.agent, .int .i64 (peerOf x p).1.slot], .int .i64 (peerOf x p).2]) ∧ Below w.heap.size w w' := by
  obtain ⟨cs, rfl, rfl⟩ := h'
  exact c_m_spec_PeerOf x p _ (p_sPeerOf x p hs) v w (h.more netRd_ok hB)

theorem implPeerOf_v (v u : Value) (x : DNet) (p : DPort) (w : World) {B B' : Nat} (h : RdT netRd w B v x) (h' : RdT portRd w B' u p) (hB : B ≤ w.heap.size) (hB' : B' ≤ w.heap.size) (hs : szNet x ≤ 1048576) :
    Calls Try.prog 22 #[v, u] w fun e w' => e = .returned (.tuple #[.agg #[.int .i64 (peerOf x p).1.agent, .int .i64 (peerOf x p).1.slot], .int .i64 (peerOf x p).2]) ∧ Below w.heap.size w w' := by
  obtain ⟨cs, rfl, rfl⟩ := h'
  exact c_m_impl_PeerOf x p _ (p_iPeerOf x p hs) v w (h.more netRd_ok hB)

theorem specCountKind_v (v : Value) (x : DNet) (k : Int) (w : World) {B : Nat} (h : RdT netRd w B v x) (hB : B ≤ w.heap.size) (hs : szNet x ≤ 1048576) :
    Calls Try.prog 24 #[v, .int .i64 k] w fun e w' => e = .returned (.tuple #[.int .i64 (countKind x k).1, .int .i64 (countKind x k).2]) ∧ Below w.heap.size w w' :=
  c_m_spec_CountKind x k _ (p_sCountKind x k hs) v w (h.more netRd_ok hB)

theorem implCountKind_v (v : Value) (x : DNet) (k : Int) (w : World) {B : Nat} (h : RdT netRd w B v x) (hB : B ≤ w.heap.size) (hs : szNet x ≤ 1048576) :
    Calls Try.prog 25 #[v, .int .i64 k] w fun e w' => e = .returned (.tuple #[.int .i64 (countKind x k).1, .int .i64 (countKind x k).2]) ∧ Below w.heap.size w w' :=
  c_m_impl_CountKind x k _ (p_iCountKind x k hs) v w (h.more netRd_ok hB)

theorem specActivePairs_v (v : Value) (x : DNet) (w : World) {B : Nat} (h : RdT netRd w B v x) (hB : B ≤ w.heap.size) (hs : szNet x ≤ 1048576) :
    Calls Try.prog 26 #[v] w fun e w' => (∃ v', e = .returned (.tuple #[v', .int .i64 (activePairs x).2]) ∧ OwS pairOw 2 w' v' (activePairs x).1 w.heap.size w'.heap.size) ∧ Below w.heap.size w w' :=
  (c_m_spec_ActivePairs x _ (p_sActivePairs x hs) v w (h.more netRd_ok hB)).mono fun e w' ⟨⟨v', he, ho⟩, hb⟩ => ⟨⟨v', he, ho.own fPair⟩, hb⟩

theorem implActivePairs_v (v : Value) (x : DNet) (w : World) {B : Nat} (h : RdT netRd w B v x) (hB : B ≤ w.heap.size) (hs : szNet x ≤ 1048576) :
    Calls Try.prog 27 #[v] w fun e w' => (∃ v', e = .returned (.tuple #[v', .int .i64 (activePairs x).2]) ∧ OwS pairOw 2 w' v' (activePairs x).1 w.heap.size w'.heap.size) ∧ Below w.heap.size w w' :=
  (c_m_impl_ActivePairs x _ (p_iActivePairs x hs) v w (h.more netRd_ok hB)).mono fun e w' ⟨⟨v', he, ho⟩, hb⟩ => ⟨⟨v', he, ho.own fPair⟩, hb⟩

theorem specWiresOf_v (v : Value) (x : DNet) (w : World) {B : Nat} (h : RdT netRd w B v x) (hB : B ≤ w.heap.size) (hs : szNet x ≤ 1048576) :
    Calls Try.prog 32 #[v] w fun e w' => (∃ v', e = .returned (.tuple #[v', .int .i64 (wiresOf x).2]) ∧ OwS wireOw 4 w' v' (wiresOf x).1 w.heap.size w'.heap.size) ∧ Below w.heap.size w w' :=
  (c_m_spec_WiresOf x _ (p_sWiresOf x hs) v w (h.more netRd_ok hB)).mono fun e w' ⟨⟨v', he, ho⟩, hb⟩ => ⟨⟨v', he, ho.own fWire⟩, hb⟩

theorem implWiresOf_v (v : Value) (x : DNet) (w : World) {B : Nat} (h : RdT netRd w B v x) (hB : B ≤ w.heap.size) (hs : szNet x ≤ 1048576) :
    Calls Try.prog 33 #[v] w fun e w' => (∃ v', e = .returned (.tuple #[v', .int .i64 (wiresOf x).2]) ∧ OwS wireOw 4 w' v' (wiresOf x).1 w.heap.size w'.heap.size) ∧ Below w.heap.size w w' :=
  (c_m_impl_WiresOf x _ (p_iWiresOf x hs) v w (h.more netRd_ok hB)).mono fun e w' ⟨⟨v', he, ho⟩, hb⟩ => ⟨⟨v', he, ho.own fWire⟩, hb⟩

end Go.Proofs.Ytjddeofchiohkaa
