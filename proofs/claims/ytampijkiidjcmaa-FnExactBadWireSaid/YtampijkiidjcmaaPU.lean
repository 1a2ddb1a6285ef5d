/- ClassOfPair: the models on data. -/
import Derived.Test.YtampijkiidjcmaaPQ
import Derived.Test.YtampijkiidjcmaaWG
namespace Go.Proofs.Ytampijkiidjcmaa
open Go.RowKit
set_option linter.unusedVariables false
set_option linter.unusedSimpArgs false
noncomputable def pairNo (d : DNet) (k : Int) : DPair × Int :=
  bif validNet d then (bif decide (0 ≤ k ∧ k < (pairsOf d.agents).length) then ((pairsOf d.agents).getD k.toNat default, 0) else (⟨0, 0⟩, 2)) else (⟨0, 0⟩, 1)
theorem pairs_len {xs : List DAgent} (G : Good xs) : (pairsOf xs).length ≤ 600 := by
  have hl := G.len
  have := flat_le (f := pairAt xs) (fun k => pairAt_le xs k) (List.range' 0 xs.length)
  rw [List.length_range'] at this
  unfold pairsOf; omega
theorem pair_get {l : List DPair} {k : Int} (h : 0 ≤ k ∧ k < l.length) : getI l k = some (l.getD k.toNat default) := by
  obtain ⟨j, rfl⟩ := Int.eq_ofNat_of_zero_le h.1
  have hj : j < l.length := by omega
  refine getI_nat ?_
  simp [List.getD, hj]
theorem p_sPair (d : DNet) (k : Int) (hs : Small d.agents) : m_spec_l13Pair d k = some (pairNo d k) := by
  unfold m_spec_l13Pair pairNo
  rw [p_ok _ hs, Option.bind_some]
  cases hv : validNet d with
  | false => rfl
  | true =>
    have G := good hv
    have hl := pairs_len G
    rw [cond_true, cond_true, p_sPairs G, Option.bind_some, ck_ok (by omega), Option.bind_some]
    have e : inR k 0 (((pairsOf d.agents).length : Int) - 1) = decide (0 ≤ k ∧ k < (pairsOf d.agents).length) := by rw [Bool.eq_iff_iff]; simp [inR]; omega
    rw [e]
    cases hr : decide (0 ≤ k ∧ k < (pairsOf d.agents).length) with
    | false => rfl
    | true => rw [cond_true, cond_true, pair_get (of_decide_eq_true hr), Option.bind_some]
theorem pairNo_in {d : DNet} {k : Int} (h : (pairNo d k).2 = 0) : Good d.agents ∧ PairIn d.agents (pairNo d k).1 := by
  unfold pairNo at h ⊢
  cases hv : validNet d with
  | false => rw [hv] at h; cases h
  | true =>
    have G := good hv
    rw [hv] at h
    refine ⟨G, ?_⟩
    cases hr : decide (0 ≤ k ∧ k < (pairsOf d.agents).length) with
    | false => rw [hr] at h; cases h
    | true =>
      have hr := of_decide_eq_true hr
      simp only [cond_true]
      have := pair_get hr
      obtain ⟨j, hj⟩ := Int.eq_ofNat_of_zero_le hr.1
      subst hj
      have hjl : j < (pairsOf d.agents).length := by omega
      refine pairsOf_in G ?_
      simp only [Int.toNat_natCast, List.getD, List.getElem?_eq_getElem hjl, Option.getD_some]
      exact List.getElem_mem hjl
noncomputable def classOfPair (d : DNet) (k : Int) : Int × Int :=
  if (pairNo d k).2 = 0 then (cls (agentAt d.agents (pairNo d k).1.a) (agentAt d.agents (pairNo d k).1.b), 0) else (0, (pairNo d k).2)
theorem p_sClassOfPair (d : DNet) (k : Int) (hs : Small d.agents) : m_spec_ClassOfPair d k = some (classOfPair d k) := by
  unfold m_spec_ClassOfPair classOfPair
  rw [p_sPair d k hs, Option.bind_some]
  by_cases h : (pairNo d k).2 = 0
  · obtain ⟨G, i, j, x, y, hp, _, hx, hy, _⟩ := pairNo_in h
    rw [show ((pairNo d k).2 != 0) = false by simpa using h, cond_false, if_pos h, hp]
    simp only [getI_nat hx, getI_nat hy, Option.bind_some, p_class, agentAt_nat hx, agentAt_nat hy]
  · rw [show ((pairNo d k).2 != 0) = true by simpa using h, cond_true, if_neg h]
theorem p_iPair (d : DNet) (k : Int) (hs : Small d.agents) : m_impl_pairAt d k = some (pairNo d k) := by
  unfold m_impl_pairAt pairNo
  rw [p_valid _ hs, Option.bind_some]
  cases hv : validNet d with
  | false => rfl
  | true =>
    have G := good hv
    rw [cond_true, cond_true, p_iPairs G, Option.bind_some]
    by_cases h0 : k < 0
    · rw [decide_eq_true h0, cond_true, decide_eq_false (by omega), cond_false]
    · rw [decide_eq_false h0, cond_false]
      by_cases h1 : k ≥ ((pairsOf d.agents).length : Int)
      · rw [decide_eq_true h1, cond_true, decide_eq_false (by omega), cond_false]
      · have hr : 0 ≤ k ∧ k < ((pairsOf d.agents).length : Int) := by omega
        rw [decide_eq_false h1, cond_false, decide_eq_true hr, cond_true, pair_get hr, Option.bind_some]
theorem p_iClassOfPair (d : DNet) (k : Int) (hs : Small d.agents) : m_impl_ClassOfPair d k = some (classOfPair d k) := by
  unfold m_impl_ClassOfPair classOfPair
  rw [p_iPair d k hs, Option.bind_some]
  by_cases h : (pairNo d k).2 = 0
  · obtain ⟨G, hin⟩ := pairNo_in h
    rw [show ((pairNo d k).2 != 0) = false by simpa using h, cond_false, if_pos h, p_classOf G hin, Option.bind_some]
  · rw [show ((pairNo d k).2 != 0) = true by simpa using h, cond_true, if_neg h]
end Go.Proofs.Ytampijkiidjcmaa
