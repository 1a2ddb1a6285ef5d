/- PairsByClass: the models agree. -/
import Derived.Test.YtampijkiidjcmaaPU
namespace Go.Proofs.Ytampijkiidjcmaa
open Go.RowKit
set_option linter.unusedVariables false
set_option linter.unusedSimpArgs false
theorem cls_range {xs : List DAgent} (G : Good xs) {p : DPair} (h : PairIn xs p) : 1 ≤ cls (agentAt xs p.a) (agentAt xs p.b) ∧ cls (agentAt xs p.a) (agentAt xs p.b) ≤ 8 := by
  obtain ⟨i, j, x, y, rfl, hij, hx, hy, h1, h2, _⟩ := h
  simp only [agentAt_nat hx, agentAt_nat hy]
  have hm : mayPair x.kind x.level y.kind y.level = true := by
    unfold mayPair
    rw [agentOk_allowed (G.ok i x hx), agentOk_allowed (G.ok j y hy)]
    simp [h1, h2]
  have hr : ∀ a b c d : Int, 0 ≤ rule a b c d ∧ rule a b c d ≤ 7 := by
    intro a b c d
    unfold rule
    grind
  have r1 := hr x.kind x.level y.kind y.level
  have r2 := hr y.kind y.level x.kind x.level
  unfold cls
  split
  · omega
  · unfold pairClass
    rw [if_pos hm]
    split
    · omega
    · split <;> omega
def bump (xs : List DAgent) (s : List Int) (p : DPair) : List Int := setI s (cls (agentAt xs p.a) (agentAt xs p.b) - 1) ((getI s (cls (agentAt xs p.a) (agentAt xs p.b) - 1)).getD 0 + 1)
structure Cnts (k : Nat) (s : List Int) : Prop where
  len : s.length = 8
  le : ∀ x ∈ s, 0 ≤ x ∧ x ≤ (k : Int)
theorem Cnts.get {k : Nat} {s : List Int} (h : Cnts k s) {c : Int} (h0 : 1 ≤ c) (h1 : c ≤ 8) : ∃ v, getI s (c - 1) = some v ∧ 0 ≤ v ∧ v ≤ k := by
  obtain ⟨j, hj⟩ := Int.eq_ofNat_of_zero_le (show 0 ≤ c - 1 by omega)
  have hjl : j < s.length := by have := h.len; omega
  have hv := List.getElem?_eq_getElem hjl
  rw [hj]
  exact ⟨_, getI_nat hv, h.le _ (List.getElem_mem hjl)⟩
theorem Cnts.set {k : Nat} {s : List Int} (h : Cnts k s) {c v : Int} (hv : 0 ≤ v ∧ v ≤ k) : Cnts (k + 1) (setI s c (v + 1)) :=
  ⟨by unfold setI; rw [List.length_set]; exact h.len, fun x hx => by
    unfold setI at hx
    rcases List.mem_or_eq_of_mem_set hx with h1 | h1
    · have := h.le x h1; omega
    · omega⟩
noncomputable def pairsByClass (d : DNet) : List Int × Int := bif validNet d then ((pairsOf d.agents).foldl (bump d.agents) [0, 0, 0, 0, 0, 0, 0, 0], 0) else ([], 1)
theorem zero8 : Cnts 0 [0, 0, 0, 0, 0, 0, 0, 0] := ⟨rfl, fun x hx => by simp at hx; omega⟩
theorem p_sPairsByClass (d : DNet) (hs : Small d.agents) : m_spec_PairsByClass d = some (pairsByClass d) := by
  obtain ⟨xs⟩ := d
  have hs : Small xs := hs
  unfold m_spec_PairsByClass pairsByClass
  rw [p_ok _ hs, Option.bind_some]
  cases hv : validNet ⟨xs⟩ with
  | false => rfl
  | true =>
    have G : Good xs := good hv
    have hl := pairs_len G
    rw [cond_true, cond_true, p_sPairs (d := ⟨xs⟩) G, Option.bind_some]
    exact (foldL (L := fun g s i => m_spec_PairsByClass_L1 ⟨xs⟩ (pairsOf xs) m_spec_PairsByClass_A1 g s i) (d := pairsOf xs) (f := bump xs) (I := Cnts) (K := fun s => some (s, 0))
      (fun g k p s hp hI => by
        have hk := lt_of_some hp
        have hin := pairsOf_in G (List.mem_of_getElem? hp)
        have hc := cls_range G hin
        obtain ⟨i, j, x, y, rfl, hij, hx, hy, _⟩ := hin
        obtain ⟨v, hv, v0, v1⟩ := hI.get hc.1 hc.2
        have hbump : bump xs s ⟨(i : Int), (j : Int)⟩ = setI s (cls (agentAt xs (i : Int)) (agentAt xs (j : Int)) - 1) (v + 1) := by unfold bump; simp only at hv; simp only [hv, Option.getD_some]
        rw [hbump]
        refine ⟨?_, hI.set ⟨v0, v1⟩⟩
        simp only [agentAt_nat hx, agentAt_nat hy] at hc hv ⊢
        simp -implicitDefEqProofs only [m_spec_PairsByClass_L1, m_spec_PairsByClass_B1, dlt hk, cond_true, getI_nat hp, getI_nat hx, getI_nat hy, Option.bind_some, p_class]
        rw [ck_ok (by omega), Option.bind_some, hv, Option.bind_some, ck_ok (by omega), Option.bind_some, Option.bind_some])
      (fun g s _ => by simp -implicitDefEqProofs only [m_spec_PairsByClass_L1, m_spec_PairsByClass_B1, dge, cond_false, m_spec_PairsByClass_A1])
      ((pairsOf xs).length + 1) _ (Nat.lt_succ_self _) zero8).1
theorem p_iPairsByClass (d : DNet) (hs : Small d.agents) : m_impl_PairsByClass d = some (pairsByClass d) := by
  obtain ⟨xs⟩ := d
  have hs : Small xs := hs
  unfold m_impl_PairsByClass pairsByClass
  rw [p_valid _ hs, Option.bind_some]
  cases hv : validNet ⟨xs⟩ with
  | false => rfl
  | true =>
    have G : Good xs := good hv
    have hl := pairs_len G
    rw [cond_true, cond_true, mustP_ok (by omega), Option.bind_some, p_iPairs (d := ⟨xs⟩) G, Option.bind_some]
    exact (foldL (L := fun g s i => m_impl_PairsByClass_L1 ⟨xs⟩ (pairsOf xs) m_impl_PairsByClass_A1 g s i) (d := pairsOf xs) (f := bump xs) (I := Cnts) (K := fun s => some (s, 0))
      (fun g k p s hp hI => by
        have hk := lt_of_some hp
        have hin := pairsOf_in G (List.mem_of_getElem? hp)
        have hc := cls_range G hin
        have hcl := p_classOf (d := ⟨xs⟩) G hin
        obtain ⟨v, hv, v0, v1⟩ := hI.get hc.1 hc.2
        have hbump : bump xs s p = setI s (cls (agentAt xs p.a) (agentAt xs p.b) - 1) (v + 1) := by unfold bump; simp only [hv, Option.getD_some]
        rw [hbump]
        refine ⟨?_, hI.set ⟨v0, v1⟩⟩
        simp -implicitDefEqProofs only [m_impl_PairsByClass_L1, m_impl_PairsByClass_B1, dlt hk, cond_true, getI_nat hp, Option.bind_some, hcl]
        rw [ck_ok (by omega), Option.bind_some, hv, Option.bind_some, ck_ok (by omega), Option.bind_some, Option.bind_some])
      (fun g s _ => by simp -implicitDefEqProofs only [m_impl_PairsByClass_L1, m_impl_PairsByClass_B1, dge, cond_false, m_impl_PairsByClass_A1])
      ((pairsOf xs).length + 1) _ (Nat.lt_succ_self _) zero8).1
theorem pairsByClass_len (d : DNet) (hs : szNet d ≤ 1048576) : lenOk (pairsByClass d).1 := by
  unfold pairsByClass lenOk
  cases hv : validNet d with
  | false => simp
  | true =>
    simp only [cond_true]
    have : ∀ (l : List DPair) (s : List Int), (l.foldl (bump d.agents) s).length = s.length := by
      intro l
      induction l with
      | nil => intro s; rfl
      | cons p l ih => intro s; rw [List.foldl_cons, ih]; unfold bump setI; rw [List.length_set]
    rw [this]; simp
end Go.Proofs.Ytampijkiidjcmaa
