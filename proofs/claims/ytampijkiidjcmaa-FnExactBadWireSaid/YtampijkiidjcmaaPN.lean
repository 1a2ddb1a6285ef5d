/- The validity of nets: the models answer as 'validNet' says. -/
import Derived.Test.YtampijkiidjcmaaPL
import Derived.Test.YtampijkiidjcmaaVnD
import Derived.Test.YtampijkiidjcmaaWC
namespace Go.Proofs.Ytampijkiidjcmaa
open Go.RowKit
set_option linter.unusedVariables false
set_option linter.unusedSimpArgs false
theorem allDef {xs : List Int} : (∀ k, k < xs.length → ∃ x, xs[k]? = some x ∧ defIx x = true) ↔ xs.all defIx = true := by
  rw [List.all_eq_true]
  constructor
  · intro h x hx
    obtain ⟨k, hk, rfl⟩ := List.getElem_of_mem hx
    obtain ⟨y, hy, hd⟩ := h k hk
    rw [List.getElem?_eq_getElem hk] at hy
    injection hy with hy
    rw [hy]; exact hd
  · intro h k hk
    exact ⟨xs[k], List.getElem?_eq_getElem hk, h _ (List.getElem_mem _)⟩
theorem inR_def (x : Int) : inR x 0 23 = defIx x := rfl
theorem content_L1 (x : DAgent) (g : Nat) (hg : x.data.length < g) : m_spec_l11Content_L1 x m_spec_l11Content_A1 g 0 = some (x.data.all defIx) := by
  have h := allI (L := m_spec_l11Content_L1 x m_spec_l11Content_A1) (n := x.data.length) (p := fun k => ∃ y, x.data[k]? = some y ∧ defIx y = true) (no := some false) (K := some true)
    (fun g k hk ⟨y, hy, hd⟩ => by simp [m_spec_l11Content_L1, m_spec_l11Content_B1, hk, getI_nat hy, m_spec_l11Def, inR_def, hd])
    (fun g k hk hn => by
      have hd : defIx x.data[k] = false := by
        cases h : defIx x.data[k] with
        | false => rfl
        | true => exact absurd ⟨_, List.getElem?_eq_getElem hk, h⟩ hn
      simp [m_spec_l11Content_L1, m_spec_l11Content_B1, hk, getI_lt hk, m_spec_l11Def, inR_def, hd])
    (fun g => by simp [m_spec_l11Content_L1, m_spec_l11Content_B1, m_spec_l11Content_A1]) g hg
  rw [h]
  by_cases ha : x.data.all defIx = true
  · rw [if_pos (allDef.2 ha), ha]
  · rw [if_neg (fun hh => ha (allDef.1 hh))]; simp at ha ⊢; exact ha
theorem content_L2 (x : DAgent) (g : Nat) (hg : x.data.length < g) : m_spec_l11Content_L2 x m_spec_l11Content_A2 g 0 = some (x.data.all defIx) := by
  have h := allI (L := m_spec_l11Content_L2 x m_spec_l11Content_A2) (n := x.data.length) (p := fun k => ∃ y, x.data[k]? = some y ∧ defIx y = true) (no := some false) (K := some true)
    (fun g k hk ⟨y, hy, hd⟩ => by simp [m_spec_l11Content_L2, m_spec_l11Content_B2, hk, getI_nat hy, m_spec_l11Def, inR_def, hd])
    (fun g k hk hn => by
      have hd : defIx x.data[k] = false := by
        cases h : defIx x.data[k] with
        | false => rfl
        | true => exact absurd ⟨_, List.getElem?_eq_getElem hk, h⟩ hn
      simp [m_spec_l11Content_L2, m_spec_l11Content_B2, hk, getI_lt hk, m_spec_l11Def, inR_def, hd])
    (fun g => by simp [m_spec_l11Content_L2, m_spec_l11Content_B2, m_spec_l11Content_A2]) g hg
  rw [h]
  by_cases ha : x.data.all defIx = true
  · rw [if_pos (allDef.2 ha), ha]
  · rw [if_neg (fun hh => ha (allDef.1 hh))]; simp at ha ⊢; exact ha
theorem p_content (x : DAgent) : m_spec_l11Content x = some (content x.kind x.value x.data) := by
  have l1 := content_L1 x (x.data.length + 1) (by omega)
  have l2 := content_L2 x (x.data.length + 1) (by omega)
  have i2 : ((x.data.length : Int) = 2) ↔ x.data.length = 2 := by omega
  have i1 : ((x.data.length : Int) = 1) ↔ x.data.length = 1 := by omega
  have i14 : inR (x.data.length : Int) 1 4 = (decide (1 ≤ x.data.length) && decide (x.data.length ≤ 4)) := by
    rw [Bool.eq_iff_iff]; simp [inR]; omega
  have hI : ∀ y, inR y (-2147483648) 2147483647 = int32B y := fun _ => rfl
  have hO : inR x.value 1 6 = operB x.value := rfl
  unfold m_spec_l11Content content
  simp only [hI, hO, l1, l2, m_spec_l11Def, inR_def, Bool.cond_eq_ite, beq_iff_eq, bne_iff_ne, ne_eq, i14, i1, i2]
  by_cases h8 : x.kind = 8
  · by_cases h0 : x.data.length = 1
    · obtain ⟨y, hy⟩ : ∃ y, x.data = [y] := List.length_eq_one_iff.1 h0
      simp only [h8, hy]
      cases ho : operB x.value <;> simp [getI]
    · simp [h8, h0]
  by_cases h6 : x.kind = 6
  · by_cases h0 : x.data.length = 0 <;> simp [h6, h0]
  by_cases h7 : x.kind = 7
  · by_cases h0 : x.data.length = 0 <;> simp [h7, h0]
  by_cases h9 : x.kind = 9
  · by_cases h0 : x.data.length = 0 <;> simp [h9, h0, inR]
  by_cases h12 : x.kind = 12
  · by_cases h0 : x.data.length = 0 <;> simp [h12, h0]
  by_cases h10 : x.kind = 10
  · by_cases hv : x.value = 0 <;> by_cases n1 : 1 ≤ x.data.length <;> by_cases n4 : x.data.length ≤ 4 <;> simp [h10, hv, n1, n4]
  by_cases h11 : x.kind = 11
  · by_cases hv : x.value = 0 <;> by_cases hn : x.data.length = 2 <;> simp [h11, hv, hn]
  by_cases hv : x.value = 0 <;> by_cases h0 : x.data.length = 0 <;> simp [h6, h7, h8, h9, h10, h11, h12, hv, h0]
theorem p_fields (x : DAgent) (hp : x.ports.length ≤ 9223372036854775807) : m_spec_l11Fields x = some (fieldsN x.kind x.ports.length) := by
  unfold m_spec_l11Fields fieldsN
  simp only [Bool.cond_eq_ite, beq_iff_eq]
  by_cases h : x.kind = 9
  · simp [h, ck_ok (n := (x.ports.length : Int) - 1) (by omega)]
  · simp [h]
theorem p_agent (x : DAgent) (hp : x.ports.length ≤ 9223372036854775807) : m_spec_l11Agent x = some (agentOk x) := by
  unfold m_spec_l11Agent agentOk
  simp only [p_fields x hp, Option.bind_some, p_content, Bool.cond_eq_ite, beq_iff_eq, decide_eq_true_eq]
  generalize portsOf x.kind (fieldsN x.kind x.ports.length) = p
  by_cases h1 : p > 0
  · have h1' : 0 < p := h1
    by_cases h2 : (x.ports.length : Int) = p
    · cases h3 : allowed x.kind x.level <;> simp [h1, h1', h2]
    · simp [h1, h1', h2]
  · have h1' : ¬ 0 < p := h1
    simp [h1, h1']
theorem p_ifields (k : Int) (n : Nat) (hn : n ≤ 9223372036854775807) : m_impl_fieldsOf k (n : Int) = some (fieldsN k n) := by
  unfold m_impl_fieldsOf fieldsN
  simp only [Bool.cond_eq_ite, beq_iff_eq]
  by_cases h : k = 9
  · simp [h, ck_ok (n := (n : Int) - 1) (by omega)]
  · simp [h]
theorem p_isDef (n : Int) : m_impl_isDefIndex n = some (defIx n) := by
  unfold m_impl_isDefIndex defIx
  simp only [Bool.cond_eq_ite, decide_eq_true_eq]
  by_cases h : 0 ≤ n <;> simp [h] <;> omega
theorem p_isInt (n : Int) : m_impl_isInt n = some (int32B n) := by
  unfold m_impl_isInt int32B
  simp only [Bool.cond_eq_ite, decide_eq_true_eq]
  by_cases h : -2147483648 ≤ n <;> simp [h]
theorem p_isOper (n : Int) : m_impl_isOperator n = some (operB n) := by
  unfold m_impl_isOperator operB
  simp only [Bool.cond_eq_ite, decide_eq_true_eq]
  by_cases h : 1 ≤ n <;> simp [h]
theorem p_index_int (d : List Int) (p : Int → Option Bool) (q : Int → Bool) (h : ∀ x ∈ d, p x = some (q x)) : ∃ i, m_slices_IndexFunc_int64_int64 d p = some i ∧ decide (i ≥ 0) = d.any q := by
  unfold m_slices_IndexFunc_int64_int64
  by_cases ha : ∃ k, k < d.length ∧ ∃ x, d[k]? = some x ∧ q x = true
  · obtain ⟨m, ⟨hm, x, hx, hq⟩, hl⟩ : ∃ m, (m < d.length ∧ ∃ x, d[m]? = some x ∧ q x = true) ∧ ∀ k, k < m → ∀ y, d[k]? = some y → q y = false := by
      obtain ⟨k0, hk0⟩ := ha
      induction k0 using Nat.strongRecOn with
      | _ k0 ih =>
        by_cases hh : ∃ k, k < k0 ∧ k < d.length ∧ ∃ x, d[k]? = some x ∧ q x = true
        · obtain ⟨k, hk, hk1⟩ := hh; exact ih k hk hk1
        · exact ⟨k0, hk0, fun k hk y hy => by
            cases hq : q y with
            | false => rfl
            | true => exact absurd ⟨k, hk, lt_of_some hy, y, hy, hq⟩ hh⟩
    refine ⟨m, ?_, ?_⟩
    · refine trajI (n := m) (fun g k hk => ?_) (fun g => ?_) _ (by omega)
      · have hkl : k < d.length := by omega
        have hy := List.getElem?_eq_getElem hkl
        simp [m_slices_IndexFunc_int64_int64_L1, m_slices_IndexFunc_int64_int64_B1, hkl, getI_lt hkl, h _ (List.getElem_mem hkl), hl k hk _ hy]
      · have hmem := List.mem_of_getElem? hx
        simp [m_slices_IndexFunc_int64_int64_L1, m_slices_IndexFunc_int64_int64_B1, hm, getI_nat hx, h _ hmem, hq]
    · have : d.any q = true := List.any_eq_true.2 ⟨x, List.mem_of_getElem? hx, hq⟩
      rw [this]; simp
  · refine ⟨-1, ?_, ?_⟩
    · refine trajI (n := d.length) (fun g k hk => ?_) (fun g => ?_) _ (by omega)
      · have hq : q d[k] = false := by
          cases hq : q d[k] with
          | false => rfl
          | true => exact absurd ⟨k, hk, _, List.getElem?_eq_getElem hk, hq⟩ ha
        simp [m_slices_IndexFunc_int64_int64_L1, m_slices_IndexFunc_int64_int64_B1, hk, getI_lt hk, h _ (List.getElem_mem hk), hq]
      · simp [m_slices_IndexFunc_int64_int64_L1, m_slices_IndexFunc_int64_int64_B1, m_slices_IndexFunc_int64_int64_A1]
    · have : d.any q = false := List.any_eq_false.2 fun x hx hq => by
        obtain ⟨k, hk, rfl⟩ := List.getElem_of_mem hx
        exact ha ⟨k, hk, _, List.getElem?_eq_getElem hk, hq⟩
      rw [this]; simp
theorem p_contains_int (d : List Int) (p : Int → Option Bool) (q : Int → Bool) (h : ∀ x ∈ d, p x = some (q x)) : m_slices_ContainsFunc_int64_int64 d p = some (d.any q) := by
  obtain ⟨i, h1, h2⟩ := p_index_int d p q h
  simp -implicitDefEqProofs only [m_slices_ContainsFunc_int64_int64, h1, Option.bind_some, h2]
theorem p_wellFormed (x : DAgent) (hp : x.ports.length ≤ 9223372036854775807) : m_impl_wellFormed x = some (agentOk x) := by
  have hc := p_contains_int x.data (fun x0 => m_impl_wellFormed_1 x0) (fun x0 => !defIx x0) (fun y _ => by simp [m_impl_wellFormed_1, p_isDef])
  have hall : x.data.all defIx = !(x.data.any fun x0 => !defIx x0) := by rw [List.not_any_eq_all_not]; simp
  have e0 : ((x.data.length : Int) == 0) = decide (x.data.length = 0) := by rw [Bool.eq_iff_iff]; simp
  have i2 : ((x.data.length : Int) = 2) ↔ x.data.length = 2 := by omega
  have i1 : ((x.data.length : Int) = 1) ↔ x.data.length = 1 := by omega
  have g1 : ((x.data.length : Int) ≥ 1) ↔ 1 ≤ x.data.length := by omega
  have g4 : ((x.data.length : Int) ≤ 4) ↔ x.data.length ≤ 4 := by omega
  have ip : ((x.ports.length : Int) = 0) ↔ x.ports.length = 0 := by omega
  unfold m_impl_wellFormed agentOk
  simp only [p_ifields _ _ hp, Option.bind_some, hc, p_isInt, p_isOper, p_isDef, content, hall, e0, Bool.cond_eq_ite, beq_iff_eq, bne_iff_ne, ne_eq, decide_eq_true_eq, i1, i2, ip, g1, g4, ge_iff_le]
  generalize hp0 : portsOf x.kind (fieldsN x.kind x.ports.length) = p
  by_cases h0 : x.ports.length = 0
  · by_cases h1 : 0 < p
    · have : ¬ (x.ports.length : Int) = p := by omega
      simp [h0]; intro h2; omega
    · simp [h0, h1]
  by_cases h2 : p = (x.ports.length : Int)
  case neg =>
    have h2' : ¬ (x.ports.length : Int) = p := fun e => h2 e.symm
    simp [h0, h2, h2']
  have hpos : 0 < x.ports.length := by omega
  have v4 : x.value < 4 ↔ x.value ≤ 3 := by omega
  subst h2
  generalize hany : (x.data.any fun x0 => !defIx x0) = anyb
  cases h3 : allowed x.kind x.level
  · simp [h0]
  by_cases k6 : x.kind = 6
  · cases hi : int32B x.value <;> simp [h0, hpos, k6]
  by_cases k7 : x.kind = 7
  · cases hi : operB x.value <;> simp [h0, hpos, k7]
  by_cases k8 : x.kind = 8
  · by_cases hd : x.data.length = 1
    · obtain ⟨y, hy⟩ : ∃ y, x.data = [y] := List.length_eq_one_iff.1 hd
      cases hi : operB x.value <;> simp [h0, hpos, k8, hy, getI]
    · cases hi : operB x.value <;> simp [h0, hpos, k8, hd]
  by_cases k9 : x.kind = 9
  · by_cases v0 : 0 ≤ x.value <;> by_cases v3 : x.value ≤ 3
    all_goals simp [h0, hpos, k9, v0, v3, v4]
  by_cases k10 : x.kind = 10
  · by_cases v0 : x.value = 0 <;> by_cases n1 : 1 ≤ x.data.length <;> by_cases n4 : x.data.length ≤ 4 <;> simp [h0, hpos, k10, v0, n1, n4]
  by_cases k11 : x.kind = 11
  · by_cases v0 : x.value = 0 <;> by_cases n2 : x.data.length = 2 <;> simp [h0, hpos, k11, v0, n2]
  by_cases k12 : x.kind = 12
  · cases hi : defIx x.value <;> simp [h0, hpos, k12]
  by_cases v0 : x.value = 0 <;> simp [h0, hpos, k6, k7, k8, k9, k10, k11, k12, v0]
theorem agentsOk_iff {xs : List DAgent} : agentsOk xs = true ↔ AgentsOk xs := by unfold agentsOk; simp
theorem agents_p {xs : List DAgent} : (∀ k, k < xs.length → ∃ x, xs[k]? = some x ∧ agentOk x = true ∧ decide (x.kind = 1) = decide (k = 0)) ↔ ∀ (i : Nat) (x : DAgent), xs[i]? = some x → agentOk x = true ∧ decide (x.kind = 1) = decide (i = 0) := by
  constructor
  · intro h i x hx
    obtain ⟨y, hy, h1⟩ := h i (lt_of_some hx)
    rw [hx] at hy; injection hy with hy; subst hy; exact h1
  · intro h k hk
    exact ⟨xs[k], List.getElem?_eq_getElem hk, h k _ (List.getElem?_eq_getElem hk)⟩
theorem kind_ne (k : Int) (i : Nat) : ((k == 1) != ((i : Int) == 0)) = !(decide (decide (k = 1) = decide (i = 0))) := by
  have e1 : (k == 1) = decide (k = 1) := by rw [Bool.eq_iff_iff]; simp
  have e2 : ((i : Int) == 0) = decide (i = 0) := by rw [Bool.eq_iff_iff]; simp
  rw [e1, e2]
  cases decide (k = 1) <;> cases decide (i = 0) <;> rfl
open Classical in
theorem p_agents (xs : List DAgent) (hb : ∀ x ∈ xs, x.ports.length ≤ 9223372036854775807) : m_spec_l11Agents xs = some (agentsOk xs) := by
  unfold m_spec_l11Agents
  by_cases hl : 1 ≤ xs.length ∧ xs.length ≤ 600
  · have h0 : inR (xs.length : Int) 1 600 = true := by simp [inR]; omega
    rw [h0, cond_true]
    have h := allI (L := m_spec_l11Agents_L1 xs m_spec_l11Agents_A1) (n := xs.length) (p := fun k => ∃ x, xs[k]? = some x ∧ agentOk x = true ∧ decide (x.kind = 1) = decide (k = 0)) (no := some false) (K := some true)
      (fun g k hk ⟨x, hx, h1, h2⟩ => by
        have hm := hb x (List.mem_of_getElem? hx)
        simp [m_spec_l11Agents_L1, m_spec_l11Agents_B1, hk, getI_nat hx, p_agent x hm, h1, kind_ne, h2])
      (fun g k hk hn => by
        have hx := List.getElem?_eq_getElem hk
        have hm := hb _ (List.getElem_mem hk)
        cases h1 : agentOk xs[k] with
        | false => simp [m_spec_l11Agents_L1, m_spec_l11Agents_B1, hk, getI_lt hk, p_agent _ hm, h1]
        | true =>
          have h2 : ¬ decide (xs[k].kind = 1) = decide (k = 0) := fun h2 => hn ⟨_, hx, h1, h2⟩
          simp -implicitDefEqProofs only [m_spec_l11Agents_L1, m_spec_l11Agents_B1, dlt hk, cond_true, getI_lt hk, Option.bind_some, p_agent _ hm, h1, kind_ne, decide_eq_false h2, Bool.not_false, Bool.not_true, Bool.or_true, Bool.false_or, cond_false])
      (fun g => by simp [m_spec_l11Agents_L1, m_spec_l11Agents_B1, m_spec_l11Agents_A1]) (xs.length + 1) (by omega)
    rw [h]
    by_cases ha : ∀ k, k < xs.length → ∃ x, xs[k]? = some x ∧ agentOk x = true ∧ decide (x.kind = 1) = decide (k = 0)
    · rw [if_pos ha, agentsOk_iff.2 ⟨hl.1, hl.2, agents_p.1 ha⟩]
    · rw [if_neg ha]
      cases hc : agentsOk xs with
      | false => rfl
      | true => exact absurd (agents_p.2 (agentsOk_iff.1 hc).2.2) ha
  · have h0 : inR (xs.length : Int) 1 600 = false := by simp [inR]; omega
    rw [h0, cond_false]
    cases hc : agentsOk xs with
    | false => rfl
    | true => exact absurd ⟨(agentsOk_iff.1 hc).1, (agentsOk_iff.1 hc).2.1⟩ hl
open Classical in
theorem p_areAgents (xs : List DAgent) (hb : ∀ x ∈ xs, x.ports.length ≤ 9223372036854775807) : m_impl_areAgents xs = some (agentsOk xs) := by
  unfold m_impl_areAgents
  by_cases hl : 1 ≤ xs.length ∧ xs.length ≤ 600
  · have h0 : decide ((xs.length : Int) < 1) = false := by simp; omega
    have h0' : decide ((xs.length : Int) > 600) = false := by simp; omega
    rw [h0, h0', cond_false, cond_false]
    have h := allI (L := m_impl_areAgents_L1 xs m_impl_areAgents_A1) (n := xs.length) (p := fun k => ∃ x, xs[k]? = some x ∧ agentOk x = true ∧ decide (x.kind = 1) = decide (k = 0)) (no := some false) (K := some true)
      (fun g k hk ⟨x, hx, h1, h2⟩ => by
        have hm := hb x (List.mem_of_getElem? hx)
        simp [m_impl_areAgents_L1, m_impl_areAgents_B1, hk, getI_nat hx, p_wellFormed x hm, h1, kind_ne, h2])
      (fun g k hk hn => by
        have hx := List.getElem?_eq_getElem hk
        have hm := hb _ (List.getElem_mem hk)
        cases h1 : agentOk xs[k] with
        | false => simp [m_impl_areAgents_L1, m_impl_areAgents_B1, hk, getI_lt hk, p_wellFormed _ hm, h1]
        | true =>
          have h2 : ¬ decide (xs[k].kind = 1) = decide (k = 0) := fun h2 => hn ⟨_, hx, h1, h2⟩
          simp -implicitDefEqProofs only [m_impl_areAgents_L1, m_impl_areAgents_B1, dlt hk, cond_true, getI_lt hk, Option.bind_some, p_wellFormed _ hm, h1, kind_ne, decide_eq_false h2, Bool.not_false, Bool.not_true, Bool.or_true, Bool.false_or, cond_false])
      (fun g => by simp [m_impl_areAgents_L1, m_impl_areAgents_B1, m_impl_areAgents_A1]) (xs.length + 1) (by omega)
    rw [h]
    by_cases ha : ∀ k, k < xs.length → ∃ x, xs[k]? = some x ∧ agentOk x = true ∧ decide (x.kind = 1) = decide (k = 0)
    · rw [if_pos ha, agentsOk_iff.2 ⟨hl.1, hl.2, agents_p.1 ha⟩]
    · rw [if_neg ha]
      cases hc : agentsOk xs with
      | false => rfl
      | true => exact absurd (agents_p.2 (agentsOk_iff.1 hc).2.2) ha
  · have hc : agentsOk xs = false := by
      cases hc : agentsOk xs with
      | false => rfl
      | true => exact absurd ⟨(agentsOk_iff.1 hc).1, (agentsOk_iff.1 hc).2.1⟩ hl
    by_cases h1 : xs.length < 1
    · have h0 : decide ((xs.length : Int) < 1) = true := by simp; omega
      rw [h0, cond_true, hc]
    · have h0 : decide ((xs.length : Int) < 1) = false := by simp; omega
      have h0' : decide ((xs.length : Int) > 600) = true := by simp; omega
      rw [h0, h0', cond_false, cond_true, hc]
/-- No list is longer than what a net of the laws may hold. -/
def Small (xs : List DAgent) : Prop := szAgentS xs ≤ 1048576
theorem Small.len {xs : List DAgent} (h : Small xs) : xs.length ≤ 1048576 := by unfold Small szAgentS at h; omega
theorem sum_mem {α : Type} {f : α → Nat} {xs : List α} {x : α} (h : x ∈ xs) : f x ≤ (xs.map f).sum := by
  induction xs with
  | nil => cases h
  | cons y ys ih =>
    rcases List.mem_cons.1 h with rfl | h
    · simp
    · have := ih h; simp; omega
theorem Small.ports {xs : List DAgent} (h : Small xs) {x : DAgent} (hx : x ∈ xs) : x.ports.length ≤ 1048576 := by
  have := sum_mem (f := szAgent) hx
  have e : szAgent x = x.data.length + x.ports.length := rfl
  unfold Small szAgentS at h; omega
theorem Small.data {xs : List DAgent} (h : Small xs) {x : DAgent} (hx : x ∈ xs) : x.data.length ≤ 1048576 := by
  have := sum_mem (f := szAgent) hx
  have e : szAgent x = x.data.length + x.ports.length := rfl
  unfold Small szAgentS at h; omega
theorem Small.ports' {xs : List DAgent} (h : Small xs) : ∀ x ∈ xs, x.ports.length ≤ 9223372036854775807 := fun x hx => by have := h.ports hx; omega
theorem portsFrom_len : ∀ (i : Nat) (xs : List DAgent), (portsFrom i xs).length ≤ (xs.map szAgent).sum
  | _, [] => by simp [portsFrom]
  | i, x :: xs => by have := portsFrom_len (i + 1) xs; simp [portsFrom, agentPorts, szAgent]; omega
theorem Small.all {xs : List DAgent} (h : Small xs) : (allPorts xs).length ≤ 1048576 := by
  have := portsFrom_len 0 xs
  unfold Small szAgentS at h; unfold allPorts; omega
theorem agentAt_nat {xs : List DAgent} {k : Nat} {x : DAgent} (h : xs[k]? = some x) : agentAt xs (k : Int) = x := by simp [agentAt, List.getD, h]
theorem p_port (xs : List DAgent) (p : DPort) (h : Small xs) : m_spec_l11Port xs p = some (hasPort xs p) := by
  unfold m_spec_l11Port
  have hl := h.len
  rw [ck_ok (by omega), Option.bind_some]
  by_cases ha : 0 ≤ p.agent ∧ p.agent < xs.length
  · obtain ⟨k, hk⟩ := Int.eq_ofNat_of_zero_le ha.1
    have hkl : k < xs.length := by omega
    have h0 : inR p.agent 0 ((xs.length : Int) - 1) = true := by simp [inR]; omega
    have hx := List.getElem?_eq_getElem hkl
    have hp := h.ports (List.getElem_mem hkl)
    rw [h0, cond_true, hk, getI_nat hx, Option.bind_some, ck_ok (by omega), Option.bind_some]
    congr 1
    rw [Bool.eq_iff_iff]
    simp [inR, hasPort, hk, agentAt_nat hx]
    omega
  · have h0 : inR p.agent 0 ((xs.length : Int) - 1) = false := by simp [inR]; omega
    rw [h0, cond_false]
    congr 1
    simp [hasPort]
    omega
theorem p_hasPort (xs : List DAgent) (p : DPort) : m_impl_hasPort xs p = some (hasPort xs p) := by
  unfold m_impl_hasPort
  by_cases h1 : 0 ≤ p.agent
  · by_cases h2 : p.agent < xs.length
    · by_cases h3 : 0 ≤ p.slot
      · obtain ⟨k, hk⟩ := Int.eq_ofNat_of_zero_le h1
        have hkl : k < xs.length := by omega
        have hx := List.getElem?_eq_getElem hkl
        simp [h3, hk, hkl, hasPort, getI_nat hx, agentAt_nat hx]
      · simp [h1, h2, h3, hasPort]
    · simp [h1, h2, hasPort]
  · simp [h1, hasPort]
theorem p_peer {xs : List DAgent} {p : DPort} (h : hasPort xs p = true) : m_impl_Net_peer ⟨xs⟩ p = some (peer xs p) := by
  obtain ⟨i, k, x, rfl, hx, hk, ha⟩ := hasPort_at h
  have hy := List.getElem?_eq_getElem hk
  simp [m_impl_Net_peer, getI_nat hx, getI_nat hy, peer_of hx hy]
theorem p_speer {xs : List DAgent} {p : DPort} (h : hasPort xs p = true) : m_spec_l11Peer ⟨xs⟩ p = some (peer xs p) := p_peer h
theorem port_eq (q p : DPort) : (q.agent == p.agent && q.slot == p.slot) = decide (q = p) := by
  rw [Bool.eq_iff_iff]
  cases q; cases p; simp
theorem badPort_at {xs : List DAgent} {i k : Nat} {x : DAgent} {q : DPort} (hx : xs[i]? = some x) (hq : x.ports[k]? = some q) : badPort xs ⟨i, k⟩ = (decide (q = ⟨i, k⟩) || !hasPort xs q || !decide (peer xs q = ⟨i, k⟩)) := by
  unfold badPort; rw [peer_of hx hq]
open Classical in
theorem p_ok_inner {xs : List DAgent} (hs : Small xs) {i : Nat} {x : DAgent} (hx : xs[i]? = some x) (rec : Int → Option Bool) (g : Nat) (hg : x.ports.length < g) :
    ((∀ k, k < x.ports.length → badPort xs ⟨i, k⟩ = false) ∧ m_spec_l11Ok_L2 ⟨xs⟩ (i : Int) x (m_spec_l11Ok_A2 rec (i : Int)) g 0 = rec ((i : Int) + 1)) ∨ ((¬ ∀ k, k < x.ports.length → badPort xs ⟨i, k⟩ = false) ∧ m_spec_l11Ok_L2 ⟨xs⟩ (i : Int) x (m_spec_l11Ok_A2 rec (i : Int)) g 0 = some false) := by
  have hi := lt_of_some hx
  have hl := hs.len
  refine (allO (L := m_spec_l11Ok_L2 ⟨xs⟩ (i : Int) x (m_spec_l11Ok_A2 rec (i : Int))) (n := x.ports.length) (p := fun k => badPort xs ⟨i, k⟩ = false) (no := some false) (K := rec ((i : Int) + 1)) ?_ ?_ ?_ g hg)
  · intro g k hk hb
    have hq := List.getElem?_eq_getElem hk
    rw [badPort_at hx hq] at hb
    simp only [Bool.or_eq_false_iff, Bool.not_eq_false', decide_eq_false_iff_not, decide_eq_true_eq] at hb
    obtain ⟨⟨h1, h2⟩, h3⟩ := hb
    obtain ⟨i2, k2, x2, he, hx2, hk2, _⟩ := hasPort_at h2
    have hq2 := List.getElem?_eq_getElem hk2
    have h1' : (x.ports[k].agent == (i : Int) && x.ports[k].slot == (k : Int)) = false := by
      have := port_eq x.ports[k] ⟨i, k⟩
      simp only at this
      rw [this]; simpa using h1
    have h3' : (x2.ports[k2].agent == (i : Int) && x2.ports[k2].slot == (k : Int)) = true := by
      have := port_eq x2.ports[k2] ⟨i, k⟩
      simp only at this
      rw [this]
      rw [he, peer_of hx2 hq2] at h3
      simpa using h3
    have ha : x.ports[k].agent = (i2 : Int) := by rw [he]
    have hsl : x.ports[k].slot = (k2 : Int) := by rw [he]
    have e1 : getI xs x.ports[k].agent = some x2 := by rw [ha]; exact getI_nat hx2
    have e2 : getI x2.ports x.ports[k].slot = some x2.ports[k2] := by rw [hsl]; exact getI_nat hq2
    simp -implicitDefEqProofs only [m_spec_l11Ok_L2, m_spec_l11Ok_B2, dlt hk, cond_true, getI_lt hk, Option.bind_some, h1', cond_false, p_port xs _ hs, h2, e1, e2, h3']
  · intro g k hk hb
    have hq := List.getElem?_eq_getElem hk
    have hb : badPort xs ⟨i, k⟩ = true := by simpa using hb
    rw [badPort_at hx hq] at hb
    have hE := port_eq x.ports[k] ⟨i, k⟩
    simp only at hE
    by_cases h1 : x.ports[k] = (⟨i, k⟩ : DPort)
    · have : (x.ports[k].agent == (i : Int) && x.ports[k].slot == (k : Int)) = true := by rw [hE]; simpa using h1
      simp -implicitDefEqProofs only [m_spec_l11Ok_L2, m_spec_l11Ok_B2, dlt hk, cond_true, getI_lt hk, Option.bind_some, this]
    · have h1' : (x.ports[k].agent == (i : Int) && x.ports[k].slot == (k : Int)) = false := by rw [hE]; simpa using h1
      cases h2 : hasPort xs x.ports[k] with
      | false => simp -implicitDefEqProofs only [m_spec_l11Ok_L2, m_spec_l11Ok_B2, dlt hk, cond_true, getI_lt hk, Option.bind_some, h1', cond_false, p_port xs _ hs, h2]
      | true =>
        have h3 : ¬ peer xs x.ports[k] = (⟨i, k⟩ : DPort) := by
          intro h3; rw [h2, h3] at hb; simp [h1] at hb
        obtain ⟨i2, k2, x2, he, hx2, hk2, _⟩ := hasPort_at h2
        have hq2 := List.getElem?_eq_getElem hk2
        have h3' : (x2.ports[k2].agent == (i : Int) && x2.ports[k2].slot == (k : Int)) = false := by
          have := port_eq x2.ports[k2] ⟨i, k⟩
          simp only at this
          rw [this]
          rw [he, peer_of hx2 hq2] at h3
          simpa using h3
        have ha : x.ports[k].agent = (i2 : Int) := by rw [he]
        have hsl : x.ports[k].slot = (k2 : Int) := by rw [he]
        have e1 : getI xs x.ports[k].agent = some x2 := by rw [ha]; exact getI_nat hx2
        have e2 : getI x2.ports x.ports[k].slot = some x2.ports[k2] := by rw [hsl]; exact getI_nat hq2
        simp -implicitDefEqProofs only [m_spec_l11Ok_L2, m_spec_l11Ok_B2, dlt hk, cond_true, getI_lt hk, Option.bind_some, h1', cond_false, p_port xs _ hs, h2, e1, e2, h3']
  · intro g
    simp -implicitDefEqProofs only [m_spec_l11Ok_L2, m_spec_l11Ok_B2, dge, cond_false, m_spec_l11Ok_A2]
    rw [ck_ok (by omega), Option.bind_some]
theorem portsOk_p {xs : List DAgent} : (∀ i, i < xs.length → ∃ x, xs[i]? = some x ∧ ∀ k, k < x.ports.length → badPort xs ⟨i, k⟩ = false) ↔ PortsOk xs := by
  constructor
  · intro h i x hx k hk
    obtain ⟨y, hy, h1⟩ := h i (lt_of_some hx)
    rw [hx] at hy; injection hy with hy; subst hy; exact h1 k hk
  · intro h i hi
    exact ⟨xs[i], List.getElem?_eq_getElem hi, fun k hk => h i _ (List.getElem?_eq_getElem hi) k hk⟩
theorem validNet_iff {x : DNet} : validNet x = true ↔ AgentsOk x.agents ∧ PortsOk x.agents := by unfold validNet; simp
open Classical in
theorem p_ok (d : DNet) (hs : Small d.agents) : m_spec_l11Ok d = some (validNet d) := by
  obtain ⟨xs⟩ := d
  have hs : Small xs := hs
  unfold m_spec_l11Ok
  rw [p_agents xs hs.ports', Option.bind_some]
  cases hag : agentsOk xs with
  | false =>
    rw [cond_false]
    cases hv : validNet ⟨xs⟩ with
    | false => rfl
    | true => rw [agentsOk_iff.2 (validNet_iff.1 hv).1] at hag; cases hag
  | true =>
    rw [cond_true]
    have h := allO (L := m_spec_l11Ok_L1 ⟨xs⟩ m_spec_l11Ok_A1) (n := xs.length) (p := fun i => ∃ x, xs[i]? = some x ∧ ∀ k, k < x.ports.length → badPort xs ⟨i, k⟩ = false) (no := some false) (K := some true)
      (fun g i hi ⟨x, hx, hp⟩ => by
        simp -implicitDefEqProofs only [m_spec_l11Ok_L1, m_spec_l11Ok_B1, dlt hi, cond_true, getI_nat hx, Option.bind_some]
        rcases p_ok_inner hs hx (m_spec_l11Ok_L1 ⟨xs⟩ m_spec_l11Ok_A1 g) _ (Nat.lt_succ_self _) with ⟨_, h⟩ | ⟨hn, _⟩
        · exact h
        · exact absurd hp hn)
      (fun g i hi hn => by
        have hx := List.getElem?_eq_getElem hi
        simp -implicitDefEqProofs only [m_spec_l11Ok_L1, m_spec_l11Ok_B1, dlt hi, cond_true, getI_lt hi, Option.bind_some]
        rcases p_ok_inner hs hx (m_spec_l11Ok_L1 ⟨xs⟩ m_spec_l11Ok_A1 g) _ (Nat.lt_succ_self _) with ⟨hp, _⟩ | ⟨_, h⟩
        · exact absurd ⟨_, hx, hp⟩ hn
        · exact h)
      (fun g => by simp -implicitDefEqProofs only [m_spec_l11Ok_L1, m_spec_l11Ok_B1, dge, cond_false, m_spec_l11Ok_A1]) (xs.length + 1) (Nat.lt_succ_self _)
    rcases h with ⟨ha, h⟩ | ⟨ha, h⟩
    · rw [validNet_iff.2 ⟨agentsOk_iff.1 hag, portsOk_p.1 ha⟩]; exact h
    · cases hv : validNet ⟨xs⟩ with
      | false => exact h
      | true => exact absurd (portsOk_p.2 (validNet_iff.1 hv).2) ha
theorem agentPorts_len (i : Nat) (x : DAgent) : (agentPorts i x).length = x.ports.length := by simp [agentPorts]
theorem p_ports_inner {i : Nat} {x : DAgent} (rec : List DPort → Int → Option (List DPort)) (acc : List DPort) (hb : acc.length + x.ports.length ≤ 4294967296) (hi : (i : Int) < 9223372036854775807) (g : Nat) (hg : x.ports.length < g) :
    m_impl_Net_ports_L2 (i : Int) x (m_impl_Net_ports_A2 rec (i : Int)) g acc 0 = rec (acc ++ agentPorts i x) ((i : Int) + 1) := by
  have h := traj (L := fun g (s : List DPort × Int) => m_impl_Net_ports_L2 (i : Int) x (m_impl_Net_ports_A2 rec (i : Int)) g s.1 s.2) (st := fun k => (acc ++ (List.range k).map (fun (j : Nat) => (⟨i, j⟩ : DPort)), (k : Int))) (n := x.ports.length) (r := rec (acc ++ agentPorts i x) ((i : Int) + 1))
    (fun g k hk => by
      simp -implicitDefEqProofs only [m_impl_Net_ports_L2, m_impl_Net_ports_B2, dlt hk, cond_true]
      rw [mustP_ok (by simp; omega), Option.bind_some]
      rw [List.range_succ, List.map_append, List.append_assoc]
      simp only [List.map_cons, List.map_nil, Int.natCast_add, Int.cast_ofNat_Int])
    (fun g => by
      simp -implicitDefEqProofs only [m_impl_Net_ports_L2, m_impl_Net_ports_B2, dge, cond_false, m_impl_Net_ports_A2]
      rw [ck_ok (by omega), Option.bind_some, agentPorts]) g hg
  simpa using h
theorem p_ports (d : DNet) (hs : Small d.agents) : m_impl_Net_ports d = some (allPorts d.agents) := by
  obtain ⟨xs⟩ := d
  have hs : Small xs := hs
  have hl := hs.len
  have ha := hs.all
  unfold m_impl_Net_ports
  have h := traj (L := fun g (s : List DPort × Int) => m_impl_Net_ports_L1 ⟨xs⟩ m_impl_Net_ports_A1 g s.1 s.2) (st := fun k => (allPorts (xs.take k), (k : Int))) (n := xs.length) (r := some (allPorts xs))
    (fun g k hk => by
      have hx := List.getElem?_eq_getElem hk
      have hlen : (allPorts (xs.take (k + 1))).length ≤ (allPorts xs).length := by
        have : allPorts xs = portsFrom 0 (xs.take (k + 1) ++ xs.drop (k + 1)) := by rw [List.take_append_drop]; rfl
        rw [this, portsFrom_append, List.length_append]
        exact Nat.le_add_right _ _
      rw [allPorts_take hx, List.length_append, agentPorts_len] at hlen
      simp -implicitDefEqProofs only [m_impl_Net_ports_L1, m_impl_Net_ports_B1, dlt hk, cond_true, getI_lt hk, Option.bind_some]
      rw [p_ports_inner (m_impl_Net_ports_L1 ⟨xs⟩ m_impl_Net_ports_A1 g) _ (by omega) (by omega) _ (Nat.lt_succ_self _), allPorts_take hx]
      simp only [Int.natCast_add, Int.cast_ofNat_Int])
    (fun g => by
      simp -implicitDefEqProofs only [m_impl_Net_ports_L1, m_impl_Net_ports_B1, dge, cond_false, m_impl_Net_ports_A1, List.take_length]) (xs.length + 1) (Nat.lt_succ_self _)
  exact h
theorem p_index_port (d : List DPort) (p : DPort → Option Bool) (q : DPort → Bool) (h : ∀ x ∈ d, p x = some (q x)) : ∃ i, m_slices_IndexFunc_impl_Port_impl_Port d p = some i ∧ decide (i ≥ 0) = d.any q := by
  unfold m_slices_IndexFunc_impl_Port_impl_Port
  by_cases ha : ∃ k, k < d.length ∧ ∃ x, d[k]? = some x ∧ q x = true
  · obtain ⟨m, ⟨hm, x, hx, hq⟩, hl⟩ : ∃ m, (m < d.length ∧ ∃ x, d[m]? = some x ∧ q x = true) ∧ ∀ k, k < m → ∀ y, d[k]? = some y → q y = false := by
      obtain ⟨k0, hk0⟩ := ha
      induction k0 using Nat.strongRecOn with
      | _ k0 ih =>
        by_cases hh : ∃ k, k < k0 ∧ k < d.length ∧ ∃ x, d[k]? = some x ∧ q x = true
        · obtain ⟨k, hk, hk1⟩ := hh; exact ih k hk hk1
        · exact ⟨k0, hk0, fun k hk y hy => by
            cases hq : q y with
            | false => rfl
            | true => exact absurd ⟨k, hk, lt_of_some hy, y, hy, hq⟩ hh⟩
    refine ⟨m, ?_, ?_⟩
    · refine trajI (n := m) (fun g k hk => ?_) (fun g => ?_) _ (by omega)
      · have hkl : k < d.length := by omega
        have hy := List.getElem?_eq_getElem hkl
        simp [m_slices_IndexFunc_impl_Port_impl_Port_L1, m_slices_IndexFunc_impl_Port_impl_Port_B1, hkl, getI_lt hkl, h _ (List.getElem_mem hkl), hl k hk _ hy]
      · have hmem := List.mem_of_getElem? hx
        simp [m_slices_IndexFunc_impl_Port_impl_Port_L1, m_slices_IndexFunc_impl_Port_impl_Port_B1, hm, getI_nat hx, h _ hmem, hq]
    · have : d.any q = true := List.any_eq_true.2 ⟨x, List.mem_of_getElem? hx, hq⟩
      rw [this]; simp
  · refine ⟨-1, ?_, ?_⟩
    · refine trajI (n := d.length) (fun g k hk => ?_) (fun g => ?_) _ (by omega)
      · have hq : q d[k] = false := by
          cases hq : q d[k] with
          | false => rfl
          | true => exact absurd ⟨k, hk, _, List.getElem?_eq_getElem hk, hq⟩ ha
        simp [m_slices_IndexFunc_impl_Port_impl_Port_L1, m_slices_IndexFunc_impl_Port_impl_Port_B1, hk, getI_lt hk, h _ (List.getElem_mem hk), hq]
      · simp [m_slices_IndexFunc_impl_Port_impl_Port_L1, m_slices_IndexFunc_impl_Port_impl_Port_B1, m_slices_IndexFunc_impl_Port_impl_Port_A1]
    · have : d.any q = false := List.any_eq_false.2 fun x hx hq => by
        obtain ⟨k, hk, rfl⟩ := List.getElem_of_mem hx
        exact ha ⟨k, hk, _, List.getElem?_eq_getElem hk, hq⟩
      rw [this]; simp
theorem p_contains_port (d : List DPort) (p : DPort → Option Bool) (q : DPort → Bool) (h : ∀ x ∈ d, p x = some (q x)) : m_slices_ContainsFunc_impl_Port_impl_Port d p = some (d.any q) := by
  obtain ⟨i, h1, h2⟩ := p_index_port d p q h
  simp -implicitDefEqProofs only [m_slices_ContainsFunc_impl_Port_impl_Port, h1, Option.bind_some, h2]
theorem p_valid1 {xs : List DAgent} {p : DPort} (h : hasPort xs p = true) : m_impl_ValidNet_1 p ⟨xs⟩ = some (badPort xs p) := by
  unfold m_impl_ValidNet_1 badPort
  rw [p_peer h, Option.bind_some, port_eq]
  by_cases h1 : peer xs p = p
  · simp [h1]
  · cases h2 : hasPort xs (peer xs p) with
    | false => simp [h1, p_hasPort, h2]
    | true => simp [h1, p_hasPort, h2, p_peer h2, port_eq]
theorem p_valid (d : DNet) (hs : Small d.agents) : m_impl_ValidNet d = some (validNet d) := by
  obtain ⟨xs⟩ := d
  have hs : Small xs := hs
  unfold m_impl_ValidNet
  rw [p_areAgents xs hs.ports', Option.bind_some]
  cases hag : agentsOk xs with
  | false =>
    rw [cond_false]
    cases hv : validNet ⟨xs⟩ with
    | false => rfl
    | true => rw [agentsOk_iff.2 (validNet_iff.1 hv).1] at hag; cases hag
  | true =>
    rw [cond_true, p_ports _ hs, Option.bind_some]
    have hc := p_contains_port (allPorts xs) (fun x0 => m_impl_ValidNet_1 x0 ⟨xs⟩) (badPort xs) (fun p hp => by
      obtain ⟨j, x, k, h1, h2, rfl⟩ := mem_portsFrom.1 hp
      have hh := hasPort_of h1 h2
      simp only [Nat.zero_add]
      exact p_valid1 hh)
    rw [hc, Option.bind_some]
    congr 1
    rw [Bool.eq_iff_iff, validNet_iff, Bool.not_eq_true', any_allPorts]
    exact ⟨fun h => ⟨agentsOk_iff.1 hag, h⟩, fun h => h.2⟩
end Go.Proofs.Ytampijkiidjcmaa
