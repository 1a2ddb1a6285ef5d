/- Lemmas of the proof of NetText, part 5. No condition. -/
import Derived.Test.YtkfmlehhbanopaaGreatDoorZNetText4
namespace Go.Proofs.YtkfmlehhbanopaaGreatDoor
section
open Go.RowKit Go.Sort
set_option linter.unusedVariables false
set_option linter.unusedSimpArgs false
def opT (n : Int) : ByteArray := if n = 1 then ByteArray.mk #[43] else if n = 2 then ByteArray.mk #[45] else if n = 3 then ByteArray.mk #[42] else if n = 4 then ByteArray.mk #[47] else if n = 5 then ByteArray.mk #[60] else if n = 6 then ByteArray.mk #[61] else ByteArray.mk #[]
theorem oper_cases {n : Int} (h : operB n = true) : n = 1 ∨ n = 2 ∨ n = 3 ∨ n = 4 ∨ n = 5 ∨ n = 6 := by
  unfold operB at h
  simp at h
  omega
theorem opT_size {n : Int} (h : operB n = true) : (opT n).size = 1 := by
  rcases oper_cases h with rfl | rfl | rfl | rfl | rfl | rfl <;> rfl
theorem p_sOper {n : Int} (h : operB n = true) : m_spec_OperatorText n = some (opT n) := by
  rcases oper_cases h with rfl | rfl | rfl | rfl | rfl | rfl <;> rfl
theorem p_iOper {n : Int} (h : operB n = true) : m_impl_OperatorText n = some (opT n) := by
  rw [m_impl_OperatorText, p_isOper, Option.bind_some, h, cond_true]
  rcases oper_cases h with rfl | rfl | rfl | rfl | rfl | rfl <;> rfl
/-- What an agent's text has behind its name and level. -/
def bodyT (x : DAgent) : ByteArray := if x.kind = 6 ∨ x.kind = 9 ∨ x.kind = 12 then ByteArray.mk #[61] ++ itoaB x.value else if x.kind = 7 then ByteArray.mk #[61] ++ opT x.value else if x.kind = 8 then ByteArray.mk #[61] ++ opT x.value ++ ByteArray.mk #[44] ++ numsB x.data 44 else if x.kind = 10 ∨ x.kind = 11 then ByteArray.mk #[61] ++ numsB x.data 44 else ByteArray.mk #[]
def headT (x : DAgent) : ByteArray := if hasLevel x.kind = true then kindName x.kind ++ (ByteArray.mk #[47] ++ itoaB x.level) else kindName x.kind
def agT (x : DAgent) : ByteArray := portsT x.ports (headT x ++ bodyT x)
theorem okI_32 {n : Int} (h : int32B n = true) : okI n := by unfold int32B at h; simp at h; unfold okI; omega
theorem okI_def {n : Int} (h : defIx n = true) : okI n := by unfold defIx at h; simp at h; unfold okI; omega
theorem kind_name_size (k : Int) : (kindName k).size ≤ 4 := by
  by_cases h : k < 1 ∨ 12 < k
  · rw [kindName_out h]; decide
  · have hk : k = 1 ∨ k = 2 ∨ k = 3 ∨ k = 4 ∨ k = 5 ∨ k = 6 ∨ k = 7 ∨ k = 8 ∨ k = 9 ∨ k = 10 ∨ k = 11 ∨ k = 12 := by omega
    rcases hk with rfl | rfl | rfl | rfl | rfl | rfl | rfl | rfl | rfl | rfl | rfl | rfl <;> decide
theorem sAj (x : DAgent) (hk : content x.kind x.value x.data = true) (hp : ∀ p ∈ x.ports, okP p) (hl : x.ports.length ≤ 1000) (z : ByteArray) (hz : z.size ≤ 1000) : m_spec_l11AgentText_Aj1 x z = some (portsT x.ports (z ++ bodyT x)) := by
  have hc : x.kind = 6 ∨ x.kind = 9 ∨ x.kind = 12 ∨ x.kind = 7 ∨ x.kind = 8 ∨ x.kind = 10 ∨ x.kind = 11 ∨ (¬ x.kind = 6 ∧ ¬ x.kind = 9 ∧ ¬ x.kind = 12 ∧ ¬ x.kind = 7 ∧ ¬ x.kind = 8 ∧ ¬ x.kind = 10 ∧ ¬ x.kind = 11) := by omega
  rcases hc with e | e | e | e | e | e | e | e
  · have c6 : (x.kind == 6) = true := by rw [e]; rfl
    have c9 : (x.kind == 9) = false := by rw [e]; rfl
    have c12 : (x.kind == 12) = false := by rw [e]; rfl
    have c7 : (x.kind == 7) = false := by rw [e]; rfl
    have c8 : (x.kind == 8) = false := by rw [e]; rfl
    have c10 : (x.kind == 10) = false := by rw [e]; rfl
    have c11 : (x.kind == 11) = false := by rw [e]; rfl
    have hb : bodyT x = ByteArray.mk #[61] ++ itoaB x.value := by unfold bodyT; rw [e]; rfl
    have ho : okI x.value := by rw [e] at hk; simp [content] at hk; exact okI_32 hk.2
    have hs := itoaB_size ho.1 ho.2
    simp -implicitDefEqProofs only [m_spec_l11AgentText_Aj1, m_spec_l11AgentText_Aj2, c6, c9, c12, c7, c8, c10, c11, cond_true, cond_false]
    rw [p_sDecimal _ ho.1 ho.2, Option.bind_some, catS_ok (by simp only [ba_app_size, sz1]; omega), Option.bind_some, catS_ok (by simp only [ba_app_size, sz1]; omega), Option.bind_some, sTail6 x hp hl _ (by simp only [ba_app_size, sz1]; omega), hb]
  · have c6 : (x.kind == 6) = false := by rw [e]; rfl
    have c9 : (x.kind == 9) = true := by rw [e]; rfl
    have c12 : (x.kind == 12) = false := by rw [e]; rfl
    have c7 : (x.kind == 7) = false := by rw [e]; rfl
    have c8 : (x.kind == 8) = false := by rw [e]; rfl
    have c10 : (x.kind == 10) = false := by rw [e]; rfl
    have c11 : (x.kind == 11) = false := by rw [e]; rfl
    have hb : bodyT x = ByteArray.mk #[61] ++ itoaB x.value := by unfold bodyT; rw [e]; rfl
    have ho : okI x.value := by rw [e] at hk; simp [content] at hk; unfold okI; omega
    have hs := itoaB_size ho.1 ho.2
    simp -implicitDefEqProofs only [m_spec_l11AgentText_Aj1, m_spec_l11AgentText_Aj2, c6, c9, c12, c7, c8, c10, c11, cond_true, cond_false]
    rw [p_sDecimal _ ho.1 ho.2, Option.bind_some, catS_ok (by simp only [ba_app_size, sz1]; omega), Option.bind_some, catS_ok (by simp only [ba_app_size, sz1]; omega), Option.bind_some, sTail6 x hp hl _ (by simp only [ba_app_size, sz1]; omega), hb]
  · have c6 : (x.kind == 6) = false := by rw [e]; rfl
    have c9 : (x.kind == 9) = false := by rw [e]; rfl
    have c12 : (x.kind == 12) = true := by rw [e]; rfl
    have c7 : (x.kind == 7) = false := by rw [e]; rfl
    have c8 : (x.kind == 8) = false := by rw [e]; rfl
    have c10 : (x.kind == 10) = false := by rw [e]; rfl
    have c11 : (x.kind == 11) = false := by rw [e]; rfl
    have hb : bodyT x = ByteArray.mk #[61] ++ itoaB x.value := by unfold bodyT; rw [e]; rfl
    have ho : okI x.value := by rw [e] at hk; simp [content] at hk; exact okI_def hk.2
    have hs := itoaB_size ho.1 ho.2
    simp -implicitDefEqProofs only [m_spec_l11AgentText_Aj1, m_spec_l11AgentText_Aj2, c6, c9, c12, c7, c8, c10, c11, cond_true, cond_false]
    rw [p_sDecimal _ ho.1 ho.2, Option.bind_some, catS_ok (by simp only [ba_app_size, sz1]; omega), Option.bind_some, catS_ok (by simp only [ba_app_size, sz1]; omega), Option.bind_some, sTail6 x hp hl _ (by simp only [ba_app_size, sz1]; omega), hb]
  · have c6 : (x.kind == 6) = false := by rw [e]; rfl
    have c9 : (x.kind == 9) = false := by rw [e]; rfl
    have c12 : (x.kind == 12) = false := by rw [e]; rfl
    have c7 : (x.kind == 7) = true := by rw [e]; rfl
    have c8 : (x.kind == 8) = false := by rw [e]; rfl
    have c10 : (x.kind == 10) = false := by rw [e]; rfl
    have c11 : (x.kind == 11) = false := by rw [e]; rfl
    have hb : bodyT x = ByteArray.mk #[61] ++ opT x.value := by unfold bodyT; rw [e]; rfl
    have ho : operB x.value = true := by rw [e] at hk; simp [content] at hk; exact hk.2
    have hs := opT_size ho
    simp -implicitDefEqProofs only [m_spec_l11AgentText_Aj1, m_spec_l11AgentText_Aj2, c6, c9, c12, c7, c8, c10, c11, cond_true, cond_false]
    rw [p_sOper ho, Option.bind_some, catS_ok (by simp only [ba_app_size, sz1]; omega), Option.bind_some, catS_ok (by simp only [ba_app_size, sz1]; omega), Option.bind_some, sTail5 x hp hl _ (by simp only [ba_app_size, sz1]; omega), hb]
  · have c6 : (x.kind == 6) = false := by rw [e]; rfl
    have c9 : (x.kind == 9) = false := by rw [e]; rfl
    have c12 : (x.kind == 12) = false := by rw [e]; rfl
    have c7 : (x.kind == 7) = false := by rw [e]; rfl
    have c8 : (x.kind == 8) = true := by rw [e]; rfl
    have c10 : (x.kind == 10) = false := by rw [e]; rfl
    have c11 : (x.kind == 11) = false := by rw [e]; rfl
    have hb : bodyT x = ByteArray.mk #[61] ++ opT x.value ++ ByteArray.mk #[44] ++ numsB x.data 44 := by unfold bodyT; rw [e]; rfl
    have hk' : x.data.length = 1 ∧ operB x.value = true ∧ int32B (x.data.getD 0 0) = true := by rw [e] at hk; simp [content] at hk; simpa [List.getD, and_assoc] using hk
    obtain ⟨h1, ho, h3⟩ := hk'
    obtain ⟨n, hn⟩ : ∃ n, x.data = [n] := by
      cases hx : x.data with
      | nil => rw [hx] at h1; simp at h1
      | cons a r =>
        rw [hx] at h1
        cases r with
        | nil => exact ⟨a, rfl⟩
        | cons b r => simp at h1
    have h3 : int32B n = true := by rw [hn] at h3; exact h3
    have hi := okI_32 h3
    have hd : ∀ y ∈ x.data, okI y := fun y hy => by rw [hn] at hy; simp at hy; rw [hy]; exact hi
    have hdl : x.data.length ≤ 1000 := by omega
    have hs := opT_size ho
    have hs2 := numsB_size (c := 44) hd
    have hs3 := itoaB_size hi.1 hi.2
    simp -implicitDefEqProofs only [m_spec_l11AgentText_Aj1, m_spec_l11AgentText_Aj2, c6, c9, c12, c7, c8, c10, c11, cond_true, cond_false]
    rw [p_sOper ho, Option.bind_some, catS_ok (by simp only [ba_app_size, sz1]; omega), Option.bind_some, catS_ok (by simp only [ba_app_size, sz1]; omega), Option.bind_some, p_sNumbers _ hd hdl, Option.bind_some, catS_ok (by simp only [ba_app_size, sz1]; omega), Option.bind_some, catS_ok (by simp only [ba_app_size, sz1]; omega), Option.bind_some, sTail4 x hp hl _ (by simp only [ba_app_size, sz1]; omega), hb]
  · have c6 : (x.kind == 6) = false := by rw [e]; rfl
    have c9 : (x.kind == 9) = false := by rw [e]; rfl
    have c12 : (x.kind == 12) = false := by rw [e]; rfl
    have c7 : (x.kind == 7) = false := by rw [e]; rfl
    have c8 : (x.kind == 8) = false := by rw [e]; rfl
    have c10 : (x.kind == 10) = true := by rw [e]; rfl
    have c11 : (x.kind == 11) = false := by rw [e]; rfl
    have hb : bodyT x = ByteArray.mk #[61] ++ numsB x.data 44 := by unfold bodyT; rw [e]; rfl
    have hd : ∀ y ∈ x.data, okI y := by rw [e] at hk; simp only [content] at hk; simp at hk; exact fun y hy => okI_def (hk.2 y hy)
    have hdl : x.data.length ≤ 4 := by rw [e] at hk; simp [content] at hk; omega
    have hs2 := numsB_size (c := 44) hd
    have hdl : x.data.length ≤ 1000 := by omega
    simp -implicitDefEqProofs only [m_spec_l11AgentText_Aj1, m_spec_l11AgentText_Aj2, c6, c9, c12, c7, c8, c10, c11, cond_true, cond_false]
    rw [p_sNumbers _ hd hdl, Option.bind_some, catS_ok (by simp only [ba_app_size, sz1]; omega), Option.bind_some, catS_ok (by simp only [ba_app_size, sz1]; omega), Option.bind_some, sTail3 x hp hl _ (by simp only [ba_app_size, sz1]; omega), hb]
  · have c6 : (x.kind == 6) = false := by rw [e]; rfl
    have c9 : (x.kind == 9) = false := by rw [e]; rfl
    have c12 : (x.kind == 12) = false := by rw [e]; rfl
    have c7 : (x.kind == 7) = false := by rw [e]; rfl
    have c8 : (x.kind == 8) = false := by rw [e]; rfl
    have c10 : (x.kind == 10) = false := by rw [e]; rfl
    have c11 : (x.kind == 11) = true := by rw [e]; rfl
    have hb : bodyT x = ByteArray.mk #[61] ++ numsB x.data 44 := by unfold bodyT; rw [e]; rfl
    have hd : ∀ y ∈ x.data, okI y := by rw [e] at hk; simp only [content] at hk; simp at hk; exact fun y hy => okI_def (hk.2 y hy)
    have hdl : x.data.length ≤ 4 := by rw [e] at hk; simp [content] at hk; omega
    have hs2 := numsB_size (c := 44) hd
    have hdl : x.data.length ≤ 1000 := by omega
    simp -implicitDefEqProofs only [m_spec_l11AgentText_Aj1, m_spec_l11AgentText_Aj2, c6, c9, c12, c7, c8, c10, c11, cond_true, cond_false]
    rw [p_sNumbers _ hd hdl, Option.bind_some, catS_ok (by simp only [ba_app_size, sz1]; omega), Option.bind_some, catS_ok (by simp only [ba_app_size, sz1]; omega), Option.bind_some, sTail2 x hp hl _ (by simp only [ba_app_size, sz1]; omega), hb]
  · have c6 : (x.kind == 6) = false := by simpa using e.1
    have c9 : (x.kind == 9) = false := by simpa using e.2.1
    have c12 : (x.kind == 12) = false := by simpa using e.2.2.1
    have c7 : (x.kind == 7) = false := by simpa using e.2.2.2.1
    have c8 : (x.kind == 8) = false := by simpa using e.2.2.2.2.1
    have c10 : (x.kind == 10) = false := by simpa using e.2.2.2.2.2.1
    have c11 : (x.kind == 11) = false := by simpa using e.2.2.2.2.2.2
    have hb : bodyT x = ByteArray.mk #[] := by unfold bodyT; rw [if_neg (by omega), if_neg (by omega), if_neg (by omega), if_neg (by omega)]
    simp -implicitDefEqProofs only [m_spec_l11AgentText_Aj1, m_spec_l11AgentText_Aj2, c6, c9, c12, c7, c8, c10, c11, cond_true, cond_false]
    rw [sTail1 x hp hl _ (by omega), hb, app_e]
theorem p_sAgentT (x : DAgent) (hk : content x.kind x.value x.data = true) (hv : okI x.level) (hp : ∀ p ∈ x.ports, okP p) (hl : x.ports.length ≤ 1000) : m_spec_l11AgentText x = some (agT x) := by
  have h1 := kind_name_size x.kind
  have h2 := itoaB_size hv.1 hv.2
  unfold m_spec_l11AgentText agT headT
  cases hasLevel x.kind with
  | false =>
    rw [cond_false, sAj x hk hp hl _ (by omega), if_neg (by decide)]
  | true =>
    rw [cond_true, p_sDecimal _ hv.1 hv.2, Option.bind_some, catS_ok (by rw [sz1]; omega), Option.bind_some, catS_ok (by simp only [ba_app_size, sz1]; omega), Option.bind_some, sAj x hk hp hl _ (by simp only [ba_app_size, sz1]; omega), if_pos rfl]
theorem iAj (x : DAgent) (hk : content x.kind x.value x.data = true) (hp : ∀ p ∈ x.ports, okP p) (hl : x.ports.length ≤ 1000) (z : ByteArray) (hz : z.size ≤ 1000) : m_impl_agentText_Aj1 x z = some (portsT x.ports (z ++ bodyT x)) := by
  have hc : x.kind = 6 ∨ x.kind = 9 ∨ x.kind = 12 ∨ x.kind = 7 ∨ x.kind = 8 ∨ x.kind = 10 ∨ x.kind = 11 ∨ (¬ x.kind = 6 ∧ ¬ x.kind = 9 ∧ ¬ x.kind = 12 ∧ ¬ x.kind = 7 ∧ ¬ x.kind = 8 ∧ ¬ x.kind = 10 ∧ ¬ x.kind = 11) := by omega
  rcases hc with e | e | e | e | e | e | e | e
  · have c6 : (x.kind == 6) = true := by rw [e]; rfl
    have c9 : (x.kind == 9) = false := by rw [e]; rfl
    have c12 : (x.kind == 12) = false := by rw [e]; rfl
    have c7 : (x.kind == 7) = false := by rw [e]; rfl
    have c8 : (x.kind == 8) = false := by rw [e]; rfl
    have c10 : (x.kind == 10) = false := by rw [e]; rfl
    have c11 : (x.kind == 11) = false := by rw [e]; rfl
    have hb : bodyT x = ByteArray.mk #[61] ++ itoaB x.value := by unfold bodyT; rw [e]; rfl
    have ho : okI x.value := by rw [e] at hk; simp [content] at hk; exact okI_32 hk.2
    have hs := itoaB_size ho.1 ho.2
    simp -implicitDefEqProofs only [m_impl_agentText_Aj1, m_impl_agentText_Aj2, c6, c9, c12, c7, c8, c10, c11, cond_true, cond_false]
    rw [p_iDecimal ho, Option.bind_some, catS_ok (by simp only [ba_app_size, sz1]; omega), Option.bind_some, wrS_ok (by simp only [ba_app_size, sz1]; omega), Option.bind_some, iTail6 x hp hl _ (by simp only [ba_app_size, sz1]; omega), hb]
  · have c6 : (x.kind == 6) = false := by rw [e]; rfl
    have c9 : (x.kind == 9) = true := by rw [e]; rfl
    have c12 : (x.kind == 12) = false := by rw [e]; rfl
    have c7 : (x.kind == 7) = false := by rw [e]; rfl
    have c8 : (x.kind == 8) = false := by rw [e]; rfl
    have c10 : (x.kind == 10) = false := by rw [e]; rfl
    have c11 : (x.kind == 11) = false := by rw [e]; rfl
    have hb : bodyT x = ByteArray.mk #[61] ++ itoaB x.value := by unfold bodyT; rw [e]; rfl
    have ho : okI x.value := by rw [e] at hk; simp [content] at hk; unfold okI; omega
    have hs := itoaB_size ho.1 ho.2
    simp -implicitDefEqProofs only [m_impl_agentText_Aj1, m_impl_agentText_Aj2, c6, c9, c12, c7, c8, c10, c11, cond_true, cond_false]
    rw [p_iDecimal ho, Option.bind_some, catS_ok (by simp only [ba_app_size, sz1]; omega), Option.bind_some, wrS_ok (by simp only [ba_app_size, sz1]; omega), Option.bind_some, iTail6 x hp hl _ (by simp only [ba_app_size, sz1]; omega), hb]
  · have c6 : (x.kind == 6) = false := by rw [e]; rfl
    have c9 : (x.kind == 9) = false := by rw [e]; rfl
    have c12 : (x.kind == 12) = true := by rw [e]; rfl
    have c7 : (x.kind == 7) = false := by rw [e]; rfl
    have c8 : (x.kind == 8) = false := by rw [e]; rfl
    have c10 : (x.kind == 10) = false := by rw [e]; rfl
    have c11 : (x.kind == 11) = false := by rw [e]; rfl
    have hb : bodyT x = ByteArray.mk #[61] ++ itoaB x.value := by unfold bodyT; rw [e]; rfl
    have ho : okI x.value := by rw [e] at hk; simp [content] at hk; exact okI_def hk.2
    have hs := itoaB_size ho.1 ho.2
    simp -implicitDefEqProofs only [m_impl_agentText_Aj1, m_impl_agentText_Aj2, c6, c9, c12, c7, c8, c10, c11, cond_true, cond_false]
    rw [p_iDecimal ho, Option.bind_some, catS_ok (by simp only [ba_app_size, sz1]; omega), Option.bind_some, wrS_ok (by simp only [ba_app_size, sz1]; omega), Option.bind_some, iTail6 x hp hl _ (by simp only [ba_app_size, sz1]; omega), hb]
  · have c6 : (x.kind == 6) = false := by rw [e]; rfl
    have c9 : (x.kind == 9) = false := by rw [e]; rfl
    have c12 : (x.kind == 12) = false := by rw [e]; rfl
    have c7 : (x.kind == 7) = true := by rw [e]; rfl
    have c8 : (x.kind == 8) = false := by rw [e]; rfl
    have c10 : (x.kind == 10) = false := by rw [e]; rfl
    have c11 : (x.kind == 11) = false := by rw [e]; rfl
    have hb : bodyT x = ByteArray.mk #[61] ++ opT x.value := by unfold bodyT; rw [e]; rfl
    have ho : operB x.value = true := by rw [e] at hk; simp [content] at hk; exact hk.2
    have hs := opT_size ho
    simp -implicitDefEqProofs only [m_impl_agentText_Aj1, m_impl_agentText_Aj2, c6, c9, c12, c7, c8, c10, c11, cond_true, cond_false]
    rw [p_iOper ho, Option.bind_some, catS_ok (by simp only [ba_app_size, sz1]; omega), Option.bind_some, wrS_ok (by simp only [ba_app_size, sz1]; omega), Option.bind_some, iTail5 x hp hl _ (by simp only [ba_app_size, sz1]; omega), hb]
  · have c6 : (x.kind == 6) = false := by rw [e]; rfl
    have c9 : (x.kind == 9) = false := by rw [e]; rfl
    have c12 : (x.kind == 12) = false := by rw [e]; rfl
    have c7 : (x.kind == 7) = false := by rw [e]; rfl
    have c8 : (x.kind == 8) = true := by rw [e]; rfl
    have c10 : (x.kind == 10) = false := by rw [e]; rfl
    have c11 : (x.kind == 11) = false := by rw [e]; rfl
    have hb : bodyT x = ByteArray.mk #[61] ++ opT x.value ++ ByteArray.mk #[44] ++ numsB x.data 44 := by unfold bodyT; rw [e]; rfl
    have hk' : x.data.length = 1 ∧ operB x.value = true ∧ int32B (x.data.getD 0 0) = true := by rw [e] at hk; simp [content] at hk; simpa [List.getD, and_assoc] using hk
    obtain ⟨h1, ho, h3⟩ := hk'
    obtain ⟨n, hn⟩ : ∃ n, x.data = [n] := by
      cases hx : x.data with
      | nil => rw [hx] at h1; simp at h1
      | cons a r =>
        rw [hx] at h1
        cases r with
        | nil => exact ⟨a, rfl⟩
        | cons b r => simp at h1
    have h3 : int32B n = true := by rw [hn] at h3; exact h3
    have hi := okI_32 h3
    have hd : ∀ y ∈ x.data, okI y := fun y hy => by rw [hn] at hy; simp at hy; rw [hy]; exact hi
    have hdl : x.data.length ≤ 1000 := by omega
    have hs := opT_size ho
    have hs2 := numsB_size (c := 44) hd
    have hs3 := itoaB_size hi.1 hi.2
    have hnn : numsB x.data 44 = itoaB n := by rw [hn]; exact joinB_one _ _
    simp -implicitDefEqProofs only [m_impl_agentText_Aj1, m_impl_agentText_Aj2, c6, c9, c12, c7, c8, c10, c11, cond_true, cond_false]
    rw [show getI x.data 0 = some n by rw [hn]; rfl, Option.bind_some, p_iOper ho, Option.bind_some, catS_ok (by simp only [ba_app_size, sz1]; omega), Option.bind_some, catS_ok (by simp only [ba_app_size, sz1]; omega), Option.bind_some, p_iDecimal hi, Option.bind_some, catS_ok (by simp only [ba_app_size, sz1]; omega), Option.bind_some, wrS_ok (by simp only [ba_app_size, sz1]; omega), Option.bind_some, iTail4 x hp hl _ (by simp only [ba_app_size, sz1]; omega), hb, hnn]
  · have c6 : (x.kind == 6) = false := by rw [e]; rfl
    have c9 : (x.kind == 9) = false := by rw [e]; rfl
    have c12 : (x.kind == 12) = false := by rw [e]; rfl
    have c7 : (x.kind == 7) = false := by rw [e]; rfl
    have c8 : (x.kind == 8) = false := by rw [e]; rfl
    have c10 : (x.kind == 10) = true := by rw [e]; rfl
    have c11 : (x.kind == 11) = false := by rw [e]; rfl
    have hb : bodyT x = ByteArray.mk #[61] ++ numsB x.data 44 := by unfold bodyT; rw [e]; rfl
    have hd : ∀ y ∈ x.data, okI y := by rw [e] at hk; simp only [content] at hk; simp at hk; exact fun y hy => okI_def (hk.2 y hy)
    have hdl : x.data.length ≤ 4 := by rw [e] at hk; simp [content] at hk; omega
    have hs2 := numsB_size (c := 44) hd
    have hdl : x.data.length ≤ 1000 := by omega
    simp -implicitDefEqProofs only [m_impl_agentText_Aj1, m_impl_agentText_Aj2, c6, c9, c12, c7, c8, c10, c11, cond_true, cond_false]
    rw [p_iDecimals _ hd hdl, Option.bind_some, p_repl _ hd hdl, Option.bind_some, catS_ok (by simp only [ba_app_size, sz1]; omega), Option.bind_some, wrS_ok (by simp only [ba_app_size, sz1]; omega), Option.bind_some, iTail3 x hp hl _ (by simp only [ba_app_size, sz1]; omega), hb]
  · have c6 : (x.kind == 6) = false := by rw [e]; rfl
    have c9 : (x.kind == 9) = false := by rw [e]; rfl
    have c12 : (x.kind == 12) = false := by rw [e]; rfl
    have c7 : (x.kind == 7) = false := by rw [e]; rfl
    have c8 : (x.kind == 8) = false := by rw [e]; rfl
    have c10 : (x.kind == 10) = false := by rw [e]; rfl
    have c11 : (x.kind == 11) = true := by rw [e]; rfl
    have hb : bodyT x = ByteArray.mk #[61] ++ numsB x.data 44 := by unfold bodyT; rw [e]; rfl
    have hd : ∀ y ∈ x.data, okI y := by rw [e] at hk; simp only [content] at hk; simp at hk; exact fun y hy => okI_def (hk.2 y hy)
    have hdl : x.data.length ≤ 4 := by rw [e] at hk; simp [content] at hk; omega
    have hs2 := numsB_size (c := 44) hd
    have hdl : x.data.length ≤ 1000 := by omega
    simp -implicitDefEqProofs only [m_impl_agentText_Aj1, m_impl_agentText_Aj2, c6, c9, c12, c7, c8, c10, c11, cond_true, cond_false]
    rw [p_iDecimals _ hd hdl, Option.bind_some, p_repl _ hd hdl, Option.bind_some, catS_ok (by simp only [ba_app_size, sz1]; omega), Option.bind_some, wrS_ok (by simp only [ba_app_size, sz1]; omega), Option.bind_some, iTail2 x hp hl _ (by simp only [ba_app_size, sz1]; omega), hb]
  · have c6 : (x.kind == 6) = false := by simpa using e.1
    have c9 : (x.kind == 9) = false := by simpa using e.2.1
    have c12 : (x.kind == 12) = false := by simpa using e.2.2.1
    have c7 : (x.kind == 7) = false := by simpa using e.2.2.2.1
    have c8 : (x.kind == 8) = false := by simpa using e.2.2.2.2.1
    have c10 : (x.kind == 10) = false := by simpa using e.2.2.2.2.2.1
    have c11 : (x.kind == 11) = false := by simpa using e.2.2.2.2.2.2
    have hb : bodyT x = ByteArray.mk #[] := by unfold bodyT; rw [if_neg (by omega), if_neg (by omega), if_neg (by omega), if_neg (by omega)]
    simp -implicitDefEqProofs only [m_impl_agentText_Aj1, m_impl_agentText_Aj2, c6, c9, c12, c7, c8, c10, c11, cond_true, cond_false]
    rw [iTail1 x hp hl _ (by omega), hb, app_e]
theorem p_iAgentT (x : DAgent) (hk : content x.kind x.value x.data = true) (hv : okI x.level) (hp : ∀ p ∈ x.ports, okP p) (hl : x.ports.length ≤ 1000) : m_impl_agentText x = some (agT x) := by
  have h1 := kind_name_size x.kind
  have h2 := itoaB_size hv.1 hv.2
  unfold m_impl_agentText agT headT
  rw [wrS_ok (by rw [sz0]; omega), Option.bind_some, e_app]
  cases hasLevel x.kind with
  | false =>
    rw [cond_false, iAj x hk hp hl _ (by omega), if_neg (by decide)]
  | true =>
    rw [cond_true, p_iDecimal hv, Option.bind_some, catS_ok (by rw [sz1]; omega), Option.bind_some, wrS_ok (by simp only [ba_app_size, sz1]; omega), Option.bind_some, iAj x hk hp hl _ (by simp only [ba_app_size, sz1]; omega), if_pos rfl]
end
section
open Go.RowKit
set_option linter.unusedVariables false
set_option linter.unusedSimpArgs false
theorem szInt64S_v (v : Value) (xs : List Int) (left : Int) (w : World) {B : Nat} (h : RdS intRd 1 w B v xs) (hB : B ≤ w.heap.size) (h0 : 0 ≤ left) (h1 : left ≤ 1048576) :
    Calls Tryz.prog 55 #[v, .int .i64 left] w fun e w' => e = .returned (.int .i64 (szL left xs.length)) ∧ Below w.heap.size w w' := by
  obtain ⟨A, n, c, rfl, h, hnc, hcm⟩ := h
  have hr := Below.refl w.heap.size w
  have hl := h.len
  rw [← hl]
  unfold maxLen at hcm
  clear h hl
  by_cases hl : left - n < 0
  · have He := Lib.hid (szL_neg hl)
    go_enter Tryz.func55, Tryz.ntmps55
    go_wp2
    go_ret
    exact ⟨by rw [He.out]; rfl, hr⟩
  · have He := Lib.hid (szL_pos hl)
    go_enter Tryz.func55, Tryz.ntmps55
    go_wp2
    go_ret
    exact ⟨by rw [He.out]; rfl, hr⟩
theorem szPortS_v (v : Value) (xs : List DPort) (left : Int) (w : World) {B : Nat} (h : RdS portRd 2 w B v xs) (hB : B ≤ w.heap.size) (h0 : 0 ≤ left) (h1 : left ≤ 1048576) :
    Calls Tryz.prog 56 #[v, .int .i64 left] w fun e w' => e = .returned (.int .i64 (szL left xs.length)) ∧ Below w.heap.size w w' := by
  obtain ⟨A, n, c, rfl, h, hnc, hcm⟩ := h
  have hr := Below.refl w.heap.size w
  have hl := h.len
  rw [← hl]
  unfold maxLen at hcm
  clear h hl
  by_cases hl : left - n < 0
  · have He := Lib.hid (szL_neg hl)
    go_enter Tryz.func56, Tryz.ntmps56
    go_wp2
    go_ret
    exact ⟨by rw [He.out]; rfl, hr⟩
  · have He := Lib.hid (szL_pos hl)
    go_enter Tryz.func56, Tryz.ntmps56
    go_wp2
    go_ret
    exact ⟨by rw [He.out]; rfl, hr⟩
set_option maxHeartbeats 1000000 in
theorem szAgent_v (v : Value) (x : DAgent) (left : Int) (w : World) {B : Nat} (h : RdT agentRd w B v x) (hB : B ≤ w.heap.size) (h0 : 0 ≤ left) (h1 : left ≤ 1048576) :
    Calls Tryz.prog 27 #[v, .int .i64 left] w fun e w' => e = .returned (.int .i64 (szL left (szAgent x))) ∧ Below w.heap.size w w' := by
  obtain ⟨cs, rfl, A1, n1, c1, A2, n2, c2, rfl, ⟨g1, r1⟩, ⟨g2, r2⟩⟩ := h
  have hb : ∀ o1, Below w.heap.size w (w.alloc o1) := fun o1 => (Below.refl _ _).alloc (Nat.le_refl _) _
  obtain ⟨s0, es0⟩ : ∃ s : Nat, s = x.data.length := ⟨_, rfl⟩
  obtain ⟨s1, es1⟩ : ∃ s : Nat, s = x.ports.length := ⟨_, rfl⟩
  have Hs : Hid (szAgent x = s0 + s1) := by show _ = _; rw [es0, es1]; rfl
  have Es0 := Lib.hid es0
  have Es1 := Lib.hid es1
  clear es0 es1
  by_cases d0 : left - (s0 : Int) < 0
  · have He : Hid (szL left (szAgent x) = -1) := by show _ = _; rw [Hs.out, szL_neg (by omega)]
    go_enter Tryz.func27, Tryz.ntmps27
    go_wp2_with fail
    refine (szInt64S_v _ x.data (left) _ (B := B) ⟨A1, n1, c1, rfl, g1.below intRd_ok ((hb _).mono hB), r1⟩ (Nat.le_trans hB (hb _).size) (by omega) (by omega)).mono ?_
    rw [← Es0.out, szL_neg (by omega)]
    rintro e w1 ⟨rfl, q1⟩
    have T := (hb _).trans (q1.mono (hb _).size)
    have B1 := (Blk.new w _ _).below q1 (by simp)
    have z1 : w.heap.size + 1 ≤ w1.heap.size := by have := q1.size; simpa using this
    clear q1
    go_wp2_with fail
    go_ret
    exact ⟨by rw [He.out]; rfl, T⟩
  · skip
    by_cases d1 : left - s0 - (s1 : Int) < 0
    · have He : Hid (szL left (szAgent x) = -1) := by show _ = _; rw [Hs.out, szL_neg (by omega)]
      go_enter Tryz.func27, Tryz.ntmps27
      go_wp2_with fail
      refine (szInt64S_v _ x.data (left) _ (B := B) ⟨A1, n1, c1, rfl, g1.below intRd_ok ((hb _).mono hB), r1⟩ (Nat.le_trans hB (hb _).size) (by omega) (by omega)).mono ?_
      rw [← Es0.out, szL_pos (by omega)]
      rintro e w1 ⟨rfl, q1⟩
      have T := (hb _).trans (q1.mono (hb _).size)
      have B1 := (Blk.new w _ _).below q1 (by simp)
      have z1 : w.heap.size + 1 ≤ w1.heap.size := by have := q1.size; simpa using this
      clear q1
      have cB := B1.cell
      go_wp2_with fail
      clear cB
      refine (szPortS_v _ x.ports (left - s0) _ (B := B) ⟨A2, n2, c2, rfl, g2.below portRd_ok ((T).mono hB), r2⟩ (Nat.le_trans hB (T).size) (by omega) (by omega)).mono ?_
      rw [← Es1.out, szL_neg (by omega)]
      rintro e w2 ⟨rfl, q2⟩
      have T := T.trans (q2.mono T.size)
      have B1 := B1.below q2 (by omega)
      have z2 := Nat.le_trans z1 q2.size
      clear q2
      go_wp2_with fail
      go_ret
      exact ⟨by rw [He.out]; rfl, T⟩
    · skip
      have He : Hid (szL left (szAgent x) = left - s0 - s1) := by show _ = _; rw [Hs.out, szL_pos (by omega)]; try omega
      go_enter Tryz.func27, Tryz.ntmps27
      go_wp2_with fail
      refine (szInt64S_v _ x.data (left) _ (B := B) ⟨A1, n1, c1, rfl, g1.below intRd_ok ((hb _).mono hB), r1⟩ (Nat.le_trans hB (hb _).size) (by omega) (by omega)).mono ?_
      rw [← Es0.out, szL_pos (by omega)]
      rintro e w1 ⟨rfl, q1⟩
      have T := (hb _).trans (q1.mono (hb _).size)
      have B1 := (Blk.new w _ _).below q1 (by simp)
      have z1 : w.heap.size + 1 ≤ w1.heap.size := by have := q1.size; simpa using this
      clear q1
      have cB := B1.cell
      go_wp2_with fail
      clear cB
      refine (szPortS_v _ x.ports (left - s0) _ (B := B) ⟨A2, n2, c2, rfl, g2.below portRd_ok ((T).mono hB), r2⟩ (Nat.le_trans hB (T).size) (by omega) (by omega)).mono ?_
      rw [← Es1.out, szL_pos (by omega)]
      rintro e w2 ⟨rfl, q2⟩
      have T := T.trans (q2.mono T.size)
      have B1 := B1.below q2 (by omega)
      have z2 := Nat.le_trans z1 q2.size
      clear q2
      go_wp2_with fail
      go_ret
      exact ⟨by rw [He.out]; rfl, T⟩
theorem szAgentS_take {xs : List DAgent} {k : Nat} {x : DAgent} (h : xs[k]? = some x) : ((xs.take (k + 1)).map szAgent).sum = ((xs.take k).map szAgent).sum + szAgent x := by
  rw [take_succ_some h]; simp
theorem szAgentS_le (xs : List DAgent) (k : Nat) : ((xs.take k).map szAgent).sum ≤ (xs.map szAgent).sum := by
  have h : ((xs.take k ++ xs.drop k).map szAgent).sum = (xs.map szAgent).sum := by rw [List.take_append_drop]
  rw [List.map_append, List.sum_append] at h
  omega
set_option maxHeartbeats 1000000 in
theorem szAgentS_v (v : Value) (xs : List DAgent) (left : Int) (w : World) {B : Nat} (h : RdS agentRd 5 w B v xs) (hB : B ≤ w.heap.size) (h0 : 0 ≤ left) (h1 : left ≤ 1048576) :
    Calls Tryz.prog 14 #[v, .int .i64 left] w fun e w' => e = .returned (.int .i64 (szL left (szAgentS xs))) ∧ Below w.heap.size w w' := by
  obtain ⟨A, n, c, rfl, hx, hnc, hcm⟩ := h
  have hr := Below.refl w.heap.size w
  unfold maxLen at hcm
  have lx := Lib.hid hx.len
  by_cases hl : left - n < 0
  · have He : Hid (szL left (szAgentS xs) = -1) := szL_neg (by unfold szAgentS; rw [← lx.out]; omega)
    go_enter Tryz.func14, Tryz.ntmps14
    go_wp2
    go_ret
    exact ⟨by rw [He.out]; rfl, hr⟩
  · go_enter Tryz.func14, Tryz.ntmps14
    go_wp2
    go_loopw [1, 5] (fun s i wr => ∃ (k : Nat) (l : Int), k ≤ n ∧ i = .int .i64 k ∧ s = .int .i64 l ∧ 0 ≤ l ∧ l ≤ 1048576 ∧ Hid (l = left - n - (((xs.take k).map szAgent).sum : Nat)) ∧ Below w.heap.size w wr) (fun _ i _ => n - (intOf i).toNat)
    case atStart => exact ⟨0, left - n, by omega, rfl, rfl, by omega, by omega, by simp [Hid], hr⟩
    case round =>
      obtain ⟨k, s, hk, rfl, rfl, hs0, hs1, hs, hq⟩ := hrel
      by_cases hlt : k < n
      · obtain ⟨b, off, x, A1, n1, c1, A2, n2, c2, rfl, hb, hxk, hc0, hc1, hc2, hc3, hc4, ⟨g1, r1⟩, ⟨g2, r2⟩⟩ := (hx.below agentRd_ok (hq.mono hB)).agent hlt
        have Hxk := Lib.hid hxk
        clear hxk
        by_cases hd : s - (szAgent x : Int) < 0
        · have f := szL_neg hd
          have He : Hid (szL left (szAgentS xs) = -1) := szL_neg (by
            have e1 := szAgentS_le xs (k + 1)
            rw [szAgentS_take Hxk.out] at e1
            have e2 := hs.out
            have e3 := lx.out
            unfold szAgentS
            omega)
          go_wp2_with fail
          refine (szAgent_v _ x s _ (B := B) ⟨_, rfl, A1, n1, c1, A2, n2, c2, rfl, ⟨g1, r1⟩, ⟨g2, r2⟩⟩ (Nat.le_trans hB hq.size) hs0 hs1).mono ?_
          rintro e w1 ⟨rfl, q1⟩
          go_wp2_with fail
          go_ret
          exact ⟨by rw [He.out]; rfl, hq.trans (q1.mono hq.size)⟩
        · have f := szL_pos hd
          have Hn : Hid (s - (szAgent x : Int) = left - n - (((xs.take (k + 1)).map szAgent).sum : Nat)) := by
            have e1 := szAgentS_take Hxk.out
            have e2 := hs.out
            show _ = _
            rw [e1]
            omega
          go_wp2_with fail
          refine (szAgent_v _ x s _ (B := B) ⟨_, rfl, A1, n1, c1, A2, n2, c2, rfl, ⟨g1, r1⟩, ⟨g2, r2⟩⟩ (Nat.le_trans hB hq.size) hs0 hs1).mono ?_
          rintro e w1 ⟨rfl, q1⟩
          go_wp2_with fail
          go_roundw
          case rel => exact ⟨k + 1, s - (szAgent x : Int), by omega, by go_num, rfl, by omega, by omega, Hn.out, hq.trans (q1.mono hq.size)⟩
          case measure => simp [intOf]; omega
      · have He : Hid (szL left (szAgentS xs) = s) := by
          have e1 : xs.take k = xs := List.take_of_length_le (by have := lx.out; omega)
          have e2 := hs.out
          rw [e1] at e2
          have e3 := lx.out
          show _ = _
          rw [szL_pos (by unfold szAgentS; omega)]
          unfold szAgentS
          omega
        go_wp2_with fail
        go_ret
        exact ⟨by rw [He.out]; rfl, hq⟩
set_option maxHeartbeats 1000000 in
theorem szNet_v (v : Value) (x : DNet) (left : Int) (w : World) {B : Nat} (h : RdT netRd w B v x) (hB : B ≤ w.heap.size) (h0 : 0 ≤ left) (h1 : left ≤ 1048576) :
    Calls Tryz.prog 5 #[v, .int .i64 left] w fun e w' => e = .returned (.int .i64 (szL left (szNet x))) ∧ Below w.heap.size w w' := by
  obtain ⟨cs, rfl, A1, n1, c1, rfl, ⟨g1, r1⟩⟩ := h
  have hb : ∀ o1, Below w.heap.size w (w.alloc o1) := fun o1 => (Below.refl _ _).alloc (Nat.le_refl _) _
  obtain ⟨s0, es0⟩ : ∃ s : Nat, s = szAgentS x.agents := ⟨_, rfl⟩
  have Hs : Hid (szNet x = s0) := by show _ = _; rw [es0]; rfl
  have Es0 := Lib.hid es0
  clear es0
  by_cases d0 : left - (s0 : Int) < 0
  · have He : Hid (szL left (szNet x) = -1) := by show _ = _; rw [Hs.out, szL_neg (by omega)]
    go_enter Tryz.func5, Tryz.ntmps5
    go_wp2_with fail
    refine (szAgentS_v _ x.agents (left) _ (B := B) ⟨A1, n1, c1, rfl, g1.below agentRd_ok ((hb _).mono hB), r1⟩ (Nat.le_trans hB (hb _).size) (by omega) (by omega)).mono ?_
    rw [← Es0.out, szL_neg (by omega)]
    rintro e w1 ⟨rfl, q1⟩
    have T := (hb _).trans (q1.mono (hb _).size)
    have B1 := (Blk.new w _ _).below q1 (by simp)
    have z1 : w.heap.size + 1 ≤ w1.heap.size := by have := q1.size; simpa using this
    clear q1
    go_wp2_with fail
    go_ret
    exact ⟨by rw [He.out]; rfl, T⟩
  · skip
    have He : Hid (szL left (szNet x) = left - s0) := by show _ = _; rw [Hs.out, szL_pos (by omega)]; try omega
    go_enter Tryz.func5, Tryz.ntmps5
    go_wp2_with fail
    refine (szAgentS_v _ x.agents (left) _ (B := B) ⟨A1, n1, c1, rfl, g1.below agentRd_ok ((hb _).mono hB), r1⟩ (Nat.le_trans hB (hb _).size) (by omega) (by omega)).mono ?_
    rw [← Es0.out, szL_pos (by omega)]
    rintro e w1 ⟨rfl, q1⟩
    have T := (hb _).trans (q1.mono (hb _).size)
    have B1 := (Blk.new w _ _).below q1 (by simp)
    have z1 : w.heap.size + 1 ≤ w1.heap.size := by have := q1.size; simpa using this
    clear q1
    go_wp2_with fail
    go_ret
    exact ⟨by rw [He.out]; rfl, T⟩
end
section
open Go.RowKit
set_option linter.unusedVariables false
set_option linter.unusedSimpArgs false
theorem toPort_v (v : Value) (x : DPort) (w : World) {B : Nat} (h : RdT portRd w B v x) :
    Calls Tryz.prog 95 #[v] w fun e w' => e = .returned (.agg #[.int .i64 x.agent, .int .i64 x.slot]) ∧ Below w.heap.size w w' := by
  obtain ⟨cs, rfl, rfl⟩ := h
  go_enter Tryz.func95, Tryz.ntmps95
  go_wp2_with fail
  exact bodyPost_ret (v := .agg #[.int .i64 x.agent, .int .i64 x.slot]) (by simp [results, Tryz.results95, go_sem]) rfl ⟨rfl, (((Below.refl _ _).alloc (Nat.le_refl _) _).alloc (by simp) _).alloc (by simp; omega) _⟩
theorem info_PortS : (Tryz.prog.info? 61).map (fun i => (i.zero, i.size, i.bytes)) = some (some (.agg #[.int .i64 0, .int .i64 0]), 2, 16) := by kernel_rfl
set_option maxHeartbeats 1000000 in
theorem toPortS_v (v : Value) (xs : List DPort) (w : World) {B : Nat} (h : RdS portRd 2 w B v xs) (hB : B ≤ w.heap.size) (hs : xs.length ≤ 1048576) :
    Calls Tryz.prog 65 #[v] w fun e w' => Ret1 (fun v' => OwS portOw 2 w' v' xs w.heap.size w'.heap.size) e ∧ Below w.heap.size w w' := by
  obtain ⟨A, n, c, rfl, hx, hnc, hcm⟩ := h
  have lx := Lib.hid hx.len
  have hlen := hs
  have hn : n ≤ 1048576 := by have := lx.out; omega
  have hmk := run_make_sz 47 61 Tryz.underlying47 info_PortS n (by omega) (by omega)
  go_enter Tryz.func65, Tryz.ntmps65
  go_wp2
  clear hmk
  go_loopw [4] (fun i wr => ∃ k : Nat, k ≤ n ∧ i = .int .i64 k ∧ Below w.heap.size w wr ∧ w.heap.size + 1 ≤ wr.heap.size ∧ (∃ arr, Blk wr w.heap.size 61 arr ∧ Hid (arr.size = n * 2)) ∧ ∃ bs, ElAt portOw 2 wr w.heap.size 0 (xs.take k) bs ∧ bs.Nodup ∧ ∀ b ∈ bs, w.heap.size + 1 ≤ b ∧ b < wr.heap.size) (fun i _ => n - (intOf i).toNat)
  case atStart => exact ⟨0, by omega, rfl, (Below.refl _ _).alloc (Nat.le_refl _) _, by simp, ⟨_, Blk.new _ _ _, by simp [Hid, madeCells_size]⟩, [], rfl, List.nodup_nil, fun b hb => by simp at hb⟩
  case round =>
    obtain ⟨k, hk, rfl, hb, hzz, ⟨arr, BA, hasz⟩, bs, hel, hnd, hin⟩ := hrel
    by_cases hlt : k < n
    · obtain ⟨b, off, x, rfl, hlb, hxk, hc0, hc1⟩ := (hx.below portRd_ok (hb.mono hB)).port hlt
      have Hxk := Lib.hid hxk
      clear hxk
      go_wp2_with fail
      refine (toPort_v _ x _ (B := 0) ⟨_, rfl, rfl⟩).mono ?_
      rintro e w1 ⟨rfl, q1⟩
      obtain ⟨bl, HO, nd1, in1⟩ : ∃ bl, portOw w1 [.int .i64 x.agent, .int .i64 x.slot] x bl ∧ bl.Nodup ∧ ∀ b ∈ bl, wr.heap.size ≤ b ∧ b < w1.heap.size := ⟨[], ⟨rfl, rfl⟩, List.nodup_nil, fun b hb => by simp at hb⟩
      have BA := BA.below q1 (by omega)
      obtain ⟨z0, hz0⟩ := BA.some_ (i := k * 2) (by rw [hasz.out]; omega)
      obtain ⟨z1, hz1⟩ := BA.some_ (i := k * 2 + 1) (by rw [hasz.out]; omega)
      have fz := BA.frozen
      have zz := q1.size
      have Hel := Lib.hid (hel.keep portOw_ok (q1.block _ (by omega)) (fun k hk => q1.block k (hin k hk).2))
      clear hel
      have TB : ∀ y0 y1, Below w.heap.size w ((w1.setCell ⟨w.heap.size, k * 2, none⟩ y0).setCell ⟨w.heap.size, k * 2 + 1, none⟩ y1) := fun y0 y1 => (((hb.trans (q1.mono hb.size)).setCell (p := ⟨w.heap.size, k * 2, none⟩) (Nat.le_refl _) _).setCell (p := ⟨w.heap.size, k * 2 + 1, none⟩) (Nat.le_refl _) _)
      go_wp2_with fail
      go_roundw
      case rel =>
        refine ⟨k + 1, by omega, by go_num, TB _ _, by simp [World.setCell]; omega, ⟨_, ((BA.set_ (k * 2) _).set_ (k * 2 + 1) _), by simpa [Hid] using hasz⟩, bs ++ bl, ?_⟩
        rw [take_succ_some Hxk.out]
        have hlk : (xs.take k).length = k := by have := lx.out; simp; omega
        have h1 := ElAt.setRun portOw_ok (vs := [.int .i64 x.agent, .int .i64 x.slot]) (p := k * 2) Hel.out (fun hh => by have := hin _ hh; omega) (Or.inr (by rw [hlk]; omega))
        have hnn := nodup_two hnd nd1 hin in1 hzz zz
        refine ⟨ElAt.append h1 (ElAt.one (portOw_ok.keep (w' := setRun w1 w.heap.size (k * 2) [.int .i64 x.agent, .int .i64 x.slot]) (fun b hb => setRun_block (fun e => by have := in1 b hb; omega)) HO) ?_), hnn.1, fun b hb => by have := hnn.2 b hb; simp only [World.size_setCell]; exact this⟩
        rw [hlk, Nat.zero_add]
        exact setRun_csAt (vs := [.int .i64 x.agent, .int .i64 x.slot]) (fun j hj => by
          have hj : j < 2 := by simpa using hj
          match j, hj with
          | 0, _ => exact ⟨z0, hz0⟩
          | 1, _ => exact ⟨z1, hz1⟩) (fun j hj => fz _)
      case measure => simp [intOf]; omega
    · have hkn : k = n := by omega
      have e : xs.take k = xs := List.take_of_length_le (by have := lx.out; omega)
      rw [e] at hel
      have Hkn := Lib.hid hkn
      clear hkn e
      go_wp2
      go_ret
      exact ⟨⟨_, rfl, some ⟨w.heap.size, 0, none⟩, n, n, w.heap.size :: bs, rfl, ⟨lx.out, .inr ⟨_, _, bs, rfl, rfl, hel⟩⟩, List.nodup_cons.2 ⟨fun hh => by have := hin _ hh; omega, hnd⟩, fun b hb => by
        rcases List.mem_cons.1 hb with rfl | hb
        · omega
        · have := hin b hb; omega, Nat.le_refl _, by unfold maxLen; omega⟩, hb⟩
end
section
open Go.RowKit
set_option linter.unusedVariables false
set_option linter.unusedSimpArgs false
set_option maxHeartbeats 1000000 in
theorem toAgent_v (v : Value) (x : DAgent) (w : World) {B : Nat} (h : RdT agentRd w B v x) (hB : B ≤ w.heap.size) (hs : szAgent x ≤ 1048576) :
    Calls Tryz.prog 31 #[v] w fun e w' => Ret1 (fun v' => OwT agentOw w' v' x w.heap.size w'.heap.size) e ∧ Below w.heap.size w w' := by
  obtain ⟨cs, rfl, A1, n1, c1, A2, n2, c2, rfl, ⟨h1, r1⟩, ⟨h2, r2⟩⟩ := h
  unfold szAgent at hs
  have hb : ∀ o1 o2 o3, Below w.heap.size w (((w.alloc o1).alloc o2).alloc o3) := fun o1 o2 o3 => (((Below.refl _ _).alloc (Nat.le_refl _) _).alloc (by simp) _).alloc (by simp; omega) _
  go_enter Tryz.func31, Tryz.ntmps31
  go_wp2_with fail
  refine (toInt64S_v _ x.data _ (B := B) ⟨A1, n1, c1, rfl, h1.below intRd_ok ((hb _ _ _).mono hB), r1⟩ (Nat.le_trans hB (hb _ _ _).size) (by first | omega | (unfold lenOk; omega))).mono ?_
  rintro e w1 ⟨⟨v1, rfl, O1⟩, q1⟩
  have z1 : w.heap.size + 1 + 1 + 1 ≤ w1.heap.size := by have := q1.size; simpa using this
  have O1 := O1.wide (lo' := w.heap.size + 1 + 1 + 1) (hi' := w1.heap.size) (by simp) (Nat.le_refl _)
  obtain ⟨A1', m1, d1, bs1, rfl, ow1, nd1, in1, rr1⟩ := O1
  have T1 := (hb _ _ _).trans (q1.mono (hb _ _ _).size)
  have BB := blk3_0.below q1 (by simp <;> omega)
  have BR := blk3_1.below q1 (by simp <;> omega)
  have BO := blk3_2.below q1 (by simp <;> omega)
  clear q1
  have cB := BB.cell
  have cO := BO.cell
  have fO := BO.frozen
  go_wp2_with fail
  clear cB cO fO
  have T1 := T1.setCell (p := ⟨w.heap.size + 1 + 1, 3, none⟩) (by simp; omega) (.slice A1' m1 d1)
  have BB := BB.far (p := ⟨w.heap.size + 1 + 1, 3, none⟩) (by simp; omega) (.slice A1' m1 d1)
  have BR := BR.far (p := ⟨w.heap.size + 1 + 1, 3, none⟩) (by simp) (.slice A1' m1 d1)
  have BO := BO.set_ 3 (.slice A1' m1 d1)
  have ow1 := ow1.keep intOw_ok (w' := World.setCell w1 ⟨w.heap.size + 1 + 1, 3, none⟩ (.slice A1' m1 d1)) (fun k hk => Below.heap_setCell _ _ _ _ (by have := in1 k hk; simp; omega))
  refine (toPortS_v _ x.ports _ (B := B) ⟨A2, n2, c2, rfl, h2.below portRd_ok (T1.mono hB), r2⟩ (Nat.le_trans hB T1.size) (by first | omega | (unfold lenOk; omega))).mono ?_
  rintro e w2 ⟨⟨v2, rfl, O2⟩, q2⟩
  have z2 : w1.heap.size ≤ w2.heap.size := by have := q2.size; simpa using this
  have O2 := O2.wide (lo' := w1.heap.size) (hi' := w2.heap.size) (by simp) (Nat.le_refl _)
  obtain ⟨A2', m2, d2, bs2, rfl, ow2, nd2, in2, rr2⟩ := O2
  have T1 := T1.trans (q2.mono T1.size)
  have BB := BB.below q2 (by simp <;> omega)
  have BR := BR.below q2 (by simp <;> omega)
  have BO := BO.below q2 (by simp <;> omega)
  have ow1 := ow1.keep intOw_ok (w' := w2) (fun k hk => q2.block k (by have := in1 k hk; simp <;> omega))
  clear q2
  have cB := BB.cell
  have cO := BO.cell
  have fO := BO.frozen
  have cR := BR.cell
  have fR := BR.frozen
  go_wp2_with fail
  have hfin : ∀ w', OnlyIn (w.heap.size + 1) (w.heap.size + 1 + 1 + 1) w2 w' → (Ret1 (fun v' => OwT agentOw w' v' x w.heap.size w'.heap.size) (.returned (.agg #[.int .i64 x.kind, .int .i64 x.level, .int .i64 x.value, (.slice A1' m1 d1), (.slice A2' m2 d2)])) ∧ Below w.heap.size w w') := fun w' ho => by
    refine ⟨⟨_, rfl, [.int .i64 x.kind, .int .i64 x.level, .int .i64 x.value, (.slice A1' m1 d1), (.slice A2' m2 d2)], bs1 ++ bs2, rfl, ⟨A1', m1, d1, A2', m2, d2, bs1, bs2, rfl, ⟨ow1.keep intOw_ok (fun k hk => ho.block k (.inr (by have := in1 k hk; omega))), rr1⟩, ⟨ow2.keep portOw_ok (fun k hk => ho.block k (.inr (by have := in2 k hk; omega))), rr2⟩, rfl⟩, ?_⟩, T1.trans (ho.below.mono (by omega))⟩
    have h1 : bs1.Nodup ∧ ∀ b ∈ bs1, w.heap.size ≤ b ∧ b < w1.heap.size := ⟨nd1, fun b hb => by have := in1 b hb; omega⟩
    have h2 := nodup_two (lo := w.heap.size) (mid := w1.heap.size) (hi := w2.heap.size) h1.1 nd2 (fun b hb => by have := h1.2 b hb; omega) in2 (by omega) (by omega)
    exact ⟨h2.1, fun b hb => by have := h2.2 b hb; have := ho.size; omega⟩
  refine bodyPost_ret (v := .agg #[.int .i64 x.kind, .int .i64 x.level, .int .i64 x.value, (.slice A1' m1 d1), (.slice A2' m2 d2)]) (by simp [results, Tryz.results31, go_sem, cR]) rfl (hfin _ ?_)
  repeat (first | (with_reducible exact OnlyIn.refl _ _ _) | (with_reducible refine OnlyIn.setCell ?_ ⟨by simp, by simp⟩ _))
theorem szAgentS_el {xs : List DAgent} {k : Nat} {x : DAgent} (h : xs[k]? = some x) : szAgent x ≤ szAgentS xs := by
  have h1 := szAgentS_take h
  have h2 := szAgentS_le xs (k + 1)
  unfold szAgentS
  omega
theorem info_AgentS : (Tryz.prog.info? 49).map (fun i => (i.zero, i.size, i.bytes)) = some (some (.agg #[.int .i64 0, .int .i64 0, .int .i64 0, .slice none 0 0, .slice none 0 0]), 5, 72) := by kernel_rfl
set_option maxHeartbeats 1000000 in
theorem toAgentS_v (v : Value) (xs : List DAgent) (w : World) {B : Nat} (h : RdS agentRd 5 w B v xs) (hB : B ≤ w.heap.size) (hs : szAgentS xs ≤ 1048576) :
    Calls Tryz.prog 17 #[v] w fun e w' => Ret1 (fun v' => OwS agentOw 5 w' v' xs w.heap.size w'.heap.size) e ∧ Below w.heap.size w w' := by
  obtain ⟨A, n, c, rfl, hx, hnc, hcm⟩ := h
  have lx := Lib.hid hx.len
  have hlen : xs.length ≤ 1048576 := by unfold szAgentS at hs; omega
  have hn : n ≤ 1048576 := by have := lx.out; omega
  have hmk := run_make_sz 27 49 Tryz.underlying27 info_AgentS n (by omega) (by omega)
  go_enter Tryz.func17, Tryz.ntmps17
  go_wp2
  clear hmk
  go_loopw [4] (fun i wr => ∃ k : Nat, k ≤ n ∧ i = .int .i64 k ∧ Below w.heap.size w wr ∧ w.heap.size + 1 ≤ wr.heap.size ∧ (∃ arr, Blk wr w.heap.size 49 arr ∧ Hid (arr.size = n * 5)) ∧ ∃ bs, ElAt agentOw 5 wr w.heap.size 0 (xs.take k) bs ∧ bs.Nodup ∧ ∀ b ∈ bs, w.heap.size + 1 ≤ b ∧ b < wr.heap.size) (fun i _ => n - (intOf i).toNat)
  case atStart => exact ⟨0, by omega, rfl, (Below.refl _ _).alloc (Nat.le_refl _) _, by simp, ⟨_, Blk.new _ _ _, by simp [Hid, madeCells_size]⟩, [], rfl, List.nodup_nil, fun b hb => by simp at hb⟩
  case round =>
    obtain ⟨k, hk, rfl, hb, hzz, ⟨arr, BA, hasz⟩, bs, hel, hnd, hin⟩ := hrel
    by_cases hlt : k < n
    · obtain ⟨b, off, x, A1, n1, c1, A2, n2, c2, rfl, hlb, hxk, hc0, hc1, hc2, hc3, hc4, ⟨h1, r1⟩, ⟨h2, r2⟩⟩ := (hx.below agentRd_ok (hb.mono hB)).agent hlt
      have Hxk := Lib.hid hxk
      clear hxk
      go_wp2_with fail
      refine (toAgent_v _ x _ (B := B) ⟨_, rfl, A1, n1, c1, A2, n2, c2, rfl, ⟨h1, r1⟩, ⟨h2, r2⟩⟩ (Nat.le_trans hB hb.size) (by have := szAgentS_el Hxk.out; omega)).mono ?_
      rintro e w1 ⟨⟨v1, rfl, O1⟩, q1⟩
      obtain ⟨cs1, bl, rfl, HO, nd1, in1⟩ := O1
      have HO' := HO
      obtain ⟨A1', m1, d1, A2', m2, d2, b1, b2, rfl, _⟩ := HO'
      have BA := BA.below q1 (by omega)
      obtain ⟨z0, hz0⟩ := BA.some_ (i := k * 5) (by rw [hasz.out]; omega)
      obtain ⟨z1, hz1⟩ := BA.some_ (i := k * 5 + 1) (by rw [hasz.out]; omega)
      obtain ⟨z2, hz2⟩ := BA.some_ (i := k * 5 + 2) (by rw [hasz.out]; omega)
      obtain ⟨z3, hz3⟩ := BA.some_ (i := k * 5 + 3) (by rw [hasz.out]; omega)
      obtain ⟨z4, hz4⟩ := BA.some_ (i := k * 5 + 4) (by rw [hasz.out]; omega)
      have fz := BA.frozen
      have zz := q1.size
      have Hel := Lib.hid (hel.keep agentOw_ok (q1.block _ (by omega)) (fun k hk => q1.block k (hin k hk).2))
      clear hel
      have TB : ∀ y0 y1 y2 y3 y4, Below w.heap.size w (((((w1.setCell ⟨w.heap.size, k * 5, none⟩ y0).setCell ⟨w.heap.size, k * 5 + 1, none⟩ y1).setCell ⟨w.heap.size, k * 5 + 2, none⟩ y2).setCell ⟨w.heap.size, k * 5 + 3, none⟩ y3).setCell ⟨w.heap.size, k * 5 + 4, none⟩ y4) := fun y0 y1 y2 y3 y4 => ((((((hb.trans (q1.mono hb.size)).setCell (p := ⟨w.heap.size, k * 5, none⟩) (Nat.le_refl _) _).setCell (p := ⟨w.heap.size, k * 5 + 1, none⟩) (Nat.le_refl _) _).setCell (p := ⟨w.heap.size, k * 5 + 2, none⟩) (Nat.le_refl _) _).setCell (p := ⟨w.heap.size, k * 5 + 3, none⟩) (Nat.le_refl _) _).setCell (p := ⟨w.heap.size, k * 5 + 4, none⟩) (Nat.le_refl _) _)
      go_wp2_with fail
      go_roundw
      case rel =>
        refine ⟨k + 1, by omega, by go_num, TB _ _ _ _ _, by simp [World.setCell]; omega, ⟨_, (((((BA.set_ (k * 5) _).set_ (k * 5 + 1) _).set_ (k * 5 + 2) _).set_ (k * 5 + 3) _).set_ (k * 5 + 4) _), by simpa [Hid] using hasz⟩, bs ++ bl, ?_⟩
        rw [take_succ_some Hxk.out]
        have hlk : (xs.take k).length = k := by have := lx.out; simp; omega
        have h1 := ElAt.setRun agentOw_ok (vs := [.int .i64 x.kind, .int .i64 x.level, .int .i64 x.value, .slice A1' m1 d1, .slice A2' m2 d2]) (p := k * 5) Hel.out (fun hh => by have := hin _ hh; omega) (Or.inr (by rw [hlk]; omega))
        have hnn := nodup_two hnd nd1 hin in1 hzz zz
        refine ⟨ElAt.append h1 (ElAt.one (agentOw_ok.keep (w' := setRun w1 w.heap.size (k * 5) [.int .i64 x.kind, .int .i64 x.level, .int .i64 x.value, .slice A1' m1 d1, .slice A2' m2 d2]) (fun b hb => setRun_block (fun e => by have := in1 b hb; omega)) HO) ?_), hnn.1, fun b hb => by have := hnn.2 b hb; simp only [World.size_setCell]; exact this⟩
        rw [hlk, Nat.zero_add]
        exact setRun_csAt (vs := [.int .i64 x.kind, .int .i64 x.level, .int .i64 x.value, .slice A1' m1 d1, .slice A2' m2 d2]) (fun j hj => by
          have hj : j < 5 := by simpa using hj
          match j, hj with
          | 0, _ => exact ⟨z0, hz0⟩
          | 1, _ => exact ⟨z1, hz1⟩
          | 2, _ => exact ⟨z2, hz2⟩
          | 3, _ => exact ⟨z3, hz3⟩
          | 4, _ => exact ⟨z4, hz4⟩) (fun j hj => fz _)
      case measure => simp [intOf]; omega
    · have hkn : k = n := by omega
      have e : xs.take k = xs := List.take_of_length_le (by have := lx.out; omega)
      rw [e] at hel
      have Hkn := Lib.hid hkn
      clear hkn e
      go_wp2
      go_ret
      exact ⟨⟨_, rfl, some ⟨w.heap.size, 0, none⟩, n, n, w.heap.size :: bs, rfl, ⟨lx.out, .inr ⟨_, _, bs, rfl, rfl, hel⟩⟩, List.nodup_cons.2 ⟨fun hh => by have := hin _ hh; omega, hnd⟩, fun b hb => by
        rcases List.mem_cons.1 hb with rfl | hb
        · omega
        · have := hin b hb; omega, Nat.le_refl _, by unfold maxLen; omega⟩, hb⟩
set_option maxHeartbeats 1000000 in
theorem toNet_v (v : Value) (x : DNet) (w : World) {B : Nat} (h : RdT netRd w B v x) (hB : B ≤ w.heap.size) (hs : szNet x ≤ 1048576) :
    Calls Tryz.prog 7 #[v] w fun e w' => Ret1 (fun v' => OwT netOw w' v' x w.heap.size w'.heap.size) e ∧ Below w.heap.size w w' := by
  obtain ⟨cs, rfl, A1, n1, c1, rfl, ⟨h1, r1⟩⟩ := h
  unfold szNet at hs
  have hb : ∀ o1 o2 o3, Below w.heap.size w (((w.alloc o1).alloc o2).alloc o3) := fun o1 o2 o3 => (((Below.refl _ _).alloc (Nat.le_refl _) _).alloc (by simp) _).alloc (by simp; omega) _
  go_enter Tryz.func7, Tryz.ntmps7
  go_wp2_with fail
  refine (toAgentS_v _ x.agents _ (B := B) ⟨A1, n1, c1, rfl, h1.below agentRd_ok ((hb _ _ _).mono hB), r1⟩ (Nat.le_trans hB (hb _ _ _).size) (by first | omega | (unfold lenOk; omega))).mono ?_
  rintro e w1 ⟨⟨v1, rfl, O1⟩, q1⟩
  have z1 : w.heap.size + 1 + 1 + 1 ≤ w1.heap.size := by have := q1.size; simpa using this
  have O1 := O1.wide (lo' := w.heap.size + 1 + 1 + 1) (hi' := w1.heap.size) (by simp) (Nat.le_refl _)
  obtain ⟨A1', m1, d1, bs1, rfl, ow1, nd1, in1, rr1⟩ := O1
  have T1 := (hb _ _ _).trans (q1.mono (hb _ _ _).size)
  have BB := blk3_0.below q1 (by simp <;> omega)
  have BR := blk3_1.below q1 (by simp <;> omega)
  have BO := blk3_2.below q1 (by simp <;> omega)
  clear q1
  have cB := BB.cell
  have cO := BO.cell
  have fO := BO.frozen
  have cR := BR.cell
  have fR := BR.frozen
  go_wp2_with fail
  have hfin : ∀ w', OnlyIn (w.heap.size + 1) (w.heap.size + 1 + 1 + 1) w1 w' → (Ret1 (fun v' => OwT netOw w' v' x w.heap.size w'.heap.size) (.returned (.agg #[(.slice A1' m1 d1)])) ∧ Below w.heap.size w w') := fun w' ho => by
    refine ⟨⟨_, rfl, [(.slice A1' m1 d1)], bs1, rfl, ⟨A1', m1, d1, bs1, rfl, ⟨ow1.keep agentOw_ok (fun k hk => ho.block k (.inr (by have := in1 k hk; omega))), rr1⟩, rfl⟩, ?_⟩, T1.trans (ho.below.mono (by omega))⟩
    have h1 : bs1.Nodup ∧ ∀ b ∈ bs1, w.heap.size ≤ b ∧ b < w1.heap.size := ⟨nd1, fun b hb => by have := in1 b hb; omega⟩
    exact ⟨h1.1, fun b hb => by have := h1.2 b hb; have := ho.size; omega⟩
  refine bodyPost_ret (v := .agg #[(.slice A1' m1 d1)]) (by simp [results, Tryz.results7, go_sem, cR]) rfl (hfin _ ?_)
  repeat (first | (with_reducible exact OnlyIn.refl _ _ _) | (with_reducible refine OnlyIn.setCell ?_ ⟨by simp, by simp⟩ _))
end
section
open Go.RowKit
set_option linter.unusedVariables false
set_option linter.unusedSimpArgs false
set_option maxHeartbeats 1000000 in
theorem eqPort_v (v u : Value) (x y : DPort) (w : World) {B B' : Nat} (h : RdT portRd w B v x) (h' : RdT portRd w B' u y) (hB : B ≤ w.heap.size) (hB' : B' ≤ w.heap.size) :
    Calls Tryz.prog 108 #[v, u] w fun e w' => e = .returned (.bool (decide (x = y))) ∧ Below w.heap.size w w' := by
  obtain ⟨cs, rfl, rfl⟩ := h
  obtain ⟨cs, rfl, rfl⟩ := h'
  have hb : ∀ o1 o2, Below w.heap.size w ((w.alloc o1).alloc o2) := fun o1 o2 => ((Below.refl _ _).alloc (Nat.le_refl _) _).alloc (by simp) _
  by_cases e0 : x.agent = y.agent
  · have f0 : (x.agent != y.agent) = false := by simp [e0]
    by_cases e1 : x.slot = y.slot
    · have f1 : (x.slot != y.slot) = false := by simp [e1]
      have He : Hid (decide (x = y) = true) := decide_eq_true (by cases x; cases y; simp_all)
      clear e0 e1
      go_enter Tryz.func108, Tryz.ntmps108
      go_wp2_with fail
      go_ret
      exact ⟨by rw [He.out]; rfl, hb _ _⟩
    · have f1 : (x.slot != y.slot) = true := by simp [e1]
      have He : Hid (decide (x = y) = false) := decide_eq_false (by intro exy; exact e1 (by rw [exy]))
      clear e0 e1
      go_enter Tryz.func108, Tryz.ntmps108
      go_wp2_with fail
      go_ret
      exact ⟨by rw [He.out]; rfl, hb _ _⟩
  · have f0 : (x.agent != y.agent) = true := by simp [e0]
    have He : Hid (decide (x = y) = false) := decide_eq_false (by intro exy; exact e0 (by rw [exy]))
    clear e0
    go_enter Tryz.func108, Tryz.ntmps108
    go_wp2_with fail
    go_ret
    exact ⟨by rw [He.out]; rfl, hb _ _⟩
set_option maxHeartbeats 1000000 in
theorem eqPortS_v (v u : Value) (xs ys : List DPort) (w : World) {B B' : Nat} (h : RdS portRd 2 w B v xs) (h' : RdS portRd 2 w B' u ys) (hB : B ≤ w.heap.size) (hB' : B' ≤ w.heap.size) :
    Calls Tryz.prog 78 #[v, u] w fun e w' => e = .returned (.bool (eqL xs ys)) ∧ Below w.heap.size w w' := by
  obtain ⟨A, n, c, rfl, hx, hnc, hcm⟩ := h
  obtain ⟨C, m, d, rfl, hy, hmd, hdm⟩ := h'
  unfold maxLen at hcm hdm
  have lx := Lib.hid hx.len
  have ly := Lib.hid hy.len
  have hr := Below.refl w.heap.size w
  by_cases hnm : n = m
  · subst hnm
    go_enter Tryz.func78, Tryz.ntmps78
    go_wp2
    go_loopw [5] (fun i wr => ∃ k : Nat, k ≤ n ∧ i = .int .i64 k ∧ Hid (xs.take k = ys.take k) ∧ Below w.heap.size w wr) (fun i _ => n - (intOf i).toNat)
    case atStart => exact ⟨0, by omega, rfl, rfl, hr⟩
    case round =>
      obtain ⟨k, hk, rfl, ht, hq⟩ := hrel
      by_cases hlt : k < n
      · have hx' := hx.below portRd_ok (hq.mono hB)
        have hy' := hy.below portRd_ok (hq.mono hB')
        obtain ⟨b, off, x, rfl, hb, hxk, hc0, hc1⟩ := hx'.port hlt
        obtain ⟨b', off', y, rfl, hb', hyk, hc0', hc1'⟩ := hy'.port hlt
        have Hxk := Lib.hid hxk
        have Hyk := Lib.hid hyk
        clear hxk hyk hx' hy'
        have hzB : B ≤ wr.drew.heap.size := Nat.le_trans hB hq.size
        have hzB' : B' ≤ wr.drew.heap.size := Nat.le_trans hB' hq.size
        by_cases hxy : x = y
        · have hf : decide (x = y) = true := decide_eq_true hxy
          have Hxy := Lib.hid hxy
          clear hxy
          go_wp2_with fail
          go_region_with (go_at_call 108; refine (eqPort_v _ _ x y _ (B := 0) (B' := 0) ⟨_, rfl, rfl⟩ ⟨_, rfl, rfl⟩ (Nat.zero_le _) (Nat.zero_le _)).mono ?_; rintro e w1 ⟨rfl, hq1⟩)
          all_goals
            go_wp2_with fail
            go_roundw
            case rel => exact ⟨k + 1, by omega, by go_num, eqL_step Hxk.out Hyk.out ht.out Hxy.out, hq.drew.trans (hq1.mono hq.size)⟩
            case measure => simp [intOf]; omega
        · have hf : decide (x = y) = false := decide_eq_false hxy
          have Hno := Lib.hid (eqL_no Hxk.out Hyk.out hxy)
          clear hxy
          go_wp2_with fail
          go_region_with (go_at_call 108; refine (eqPort_v _ _ x y _ (B := 0) (B' := 0) ⟨_, rfl, rfl⟩ ⟨_, rfl, rfl⟩ (Nat.zero_le _) (Nat.zero_le _)).mono ?_; rintro e w1 ⟨rfl, hq1⟩)
          all_goals
            go_wp2_with fail
            go_ret
            exact ⟨by rw [Hno.out]; rfl, hq.drew.trans (hq1.mono hq.size)⟩
      · have Hyes := Lib.hid (eqL_yes (k := k) ht.out (by have := lx.out; omega) (by have := ly.out; omega))
        go_wp2
        go_ret
        exact ⟨by rw [Hyes.out]; rfl, hq⟩
  · have Hno := Lib.hid (eqL_len (xs := xs) (ys := ys) (by have := lx.out; have := ly.out; omega))
    have hf : ((n : Int) != (m : Int)) = true := by simp; omega
    go_enter Tryz.func78, Tryz.ntmps78
    go_wp2
    go_ret
    exact ⟨by rw [Hno.out]; rfl, hr⟩
end
section
open Go.RowKit
set_option linter.unusedVariables false
set_option linter.unusedSimpArgs false
set_option maxHeartbeats 1000000 in
theorem eqAgent_v (v u : Value) (x y : DAgent) (w : World) {B B' : Nat} (h : RdT agentRd w B v x) (h' : RdT agentRd w B' u y) (hB : B ≤ w.heap.size) (hB' : B' ≤ w.heap.size) :
    Calls Tryz.prog 40 #[v, u] w fun e w' => e = .returned (.bool (decide (x = y))) ∧ Below w.heap.size w w' := by
  obtain ⟨cs, rfl, A1, n1, c1, A2, n2, c2, rfl, ⟨h1, r1⟩, ⟨h2, r2⟩⟩ := h
  obtain ⟨cs, rfl, A1', n1', c1', A2', n2', c2', rfl, ⟨h1', r1'⟩, ⟨h2', r2'⟩⟩ := h'
  have hb : ∀ o1 o2, Below w.heap.size w ((w.alloc o1).alloc o2) := fun o1 o2 => ((Below.refl _ _).alloc (Nat.le_refl _) _).alloc (by simp) _
  by_cases e0 : x.kind = y.kind
  · have f0 : (x.kind != y.kind) = false := by simp [e0]
    by_cases e1 : x.level = y.level
    · have f1 : (x.level != y.level) = false := by simp [e1]
      by_cases e2 : x.value = y.value
      · have f2 : (x.value != y.value) = false := by simp [e2]
        by_cases e3 : x.data = y.data
        · have f3 : eqL x.data y.data = true := decide_eq_true e3
          by_cases e4 : x.ports = y.ports
          · have f4 : eqL x.ports y.ports = true := decide_eq_true e4
            have He : Hid (decide (x = y) = true) := decide_eq_true (by cases x; cases y; simp_all)
            clear e0 e1 e2 e3 e4
            go_enter Tryz.func40, Tryz.ntmps40
            go_wp2_with fail
            refine (eqInt64S_v _ _ x.data y.data _ (B := B) (B' := B') ⟨A1, n1, c1, rfl, h1.below intRd_ok ((hb _ _).mono hB), r1⟩ ⟨A1', n1', c1', rfl, h1'.below intRd_ok ((hb _ _).mono hB'), r1'⟩ (Nat.le_trans hB (hb _ _).size) (Nat.le_trans hB' (hb _ _).size)).mono ?_
            rintro e w1 ⟨rfl, q1⟩
            have T := (hb _ _).trans (q1.mono (hb _ _).size)
            have B1 := blk2_0.below q1 (by simp <;> omega)
            have B2 := blk2_1.below q1 (by simp <;> omega)
            have z1 : w.heap.size + 1 + 1 ≤ w1.heap.size := by have := q1.size; simpa using this
            clear q1
            have g1 := B1.cell
            have g2 := B2.cell
            go_wp2_with fail
            clear g1 g2
            refine (eqPortS_v _ _ x.ports y.ports _ (B := B) (B' := B') ⟨A2, n2, c2, rfl, h2.below portRd_ok ((T).mono hB), r2⟩ ⟨A2', n2', c2', rfl, h2'.below portRd_ok ((T).mono hB'), r2'⟩ (Nat.le_trans hB (T).size) (Nat.le_trans hB' (T).size)).mono ?_
            rintro e w2 ⟨rfl, q2⟩
            have T := T.trans (q2.mono T.size)
            have B1 := B1.below q2 (by omega)
            have B2 := B2.below q2 (by omega)
            have z2 := Nat.le_trans z1 q2.size
            clear q2
            go_wp2_with fail
            go_ret
            exact ⟨by rw [He.out]; rfl, T⟩
          · have f4 : eqL x.ports y.ports = false := decide_eq_false e4
            have He : Hid (decide (x = y) = false) := decide_eq_false (by intro exy; exact e4 (by rw [exy]))
            clear e0 e1 e2 e3 e4
            go_enter Tryz.func40, Tryz.ntmps40
            go_wp2_with fail
            refine (eqInt64S_v _ _ x.data y.data _ (B := B) (B' := B') ⟨A1, n1, c1, rfl, h1.below intRd_ok ((hb _ _).mono hB), r1⟩ ⟨A1', n1', c1', rfl, h1'.below intRd_ok ((hb _ _).mono hB'), r1'⟩ (Nat.le_trans hB (hb _ _).size) (Nat.le_trans hB' (hb _ _).size)).mono ?_
            rintro e w1 ⟨rfl, q1⟩
            have T := (hb _ _).trans (q1.mono (hb _ _).size)
            have B1 := blk2_0.below q1 (by simp <;> omega)
            have B2 := blk2_1.below q1 (by simp <;> omega)
            have z1 : w.heap.size + 1 + 1 ≤ w1.heap.size := by have := q1.size; simpa using this
            clear q1
            have g1 := B1.cell
            have g2 := B2.cell
            go_wp2_with fail
            clear g1 g2
            refine (eqPortS_v _ _ x.ports y.ports _ (B := B) (B' := B') ⟨A2, n2, c2, rfl, h2.below portRd_ok ((T).mono hB), r2⟩ ⟨A2', n2', c2', rfl, h2'.below portRd_ok ((T).mono hB'), r2'⟩ (Nat.le_trans hB (T).size) (Nat.le_trans hB' (T).size)).mono ?_
            rintro e w2 ⟨rfl, q2⟩
            have T := T.trans (q2.mono T.size)
            have B1 := B1.below q2 (by omega)
            have B2 := B2.below q2 (by omega)
            have z2 := Nat.le_trans z1 q2.size
            clear q2
            go_wp2_with fail
            go_ret
            exact ⟨by rw [He.out]; rfl, T⟩
        · have f3 : eqL x.data y.data = false := decide_eq_false e3
          have He : Hid (decide (x = y) = false) := decide_eq_false (by intro exy; exact e3 (by rw [exy]))
          clear e0 e1 e2 e3
          go_enter Tryz.func40, Tryz.ntmps40
          go_wp2_with fail
          refine (eqInt64S_v _ _ x.data y.data _ (B := B) (B' := B') ⟨A1, n1, c1, rfl, h1.below intRd_ok ((hb _ _).mono hB), r1⟩ ⟨A1', n1', c1', rfl, h1'.below intRd_ok ((hb _ _).mono hB'), r1'⟩ (Nat.le_trans hB (hb _ _).size) (Nat.le_trans hB' (hb _ _).size)).mono ?_
          rintro e w1 ⟨rfl, q1⟩
          have T := (hb _ _).trans (q1.mono (hb _ _).size)
          have B1 := blk2_0.below q1 (by simp <;> omega)
          have B2 := blk2_1.below q1 (by simp <;> omega)
          have z1 : w.heap.size + 1 + 1 ≤ w1.heap.size := by have := q1.size; simpa using this
          clear q1
          go_wp2_with fail
          go_ret
          exact ⟨by rw [He.out]; rfl, T⟩
      · have f2 : (x.value != y.value) = true := by simp [e2]
        have He : Hid (decide (x = y) = false) := decide_eq_false (by intro exy; exact e2 (by rw [exy]))
        clear e0 e1 e2
        go_enter Tryz.func40, Tryz.ntmps40
        go_wp2_with fail
        go_ret
        exact ⟨by rw [He.out]; rfl, hb _ _⟩
    · have f1 : (x.level != y.level) = true := by simp [e1]
      have He : Hid (decide (x = y) = false) := decide_eq_false (by intro exy; exact e1 (by rw [exy]))
      clear e0 e1
      go_enter Tryz.func40, Tryz.ntmps40
      go_wp2_with fail
      go_ret
      exact ⟨by rw [He.out]; rfl, hb _ _⟩
  · have f0 : (x.kind != y.kind) = true := by simp [e0]
    have He : Hid (decide (x = y) = false) := decide_eq_false (by intro exy; exact e0 (by rw [exy]))
    clear e0
    go_enter Tryz.func40, Tryz.ntmps40
    go_wp2_with fail
    go_ret
    exact ⟨by rw [He.out]; rfl, hb _ _⟩
set_option maxHeartbeats 1000000 in
theorem eqAgentS_v (v u : Value) (xs ys : List DAgent) (w : World) {B B' : Nat} (h : RdS agentRd 5 w B v xs) (h' : RdS agentRd 5 w B' u ys) (hB : B ≤ w.heap.size) (hB' : B' ≤ w.heap.size) :
    Calls Tryz.prog 20 #[v, u] w fun e w' => e = .returned (.bool (eqL xs ys)) ∧ Below w.heap.size w w' := by
  obtain ⟨A, n, c, rfl, hx, hnc, hcm⟩ := h
  obtain ⟨C, m, d, rfl, hy, hmd, hdm⟩ := h'
  unfold maxLen at hcm hdm
  have lx := Lib.hid hx.len
  have ly := Lib.hid hy.len
  have hr := Below.refl w.heap.size w
  by_cases hnm : n = m
  · subst hnm
    go_enter Tryz.func20, Tryz.ntmps20
    go_wp2
    go_loopw [5] (fun i wr => ∃ k : Nat, k ≤ n ∧ i = .int .i64 k ∧ Hid (xs.take k = ys.take k) ∧ Below w.heap.size w wr) (fun i _ => n - (intOf i).toNat)
    case atStart => exact ⟨0, by omega, rfl, rfl, hr⟩
    case round =>
      obtain ⟨k, hk, rfl, ht, hq⟩ := hrel
      by_cases hlt : k < n
      · have hx' := hx.below agentRd_ok (hq.mono hB)
        have hy' := hy.below agentRd_ok (hq.mono hB')
        obtain ⟨b, off, x, A1, n1, c1, A2, n2, c2, rfl, hb, hxk, hc0, hc1, hc2, hc3, hc4, ⟨h1, r1⟩, ⟨h2, r2⟩⟩ := hx'.agent hlt
        obtain ⟨b', off', y, A1', n1', c1', A2', n2', c2', rfl, hb', hyk, hc0', hc1', hc2', hc3', hc4', ⟨h1', r1'⟩, ⟨h2', r2'⟩⟩ := hy'.agent hlt
        have Hxk := Lib.hid hxk
        have Hyk := Lib.hid hyk
        clear hxk hyk hx' hy'
        have hzB : B ≤ wr.drew.heap.size := Nat.le_trans hB hq.size
        have hzB' : B' ≤ wr.drew.heap.size := Nat.le_trans hB' hq.size
        by_cases hxy : x = y
        · have hf : decide (x = y) = true := decide_eq_true hxy
          have Hxy := Lib.hid hxy
          clear hxy
          go_wp2_with fail
          go_region_with (go_at_call 40; refine (eqAgent_v _ _ x y _ (B := B) (B' := B') ⟨_, rfl, A1, n1, c1, A2, n2, c2, rfl, ⟨h1.drew intRd_ok, r1⟩, ⟨h2.drew portRd_ok, r2⟩⟩ ⟨_, rfl, A1', n1', c1', A2', n2', c2', rfl, ⟨h1'.drew intRd_ok, r1'⟩, ⟨h2'.drew portRd_ok, r2'⟩⟩ hzB hzB').mono ?_; rintro e w1 ⟨rfl, hq1⟩)
          all_goals
            go_wp2_with fail
            go_roundw
            case rel => exact ⟨k + 1, by omega, by go_num, eqL_step Hxk.out Hyk.out ht.out Hxy.out, hq.drew.trans (hq1.mono hq.size)⟩
            case measure => simp [intOf]; omega
        · have hf : decide (x = y) = false := decide_eq_false hxy
          have Hno := Lib.hid (eqL_no Hxk.out Hyk.out hxy)
          clear hxy
          go_wp2_with fail
          go_region_with (go_at_call 40; refine (eqAgent_v _ _ x y _ (B := B) (B' := B') ⟨_, rfl, A1, n1, c1, A2, n2, c2, rfl, ⟨h1.drew intRd_ok, r1⟩, ⟨h2.drew portRd_ok, r2⟩⟩ ⟨_, rfl, A1', n1', c1', A2', n2', c2', rfl, ⟨h1'.drew intRd_ok, r1'⟩, ⟨h2'.drew portRd_ok, r2'⟩⟩ hzB hzB').mono ?_; rintro e w1 ⟨rfl, hq1⟩)
          all_goals
            go_wp2_with fail
            go_ret
            exact ⟨by rw [Hno.out]; rfl, hq.drew.trans (hq1.mono hq.size)⟩
      · have Hyes := Lib.hid (eqL_yes (k := k) ht.out (by have := lx.out; omega) (by have := ly.out; omega))
        go_wp2
        go_ret
        exact ⟨by rw [Hyes.out]; rfl, hq⟩
  · have Hno := Lib.hid (eqL_len (xs := xs) (ys := ys) (by have := lx.out; have := ly.out; omega))
    have hf : ((n : Int) != (m : Int)) = true := by simp; omega
    go_enter Tryz.func20, Tryz.ntmps20
    go_wp2
    go_ret
    exact ⟨by rw [Hno.out]; rfl, hr⟩
set_option maxHeartbeats 1000000 in
theorem eqNet_v (v u : Value) (x y : DNet) (w : World) {B B' : Nat} (h : RdT netRd w B v x) (h' : RdT netRd w B' u y) (hB : B ≤ w.heap.size) (hB' : B' ≤ w.heap.size) :
    Calls Tryz.prog 9 #[v, u] w fun e w' => e = .returned (.bool (decide (x = y))) ∧ Below w.heap.size w w' := by
  obtain ⟨cs, rfl, A1, n1, c1, rfl, ⟨h1, r1⟩⟩ := h
  obtain ⟨cs, rfl, A1', n1', c1', rfl, ⟨h1', r1'⟩⟩ := h'
  have hb : ∀ o1 o2, Below w.heap.size w ((w.alloc o1).alloc o2) := fun o1 o2 => ((Below.refl _ _).alloc (Nat.le_refl _) _).alloc (by simp) _
  by_cases e0 : x.agents = y.agents
  · have f0 : eqL x.agents y.agents = true := decide_eq_true e0
    have He : Hid (decide (x = y) = true) := decide_eq_true (by cases x; cases y; simp_all)
    clear e0
    go_enter Tryz.func9, Tryz.ntmps9
    go_wp2_with fail
    refine (eqAgentS_v _ _ x.agents y.agents _ (B := B) (B' := B') ⟨A1, n1, c1, rfl, h1.below agentRd_ok ((hb _ _).mono hB), r1⟩ ⟨A1', n1', c1', rfl, h1'.below agentRd_ok ((hb _ _).mono hB'), r1'⟩ (Nat.le_trans hB (hb _ _).size) (Nat.le_trans hB' (hb _ _).size)).mono ?_
    rintro e w1 ⟨rfl, q1⟩
    have T := (hb _ _).trans (q1.mono (hb _ _).size)
    have B1 := blk2_0.below q1 (by simp <;> omega)
    have B2 := blk2_1.below q1 (by simp <;> omega)
    have z1 : w.heap.size + 1 + 1 ≤ w1.heap.size := by have := q1.size; simpa using this
    clear q1
    go_wp2_with fail
    go_ret
    exact ⟨by rw [He.out]; rfl, T⟩
  · have f0 : eqL x.agents y.agents = false := decide_eq_false e0
    have He : Hid (decide (x = y) = false) := decide_eq_false (by intro exy; exact e0 (by rw [exy]))
    clear e0
    go_enter Tryz.func9, Tryz.ntmps9
    go_wp2_with fail
    refine (eqAgentS_v _ _ x.agents y.agents _ (B := B) (B' := B') ⟨A1, n1, c1, rfl, h1.below agentRd_ok ((hb _ _).mono hB), r1⟩ ⟨A1', n1', c1', rfl, h1'.below agentRd_ok ((hb _ _).mono hB'), r1'⟩ (Nat.le_trans hB (hb _ _).size) (Nat.le_trans hB' (hb _ _).size)).mono ?_
    rintro e w1 ⟨rfl, q1⟩
    have T := (hb _ _).trans (q1.mono (hb _ _).size)
    have B1 := blk2_0.below q1 (by simp <;> omega)
    have B2 := blk2_1.below q1 (by simp <;> omega)
    have z1 : w.heap.size + 1 + 1 ≤ w1.heap.size := by have := q1.size; simpa using this
    clear q1
    go_wp2_with fail
    go_ret
    exact ⟨by rw [He.out]; rfl, T⟩
end
section
open Go.RowKit
set_option linter.unusedVariables false
def toNetM (x : DNet) : Option DNet := (mustP (szNet x ≤ 1048576)).bind fun _ => some x
def szNetM (x : DNet) (left : Int) : Option Int := (mustP (0 ≤ left ∧ left ≤ 1048576)).bind fun _ => some (szL left (szNet x))
def eqNetM (x y : DNet) : Option Bool := some (decide (x = y))
theorem c_toNetM (x r : DNet) (hm : toNetM x = some r) (v : Value) (w : World) (h : St netRd w v x) :
    Calls Tryz.prog 7 #[v] w fun e w' => (∃ (A : Option Addr) (c : Nat), e = .returned (.agg #[.slice A r.agents.length c]) ∧ SlAt agentRd 5 w' w'.heap.size A r.agents.length r.agents ∧ r.agents.length ≤ c ∧ c ≤ maxLen) ∧ Below w.heap.size w w' := by
  unfold toNetM at hm
  obtain ⟨_, m, hm⟩ := bnd hm
  injection hm with hm
  subst hm
  refine (toNet_v v x w h (Nat.le_refl _) (mustP_some m)).mono ?_
  rintro e w' ⟨⟨v', rfl, ho⟩, hb⟩
  obtain ⟨cs, rfl, A, n, c, rfl, h1, h2⟩ := ho.reads (netOw_reads w'.heap.size) (Nat.le_refl _)
  have hn := h1.len
  subst hn
  exact ⟨⟨A, c, rfl, h1, h2⟩, hb⟩
theorem c_szNetM (x : DNet) (left r : Int) (hm : szNetM x left = some r) (v : Value) (w : World) (h : St netRd w v x) :
    Calls Tryz.prog 5 #[v, .int .i64 left] w fun e w' => e = .returned (.int .i64 r) ∧ Below w.heap.size w w' := by
  unfold szNetM at hm
  obtain ⟨_, m, hm⟩ := bnd hm
  obtain ⟨m1, m2⟩ := mustP_some m
  injection hm with hm
  subst hm
  exact szNet_v v x left w h (Nat.le_refl _) m1 m2
theorem c_eqNetM (x y : DNet) (r : Bool) (hm : eqNetM x y = some r) (v u : Value) (w : World) (h : St netRd w v x) (h' : St netRd w u y) :
    Calls Tryz.prog 9 #[v, u] w fun e w' => e = .returned (.bool r) ∧ Below w.heap.size w w' := by
  injection hm with hm
  subst hm
  exact eqNet_v v u x y w h h' (Nat.le_refl _) (Nat.le_refl _)
end
section
open Go.RowKit
set_option linter.unusedVariables false
set_option linter.unusedSimpArgs false
set_option maxRecDepth 100000
def m_laws_FnExactNetText (d0 : DNet) : Option Bool :=
  ((szNetM d0 1048576).bind fun y6 => (bif (decide (y6 < 0)) then some true else ((toNetM d0).bind fun y11 => ((m_spec_NetText y11).bind fun y24 => ((toNetM d0).bind fun y28 => ((m_impl_NetText y28).bind fun y48 => (bif (y48.toList == y24.toList) then ((toNetM d0).bind fun y55 => ((eqNetM y28 y55).bind fun y68 => (bif y68 then some true else some false))) else some false)))))))
set_option maxHeartbeats 2000000 in
theorem c_m_laws_FnExactNetText (d0 : DNet) (r : Bool) (hm : m_laws_FnExactNetText d0 = some r) (v0 : Value) (w : World) (hW : WD w) (hv0 : St netRd w v0 d0) :
    Calls Tryz.prog 3 #[v0] w fun e w' => e = .returned (.bool r) ∧ Below w.heap.size w w' := by
  obtain ⟨csa0, rfl, ⟨A1, n1, c1, rfl, ⟨h1, r1⟩⟩⟩ := hv0
  have e1 := h1.len; subst e1
  have q1 := len_le r1
  have T := Below.refl w.heap.size w
  unfold m_laws_FnExactNetText at hm
  refine enter 27 Tryz.func3 rfl rfl rfl ?_
  intro f hf
  have s0 : f 0 = .agg #[.slice A1 d0.agents.length c1] := hf 0 _ rfl
  refine wp_seq ?_
  refine wp_rl rfl ?_
  refine RL.box rfl s0 (fun w2 B3 hb4 szw2 => ?_)
  replace B3 : Blk w2 w.heap.size 24 #[.slice A1 d0.agents.length c1] := B3
  have GB3 : w.heap.size ≤ w.heap.size := T.size
  have T := Tt T hb4
  refine RL.y rfl (Y.assign (v := .bool false) rfl) ?_
  refine RL.nil ?_
  refine then_n ?_
  refine wp_seq ?_
  refine wp_rs rfl ?_
  refine RQ.y rfl (Y.assign (v := .int .i64 1048576) rfl) ?_
  refine RQ.nil ?_
  refine then_n ?_
  refine wp_seq ?_
  refine wp_rb rfl ?_
  refine RQ.y rfl (Y.loadN (cs := [.slice A1 d0.agents.length c1]) rfl (by kernel_rfl) (cells1 (beC (blkCell B3 (i := 0) rfl)))) ?_
  refine RQ.y rfl (Y.move (v := .int .i64 1048576) rfl) ?_
  obtain ⟨y6, e7, hm⟩ := bnd hm
  refine RQ.call rfl (am2 rfl rfl) (by kernel_rfl) (v := .int .i64 y6) (bel (K := fun _ => True) fun w' hb' => (c_szNetM d0 1048576 _ e7 _ w' (stArg (R := netRd) ⟨_, _, _, rfl, ⟨SlAt.now agentRd_ok h1 (Nat.le_refl _) (Tt T hb'), r1⟩⟩))) ?_
  refine RQ.y rfl (Y.assign (v := .int .i64 y6) rfl) ?_
  refine RQ.nil ?_
  intro w8 hb9
  have szw8 := hb9.size
  have B3 := blkT B3 hb9
  have T := Tt T hb9
  refine then_n ?_
  refine wp_seq ?_
  refine wp_seq ?_
  refine wp_rs rfl ?_
  refine RQ.y rfl (Y.move (v := .int .i64 y6) rfl) ?_
  refine RQ.y rfl (Y.binI (v := .bool (decide (y6 < 0))) rfl rfl rfl) ?_
  refine RQ.nil ?_
  refine then_n ?_
  rcases bcases (decide (y6 < 0)) with c10 | c10
  · replace hm := cF c10 hm
    have pc10 := of_decide_eq_false c10
    refine cond_f rfl (vb rfl c10) ?_
    refine wp_skip ?_
    refine then_n ?_
    refine wp_seq ?_
    refine wp_rl rfl ?_
    refine RL.y rfl (Y.loadN (cs := [.slice A1 d0.agents.length c1]) rfl (by kernel_rfl) (cells1 (eqC (blkCell B3 (i := 0) rfl)))) ?_
    obtain ⟨y11, e12, hm⟩ := bnd hm
    refine RL.call rfl (am1 rfl) (by kernel_rfl) ((c_toNetM d0 _ e12 _ _ (stArg (R := netRd) ⟨_, _, _, rfl, ⟨SlAt.now agentRd_ok h1 (Nat.le_refl _) T, r1⟩⟩)).mono ?_)
    rintro _ w22 ⟨⟨A17, c18, rfl, h19, r20⟩, hb23⟩
    refine ⟨_, rfl, ?_⟩
    have szw22 := hb23.size
    have B3 := blkT B3 hb23
    have T := Tt T hb23
    have U21 := Below.refl w22.heap.size w22
    obtain ⟨y24, e25, hm⟩ := bnd hm
    refine RL.call rfl (am1 rfl) (by kernel_rfl) ((c_m_spec_NetText y11 _ e25 _ _ (stArg (R := netRd) ⟨_, _, _, rfl, ⟨SlAt.now agentRd_ok h19 (Nat.le_refl _) U21, r20⟩⟩)).mono ?_)
    rintro _ w26 ⟨rfl, hb27⟩
    refine ⟨_, rfl, ?_⟩
    have szw26 := hb27.size
    have B3 := blkT B3 hb27
    try have U21 := Tt U21 hb27
    have T := Tt T hb27
    refine RL.y rfl (Y.assign (v := .string y24) rfl) ?_
    refine RL.nil ?_
    refine then_n ?_
    refine wp_seq ?_
    refine wp_rl rfl ?_
    refine RL.y rfl (Y.loadN (cs := [.slice A1 d0.agents.length c1]) rfl (by kernel_rfl) (cells1 (eqC (blkCell B3 (i := 0) rfl)))) ?_
    obtain ⟨y28, e29, hm⟩ := bnd hm
    refine RL.call rfl (am1 rfl) (by kernel_rfl) ((c_toNetM d0 _ e29 _ _ (stArg (R := netRd) ⟨_, _, _, rfl, ⟨SlAt.now agentRd_ok h1 (Nat.le_refl _) T, r1⟩⟩)).mono ?_)
    rintro _ w39 ⟨⟨A34, c35, rfl, h36, r37⟩, hb40⟩
    refine ⟨_, rfl, ?_⟩
    have szw39 := hb40.size
    have B3 := blkT B3 hb40
    try have U21 := Tt U21 hb40
    have T := Tt T hb40
    have U38 := Below.refl w39.heap.size w39
    refine RL.alloc (z := .agg #[.slice none 0 0]) rfl (by kernel_rfl) (fun w41 B42 hb43 szw41 => ?_)
    replace B42 : Blk w41 w39.heap.size 29 #[.slice none 0 0] := B42
    have GB42 : w.heap.size ≤ w39.heap.size := T.size
    have Eob44_ob5 := Nat.ne_of_lt B3.lt
    have B3 := blkT B3 hb43
    try have U21 := Tt U21 hb43
    try have U38 := Tt U38 hb43
    have T := Tt T hb43
    refine RL.store (v := .agg #[.slice A34 y28.agents.length c35]) (cs' := #[.slice A34 y28.agents.length c35]) rfl rfl rfl B42 (by kernel_rfl) (by rfl) (by rfl) (by rfl) (fun w45 B46 ho47 => ?_)
    have szw45 := ho47.size
    have B3 := B3.only_ ho47 (by intro hin; simp at hin; exact Eob44_ob5 hin)
    try have U21 := U21.trans (ho47.below (by first | (simp; done) | (simp; omega)))
    try have U38 := U38.trans (ho47.below (by first | (simp; done) | (simp; omega)))
    have T := T.trans (ho47.below (by first | (simp; done) | (simp; omega)))
    refine RL.nil ?_
    refine then_n ?_
    refine wp_seq ?_
    refine wp_rb rfl ?_
    refine RQ.y rfl (Y.loadN (cs := [.slice A34 y28.agents.length c35]) rfl (by kernel_rfl) (cells1 (beC (blkCell B46 (i := 0) rfl)))) ?_
    obtain ⟨y48, e49, hm⟩ := bnd hm
    refine RQ.call rfl (am1 rfl) (by kernel_rfl) (v := .string y48) (bel (K := fun _ => True) fun w' hb' => (c_m_impl_NetText y28 _ e49 _ w' (WD.below hW (Tt T hb')) (stArg (R := netRd) ⟨_, _, _, rfl, ⟨SlAt.now agentRd_ok h36 (Nat.le_refl _) (Tt U38 hb'), r37⟩⟩))) ?_
    refine RQ.y rfl (Y.assign (v := .string y48) rfl) ?_
    refine RQ.nil ?_
    intro w50 hb51
    have szw50 := hb51.size
    have B3 := blkT B3 hb51
    have B46 := blkT B46 hb51
    try have U21 := Tt U21 hb51
    try have U38 := Tt U38 hb51
    have T := Tt T hb51
    refine then_n ?_
    refine wp_seq ?_
    refine wp_seq ?_
    refine wp_rs rfl ?_
    refine RQ.y rfl (Y.move (v := .string y48) rfl) ?_
    refine RQ.y rfl (Y.move (v := .string y24) rfl) ?_
    refine RQ.y rfl (Y.neStr rfl rfl (by kernel_rfl)) ?_
    refine RQ.nil ?_
    refine then_n ?_
    rcases bcases (y48.toList == y24.toList) with c52 | c52
    · replace hm := cF c52 hm
      refine cond_t rfl (vbn rfl c52 rfl) ?_
      refine wp_seq ?_
      refine wp_rs rfl ?_
      refine RQ.y rfl (Y.assign (v := .bool false) rfl) ?_
      refine RQ.nil ?_
      refine then_n ?_
      refine wp_ret ?_
      obtain rfl := Option.some.inj hm
      exact (then_r (ret1 rfl rfl rfl ⟨rfl, T⟩))
    · replace hm := cT c52 hm
      refine cond_f rfl (vbn rfl c52 rfl) ?_
      refine wp_skip ?_
      refine then_n ?_
      refine wp_seq ?_
      refine wp_seq ?_
      refine wp_rg (fun w' => Below w.heap.size w w' ∧ Blk w' w.heap.size 24 #[.slice A1 d0.agents.length c1] ∧ Blk w' w39.heap.size 29 #[.slice A34 y28.agents.length c35]) [(0, true), (1, true), (2, false), (3, false), (4, true)] (by kernel_rfl) (by kernel_rfl) (fun w53 hb54 szw53 => ?_)
      have B3 := blkT B3 hb54
      have B46 := blkT B46 hb54
      try have U21 := Tt U21 hb54
      try have U38 := Tt U38 hb54
      have T := Tt T hb54
      refine ⟨⟨T, B3, B46⟩, ?_⟩
      refine RG.y rfl rfl (Y.loadN (cs := [.slice A34 y28.agents.length c35]) rfl (by kernel_rfl) (cells1 (fun w' hS => (blkCell hS.2.2 (i := 0) rfl)))) ?_
      refine RG.y rfl rfl (Y.loadN (cs := [.slice A1 d0.agents.length c1]) rfl (by kernel_rfl) (cells1 (fun w' hS => (blkCell hS.2.1 (i := 0) rfl)))) ?_
      refine RG.act rfl ?_
      obtain ⟨y55, e56, hm⟩ := bnd hm
      refine RL.call rfl (am1 rfl) (by kernel_rfl) ((c_toNetM d0 _ e56 _ _ (stArg (R := netRd) ⟨_, _, _, rfl, ⟨SlAt.now agentRd_ok h1 (Nat.le_refl _) T, r1⟩⟩)).mono ?_)
      rintro _ w66 ⟨⟨A61, c62, rfl, h63, r64⟩, hb67⟩
      refine ⟨_, rfl, ?_⟩
      have szw66 := hb67.size
      have B3 := blkT B3 hb67
      have B46 := blkT B46 hb67
      try have U21 := Tt U21 hb67
      try have U38 := Tt U38 hb67
      have T := Tt T hb67
      have U65 := Below.refl w66.heap.size w66
      refine RL.nil ⟨⟨T, B3, B46⟩, ?_⟩
      refine RG.act rfl ?_
      obtain ⟨y68, e69, hm⟩ := bnd hm
      refine RL.call rfl (am2 rfl rfl) (by kernel_rfl) ((c_eqNetM y28 y55 _ e69 _ _ _ (stArg (R := netRd) ⟨_, _, _, rfl, ⟨SlAt.now agentRd_ok h36 (Nat.le_refl _) U38, r37⟩⟩) (stArg (R := netRd) ⟨_, _, _, rfl, ⟨SlAt.now agentRd_ok h63 (Nat.le_refl _) U65, r64⟩⟩)).mono ?_)
      rintro _ w70 ⟨rfl, hb71⟩
      refine ⟨_, rfl, ?_⟩
      have szw70 := hb71.size
      have B3 := blkT B3 hb71
      have B46 := blkT B46 hb71
      try have U21 := Tt U21 hb71
      try have U38 := Tt U38 hb71
      try have U65 := Tt U65 hb71
      have T := Tt T hb71
      refine RL.nil ⟨⟨T, B3, B46⟩, ?_⟩
      refine RG.y rfl rfl (Y.not (b' := (!y68)) rfl rfl) ?_
      refine RG.nil ?_
      refine then_n ?_
      rcases bcases y68 with c72 | c72
      · replace hm := cF c72 hm
        refine cond_t rfl (vbn rfl c72 rfl) ?_
        refine wp_seq ?_
        refine wp_rs rfl ?_
        refine RQ.y rfl (Y.assign (v := .bool false) rfl) ?_
        refine RQ.nil ?_
        refine then_n ?_
        refine wp_ret ?_
        obtain rfl := Option.some.inj hm
        exact (then_r (ret1 rfl rfl rfl ⟨rfl, T⟩))
      · replace hm := cT c72 hm
        refine cond_f rfl (vbn rfl c72 rfl) ?_
        refine wp_skip ?_
        refine then_n ?_
        refine wp_seq ?_
        refine wp_rs rfl ?_
        refine RQ.y rfl (Y.assign (v := .bool true) rfl) ?_
        refine RQ.nil ?_
        refine then_n ?_
        refine wp_ret ?_
        obtain rfl := Option.some.inj hm
        exact (ret1 rfl rfl rfl ⟨rfl, T⟩)
  · replace hm := cT c10 hm
    have pc10 := of_decide_eq_true c10
    refine cond_t rfl (vb rfl c10) ?_
    refine wp_seq ?_
    refine wp_rs rfl ?_
    refine RQ.y rfl (Y.assign (v := .bool true) rfl) ?_
    refine RQ.nil ?_
    refine then_n ?_
    refine wp_ret ?_
    obtain rfl := Option.some.inj hm
    exact (then_r (ret1 rfl rfl rfl ⟨rfl, T⟩))
end
section
open Go.RowKit Go.Sort
set_option linter.unusedVariables false
set_option linter.unusedSimpArgs false
theorem agentOk_p {x : DAgent} (h : agentOk x = true) : content x.kind x.value x.data = true ∧ okI x.level ∧ x.ports.length ≤ 4 := by
  unfold agentOk at h
  simp only [Bool.and_eq_true, decide_eq_true_eq] at h
  obtain ⟨⟨⟨h1, h2⟩, h3⟩, h4⟩ := h
  refine ⟨h4, ?_, ?_⟩
  · unfold allowed isLevel at h3
    simp at h3
    unfold okI
    omega
  · have : portsOf x.kind (fieldsN x.kind x.ports.length) ≤ 4 := by
      unfold portsOf
      repeat' split
      all_goals omega
    omega
theorem content_len {k v : Int} {d : List Int} (h : content k v d = true) : d.length ≤ 4 := by
  unfold content at h
  repeat' split at h
  all_goals simp only [Bool.and_eq_true, decide_eq_true_eq] at h; omega
theorem content_ok {x : DAgent} (h : content x.kind x.value x.data = true) : (bodyT x).size ≤ 120 := by
  unfold bodyT
  split
  · rename_i e
    have ho : okI x.value := by
      rcases e with e | e | e
      · rw [e] at h; simp [content] at h; exact okI_32 h.2
      · rw [e] at h; simp [content] at h; unfold okI; omega
      · rw [e] at h; simp [content] at h; exact okI_def h.2
    have := itoaB_size ho.1 ho.2
    simp only [ba_app_size, sz1]; omega
  · split
    · rename_i e
      have ho : operB x.value = true := by rw [e] at h; simp [content] at h; exact h.2
      have := opT_size ho
      simp only [ba_app_size, sz1]; omega
    · split
      · rename_i e
        have hk' : x.data.length = 1 ∧ operB x.value = true ∧ int32B (x.data.getD 0 0) = true := by rw [e] at h; simp [content] at h; simpa [List.getD, and_assoc] using h
        obtain ⟨h1, ho, h3⟩ := hk'
        have hd : ∀ y ∈ x.data, okI y := fun y hy => by
          cases hx : x.data with
          | nil => rw [hx] at hy; simp at hy
          | cons a r =>
            rw [hx] at h1 hy h3
            cases r with
            | nil => simp at hy; rw [hy]; exact okI_32 h3
            | cons b r => simp at h1
        have := opT_size ho
        have := numsB_size (c := 44) hd
        simp only [ba_app_size, sz1]; omega
      · split
        · rename_i e
          have hl := content_len h
          have hd : ∀ y ∈ x.data, okI y := by
            rcases e with e | e
            · rw [e] at h; simp only [content] at h; simp at h; exact fun y hy => okI_def (h.2 y hy)
            · rw [e] at h; simp only [content] at h; simp at h; exact fun y hy => okI_def (h.2 y hy)
          have := numsB_size (c := 44) hd
          simp only [ba_app_size, sz1]; omega
        · rw [sz0]; omega
theorem agT_size {x : DAgent} (h : agentOk x = true) (hp : ∀ p ∈ x.ports, okP p) : (agT x).size ≤ 1000 := by
  obtain ⟨h1, h2, h3⟩ := agentOk_p h
  have a := portsT_size (ps := x.ports) (z := headT x ++ bodyT x) hp
  have b := content_ok h1
  have c := itoaB_size h2.1 h2.2
  have d := kind_name_size x.kind
  have e : (headT x).size ≤ 26 := by
    unfold headT
    split
    · simp only [ba_app_size, sz1]; omega
    · omega
  rw [ba_app_size] at a
  unfold agT
  omega
/-- What a valid net gives. -/
theorem valid_p {d : DNet} (h : validNet d = true) : d.agents.length ≤ 600 ∧ ∀ x ∈ d.agents, agentOk x = true ∧ ∀ p ∈ x.ports, okP p := by
  obtain ⟨⟨_, hl, ha⟩, hP⟩ := validNet_iff.1 h
  refine ⟨hl, fun x hx => ?_⟩
  obtain ⟨i, hi, rfl⟩ := List.getElem_of_mem hx
  have hx := List.getElem?_eq_getElem hi
  refine ⟨(ha i _ hx).1, fun p hp => ?_⟩
  obtain ⟨k, hk, rfl⟩ := List.getElem_of_mem hp
  have hq := List.getElem?_eq_getElem hk
  have hb := hP i _ hx k hk
  rw [badPort_at hx hq] at hb
  simp only [Bool.or_eq_false_iff, Bool.not_eq_false', hasPort, Bool.and_eq_true, decide_eq_true_eq] at hb
  obtain ⟨⟨_, hb, hb2⟩, _⟩ := hb
  generalize hq' : d.agents[i].ports[k] = q at *
  have hal : q.agent < d.agents.length := hb.1.2
  have hs : (agentAt d.agents q.agent).ports.length ≤ 4 := by
    have hm : agentAt d.agents q.agent ∈ d.agents := by
      unfold agentAt
      rw [List.getD_eq_getElem?_getD, List.getElem?_eq_getElem (by omega)]
      exact List.getElem_mem _
    obtain ⟨j, hj, e⟩ := List.getElem_of_mem hm
    rw [← e]
    exact (agentOk_p (ha j _ (List.getElem?_eq_getElem hj)).1).2.2
  unfold okP okI
  omega
def netT (d : DNet) : ByteArray := joinB (d.agents.map agT) (ByteArray.mk #[59, 32])
theorem netT_size {xs : List DAgent} (h : ∀ x ∈ xs, agentOk x = true ∧ ∀ p ∈ x.ports, okP p) : (joinB (xs.map agT) (ByteArray.mk #[59, 32])).size ≤ 1002 * xs.length := by
  have := joinB_size (M := 1000) (q := 2) (s := ByteArray.mk #[59, 32]) (Nat.le_refl _) _ (xs.map agT) rfl (fun y hy => by
    obtain ⟨x, hx, rfl⟩ := List.mem_map.1 hy
    exact agT_size (h x hx).1 (h x hx).2)
  simpa using this
theorem p_sText {d : DNet} (h : validNet d = true) : m_spec_l11Text d = some (netT d) := by
  obtain ⟨hl, hx⟩ := valid_p h
  obtain ⟨xs⟩ := d
  simp only at hl hx
  unfold m_spec_l11Text
  have key := traj (L := fun g (s : List Int × Int) => m_spec_l11Text_L1 ⟨xs⟩ m_spec_l11Text_A1 g s.1 s.2) (st := fun i => (nums (joinB ((xs.take i).map agT) (ByteArray.mk #[59, 32])), (i : Int))) (n := xs.length) (r := some (netT ⟨xs⟩))
    (fun g i hi => by
      have hxi := List.getElem?_eq_getElem hi
      obtain ⟨ho, hp⟩ := hx xs[i] (List.getElem_mem hi)
      obtain ⟨h1, h2, h3⟩ := agentOk_p ho
      have hz := netT_size (xs := xs.take i) (fun y hy => hx y (List.mem_of_mem_take hy))
      have hlt : (xs.take i).length ≤ i := by simp; omega
      have hs := agT_size ho hp
      have hA := p_sAgentT xs[i] h1 h2 hp (by omega)
      simp only []
      rw [m_spec_l11Text_L1, m_spec_l11Text_B1, dlt hi, cond_true]
      by_cases h0 : 0 < i
      · rw [show decide ((i : Int) > 0) = true by simpa using h0, cond_true, mustP_ok (by rw [nums_length, nums_length, sz2]; omega), Option.bind_some, getI_lt hi, Option.bind_some, hA, Option.bind_some, mustP_ok (by rw [List.length_append, nums_length, nums_length, nums_length, sz2]; omega), Option.bind_some, List.map_take, List.map_take, joinB_take (x := agT xs[i]) (by simp [hxi]) h0, nums_app, nums_app]
        rfl
      · obtain rfl : i = 0 := by omega
        rw [show decide (((0 : Nat) : Int) > 0) = false by decide, cond_false, getI_lt hi, Option.bind_some, hA, Option.bind_some, mustP_ok (by rw [nums_length, nums_length]; omega), Option.bind_some]
        congr 1
        rw [take_succ_some hxi]
        simp [joinB_nil, joinB_one, nums])
    (fun g => by
      simp only []
      rw [m_spec_l11Text_L1, m_spec_l11Text_B1, dge, cond_false, m_spec_l11Text_A1, List.take_length, ofNums_nums]
      rfl) (xs.length + 1) (Nat.lt_succ_self _)
  exact key
theorem p_iText {d : DNet} (h : validNet d = true) : m_impl_netText d = some (netT d) := by
  obtain ⟨hl, hx⟩ := valid_p h
  obtain ⟨xs⟩ := d
  simp only at hl hx
  unfold m_impl_netText
  have key := traj (L := fun g (s : List ByteArray × Int) => m_impl_netText_L1 ⟨xs⟩ m_impl_netText_A1 g s.1 s.2) (st := fun i => ((xs.take i).map agT, (i : Int))) (n := xs.length) (r := some (netT ⟨xs⟩))
    (fun g i hi => by
      have hxi := List.getElem?_eq_getElem hi
      obtain ⟨ho, hp⟩ := hx xs[i] (List.getElem_mem hi)
      obtain ⟨h1, h2, h3⟩ := agentOk_p ho
      have hA := p_iAgentT xs[i] h1 h2 hp (by omega)
      simp only []
      rw [m_impl_netText_L1, m_impl_netText_B1, dlt hi, cond_true, getI_lt hi, Option.bind_some, hA, Option.bind_some, mustP_ok (by simp; omega), Option.bind_some, take_succ_some hxi, List.map_append]
      rfl)
    (fun g => by
      have hz := netT_size hx
      simp only []
      rw [m_impl_netText_L1, m_impl_netText_B1, dge, cond_false, m_impl_netText_A1, List.take_length, joinM, if_pos ⟨by simp; omega, by omega⟩]
      rfl) (xs.length + 1) (Nat.lt_succ_self _)
  exact key
theorem law_NetText (d : DNet) : m_laws_FnExactNetText d = some true := by
  unfold m_laws_FnExactNetText szNetM
  rw [mustP_ok (by decide), Option.bind_some, Option.bind_some]
  by_cases hs : szNet d ≤ 1048576
  · rw [toNetM, mustP_ok hs, Option.bind_some]
    simp only [Option.bind_some]
    have hsm : Small d.agents := hs
    have hS : m_spec_NetText d = some (bif validNet d then netT d else ByteArray.mk #[]) := by
      unfold m_spec_NetText
      rw [p_ok d hsm, Option.bind_some]
      cases hv : validNet d with
      | false => rfl
      | true => rw [cond_true, p_sText hv]; rfl
    have hI : m_impl_NetText d = some (bif validNet d then netT d else ByteArray.mk #[]) := by
      unfold m_impl_NetText
      rw [p_valid d hsm, Option.bind_some]
      cases hv : validNet d with
      | false => rfl
      | true => rw [cond_true, p_iText hv]; rfl
    rw [hS, Option.bind_some, hI, Option.bind_some, beq_self_eq_true, cond_true, eqNetM, Option.bind_some]
    simp
  · have hn : szL 1048576 (szNet d) < 0 := (by rw [szL_neg (by omega)]; decide)
    rw [decide_eq_true hn, cond_true]
end
section
open Go.RowKit Go.ChangeShapes Go.WideShapes Go.Deep Go.WideMaps
set_option linter.unusedVariables false
def Opens {α : Type} (P : Program) (t : TypeId) (R : Rd α) : Prop := ∀ (H : Type) (enc : TypeId × Value → H) (W : World) (fuel : Nat) (cs : List Value) (x : DataW H × List MemPlace),
  DataW.trod enc P W 0 (fun _ => true) true fuel t cs = some x → ∃ d, R W W.heap.size cs d
theorem opens_int {P : Program} {t : TypeId} (ht : P.underlying t = some (.int .i64)) : Opens P t intRd := fun H enc W fuel cs x h => by
  obtain ⟨n, hc, _, _⟩ := DataW.trod_int ht h
  exact ⟨n, hc⟩
theorem spot_none {w : World} {a : Addr} {v : Value} (h : w.cell? a = some v) : a.spot = none := by
  unfold World.cell? at h
  split at h
  · cases hs : a.spot with
    | none => rfl
    | some s => simp [hs] at h
  · simp at h
theorem opens_slice {α : Type} {P : Program} {t e : TypeId} {R : Rd α} {sz : Nat} (ht : P.underlying t = some (.slice e)) (hsz : P.cellsOf e = sz) (hpos : 0 < sz) (ok : RdOk R sz) (he : Opens P e R) : Opens P t (slRd R sz) := fun H enc W fuel cs x h => by
  rcases open_slice ht h with ⟨rfl, rfl⟩ | ⟨a, len, cap, m, n, D, Pl, rfl, hb, hl, hm, hmm, hx, hel⟩
  · exact ⟨[], none, 0, 0, rfl, SlAt.none_, Nat.le_refl _, Nat.zero_le _⟩
  · have hmc : len ≤ m := by rw [hmm]; simp; omega
    have hel' : ∀ i, i < len → ∃ p : List Value × α, R W W.heap.size p.1 p.2 ∧ ∀ j, j < sz → W.cell? (a.add (i * sz + j)) = p.1[j]? := fun i hi => by
      obtain ⟨cs', hc, htr⟩ := hel i (by omega)
      obtain ⟨d, hd⟩ := he H enc W n cs' (D i, Pl i) htr
      obtain ⟨_, hlen, hat⟩ := World.cells?_some hc
      exact ⟨(cs', d), hd, fun j hj => by
        have := hat j (by rw [hsz]; exact hj)
        rw [hsz, Go.Deep.add_add] at this
        exact this⟩
    rcases Nat.eq_zero_or_pos len with h0 | h0
    · subst h0
      exact ⟨[], some a, 0, cap, rfl, SlAt.none_, Nat.zero_le _, hm⟩
    · have hne : Nonempty (List Value × α) := let ⟨p, _⟩ := hel' 0 h0; ⟨p⟩
      have hf : ∃ f : Nat → List Value × α, ∀ i, i < len → R W W.heap.size (f i).1 (f i).2 ∧ ∀ j, j < sz → W.cell? (a.add (i * sz + j)) = (f i).1[j]? := by
        classical
        refine ⟨fun i => if hi : i < len then Classical.choose (hel' i hi) else Classical.choice hne, fun i hi => ?_⟩
        simp only [dif_pos hi]
        exact Classical.choose_spec (hel' i hi)
      obtain ⟨f, hf⟩ := hf
      have hc0 : ∃ v, W.cell? a = some v := by
        obtain ⟨hR, hc⟩ := hf 0 h0
        have hlR := ok.len hR
        have h1 := hc 0 hpos
        have h2 : a.add (0 * sz + 0) = a := by simp [Addr.add]
        rw [h2, List.getElem?_eq_getElem (by omega)] at h1
        exact ⟨_, h1⟩
      obtain ⟨v0, hv0⟩ := hc0
      have hsp := spot_none hv0
      have hbl := World.block_lt_of_cell? _ _ hv0
      have ea : a = ⟨a.block, a.off, none⟩ := by cases a; simp_all
      refine ⟨(List.range len).map fun i => (f i).2, some a, len, cap, rfl, ⟨by simp, fun _ => ⟨a.block, a.off, by rw [← ea], hbl, fun i x hx => ?_⟩⟩, hl, hm⟩
      have hi : i < len := by simpa using lt_of_some hx
      have hx' : (f i).2 = x := by simpa [hi] using hx
      subst hx'
      obtain ⟨hR, hc⟩ := hf i hi
      refine ⟨_, hR, fun j v hj => ?_⟩
      have hj' : j < sz := by have := lt_of_some hj; rw [ok.len hR] at this; exact this
      have h1 := hc j hj'
      rw [hj] at h1
      have e2 : a.add (i * sz + j) = ⟨a.block, a.off + i * sz + j, none⟩ := by
        rw [ea]; simp only [Addr.add_lit]; congr 1; omega
      rw [← e2]
      exact h1
/-- An argument's value as its cells. -/
theorem opens_arg {α : Type} {P : Program} {t : TypeId} {R : Rd α} (h : Opens P t R) {H : Type} {enc : TypeId × Value → H} {W : World} {v : Value} {d : DataW H} {ps : List MemPlace} (ht : DataW.Trod enc P W 0 (fun _ => true) true t v d ps) : ∃ x, R W W.heap.size v.cells.toList x := by
  obtain ⟨fuel, hf⟩ := ht
  exact h H enc W fuel _ _ hf
end
section
open Go.RowKit
theorem opens_ints : Opens Tryz.prog 46 (slRd intRd 1) := opens_slice Tryz.underlying46 (by kernel_rfl) (by decide) intRd_ok (opens_int Tryz.underlying2)
end
section
open Go.RowKit Go.ChangeShapes Go.WideShapes Go.Deep Go.WideMaps
set_option linter.unusedVariables false
set_option linter.unusedSimpArgs false
theorem trod_fields {P : Program} {t : TypeId} {fs : Array Field} {H : Type} {enc : TypeId × Value → H} {W : World} {fuel : Nat} {cs : List Value} {x : DataW H × List MemPlace} (ht : P.underlying t = some (.struct fs)) (h : DataW.trod enc P W 0 (fun _ => true) true fuel t cs = some x) :
    cs.length = P.cellsOf t ∧ ∃ n, ∀ (i : Nat) (f : Field), fs[i]? = some f → ∃ y, DataW.trod enc P W 0 (fun _ => true) true n f.type ((cs.drop f.offset).take (P.cellsOf f.type)) = some y := by
  obtain ⟨xs, n, _, _, hl, hlen, hf⟩ := DataW.trod_struct ht h
  refine ⟨hl, n, fun i f hi => ?_⟩
  have hlt : i < fs.size := (Array.getElem?_eq_some_iff.1 hi).1
  exact ⟨xs[i], by rw [hf i f hi]; exact List.getElem?_eq_getElem (by omega)⟩
/-- A struct argument. -/
theorem open_st {α : Type} {P : Program} {t : TypeId} {fs : Array Field} {R : Rd α} (h : Opens P t R) (ht : P.underlying t = some (.struct fs)) {r : Reach} {b0 : Nat} {H : Type} {enc : TypeId × Value → H} {W : World} {v : Value} {d : DataW H} {ps : List MemPlace}
    (hv : Value.okWide P W r b0 t v) (hd : DataW.Trod enc P W 0 (fun _ => true) true t v d ps) : ∃ x, RdT R W W.heap.size v x := by
  obtain ⟨cs, rfl, _⟩ := okWide_struct ht hv
  obtain ⟨x, hx⟩ := opens_arg h hd
  exact ⟨x, cs.toList, by simp, by simpa [Value.cells] using hx⟩
theorem len1 {α : Type} {l : List α} (h : l.length = 1) : ∃ a0, l = [a0] := by
  match l, h with
  | [a0], _ => exact ⟨a0, rfl⟩
theorem len2 {α : Type} {l : List α} (h : l.length = 2) : ∃ a0 a1, l = [a0, a1] := by
  match l, h with
  | [a0, a1], _ => exact ⟨a0, a1, rfl⟩
theorem len5 {α : Type} {l : List α} (h : l.length = 5) : ∃ a0 a1 a2 a3 a4, l = [a0, a1, a2, a3, a4] := by
  match l, h with
  | [a0, a1, a2, a3, a4], _ => exact ⟨a0, a1, a2, a3, a4, rfl⟩
theorem opens_Port : Opens Tryz.prog 119 portRd := fun H enc W fuel cs x h => by
  obtain ⟨hl, m, hf⟩ := trod_fields Tryz.underlying119 h
  replace hl : cs.length = 2 := hl.trans (by kernel_rfl)
  obtain ⟨a0, a1, rfl⟩ := len2 hl
  obtain ⟨y0, h0⟩ : ∃ y, DataW.trod enc Tryz.prog W 0 (fun _ => true) true m 2 (([a0, a1].drop 0).take (Tryz.prog.cellsOf 2)) = some y := hf 0 _ rfl
  have k0 : Tryz.prog.cellsOf 2 = 1 := by kernel_rfl
  rw [k0] at h0; simp only [List.drop_zero, List.drop_succ_cons, List.take_succ_cons, List.take_zero] at h0
  obtain ⟨d0, e0⟩ := opens_int Tryz.underlying2 H enc W _ _ _ h0
  unfold intRd at e0; simp only [List.cons.injEq, and_true] at e0
  obtain ⟨y1, h1⟩ : ∃ y, DataW.trod enc Tryz.prog W 0 (fun _ => true) true m 2 (([a0, a1].drop 1).take (Tryz.prog.cellsOf 2)) = some y := hf 1 _ rfl
  have k1 : Tryz.prog.cellsOf 2 = 1 := by kernel_rfl
  rw [k1] at h1; simp only [List.drop_zero, List.drop_succ_cons, List.take_succ_cons, List.take_zero] at h1
  obtain ⟨d1, e1⟩ := opens_int Tryz.underlying2 H enc W _ _ _ h1
  unfold intRd at e1; simp only [List.cons.injEq, and_true] at e1
  subst e0; subst e1
  exact ⟨⟨d0, d1⟩, rfl⟩
theorem opens_PortS : Opens Tryz.prog 55 (slRd portRd 2) := opens_slice Tryz.underlying55 (by kernel_rfl) (by decide) portRd_ok opens_Port
theorem opens_Agent : Opens Tryz.prog 57 agentRd := fun H enc W fuel cs x h => by
  obtain ⟨hl, m, hf⟩ := trod_fields Tryz.underlying57 h
  replace hl : cs.length = 5 := hl.trans (by kernel_rfl)
  obtain ⟨a0, a1, a2, a3, a4, rfl⟩ := len5 hl
  obtain ⟨y0, h0⟩ : ∃ y, DataW.trod enc Tryz.prog W 0 (fun _ => true) true m 2 (([a0, a1, a2, a3, a4].drop 0).take (Tryz.prog.cellsOf 2)) = some y := hf 0 _ rfl
  have k0 : Tryz.prog.cellsOf 2 = 1 := by kernel_rfl
  rw [k0] at h0; simp only [List.drop_zero, List.drop_succ_cons, List.take_succ_cons, List.take_zero] at h0
  obtain ⟨d0, e0⟩ := opens_int Tryz.underlying2 H enc W _ _ _ h0
  unfold intRd at e0; simp only [List.cons.injEq, and_true] at e0
  obtain ⟨y1, h1⟩ : ∃ y, DataW.trod enc Tryz.prog W 0 (fun _ => true) true m 2 (([a0, a1, a2, a3, a4].drop 1).take (Tryz.prog.cellsOf 2)) = some y := hf 1 _ rfl
  have k1 : Tryz.prog.cellsOf 2 = 1 := by kernel_rfl
  rw [k1] at h1; simp only [List.drop_zero, List.drop_succ_cons, List.take_succ_cons, List.take_zero] at h1
  obtain ⟨d1, e1⟩ := opens_int Tryz.underlying2 H enc W _ _ _ h1
  unfold intRd at e1; simp only [List.cons.injEq, and_true] at e1
  obtain ⟨y2, h2⟩ : ∃ y, DataW.trod enc Tryz.prog W 0 (fun _ => true) true m 2 (([a0, a1, a2, a3, a4].drop 2).take (Tryz.prog.cellsOf 2)) = some y := hf 2 _ rfl
  have k2 : Tryz.prog.cellsOf 2 = 1 := by kernel_rfl
  rw [k2] at h2; simp only [List.drop_zero, List.drop_succ_cons, List.take_succ_cons, List.take_zero] at h2
  obtain ⟨d2, e2⟩ := opens_int Tryz.underlying2 H enc W _ _ _ h2
  unfold intRd at e2; simp only [List.cons.injEq, and_true] at e2
  obtain ⟨y3, h3⟩ : ∃ y, DataW.trod enc Tryz.prog W 0 (fun _ => true) true m 46 (([a0, a1, a2, a3, a4].drop 3).take (Tryz.prog.cellsOf 46)) = some y := hf 3 _ rfl
  have k3 : Tryz.prog.cellsOf 46 = 1 := by kernel_rfl
  rw [k3] at h3; simp only [List.drop_zero, List.drop_succ_cons, List.take_succ_cons, List.take_zero] at h3
  obtain ⟨d3, A3, n3, c3, e3, g3, r3⟩ := opens_ints H enc W _ _ _ h3
  simp only [List.cons.injEq, and_true] at e3
  obtain ⟨y4, h4⟩ : ∃ y, DataW.trod enc Tryz.prog W 0 (fun _ => true) true m 55 (([a0, a1, a2, a3, a4].drop 4).take (Tryz.prog.cellsOf 55)) = some y := hf 4 _ rfl
  have k4 : Tryz.prog.cellsOf 55 = 1 := by kernel_rfl
  rw [k4] at h4; simp only [List.drop_zero, List.drop_succ_cons, List.take_succ_cons, List.take_zero] at h4
  obtain ⟨d4, A4, n4, c4, e4, g4, r4⟩ := opens_PortS H enc W _ _ _ h4
  simp only [List.cons.injEq, and_true] at e4
  subst e0; subst e1; subst e2; subst e3; subst e4
  exact ⟨⟨d0, d1, d2, d3, d4⟩, A3, n3, c3, A4, n4, c4, rfl, ⟨g3, r3⟩, ⟨g4, r4⟩⟩
theorem opens_AgentS : Opens Tryz.prog 22 (slRd agentRd 5) := opens_slice Tryz.underlying22 (by kernel_rfl) (by decide) agentRd_ok opens_Agent
theorem opens_Net : Opens Tryz.prog 24 netRd := fun H enc W fuel cs x h => by
  obtain ⟨hl, m, hf⟩ := trod_fields Tryz.underlying24 h
  replace hl : cs.length = 1 := hl.trans (by kernel_rfl)
  obtain ⟨a0, rfl⟩ := len1 hl
  obtain ⟨y0, h0⟩ : ∃ y, DataW.trod enc Tryz.prog W 0 (fun _ => true) true m 22 (([a0].drop 0).take (Tryz.prog.cellsOf 22)) = some y := hf 0 _ rfl
  have k0 : Tryz.prog.cellsOf 22 = 1 := by kernel_rfl
  rw [k0] at h0; simp only [List.drop_zero, List.drop_succ_cons, List.take_succ_cons, List.take_zero] at h0
  obtain ⟨d0, A0, n0, c0, e0, g0, r0⟩ := opens_AgentS H enc W _ _ _ h0
  simp only [List.cons.injEq, and_true] at e0
  subst e0
  exact ⟨⟨d0⟩, A0, n0, c0, rfl, ⟨g0, r0⟩⟩
end
end Go.Proofs.YtkfmlehhbanopaaGreatDoor
