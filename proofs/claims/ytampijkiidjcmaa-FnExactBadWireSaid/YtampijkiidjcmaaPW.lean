/- IsOriented, BadWire: the models on data. -/
import Derived.Test.YtampijkiidjcmaaPU
namespace Go.Proofs.Ytampijkiidjcmaa
open Go.RowKit
set_option linter.unusedVariables false
set_option linter.unusedSimpArgs false
def roleP (xs : List DAgent) (rev : List Bool) (p : DPort) : Int := portRole (agentAt xs p.agent).kind p.slot (revAt rev p)
def badP (xs : List DAgent) (rev : List Bool) (p : DPort) : Bool := before p (peer xs p) && (roleP xs rev p == roleP xs rev (peer xs p))
def badW (xs : List DAgent) (rev : List Bool) (w : DWire) : Bool := roleP xs rev w.a == roleP xs rev w.b
def firstBad (xs : List DAgent) (rev : List Bool) : Option DWire := ((allPorts xs).find? (badP xs rev)).map fun p => ⟨p, peer xs p⟩
theorem wires_find (xs : List DAgent) (rev : List Bool) : (wires xs).find? (badW xs rev) = firstBad xs rev := by
  unfold wires firstBad
  generalize allPorts xs = l
  induction l with
  | nil => rfl
  | cons p l ih =>
    rw [List.flatMap_cons, List.find?_append, ih, List.find?_cons]
    unfold wireOf badP
    cases before p (peer xs p) with
    | false => simp
    | true =>
      simp only [cond_true, Bool.true_and, List.find?_cons, List.find?_nil, badW]
      cases roleP xs rev p == roleP xs rev (peer xs p) <;> simp
theorem find_idx {α : Type} {q : α → Bool} : ∀ {l : List α}, l.find? q = match l.findIdx? q with | some i => l[i]? | none => none
  | [] => rfl
  | a :: l => by
    rw [List.find?_cons, List.findIdx?_cons, find_idx (l := l)]
    cases q a with
    | true => simp
    | false => simp; cases l.findIdx? q <;> simp
theorem mem_wires {xs : List DAgent} {w : DWire} (h : w ∈ wires xs) : ∃ p ∈ allPorts xs, w = ⟨p, peer xs p⟩ := by
  unfold wires at h
  obtain ⟨p, hp, hw⟩ := List.mem_flatMap.1 h
  refine ⟨p, hp, ?_⟩
  unfold wireOf at hw
  cases hb : before p (peer xs p) with
  | false => rw [hb] at hw; simp at hw
  | true => rw [hb] at hw; simpa using hw
theorem good_peer {xs : List DAgent} (G : Good xs) {i k : Nat} {x : DAgent} (hx : xs[i]? = some x) (hk : k < x.ports.length) : ∃ (j q : Nat) (y : DAgent), peer xs ⟨(i : Int), (k : Int)⟩ = ⟨(j : Int), (q : Int)⟩ ∧ xs[j]? = some y ∧ q < y.ports.length := by
  have hb := G.ports i x hx k hk
  unfold badPort at hb
  simp only [Bool.or_eq_false_iff, Bool.not_eq_false'] at hb
  obtain ⟨j, q, y, he, hy, hq, _⟩ := hasPort_at hb.1.2
  exact ⟨j, q, y, he, hy, hq⟩
theorem fit_at {xs : List DAgent} {rev : List Bool} (F : Fits xs rev) {i : Nat} {x : DAgent} (hx : xs[i]? = some x) : ∃ r, rev[i]? = some r :=
  ⟨_, List.getElem?_eq_getElem (show i < rev.length by rw [F.1]; exact lt_of_some hx)⟩
theorem roleP_at {xs : List DAgent} {rev : List Bool} {i k : Nat} {x : DAgent} {r : Bool} (hx : xs[i]? = some x) (hr : rev[i]? = some r) : roleP xs rev ⟨(i : Int), (k : Int)⟩ = portRole x.kind k r := by
  unfold roleP
  rw [rev_at hr]
  simp only [agentAt_nat hx]
theorem p_sBad {xs : List DAgent} {rev : List Bool} (G : Good xs) (F : Fits xs rev) : m_spec_l19Bad ⟨xs⟩ rev (wires xs) = some (match (wires xs).findIdx? (badW xs rev) with | some i => (i : Int) | none => -1) := by
  unfold m_spec_l19Bad
  have key := findI (L := m_spec_l19Bad_L1 ⟨xs⟩ rev (wires xs) m_spec_l19Bad_A1) (d := wires xs) (q := badW xs rev) (hit := fun i => some (i : Int)) (K := some (-1))
    (fun g k w hw => by
      have hkl := lt_of_some hw
      obtain ⟨p, hp, rfl⟩ := mem_wires (List.mem_of_getElem? hw)
      obtain ⟨i, k', x, hx, hk, rfl⟩ := mem_allPorts hp
      obtain ⟨j, q, y, he, hy, hq⟩ := good_peer G hx hk
      obtain ⟨r, hr⟩ := fit_at F hx
      obtain ⟨s, hs⟩ := fit_at F hy
      rw [he] at hw ⊢
      have e1 := role_eq G F hx hr hk
      have e2 := role_eq G F hy hs hq
      have hb : badW xs rev ⟨⟨(i : Int), (k' : Int)⟩, ⟨(j : Int), (q : Int)⟩⟩ = (portRole x.kind k' r == portRole y.kind q s) := by
        unfold badW; rw [roleP_at hx hr, roleP_at hy hs]
      rw [hb]
      simp -implicitDefEqProofs only [m_spec_l19Bad_L1, m_spec_l19Bad_B1, dlt hkl, cond_true, getI_nat hw, Option.bind_some, m_spec_l19At, getI_nat hx, getI_nat hr, getI_nat hy, getI_nat hs, e1, e2]
      cases portRole x.kind k' r == portRole y.kind q s <;> rfl)
    (fun g => by simp -implicitDefEqProofs only [m_spec_l19Bad_L1, m_spec_l19Bad_B1, dge, cond_false, m_spec_l19Bad_A1]) ((wires xs).length + 1) (Nat.lt_succ_self _)
  refine key.trans ?_
  cases (wires xs).findIdx? (badW xs rev) <;> rfl
open Classical in
noncomputable def isOriented (d : DNet) (rev : List Bool) : Bool := decide (validNet d = true ∧ Fits d.agents rev ∧ firstBad d.agents rev = none)
theorem p_s19Ok {xs : List DAgent} {rev : List Bool} (G : Good xs) (hs : Small xs) : m_spec_l19Ok ⟨xs⟩ rev = some (@decide (Fits xs rev ∧ firstBad xs rev = none) (Classical.propDecidable _)) := by
  unfold m_spec_l19Ok
  rcases p_sFits ⟨xs⟩ rev with ⟨F, e⟩ | ⟨F, e⟩
  · have F : Fits xs rev := F
    rw [e, Option.bind_some, cond_true, p_sWires (d := ⟨xs⟩) hs, Option.bind_some]
    show (m_spec_l19Bad ⟨xs⟩ rev (wires xs)).bind _ = _
    rw [p_sBad G F, Option.bind_some]
    have hf := wires_find xs rev
    rw [find_idx] at hf
    congr 1
    rw [Bool.eq_iff_iff]
    cases hi : (wires xs).findIdx? (badW xs rev) with
    | none => rw [hi] at hf; simp [F, ← hf]
    | some i =>
      rw [hi] at hf
      have hl := (List.findIdx?_eq_some_iff_getElem.1 hi).1
      simp only at hf
      rw [List.getElem?_eq_getElem hl] at hf
      simp [← hf]
  · rw [e, Option.bind_some, cond_false]
    have F : ¬ Fits xs rev := F
    simp [F]
theorem p_sIsOriented (d : DNet) (rev : List Bool) (hs : Small d.agents) : m_spec_IsOriented d rev = some (isOriented d rev) := by
  obtain ⟨xs⟩ := d
  have hs : Small xs := hs
  unfold m_spec_IsOriented isOriented
  rw [p_ok _ hs, Option.bind_some]
  cases hv : validNet ⟨xs⟩ with
  | false => simp
  | true =>
    rw [cond_true, p_s19Ok (good hv) hs, Option.bind_some]
    simp
theorem p_i_before (p q : DPort) : m_impl_Port_before p q = some (before p q) := by
  unfold m_impl_Port_before before
  cases decide (p.agent < q.agent) <;> cases (p.agent == q.agent) <;> simp
theorem p_iBad {xs : List DAgent} {rev : List Bool} (G : Good xs) (F : Fits xs rev) (hs : Small xs) : m_impl_Net_badWire ⟨xs⟩ rev = some (match firstBad xs rev with | some w => (w, true) | none => (⟨⟨0, 0⟩, ⟨0, 0⟩⟩, false)) := by
  unfold m_impl_Net_badWire
  rw [p_ports _ hs, Option.bind_some]
  have key := findI (L := fun g i => m_impl_Net_badWire_L1 ⟨xs⟩ rev (allPorts xs) m_impl_Net_badWire_A1 g i ⟨⟨0, 0⟩, ⟨0, 0⟩⟩) (d := allPorts xs) (q := badP xs rev) (hit := fun i => match (allPorts xs)[i]? with | some p => some ((⟨p, peer xs p⟩ : DWire), true) | none => none) (K := some (⟨⟨0, 0⟩, ⟨0, 0⟩⟩, false))
    (fun g n p hp => by
      have hn := lt_of_some hp
      rw [hp]
      obtain ⟨i, k, x, hx, hk, rfl⟩ := mem_allPorts (List.mem_of_getElem? hp)
      obtain ⟨j, q, y, he, hy, hq⟩ := good_peer G hx hk
      obtain ⟨r, hr⟩ := fit_at F hx
      obtain ⟨s, hs⟩ := fit_at F hy
      have e0 : m_impl_Net_peer ⟨xs⟩ ⟨(i : Int), (k : Int)⟩ = some ⟨(j : Int), (q : Int)⟩ := by
        have hq0 := List.getElem?_eq_getElem hk
        rw [show some (⟨(j : Int), (q : Int)⟩ : DPort) = some x.ports[k] by rw [← he, peer_of hx hq0]]
        simp -implicitDefEqProofs only [m_impl_Net_peer, getI_nat hx, getI_nat hq0, Option.bind_some]
      unfold badP
      dsimp only
      rw [he, roleP_at hx hr, roleP_at hy hs]
      simp -implicitDefEqProofs only [m_impl_Net_badWire_L1, m_impl_Net_badWire_B1, dlt hn, cond_true, getI_nat hp, Option.bind_some, e0, p_i_before, m_impl_Net_role, getI_nat hx, getI_nat hr, getI_nat hy, getI_nat hs]
      cases before ⟨(i : Int), (k : Int)⟩ ⟨(j : Int), (q : Int)⟩ <;> cases portRole x.kind k r == portRole y.kind q s <;> rfl)
    (fun g => by simp -implicitDefEqProofs only [m_impl_Net_badWire_L1, m_impl_Net_badWire_B1, dge, cond_false, m_impl_Net_badWire_A1]) ((allPorts xs).length + 1) (Nat.lt_succ_self _)
  refine key.trans ?_
  unfold firstBad
  rw [find_idx]
  cases hi : (allPorts xs).findIdx? (badP xs rev) with
  | none => rfl
  | some i =>
    have hl := (List.findIdx?_eq_some_iff_getElem.1 hi).1
    simp only [List.getElem?_eq_getElem hl, Option.map_some]
theorem p_iIsOriented (d : DNet) (rev : List Bool) (hs : Small d.agents) : m_impl_IsOriented d rev = some (isOriented d rev) := by
  obtain ⟨xs⟩ := d
  have hs : Small xs := hs
  unfold m_impl_IsOriented isOriented
  rw [p_valid _ hs, Option.bind_some]
  cases hv : validNet ⟨xs⟩ with
  | false => simp
  | true =>
    rw [cond_true]
    unfold m_impl_Net_isOriented
    rcases p_iFits ⟨xs⟩ rev with ⟨F, e⟩ | ⟨F, e⟩
    · have F : Fits xs rev := F
      rw [e, Option.bind_some, cond_true, p_iBad (good hv) F hs, Option.bind_some, Option.bind_some]
      congr 1
      rw [Bool.eq_iff_iff]
      cases hf : firstBad xs rev <;> simp [F, hf]
    · rw [e, Option.bind_some, cond_false, Option.bind_some]
      have F : ¬ Fits xs rev := F
      simp [F]
open Classical in
noncomputable def badWire (d : DNet) (rev : List Bool) : DWire × Int :=
  if validNet d = true ∧ Fits d.agents rev then (match firstBad d.agents rev with | some w => (w, 0) | none => (⟨⟨0, 0⟩, ⟨0, 0⟩⟩, 3)) else (⟨⟨0, 0⟩, ⟨0, 0⟩⟩, 1)
theorem p_sBadWire (d : DNet) (rev : List Bool) (hs : Small d.agents) : m_spec_BadWire d rev = some (badWire d rev) := by
  obtain ⟨xs⟩ := d
  have hs : Small xs := hs
  unfold m_spec_BadWire badWire
  rw [p_ok _ hs, Option.bind_some]
  cases hv : validNet ⟨xs⟩ with
  | false => simp
  | true =>
    have G : Good xs := good hv
    rw [cond_true]
    rcases p_sFits ⟨xs⟩ rev with ⟨F, e⟩ | ⟨F, e⟩
    · have F : Fits xs rev := F
      rw [e, Option.bind_some, cond_true, p_sWires (d := ⟨xs⟩) hs, Option.bind_some, if_pos ⟨rfl, F⟩]
      show (m_spec_l19Bad ⟨xs⟩ rev (wires xs)).bind _ = _
      rw [p_sBad G F, Option.bind_some]
      have hf := wires_find xs rev
      rw [find_idx] at hf
      cases hi : (wires xs).findIdx? (badW xs rev) with
      | none => rw [hi] at hf; simp [← hf]
      | some i =>
        rw [hi] at hf
        have hl := (List.findIdx?_eq_some_iff_getElem.1 hi).1
        simp only at hf ⊢
        rw [List.getElem?_eq_getElem hl] at hf
        rw [show decide ((i : Int) < 0) = false by simp, cond_false, getI_lt hl, Option.bind_some, ← hf]
    · rw [e, Option.bind_some, cond_false, if_neg (fun h => F h.2)]
theorem p_iBadWire (d : DNet) (rev : List Bool) (hs : Small d.agents) : m_impl_BadWire d rev = some (badWire d rev) := by
  obtain ⟨xs⟩ := d
  have hs : Small xs := hs
  unfold m_impl_BadWire badWire
  rw [p_valid _ hs, Option.bind_some]
  cases hv : validNet ⟨xs⟩ with
  | false => simp
  | true =>
    have G : Good xs := good hv
    rw [cond_true]
    rcases p_iFits ⟨xs⟩ rev with ⟨F, e⟩ | ⟨F, e⟩
    · have F : Fits xs rev := F
      rw [e, Option.bind_some, cond_true, p_iBad G F hs, Option.bind_some, if_pos ⟨rfl, F⟩]
      cases hf : firstBad xs rev <;> simp [hf]
    · rw [e, Option.bind_some, cond_false, if_neg (fun h => F h.2)]
end Go.Proofs.Ytampijkiidjcmaa
