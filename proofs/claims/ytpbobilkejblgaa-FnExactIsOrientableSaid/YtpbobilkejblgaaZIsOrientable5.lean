/- Lemmas of the proof of IsOrientable, part 5. No condition. -/
import Derived.Test.YtpbobilkejblgaaZIsOrientable4
namespace Go.Proofs.Ytpbobilkejblgaa
section
open Go.RowKit
set_option linter.unusedVariables false
set_option linter.unusedSimpArgs false
section
variable {xs : List DAgent}
theorem getI_sv {l : List Bool} {i : Nat} (h : i < l.length) : getI l (i : Int) = some (sv l (i : Int)) := by
  rw [getI_nat (List.getElem?_eq_getElem h), sv_nat (List.getElem?_eq_getElem h)]
theorem setI_sv {l : List Bool} {i : Nat} {b : Bool} : setI l (i : Int) b = l.set i b := setI_nat _ _ _
def dws (W : List DWire) : List DPort := W.flatMap fun w => [w.a, w.b]
theorem dws_len : ∀ W : List DWire, (dws W).length = 2 * W.length
  | [] => rfl
  | w :: W => by
    have := dws_len W
    unfold dws at this ⊢
    rw [List.flatMap_cons, List.length_append, this]; simp; omega
theorem dws_get : ∀ (W : List DWire) (k : Nat), k < 2 * W.length → ∃ w, W[k / 2]? = some w ∧ (dws W)[k]? = some (if k % 2 = 1 then w.b else w.a)
  | [], k, h => by simp at h
  | w :: W, 0, _ => ⟨w, by simp, by simp [dws]⟩
  | w :: W, 1, _ => ⟨w, by simp, by simp [dws]⟩
  | w :: W, k + 2, h => by
    obtain ⟨v, h1, h2⟩ := dws_get W k (by simp at h; omega)
    refine ⟨v, ?_, ?_⟩
    · rw [show (k + 2) / 2 = k / 2 + 1 by omega]; simpa using h1
    · have e : (dws (w :: W))[k + 2]? = (dws W)[k]? := by simp [dws]
      rw [e, h2, show (k + 2) % 2 = k % 2 by omega]
theorem wire_ports (G : Good xs) {w : DWire} (h : w ∈ wires xs) : hasPort xs w.a = true ∧ hasPort xs w.b = true ∧ peer xs w.a = w.b ∧ peer xs w.b = w.a := by
  obtain ⟨p, hp, rfl⟩ := mem_wires h
  obtain ⟨i, k, x, hx, hk, rfl⟩ := mem_allPorts hp
  have h1 := hasPort_of hx hk
  have h2 := G.peer h1
  exact ⟨h1, h2.1, rfl, h2.2.1⟩
theorem port_dws (G : Good xs) {p : DPort} (h : hasPort xs p = true) : p ∈ dws (wires xs) := by
  have key : ∀ p, hasPort xs p = true → before p (peer xs p) = true → (⟨p, peer xs p⟩ : DWire) ∈ wires xs := fun p hp hb => by
    obtain ⟨i, k, x, rfl, hx, hk, _⟩ := hasPort_at hp
    unfold wires
    refine List.mem_flatMap.2 ⟨_, allPorts_mem hx hk, ?_⟩
    unfold wireOf
    rw [hb]; simp
  unfold dws
  have h2 := G.peer h
  rcases before_total h2.2.2 with hb | hb
  · have := key _ h2.1 (by rw [h2.2.1]; exact hb)
    rw [h2.2.1] at this
    exact List.mem_flatMap.2 ⟨_, this, by simp⟩
  · exact List.mem_flatMap.2 ⟨_, key p h hb, by simp⟩
theorem sp_at (G : Good xs) {rev : List Bool} (hl : rev.length = xs.length) {p : DPort} (hp : hasPort xs p = true) : m_spec_l19At ⟨xs⟩ rev p = some (roleSpec (agentAt xs p.agent).kind p.slot (sv rev p.agent)) := by
  obtain ⟨i, k, x, rfl, hx, hk, ha⟩ := hasPort_at hp
  have hi := lt_of_some hx
  simp -implicitDefEqProofs only [m_spec_l19At, getI_nat hx, getI_sv (show i < rev.length by omega), Option.bind_some, agentAt_nat hx]
theorem sp_val {p : DPort} {r : Bool} : (roleSpec (agentAt xs p.agent).kind p.slot r == roleSpec (agentAt xs (peer xs p).agent).kind (peer xs p).slot false) = (r ^^ kk xs p) := by
  rw [spec_bit]
  unfold kk plp
  cases r <;> cases (rolePlain (agentAt xs p.agent).kind p.slot == 2) <;> cases (rolePlain (agentAt xs (peer xs p).agent).kind (peer xs p).slot == 2) <;> rfl
def rst (xs : List DAgent) (s : List Bool × List Bool × Bool) (p : DPort) : List Bool × List Bool × Bool :=
  if sv s.1 p.agent = true ∧ sv s.1 (peer xs p).agent = false then ((dst xs (s.1, s.2.1) p).1, (dst xs (s.1, s.2.1) p).2, true) else s
theorem rst_pinv (G : Good xs) {s : List Bool × List Bool × Bool} {p : DPort} (P : PInv xs (s.1, s.2.1)) (hp : hasPort xs p = true) : PInv xs ((rst xs s p).1, (rst xs s p).2.1) := by
  unfold rst
  split
  · exact dst_pinv G P hp
  · exact P
theorem sp_round (G : Good xs) (hs : Small xs) (K : List Bool → List Bool → Bool → Option (List Bool × List Bool)) (kn rev : List Bool) (b : Bool) (P : PInv xs (kn, rev)) :
    m_spec_l19Spread_L2 ⟨xs⟩ (wires xs) K (2 * (wires xs).length + 2) kn rev b 0 = K ((dws (wires xs)).foldl (rst xs) (kn, rev, b)).1 ((dws (wires xs)).foldl (rst xs) (kn, rev, b)).2.1 ((dws (wires xs)).foldl (rst xs) (kn, rev, b)).2.2 ∧ PInv xs (((dws (wires xs)).foldl (rst xs) (kn, rev, b)).1, ((dws (wires xs)).foldl (rst xs) (kn, rev, b)).2.1) := by
  have hW : (wires xs).length ≤ 4294967296 := by
    have h1 := flat_le (f := wireOf xs) (fun p => by unfold wireOf; cases before p (peer xs p) <;> simp) (allPorts xs)
    have h2 := hs.all
    unfold wires
    omega
  have hdl := dws_len (wires xs)
  exact foldL (L := fun g (s : List Bool × List Bool × Bool) k => m_spec_l19Spread_L2 ⟨xs⟩ (wires xs) K g s.1 s.2.1 s.2.2 k) (d := dws (wires xs)) (f := rst xs) (I := fun _ s => PInv xs (s.1, s.2.1)) (K := fun s => K s.1 s.2.1 s.2.2)
    (fun g k p s hpk P => by
      have hk := lt_of_some hpk
      obtain ⟨w, hw, hpw⟩ := dws_get (wires xs) k (by omega)
      rw [hpk] at hpw
      injection hpw with hpw
      obtain ⟨pa, pb, eab, eba⟩ := wire_ports G (List.mem_of_getElem? hw)
      have hp : hasPort xs p = true := by rw [hpw]; split <;> assumption
      refine ⟨?_, rst_pinv G P hp⟩
      have I := P.inv
      obtain ⟨i, ei, hi⟩ := port_nat hp
      obtain ⟨j, ej, hj⟩ := port_nat (G.peer hp).1
      have e1 : (2 * ((wires xs).length : Int)) = ((2 * (wires xs).length : Nat) : Int) := by omega
      have e2 : (k : Int).tdiv 2 = ((k / 2 : Nat) : Int) := rfl
      have e3 : (k : Int).tmod 2 = ((k % 2 : Nat) : Int) := rfl
      have hgi := getI_sv (l := s.1) (i := i) (by have := I.l1; simp only at this; omega)
      have hgj := getI_sv (l := s.1) (i := j) (by have := I.l1; simp only at this; omega)
      have hrj := getI_sv (l := s.2.1) (i := j) (by have := I.l2; simp only at this; omega)
      have hl2 : s.2.1.length = xs.length := I.l2
      have a1 := sp_at G hl2 hp
      have a2 := sp_at G hl2 (G.peer hp).1
      simp -implicitDefEqProofs only [m_spec_l19Spread_L2, m_spec_l19Spread_B2]
      rw [e1, ck_ok (by omega), Option.bind_some, dlt (by omega), cond_true, e2, e3, ck_ok (by omega), Option.bind_some, getI_nat hw, Option.bind_some, Option.bind_some, Option.bind_some]
      have fin : ∀ {X : Option (List Bool × List Bool)}, sv s.1 (i : Int) = true → sv s.1 (j : Int) = false → m_spec_l19Spread_L2 ⟨xs⟩ (wires xs) K g (s.1.set j true) (s.2.1.set j (sv s.2.1 (i : Int) ^^ kk xs p)) true ((k : Int) + 1) = m_spec_l19Spread_L2 ⟨xs⟩ (wires xs) K g (rst xs s p).1 (rst xs s p).2.1 (rst xs s p).2.2 ((k : Int) + 1) := fun h1 h2 => by
        unfold rst dst
        rw [ei, ej, if_pos ⟨h1, h2⟩, if_pos ⟨h1, h2⟩]
        simp
      have stay : ¬ (sv s.1 (i : Int) = true ∧ sv s.1 (j : Int) = false) → rst xs s p = s := fun h => by
        unfold rst
        rw [ei, ej, if_neg h]
      have main : ∀ (q : DPort), q = peer xs p → ((getI s.1 p.agent).bind fun x49 => (bif x49 then ((getI s.1 q.agent).bind fun x56 => (bif x56 then (m_spec_l19Spread_L2 ⟨xs⟩ (wires xs) K g s.1 s.2.1 s.2.2 ((k : Int) + 1)) else ((getI s.1 q.agent).bind fun x62 => ((m_spec_l19At ⟨xs⟩ s.2.1 p).bind fun y74 => ((m_spec_l19At ⟨xs⟩ s.2.1 q).bind fun y78 => ((getI s.2.1 q.agent).bind fun x82 => (m_spec_l19Spread_L2 ⟨xs⟩ (wires xs) K g (setI s.1 q.agent true) (setI s.2.1 q.agent (y74 == y78)) true ((k : Int) + 1)))))))) else (m_spec_l19Spread_L2 ⟨xs⟩ (wires xs) K g s.1 s.2.1 s.2.2 ((k : Int) + 1)))) = m_spec_l19Spread_L2 ⟨xs⟩ (wires xs) K g (rst xs s p).1 (rst xs s p).2.1 (rst xs s p).2.2 ((k : Int) + 1) := fun q hq => by
        subst hq
        rw [a1, a2, ei, ej, hgi, hgj, hrj]
        simp only [Option.bind_some]
        cases h1 : sv s.1 (i : Int) with
        | false => rw [cond_false, stay (by rw [h1]; simp)]
        | true =>
          rw [cond_true]
          cases h2 : sv s.1 (j : Int) with
          | true => rw [cond_true, stay (by rw [h2]; simp)]
          | false =>
            rw [cond_false]
            have h3 := I.unk j hj h2
            simp only at h3
            rw [h3]
            have h4 := sp_val (xs := xs) (p := p) (r := sv s.2.1 (i : Int))
            rw [ei, ej] at h4
            rw [h4, setI_sv, setI_sv]
            exact fin (X := none) h1 h2
      by_cases hpar : k % 2 = 1
      · rw [if_pos hpar] at hpw
        subst hpw
        rw [show (((k % 2 : Nat) : Int) == 1) = true by rw [hpar]; rfl, cond_true]
        exact main w.a eba.symm
      · rw [if_neg hpar] at hpw
        subst hpw
        rw [show (((k % 2 : Nat) : Int) == 1) = false by simp; omega, cond_false]
        exact main w.b eab.symm)
    (fun g s _ => by
      simp -implicitDefEqProofs only [m_spec_l19Spread_L2, m_spec_l19Spread_B2]
      rw [hdl, show (2 * ((wires xs).length : Int)) = ((2 * (wires xs).length : Nat) : Int) by omega, ck_ok (by omega), Option.bind_some, dge, cond_false])
    (2 * (wires xs).length + 2) (kn, rev, b) (by omega) P
def cnt (l : List Bool) : Nat := l.count true
theorem cnt_set {l : List Bool} {j : Nat} (hj : j < l.length) (h : sv l (j : Int) = false) : cnt (l.set j true) = cnt l + 1 := by
  have h1 : l[j] = false := by
    rw [sv_nat (List.getElem?_eq_getElem hj)] at h; exact h
  unfold cnt
  rw [List.count_set hj, h1]
  simp
theorem rst_cases (G : Good xs) {s : List Bool × List Bool × Bool} {p : DPort} (P : PInv xs (s.1, s.2.1)) (hp : hasPort xs p = true) :
    (rst xs s p = s ∧ (sv s.1 p.agent = true → sv s.1 (peer xs p).agent = true)) ∨ ((rst xs s p).2.2 = true ∧ cnt (rst xs s p).1 = cnt s.1 + 1 ∧ ∀ i : Nat, sv s.1 (i : Int) = true → sv (rst xs s p).1 (i : Int) = true) := by
  have I := P.inv
  obtain ⟨i, ei, hi⟩ := port_nat hp
  obtain ⟨j, ej, hj⟩ := port_nat (G.peer hp).1
  have hl : s.1.length = xs.length := I.l1
  unfold rst dst
  rw [ei, ej]
  by_cases h : sv s.1 (i : Int) = true ∧ sv s.1 (j : Int) = false
  · rw [if_pos h, if_pos h]
    right
    refine ⟨rfl, ?_, fun a ha => ?_⟩
    · simp only [Int.toNat_natCast]
      exact cnt_set (by omega) h.2
    · simp only [Int.toNat_natCast]
      rw [sv_set (by omega)]
      split
      · rfl
      · exact ha
  · rw [if_neg h]
    left
    refine ⟨rfl, fun h1 => ?_⟩
    cases h2 : sv s.1 (j : Int) with
    | true => rfl
    | false => exact absurd ⟨h1, h2⟩ h
theorem fold_cases (G : Good xs) : ∀ (ps : List DPort) (s : List Bool × List Bool × Bool), (∀ p ∈ ps, hasPort xs p = true) → PInv xs (s.1, s.2.1) →
    (∀ i : Nat, sv s.1 (i : Int) = true → sv (ps.foldl (rst xs) s).1 (i : Int) = true) ∧ cnt s.1 ≤ cnt (ps.foldl (rst xs) s).1 ∧ (s.2.2 = true → (ps.foldl (rst xs) s).2.2 = true) ∧
    ((ps.foldl (rst xs) s = s ∧ ∀ p ∈ ps, sv s.1 p.agent = true → sv s.1 (peer xs p).agent = true) ∨ ((ps.foldl (rst xs) s).2.2 = true ∧ cnt s.1 < cnt (ps.foldl (rst xs) s).1))
  | [], s, _, _ => ⟨fun _ h => h, Nat.le_refl _, fun h => h, .inl ⟨rfl, fun p h => by cases h⟩⟩
  | p :: ps, s, hp, P => by
    have P' := rst_pinv G P (hp p (by simp))
    obtain ⟨f1, f2, f3, f4⟩ := fold_cases G ps (rst xs s p) (fun q hq => hp q (by simp [hq])) P'
    rw [List.foldl_cons]
    rcases rst_cases G P (hp p (by simp)) with ⟨e, h⟩ | ⟨h1, h2, h3⟩
    · rw [e] at f1 f2 f3 f4 ⊢
      refine ⟨f1, f2, f3, ?_⟩
      rcases f4 with ⟨e2, h2⟩ | h2
      · exact .inl ⟨e2, fun q hq => by
          rcases List.mem_cons.1 hq with rfl | hq
          · exact h
          · exact h2 q hq⟩
      · exact .inr h2
    · refine ⟨fun i hi => f1 i (h3 i hi), by omega, fun _ => f3 h1, .inr ⟨f3 h1, by omega⟩⟩
def Shut2 (xs : List DAgent) (kn : List Bool) : Prop := ∀ p, hasPort xs p = true → sv kn p.agent = true → sv kn (peer xs p).agent = true
theorem dws_ports (G : Good xs) : ∀ p ∈ dws (wires xs), hasPort xs p = true := fun p hp => by
  obtain ⟨w, hw, hpw⟩ := List.mem_flatMap.1 hp
  obtain ⟨h1, h2, _⟩ := wire_ports G hw
  simp at hpw
  rcases hpw with rfl | rfl <;> assumption
theorem sp_spread (G : Good xs) (hs : Small xs) {kn rev : List Bool} (P : PInv xs (kn, rev)) :
    ∃ kn' rev', m_spec_l19Spread ⟨xs⟩ kn rev (wires xs) = some (kn', rev') ∧ PInv xs (kn', rev') ∧ Shut2 xs kn' ∧ ∀ i : Nat, sv kn (i : Int) = true → sv kn' (i : Int) = true := by
  have key : ∀ (u g : Nat) (kn rev : List Bool), PInv xs (kn, rev) → xs.length - cnt kn ≤ u → u + 1 < g → ∃ kn' rev', m_spec_l19Spread_L1 ⟨xs⟩ (wires xs) m_spec_l19Spread_A1 g kn rev true = some (kn', rev') ∧ PInv xs (kn', rev') ∧ Shut2 xs kn' ∧ ∀ i : Nat, sv kn (i : Int) = true → sv kn' (i : Int) = true := by
    intro u
    induction u with
    | zero =>
      intro g kn rev P hu hg
      obtain ⟨g, rfl⟩ : ∃ g', g = g' + 2 := ⟨g - 2, by omega⟩
      have hr := sp_round G hs (m_spec_l19Spread_A2 (m_spec_l19Spread_L1 ⟨xs⟩ (wires xs) m_spec_l19Spread_A1 (g + 1))) kn rev false P
      obtain ⟨f1, f2, f3, f4⟩ := fold_cases G (dws (wires xs)) (kn, rev, false) (dws_ports G) P
      rcases f4 with ⟨e, h⟩ | ⟨h1, h2⟩
      · refine ⟨kn, rev, ?_, P, fun p hp => h p (port_dws G hp), fun _ h => h⟩
        rw [e] at hr
        simp -implicitDefEqProofs only [m_spec_l19Spread_L1, m_spec_l19Spread_B1, cond_true]
        refine hr.1.trans ?_
        simp -implicitDefEqProofs only [m_spec_l19Spread_A2, m_spec_l19Spread_L1, m_spec_l19Spread_B1, cond_false, m_spec_l19Spread_A1]
      · exfalso
        have h3 : cnt ((dws (wires xs)).foldl (rst xs) (kn, rev, false)).1 ≤ xs.length := by
          have := hr.2.inv.l1
          simp only at this
          rw [← this]; exact List.count_le_length
        simp only at h2
        omega
    | succ u ih =>
      intro g kn rev P hu hg
      obtain ⟨g, rfl⟩ : ∃ g', g = g' + 2 := ⟨g - 2, by omega⟩
      have hr := sp_round G hs (m_spec_l19Spread_A2 (m_spec_l19Spread_L1 ⟨xs⟩ (wires xs) m_spec_l19Spread_A1 (g + 1))) kn rev false P
      obtain ⟨f1, f2, f3, f4⟩ := fold_cases G (dws (wires xs)) (kn, rev, false) (dws_ports G) P
      rcases f4 with ⟨e, h⟩ | ⟨h1, h2⟩
      · refine ⟨kn, rev, ?_, P, fun p hp => h p (port_dws G hp), fun _ h => h⟩
        rw [e] at hr
        simp -implicitDefEqProofs only [m_spec_l19Spread_L1, m_spec_l19Spread_B1, cond_true]
        refine hr.1.trans ?_
        simp -implicitDefEqProofs only [m_spec_l19Spread_A2, m_spec_l19Spread_L1, m_spec_l19Spread_B1, cond_false, m_spec_l19Spread_A1]
      · simp only at h2
        obtain ⟨kn', rev', k1, k2, k3, k4⟩ := ih (g + 1) _ _ hr.2 (by omega) (by omega)
        refine ⟨kn', rev', ?_, k2, k3, fun i hi => k4 i (f1 i hi)⟩
        rw [← k1]
        have e0 : m_spec_l19Spread_L1 ⟨xs⟩ (wires xs) m_spec_l19Spread_A1 (g + 1 + 1) kn rev true = m_spec_l19Spread_L2 ⟨xs⟩ (wires xs) (m_spec_l19Spread_A2 (m_spec_l19Spread_L1 ⟨xs⟩ (wires xs) m_spec_l19Spread_A1 (g + 1))) (2 * (wires xs).length + 2) kn rev false 0 := rfl
        refine e0.trans (hr.1.trans ?_)
        unfold m_spec_l19Spread_A2
        rw [h1]
  unfold m_spec_l19Spread
  have hl : kn.length = xs.length := P.inv.l1
  exact key xs.length (kn.length + 2) kn rev P (by omega) (by omega)
theorem sp_orient (G : Good xs) (hs : Small xs) : ∃ rev, m_spec_l19Orient ⟨xs⟩ = some (rev, decide (firstBad xs rev = none)) ∧ First xs rev ∧ ((∃ S, Sol xs S) → Sol xs rev) ∧ Fits xs rev := by
  have h6 := G.len
  unfold m_spec_l19Orient
  rw [p_sWires (d := ⟨xs⟩) hs, Option.bind_some]
  show ∃ rev, m_spec_l19Orient_L1 ⟨xs⟩ (m_spec_l19Orient_A1 ⟨xs⟩ (wires xs)) (xs.length + 1) [] [] 0 = _ ∧ _
  have key := traj (L := fun g (s : (List Bool × List Bool) × Int) => m_spec_l19Orient_L1 ⟨xs⟩ (m_spec_l19Orient_A1 ⟨xs⟩ (wires xs)) g s.1.1 s.1.2 s.2) (st := fun k => (((xs.take k).map fun x => !turns x.kind, List.replicate k false), (k : Int))) (n := xs.length) (r := m_spec_l19Orient_A1 ⟨xs⟩ (wires xs) (xs.map fun x => !turns x.kind) (List.replicate xs.length false))
    (fun g k hk => by
      have hx := List.getElem?_eq_getElem hk
      simp -implicitDefEqProofs only [m_spec_l19Orient_L1, m_spec_l19Orient_B1, dlt hk, cond_true, getI_nat hx, Option.bind_some]
      rw [mustP_ok (by simp; omega), Option.bind_some, mustP_ok (by simp; omega), Option.bind_some, take_succ_some hx, List.map_append, List.replicate_succ']
      simp only [Int.natCast_add, Int.cast_ofNat_Int, List.map_cons, List.map_nil])
    (fun g => by simp -implicitDefEqProofs only [m_spec_l19Orient_L1, m_spec_l19Orient_B1, dge, cond_false, List.take_length]) (xs.length + 1) (Nat.lt_succ_self _)
  have key : m_spec_l19Orient_L1 ⟨xs⟩ (m_spec_l19Orient_A1 ⟨xs⟩ (wires xs)) (xs.length + 1) [] [] 0 = _ := key
  rw [key]
  unfold m_spec_l19Orient_A1
  obtain ⟨kn, rev, e1, P1, S1, M1⟩ := sp_spread G hs (start_pinv G)
  rw [e1, Option.bind_some]
  have hlen : (xs.map fun x => !turns x.kind).length = xs.length := List.length_map _
  rw [hlen]
  simp only
  have loop : ∀ (m k g : Nat) (kn rev : List Bool), k + m = xs.length → m < g → PInv xs (kn, rev) → Shut2 xs kn → (∀ j : Nat, j < k → sv kn (j : Int) = true) →
      ∃ kn' rev', m_spec_l19Orient_L2 ⟨xs⟩ (wires xs) (m_spec_l19Orient_A2 ⟨xs⟩ (wires xs)) g kn rev (k : Int) = m_spec_l19Orient_A2 ⟨xs⟩ (wires xs) rev' ∧ PInv xs (kn', rev') ∧ ∀ j : Nat, j < xs.length → sv kn' (j : Int) = true := by
    intro m
    induction m with
    | zero =>
      intro k g kn rev hk hg P hS hlow
      obtain ⟨g, rfl⟩ : ∃ g', g = g' + 1 := ⟨g - 1, by omega⟩
      have hl : kn.length = xs.length := P.inv.l1
      refine ⟨kn, rev, ?_, P, fun j hj => hlow j (by omega)⟩
      simp -implicitDefEqProofs only [m_spec_l19Orient_L2, m_spec_l19Orient_B2]
      rw [hl, show k = xs.length by omega, dge, cond_false]
    | succ m ih =>
      intro k g kn rev hk hg P hS hlow
      obtain ⟨g, rfl⟩ : ∃ g', g = g' + 1 := ⟨g - 1, by omega⟩
      have hl : kn.length = xs.length := P.inv.l1
      have hkl : k < kn.length := by omega
      cases hv : sv kn (k : Int) with
      | true =>
        obtain ⟨kn', rev', q1, q2, q3⟩ := ih (k + 1) g kn rev (by omega) (by omega) P hS (fun j hj => by
          by_cases e : j = k
          · subst e; exact hv
          · exact hlow j (by omega))
        refine ⟨kn', rev', ?_, q2, q3⟩
        rw [← q1]
        simp -implicitDefEqProofs only [m_spec_l19Orient_L2, m_spec_l19Orient_B2, dlt hkl, cond_true, getI_sv hkl, Option.bind_some, hv]
        simp only [Int.natCast_add, Int.cast_ofNat_Int]
      | false =>
        have P2 := pick_pinv G P hS (by omega) hv hlow
        obtain ⟨kn2, rev2, e2, P3, S3, M3⟩ := sp_spread G hs P2
        obtain ⟨kn', rev', q1, q2, q3⟩ := ih (k + 1) g kn2 rev2 (by omega) (by omega) P3 S3 (fun j hj => M3 j (by
          simp only
          rw [sv_set hkl]
          split
          · rfl
          · rename_i hne; exact hlow j (by omega)))
        refine ⟨kn', rev', ?_, q2, q3⟩
        rw [← q1]
        simp only at e2
        simp -implicitDefEqProofs only [m_spec_l19Orient_L2, m_spec_l19Orient_B2, dlt hkl, cond_true, getI_sv hkl, Option.bind_some, hv, cond_false, setI_sv, e2]
        simp only [Int.natCast_add, Int.cast_ofNat_Int]
  obtain ⟨kn', rev', q1, q2, q3⟩ := loop xs.length 0 (xs.length + 1) kn rev (by omega) (by omega) P1 S1 (fun j hj => by omega)
  obtain ⟨r1, r2, r3⟩ := end_pinv G q2 q3
  refine ⟨rev', ?_, r1, r2, r3⟩
  refine q1.trans ?_
  unfold m_spec_l19Orient_A2
  rw [p_sBad G r3, Option.bind_some]
  congr 2
  have hf := wires_find xs rev'
  rw [find_idx] at hf
  rw [Bool.eq_iff_iff]
  cases hi : (wires xs).findIdx? (badW xs rev') with
  | none => rw [hi] at hf; simp [← hf]
  | some i =>
    rw [hi] at hf
    have hl := (List.findIdx?_eq_some_iff_getElem.1 hi).1
    simp only at hf
    rw [List.getElem?_eq_getElem hl] at hf
    simp [← hf]
end
end
section
open Go.RowKit
set_option linter.unusedVariables false
set_option linter.unusedSimpArgs false
section
variable {xs : List DAgent}
def FixI (xs : List DAgent) (rev : List Bool) : Prop := ∀ (i : Nat) (x : DAgent), xs[i]? = some x → turns x.kind = false → sv rev (i : Int) = false
theorem fits_fix {rev : List Bool} (hl : rev.length = xs.length) (hf : FixI xs rev) : Fits xs rev :=
  ⟨hl, fun i hi => ⟨xs[i], rev[i]'(by rw [hl]; exact hi), List.getElem?_eq_getElem hi, List.getElem?_eq_getElem _, fun h => by
    cases ht : turns xs[i].kind with
    | true => rfl
    | false =>
      have h1 := hf i _ (List.getElem?_eq_getElem hi) ht
      rw [sv_nat (List.getElem?_eq_getElem (show i < rev.length by rw [hl]; exact hi)), h] at h1
      cases h1⟩⟩
theorem im_role (G : Good xs) {rev : List Bool} (hl : rev.length = xs.length) (hf : FixI xs rev) {p : DPort} (hp : hasPort xs p = true) : m_impl_Net_role ⟨xs⟩ p rev = some (roleSpec (agentAt xs p.agent).kind p.slot (sv rev p.agent)) := by
  obtain ⟨i, k, x, rfl, hx, hk, ha⟩ := hasPort_at hp
  have hi := lt_of_some hx
  have F := fits_fix hl hf
  have hr := List.getElem?_eq_getElem (show i < rev.length by omega)
  simp -implicitDefEqProofs only [m_impl_Net_role, getI_nat hx, getI_nat hr, Option.bind_some, agentAt_nat hx]
  rw [← role_eq G F hx hr hk, sv_nat hr]
theorem ok_val {rev : List Bool} {p : DPort} : (roleSpec (agentAt xs p.agent).kind p.slot (sv rev p.agent) == roleSpec (agentAt xs (peer xs p).agent).kind (peer xs p).slot (sv rev (peer xs p).agent)) = !okAt xs rev p := by
  rw [spec_bit]
  unfold okAt kk plp
  cases sv rev p.agent <;> cases sv rev (peer xs p).agent <;> cases (rolePlain (agentAt xs p.agent).kind p.slot == 2) <;> cases (rolePlain (agentAt xs (peer xs p).agent).kind (peer xs p).slot == 2) <;> rfl
theorem sst_gl {n : Nat} (hn : n = xs.length) {s : List Int × List Bool} {p : DPort} (G : Good xs) (hp : hasPort xs p = true) (h : GL n s.1) : GL n (sst xs s p).1 := by
  obtain ⟨j, e', hj⟩ := port_nat (G.peer hp).1
  unfold sst
  split
  · rename_i hc
    exact h.add (by rw [e']; omega) (by rw [e']; omega) hc.2
  · exact h
theorem runP_gl (G : Good xs) : ∀ (ps : List DPort) (s : List Int × List Bool), (∀ p ∈ ps, hasPort xs p = true) → GL xs.length s.1 → GL xs.length (runP xs ps s).2.1
  | [], s, _, h => h
  | p :: ps, s, hp, h => by
    have h1 := sst_gl rfl G (hp p (by simp)) h
    unfold runP
    split
    · exact runP_gl G ps _ (fun q hq => hp q (by simp [hq])) h1
    · exact h1
theorem pts_drop {i : Nat} {x : DAgent} (hx : xs[i]? = some x) {k : Nat} (hk : k < x.ports.length) : (ptsOf xs (i : Int)).drop k = (⟨(i : Int), (k : Int)⟩ : DPort) :: (ptsOf xs (i : Int)).drop (k + 1) := by
  have hl : (ptsOf xs (i : Int)).length = x.ports.length := by unfold ptsOf; rw [agentAt_nat hx]; simp
  rw [List.drop_eq_getElem_cons (by omega)]
  congr 1
  unfold ptsOf
  simp
theorem im_inner (G : Good xs) {gr : List Int} {r0 : List Bool} (R : Grp xs gr) {i : Nat} {x : DAgent} (hx : xs[i]? = some x) (hin : (i : Int) ∈ gr) (K : List Bool → MapM Int Bool → Option (Bool × List Bool)) : ∀ (m k g : Nat) (s : List Int × List Bool), k + m = x.ports.length → m < g → SI xs gr r0 s → GL xs.length s.1 → (i : Int) ∈ s.1 →
    m_impl_Net_spread_L2 ⟨xs⟩ (i : Int) x K g s.2 (k : Int) (mOf s.1) = if (runP xs ((ptsOf xs (i : Int)).drop k) s).1 = true then K (runP xs ((ptsOf xs (i : Int)).drop k) s).2.2 (mOf (runP xs ((ptsOf xs (i : Int)).drop k) s).2.1) else some (false, (runP xs ((ptsOf xs (i : Int)).drop k) s).2.2) := by
  have hn := G.len
  intro m
  induction m with
  | zero =>
    intro k g s hk hg I L hm
    obtain ⟨g, rfl⟩ : ∃ g', g = g' + 1 := ⟨g - 1, by omega⟩
    have hl : (ptsOf xs (i : Int)).length = x.ports.length := by unfold ptsOf; rw [agentAt_nat hx]; simp
    rw [List.drop_eq_nil_of_le (by omega), show k = x.ports.length by omega]
    simp -implicitDefEqProofs only [m_impl_Net_spread_L2, m_impl_Net_spread_B2, dge, cond_false, runP, if_true]
  | succ m ih =>
    intro k g s hk hg I L hm
    obtain ⟨g, rfl⟩ : ∃ g', g = g' + 1 := ⟨g - 1, by omega⟩
    have hkl : k < x.ports.length := by omega
    have hpk := List.getElem?_eq_getElem hkl
    have hp := hasPort_of hx hkl
    have epr := peer_of hx hpk
    rw [pts_drop hx hkl]
    generalize hpe : (⟨(i : Int), (k : Int)⟩ : DPort) = p at hp epr ⊢
    have hpa : p.agent = (i : Int) := by rw [← hpe]
    obtain ⟨I', m1, v1, q1⟩ := sst_keep G R I hp (by rw [hpa]; exact hin) (by rw [hpa]; exact hm)
    have L' := sst_gl rfl G hp L
    have hlen := L.len
    have hq := (G.peer hp).1
    obtain ⟨j, ej, hj⟩ := port_nat hq
    rw [epr] at ej
    have hy := List.getElem?_eq_getElem hj
    have hmo := mOf_ok s.1
    have ihs := ih (k + 1) g (sst xs s p) (by omega) (by omega) I' L' (m1 _ hm)
    have r1 := im_role G I.len I.fix hp
    have r2 := im_role G I.len I.fix hq
    have r1' := im_role G I'.len I'.fix hp
    have r2' := im_role G I'.len I'.fix hq
    have ov := ok_val (xs := xs) (rev := (sst xs s p).2) (p := p)
    rw [epr] at r2 r2' ov
    have ek : (k : Int) + 1 = ((k + 1 : Nat) : Int) := rfl
    have tail : (bif !okAt xs (sst xs s p).2 p then some (false, (sst xs s p).2) else m_impl_Net_spread_L2 ⟨xs⟩ (i : Int) x K g (sst xs s p).2 ((k : Int) + 1) (mOf (sst xs s p).1)) =
        if (runP xs (p :: (ptsOf xs (i : Int)).drop (k + 1)) s).1 = true then K (runP xs (p :: (ptsOf xs (i : Int)).drop (k + 1)) s).2.2 (mOf (runP xs (p :: (ptsOf xs (i : Int)).drop (k + 1)) s).2.1) else some (false, (runP xs (p :: (ptsOf xs (i : Int)).drop (k + 1)) s).2.2) := by
      unfold runP
      cases ho : okAt xs (sst xs s p).2 p with
      | true => rw [if_pos rfl, Bool.not_true, cond_false, ek, ihs]
      | false => rw [if_neg (by simp), Bool.not_false, cond_true, if_neg (by simp)]
    rw [← tail]
    simp -implicitDefEqProofs only [m_impl_Net_spread_L2, m_impl_Net_spread_B2, dlt hkl, cond_true, getI_nat hpk, Option.bind_some, ej, getI_nat hy, hpe, hmo.2]
    have stay : (turns xs[j].kind = false ∨ (j : Int) ∈ s.1) → sst xs s p = s := fun h => by
      unfold sst
      rw [epr, ej, agentAt_nat hy]
      rw [if_neg (fun h2 => by
        rcases h with h | h
        · rw [h] at h2; cases h2.1
        · exact h2.2 h)]
    cases ht : turns xs[j].kind with
    | false =>
      rw [stay (.inl ht)] at ov r1' r2' ⊢
      rw [cond_false, r1, Option.bind_some, r2, Option.bind_some, ov]
    | true =>
      rw [cond_true, ck_ok (by omega), Option.bind_some]
      by_cases hjk : (j : Int) ∈ s.1
      · rw [stay (.inr hjk)] at ov r1' r2' ⊢
        rw [decide_eq_true hjk, cond_true, r1, Option.bind_some, r2, Option.bind_some, ov]
      · have hjl : j < s.2.length := by have := I.len; omega
        rw [decide_eq_false hjk, cond_false, Option.bind_some, mustP_ok (by rw [hmo.1]; omega), Option.bind_some, getI_sv hjl, Option.bind_some]
        have hji : (i : Int) ≠ (j : Int) := fun e => hjk (by rw [← e]; exact hm)
        have s2 := fun a => sv_set (l := s.2) (i := j) (b := false) hjl a
        have f1 : FixI xs (s.2.set j false) := fun a y hya hty => by
          rw [s2]
          split
          · rfl
          · exact I.fix a y hya hty
        have l1 : (s.2.set j false).length = xs.length := by rw [List.length_set]; exact I.len
        have t1 := im_role G l1 f1 hp
        have t2 := im_role G l1 f1 hq
        rw [epr] at t2
        have h4 := sp_val (xs := xs) (p := p) (r := sv s.2 (i : Int))
        rw [epr, ej] at h4
        have e5 : sst xs s p = (s.1 ++ [(j : Int)], s.2.set j (sv s.2 (i : Int) ^^ kk xs p)) := by
          unfold sst
          rw [epr, ej, agentAt_nat hy, if_pos ⟨ht, hjk⟩, hpa]
          simp only [Int.toNat_natCast]
        rw [setI_sv, t1, Option.bind_some, t2, Option.bind_some, hpa, ej, s2, s2, if_neg (fun e => hji (by omega)), if_pos rfl]
        rw [hpa] at h4
        rw [h4, getI_sv (by rw [List.length_set]; exact hjl), Option.bind_some, setI_sv, List.set_set]
        rw [e5] at r1' r2' ov ⊢
        simp only at r1' r2' ov ⊢
        rw [r1', Option.bind_some, r2', Option.bind_some, ov, mOf_add]
theorem im_outer (G : Good xs) {gr : List Int} {r0 : List Bool} (R : Grp xs gr) (hprev : ∀ (k : Nat) (a : Int), gr[k]? = some a → 0 < k → ∃ (j : Nat) (b : Int), j < k ∧ gr[j]? = some b ∧ a ∈ nbT xs b) :
    ∀ (l done : List Int) (g : Nat) (s : List Int × List Bool), done ++ l = gr → l.length < g → SI xs gr r0 s → GL xs.length s.1 → (∀ a, gr[0]? = some a → a ∈ s.1) → (∀ b ∈ done, ∀ q ∈ nbT xs b, q ∈ s.1) →
    m_impl_Net_spread_L1 ⟨xs⟩ gr m_impl_Net_spread_A1 g s.2 (done.length : Int) (mOf s.1) = some ((runG xs l s).1, (runG xs l s).2.2)
  | [], done, g, s, hd, hg, I, L, h0, hn => by
    rw [List.append_nil] at hd
    subst hd
    obtain ⟨g, rfl⟩ : ∃ g', g = g' + 1 := ⟨g - 1, by omega⟩
    simp -implicitDefEqProofs only [m_impl_Net_spread_L1, m_impl_Net_spread_B1, dge, cond_false, m_impl_Net_spread_A1, runG]
  | a :: l, done, g, s, hd, hg, I, L, h0, hn => by
    have hka : gr[done.length]? = some a := by rw [← hd, List.getElem?_append_right (Nat.le_refl _)]; simp
    have hag : a ∈ gr := List.mem_of_getElem? hka
    have hak : a ∈ s.1 := by
      rcases Nat.eq_zero_or_pos done.length with h | h
      · rw [h] at hka; exact h0 a hka
      · obtain ⟨j, b, hj, hb, hab⟩ := hprev _ a hka h
        rw [← hd, List.getElem?_append_left hj] at hb
        exact hn b (List.mem_of_getElem? hb) a hab
    have ra := R.gl.inr a hag
    have hps : ∀ p ∈ ptsOf xs a, hasPort xs p = true ∧ p.agent ∈ gr ∧ p.agent ∈ s.1 := fun p hp => by
      obtain ⟨h1, h2⟩ := mem_pts ra.1 ra.2 hp
      rw [h2]; exact ⟨h1, hag, hak⟩
    obtain ⟨J, m2, v2, c2⟩ := runP_keep G R (ptsOf xs a) s I hps
    have L2 := runP_gl G (ptsOf xs a) s (fun p hp => (hps p hp).1) L
    obtain ⟨g, rfl⟩ : ∃ g', g = g' + 1 := ⟨g - 1, by omega⟩
    have hxn := G.len
    have hgl := R.gl.len
    have hdl := lt_of_some hka
    obtain ⟨i, rfl⟩ := Int.eq_ofNat_of_zero_le ra.1
    have hx := List.getElem?_eq_getElem (show i < xs.length by omega)
    have inner := im_inner G R hx hag (m_impl_Net_spread_A2 (m_impl_Net_spread_L1 ⟨xs⟩ gr m_impl_Net_spread_A1 g) (done.length : Int)) xs[i].ports.length 0 (xs[i].ports.length + 1) s (by omega) (by omega) I L hak
    rw [List.drop_zero] at inner
    have inner : m_impl_Net_spread_L2 ⟨xs⟩ (i : Int) xs[i] (m_impl_Net_spread_A2 (m_impl_Net_spread_L1 ⟨xs⟩ gr m_impl_Net_spread_A1 g) (done.length : Int)) (xs[i].ports.length + 1) s.2 0 (mOf s.1) = _ := inner
    simp -implicitDefEqProofs only [m_impl_Net_spread_L1, m_impl_Net_spread_B1, dlt hdl, cond_true, getI_nat hka, getI_nat hx, Option.bind_some]
    rw [inner]
    unfold runG
    cases hr : (runP xs (ptsOf xs (i : Int)) s).1 with
    | false => rw [if_neg (by simp), if_neg (by simp)]
    | true =>
      rw [if_pos rfl, if_pos rfl]
      have hc := c2 hr
      have rc := im_outer G R hprev l (done ++ [(i : Int)]) g (runP xs (ptsOf xs (i : Int)) s).2 (by rw [List.append_assoc]; exact hd) (by simp at hg; omega) J L2 (fun b hb => m2 b (h0 b hb))
        (fun b hb q hq => by
          rcases List.mem_append.1 hb with hb | hb
          · exact m2 q (hn b hb q hq)
          · simp at hb
            subst hb
            obtain ⟨ht, p, hp, e1, e2⟩ := nbT_port ra.1 ra.2 hq
            rw [← e2] at ht ⊢
            exact (hc p (by rw [← e1]; exact pts_mem hp)).2 ht)
      rw [← rc, m_impl_Net_spread_A2, ck_ok (by omega), Option.bind_some]
      simp only [List.length_append, List.length_cons, List.length_nil, Nat.zero_add, Int.natCast_add, Int.cast_ofNat_Int]
theorem im_spread (G : Good xs) {i : Nat} {x : DAgent} (hx : xs[i]? = some x) (ht : turns x.kind = true) (first : Bool) {rev : List Bool} (hl : rev.length = xs.length) (hfix : FixI xs rev) :
    m_impl_Net_spread ⟨xs⟩ (grp xs i) first rev = some ((tryG xs i first rev).1, (tryG xs i first rev).2.2) := by
  have hi := lt_of_some hx
  have hn := nbT_in G
  have hxn := G.len
  have R := grp_ok G hx ht
  have s2 := fun j => sv_set (l := rev) (i := i) (b := first) (by rw [hl]; exact hi) j
  have I : SI xs (grp xs i) rev ([(i : Int)], rev.set i first) := ⟨by simp [hl], fun a ha => by simp at ha; subst ha; exact grp_self i, fun j hj hnj => by
      simp only
      rw [s2, if_neg (fun e : i = j => hnj (by rw [← e]; exact grp_self i))], fun j y hy hty => by
      simp only
      rw [s2, if_neg (fun e => by subst e; rw [hx] at hy; injection hy with hy; rw [hy, hty] at ht; cases ht)]
      exact hfix j y hy hty⟩
  obtain ⟨t, htl⟩ := bf_head (nb := nbT xs) (s := (i : Int)) xs.length
  have h0 : (grp xs i)[0]? = some (i : Int) := by unfold grp; rw [htl]; rfl
  have key := im_outer G R (fun k a hk h0 => bf_prev hn (by omega) (by omega) xs.length k a hk h0) (grp xs i) [] ((grp xs i).length + 1) ([(i : Int)], rev.set i first) rfl (Nat.lt_succ_self _) I
    ⟨by simp, fun a ha => by simp at ha; subst ha; omega⟩
    (fun a ha => by rw [h0] at ha; injection ha with ha; simp [ha]) (fun b hb => by cases hb)
  have g0 : getI (grp xs i) 0 = some (i : Int) := getI_nat h0
  unfold m_impl_Net_spread
  rw [g0, Option.bind_some, ck_ok (by omega), Option.bind_some, mustP_ok (by simp [MapM.empty]), Option.bind_some, Option.bind_some, getI_sv (by rw [hl]; exact hi), Option.bind_some, setI_sv]
  exact key
theorem im_gin (G : Good xs) {i : Nat} {x : DAgent} (hx : xs[i]? = some x) (K : List Int → MapM Int Bool → Option (List Int)) {l : List Int} (hl : GL xs.length l) (g : Nat) (hg : x.ports.length < g) :
    m_impl_Net_group_L2 ⟨xs⟩ x K g l 0 (mOf l) = K ((nbT xs (i : Int)).foldl visit l) (mOf ((nbT xs (i : Int)).foldl visit l)) := by
  have hn := G.len
  have e : (nbT xs (i : Int)).foldl visit l = x.ports.foldl (fun l (p : DPort) => if turns (agentAt xs p.agent).kind = true then visit l p.agent else l) l := by
    unfold nbT
    rw [agentAt_nat hx, List.foldl_filter, List.foldl_map]
  rw [e]
  exact (foldL (L := fun g s k => m_impl_Net_group_L2 ⟨xs⟩ x K g s k (mOf s)) (d := x.ports) (f := fun l (p : DPort) => if turns (agentAt xs p.agent).kind = true then visit l p.agent else l) (I := fun _ s => GL xs.length s) (K := fun s => K s (mOf s))
    (fun g k p s hp hs => by
      have hk := lt_of_some hp
      obtain ⟨h0, h1⟩ := G.to hx hp
      have hlen := hs.len
      have hm := mOf_ok s
      obtain ⟨j, ej⟩ := Int.eq_ofNat_of_zero_le h0
      rw [ej] at h0 h1
      have hy := List.getElem?_eq_getElem (show j < xs.length by omega)
      rw [ej, agentAt_nat hy]
      simp -implicitDefEqProofs only [m_impl_Net_group_L2, m_impl_Net_group_B2, dlt hk, cond_true, getI_nat hp, Option.bind_some, hm.2, ej, getI_nat hy]
      cases ht : turns xs[j].kind with
      | false =>
        rw [cond_false, if_neg (by simp)]
        exact ⟨rfl, hs⟩
      | true =>
        rw [cond_true, if_pos rfl]
        refine ⟨?_, hs.visit h0 h1⟩
        rw [ck_ok (by omega), Option.bind_some]
        unfold visit
        by_cases ha : (j : Int) ∈ s
        · rw [decide_eq_true ha, cond_true, if_pos ha]
        · rw [decide_eq_false ha, cond_false, if_neg ha, Option.bind_some, mustP_ok (by rw [hm.1]; omega), Option.bind_some, mustP_ok (by simp; omega), Option.bind_some, mOf_add])
    (fun g s _ => by
      simp -implicitDefEqProofs only [m_impl_Net_group_L2, m_impl_Net_group_B2, dge, cond_false])
    g l hg hl).1
theorem im_group (G : Good xs) {i : Nat} (hi : i < xs.length) : m_impl_Net_group ⟨xs⟩ (i : Int) = some (grp xs i) := by
  have hn := G.len
  have hnb := nbT_in G
  have h0 : (0 : Int) ≤ (i : Int) := by omega
  have h1 : (i : Int) < (xs.length : Int) := by omega
  obtain ⟨K, hK, hK1, hK2⟩ := bf_end hnb h0 h1
  have hfin := bf_fin hnb h0 h1 hK hK1
  have hstep := steps (L := fun g (q : List Int × Int) => m_impl_Net_group_L1 ⟨xs⟩ m_impl_Net_group_A1 g q.1 q.2 (mOf q.1)) (st := fun k => (bf (nbT xs) (i : Int) k, (k : Int))) (n := K)
    (fun g k hk => by
      have hlt := hK2 k hk
      have ha := List.getElem?_eq_getElem hlt
      obtain ⟨a0, a1⟩ := (bf_ok hnb h0 h1 k).inr _ (List.getElem_mem hlt)
      obtain ⟨j, hj⟩ := Int.eq_ofNat_of_zero_le a0
      have hjl : j < xs.length := by omega
      have hx := List.getElem?_eq_getElem hjl
      rw [hj] at ha
      have hstep := bf_step ha
      have inner := im_gin G hx (m_impl_Net_group_A2 (m_impl_Net_group_L1 ⟨xs⟩ m_impl_Net_group_A1 g) (k : Int)) (bf_ok hnb h0 h1 k) (xs[j].ports.length + 1) (Nat.lt_succ_self _)
      simp -implicitDefEqProofs only [m_impl_Net_group_L1, m_impl_Net_group_B1, dlt hlt, cond_true, getI_nat ha, getI_nat hx, Option.bind_some]
      rw [inner, m_impl_Net_group_A2, ck_ok (by omega), Option.bind_some, hstep]
      simp only [Int.natCast_add, Int.cast_ofNat_Int]) (xs.length + 2 - K)
  have hcon : xs.length + 2 - K + K = xs.length + 2 := by omega
  rw [hcon] at hstep
  have hend : ∀ g, m_impl_Net_group_L1 ⟨xs⟩ m_impl_Net_group_A1 (g + 1) (bf (nbT xs) (i : Int) K) (K : Int) (mOf (bf (nbT xs) (i : Int) K)) = some (bf (nbT xs) (i : Int) K) := by
    intro g
    have : decide ((K : Int) < ((bf (nbT xs) (i : Int) K).length : Int)) = false := by simp; omega
    simp -implicitDefEqProofs only [m_impl_Net_group_L1, m_impl_Net_group_B1, this, cond_false, m_impl_Net_group_A1]
  unfold m_impl_Net_group
  rw [ck_ok (by omega), Option.bind_some, mustP_ok (by simp [MapM.empty]), Option.bind_some]
  refine Eq.trans hstep ?_
  obtain ⟨g', hg'⟩ : ∃ g', xs.length + 2 - K = g' + 1 := ⟨xs.length + 1 - K, by omega⟩
  rw [hg']
  unfold grp
  rw [hfin]
  exact hend g'
end
end
section
open Go.RowKit
set_option linter.unusedVariables false
set_option linter.unusedSimpArgs false
section
variable {xs : List DAgent}
open Classical in
noncomputable def orientOf (xs : List DAgent) : Option (List Bool) := if h : ∃ S, Sol xs S ∧ First xs S then some h.choose else none
theorem orientOf_some (G : Good xs) {S : List Bool} (h1 : Sol xs S) (h2 : First xs S) : orientOf xs = some S := by
  unfold orientOf
  have h : ∃ S, Sol xs S ∧ First xs S := ⟨S, h1, h2⟩
  rw [dif_pos h]
  congr 1
  exact sol_unique G h.choose_spec.1 h1 h.choose_spec.2 h2
theorem orientOf_none (h : ¬ ∃ S, Sol xs S) : orientOf xs = none := by
  unfold orientOf
  rw [dif_neg (fun ⟨S, h1, _⟩ => h ⟨S, h1⟩)]
theorem j_orient (G : Good xs) (hs : Small xs) : ∃ r, m_spec_l19Orient ⟨xs⟩ = some r ∧ ((orientOf xs = none ∧ r.2 = false) ∨ (orientOf xs = some r.1 ∧ r.2 = true)) := by
  obtain ⟨rev, e, h1, h2, h3⟩ := sp_orient G hs
  refine ⟨_, e, ?_⟩
  cases hb : firstBad xs rev with
  | none => exact .inr ⟨orientOf_some G (sol_of_fits G h3 hb) h1, by simp⟩
  | some w => exact .inl ⟨orientOf_none (fun h => by
      have := sol_bad G (h2 h)
      rw [hb] at this; cases this), by simp⟩
theorem im_orient (G : Good xs) : ∀ (m k g : Nat) (done : List Int) (rev : List Bool), k + m = xs.length → m < g → OI xs k done rev →
    (∃ done' rev', OI xs xs.length done' rev' ∧ m_impl_Net_orient_L1 ⟨xs⟩ (m_impl_Net_orient_A1 ⟨xs⟩) g rev (k : Int) (mOf done) = m_impl_Net_orient_A1 ⟨xs⟩ rev') ∨
    ((¬ ∃ S, Sol xs S) ∧ m_impl_Net_orient_L1 ⟨xs⟩ (m_impl_Net_orient_A1 ⟨xs⟩) g rev (k : Int) (mOf done) = some ([], false)) := by
  have hn := G.len
  intro m
  induction m with
  | zero =>
    intro k g done rev hk hg O
    obtain ⟨g, rfl⟩ : ∃ g', g = g' + 1 := ⟨g - 1, by omega⟩
    obtain rfl : k = xs.length := by omega
    refine .inl ⟨done, rev, O, ?_⟩
    simp -implicitDefEqProofs only [m_impl_Net_orient_L1, m_impl_Net_orient_B1, dge, cond_false]
  | succ m ih =>
    intro k g done rev hk hg O
    obtain ⟨g, rfl⟩ : ∃ g', g = g' + 1 := ⟨g - 1, by omega⟩
    have hkl : k < xs.length := by omega
    have hx := List.getElem?_eq_getElem hkl
    have hmo := mOf_ok done
    have ek : (k : Int) + 1 = ((k + 1 : Nat) : Int) := rfl
    have e0 : m_impl_Net_orient_L1 ⟨xs⟩ (m_impl_Net_orient_A1 ⟨xs⟩) (g + 1) rev (k : Int) (mOf done) = (bif (turns xs[k].kind) then (bif decide ((k : Int) ∈ done) then (m_impl_Net_orient_L1 ⟨xs⟩ (m_impl_Net_orient_A1 ⟨xs⟩) g rev ((k : Int) + 1) (mOf done)) else (m_impl_Net_orient_L2 (grp xs k) (m_impl_Net_orient_A2 ⟨xs⟩ (m_impl_Net_orient_L1 ⟨xs⟩ (m_impl_Net_orient_A1 ⟨xs⟩) g) rev (k : Int) (grp xs k)) ((grp xs k).length + 1) 0 (mOf done))) else (m_impl_Net_orient_L1 ⟨xs⟩ (m_impl_Net_orient_A1 ⟨xs⟩) g rev ((k : Int) + 1) (mOf done))) := by
      simp -implicitDefEqProofs only [m_impl_Net_orient_L1, m_impl_Net_orient_B1, dlt hkl, cond_true, getI_nat hx, Option.bind_some, hmo.2, im_group G hkl]
      rw [ck_ok (by omega), Option.bind_some]
    rw [e0]
    cases ht : turns xs[k].kind with
    | false =>
      rw [cond_false, ek]
      exact ih (k + 1) g done rev (by omega) (by omega) (OI_skip O fun y hy hty => by rw [hx] at hy; injection hy with hy; rw [← hy, ht] at hty; cases hty)
    | true =>
      rw [cond_true]
      by_cases hd : (k : Int) ∈ done
      · rw [decide_eq_true hd, cond_true, ek]
        exact ih (k + 1) g done rev (by omega) (by omega) (OI_skip O fun y hy hty => hd)
      · rw [decide_eq_false hd, cond_false]
        have R := grp_ok G hx ht
        have ap := grp_apart G O hx ht hd
        have hput : ∀ K : MapM Int Bool → Option (List Bool × Bool), m_impl_Net_orient_L2 (grp xs k) K ((grp xs k).length + 1) 0 (mOf done) = K (mOf (done ++ grp xs k)) := fun K => by
          have key := (foldL (L := fun g (s : List Int) i => m_impl_Net_orient_L2 (grp xs k) K g i (mOf s)) (d := grp xs k) (f := fun l a => l ++ [a]) (I := fun i s => s = done ++ (grp xs k).take i) (K := fun s => K (mOf s))
            (fun g i a s ha hs => by
              have hi := lt_of_some ha
              have hm := mOf_ok s
              have r := R.gl.inr a (List.mem_of_getElem? ha)
              have hll : s.length ≤ xs.length + xs.length := by
                have h1 := O.gl.len
                have h2 := R.gl.len
                rw [hs, List.length_append, List.length_take]; omega
              refine ⟨?_, by rw [hs, List.append_assoc, ← take_succ_some ha]⟩
              simp -implicitDefEqProofs only [m_impl_Net_orient_L2, m_impl_Net_orient_B2, dlt hi, cond_true, getI_nat ha, Option.bind_some]
              rw [ck_ok (by omega), Option.bind_some, mustP_ok (by rw [hm.1]; omega), Option.bind_some, mOf_add])
            (fun g s _ => by simp -implicitDefEqProofs only [m_impl_Net_orient_L2, m_impl_Net_orient_B2, dge, cond_false])
            ((grp xs k).length + 1) done (Nat.lt_succ_self _) (by simp))
          have e : ∀ (l m : List Int), l.foldl (fun l a => l ++ [a]) m = m ++ l := fun l => by
            induction l with
            | nil => intro m; simp
            | cons a l ih => intro m; rw [List.foldl_cons, ih]; simp
          rw [e] at key
          exact key.1
        rw [hput]
        unfold m_impl_Net_orient_A2
        have A1 := tryG_all G hx ht false O.len O.fix
        rw [im_spread G hx ht false O.len O.fix, Option.bind_some]
        dsimp only
        cases h1 : (tryG xs k false rev).1 with
        | true =>
          rw [cond_true, ck_ok (by omega), Option.bind_some, ek]
          exact ih (k + 1) g _ _ (by omega) (by omega) (OI_join G O hx ht hd (kn := (tryG xs k false rev).2.1) A1.1 (A1.2.2.1 h1) (fun h => by rw [A1.2.1] at h; cases h))
        | false =>
          rw [cond_false]
          have A2 := tryG_all G hx ht true A1.1.len A1.1.fix
          rw [im_spread G hx ht true A1.1.len A1.1.fix, Option.bind_some]
          dsimp only
          cases h2 : (tryG xs k true (tryG xs k false rev).2.2).1 with
          | true =>
            rw [cond_true, ck_ok (by omega), Option.bind_some, ek]
            exact ih (k + 1) g _ _ (by omega) (by omega) (OI_join G O hx ht hd (kn := (tryG xs k true (tryG xs k false rev).2.2).2.1) ⟨A2.1.len, A2.1.sub, fun i hi hni => (A2.1.out i hi hni).trans (A1.1.out i hi hni), A2.1.fix⟩ (A2.2.2.1 h2) (fun _ S hS => by
              cases h : sv S (k : Int) with
              | true => rfl
              | false => rw [A1.2.2.2 S hS h] at h1; cases h1))
          | false =>
            rw [cond_false]
            exact .inr ⟨no_sol G hx ht O.len O.fix A1.1.len A1.1.fix h1 h2, rfl⟩
theorem j_iorient (G : Good xs) (hs : Small xs) : ∃ r, m_impl_Net_orient ⟨xs⟩ = some r ∧ ((orientOf xs = none ∧ r.2 = false) ∨ (orientOf xs = some r.1 ∧ r.2 = true)) := by
  have hn := G.len
  unfold m_impl_Net_orient
  rw [mustP_ok (by simp only; omega), Option.bind_some]
  have h := im_orient G xs.length 0 (xs.length + 1) [] (List.replicate xs.length false) (by omega) (by omega) OI_start
  rcases h with ⟨done, rev, O, e⟩ | ⟨h, e⟩
  · obtain ⟨h1, h2, h3⟩ := OI_end G O
    have e2 : m_impl_Net_isOriented ⟨xs⟩ rev = some (decide (firstBad xs rev = none)) := by
      unfold m_impl_Net_isOriented
      rcases p_iFits ⟨xs⟩ rev with ⟨F, ef⟩ | ⟨F, ef⟩
      · rw [ef, Option.bind_some, cond_true, p_iBad G h1 hs, Option.bind_some]
        congr 1
        cases hf : firstBad xs rev <;> simp
      · exact absurd h1 F
    have e3 : m_impl_Net_orient_A1 ⟨xs⟩ rev = some (rev, decide (firstBad xs rev = none)) := by
      unfold m_impl_Net_orient_A1
      rw [e2, Option.bind_some]
    refine ⟨_, e.trans e3, ?_⟩
    cases hb : firstBad xs rev with
    | none =>
      have hS := sol_of_fits G h1 hb
      exact .inr ⟨orientOf_some G hS (h3 hS), by simp⟩
    | some w => exact .inl ⟨orientOf_none (fun h => by
        have := sol_bad G (h2 h)
        rw [hb] at this; cases this), by simp⟩
  · exact ⟨_, e, .inl ⟨orientOf_none h, rfl⟩⟩
end
noncomputable def orientNet (d : DNet) : List Bool × Int := bif validNet d then (match orientOf d.agents with | some S => (S, 0) | none => ([], 5)) else ([], 1)
noncomputable def isOrientable (d : DNet) : Bool := (orientNet d).2 == 0
theorem p_sIsOrientable (d : DNet) (hs : Small d.agents) : m_spec_IsOrientable d = some (isOrientable d) := by
  obtain ⟨xs⟩ := d
  unfold m_spec_IsOrientable isOrientable orientNet
  rw [p_ok _ hs, Option.bind_some]
  cases hv : validNet ⟨xs⟩ with
  | false => rfl
  | true =>
    obtain ⟨r, e, h⟩ := j_orient (good hv) hs
    rw [cond_true, cond_true, e, Option.bind_some]
    rcases h with ⟨h1, h2⟩ | ⟨h1, h2⟩
    · simp only [h1, h2]; rfl
    · simp only [h1, h2]; rfl
theorem p_iOrientNet (d : DNet) (hs : Small d.agents) : m_impl_OrientNet d = some (orientNet d) := by
  obtain ⟨xs⟩ := d
  unfold m_impl_OrientNet orientNet
  rw [p_valid _ hs, Option.bind_some]
  cases hv : validNet ⟨xs⟩ with
  | false => rfl
  | true =>
    obtain ⟨r, e, h⟩ := j_iorient (good hv) hs
    rw [cond_true, cond_true, e, Option.bind_some]
    rcases h with ⟨h1, h2⟩ | ⟨h1, h2⟩
    · simp only [h1, h2, cond_false]
    · simp only [h1, h2, cond_true]
theorem p_iIsOrientable (d : DNet) (hs : Small d.agents) : m_impl_IsOrientable d = some (isOrientable d) := by
  unfold m_impl_IsOrientable isOrientable
  rw [p_iOrientNet d hs, Option.bind_some]
end
section
open Go.RowKit
set_option linter.unusedVariables false
theorem specIsOrientable_v (v : Value) (x : DNet) (w : World) {B : Nat} (h : RdT netRd w B v x) (hB : B ≤ w.heap.size) (hs : szNet x ≤ 1048576) :
    Calls Try.prog 17 #[v] w fun e w' => e = .returned (.bool (isOrientable x)) ∧ Below w.heap.size w w' :=
  c_m_spec_IsOrientable x _ (p_sIsOrientable x hs) v w (h.more netRd_ok hB)
theorem implIsOrientable_v (v : Value) (x : DNet) (w : World) {B : Nat} (h : RdT netRd w B v x) (hB : B ≤ w.heap.size) (hs : szNet x ≤ 1048576) :
    Calls Try.prog 18 #[v] w fun e w' => e = .returned (.bool (isOrientable x)) ∧ Below w.heap.size w w' :=
  c_m_impl_IsOrientable x _ (p_iIsOrientable x hs) v w (h.more netRd_ok hB)
end
section
open Go.RowKit
set_option linter.unusedVariables false
set_option linter.unusedSimpArgs false
theorem szInt64S_v (v : Value) (xs : List Int) (left : Int) (w : World) {B : Nat} (h : RdS intRd 1 w B v xs) (hB : B ≤ w.heap.size) (h0 : 0 ≤ left) (h1 : left ≤ 1048576) :
    Calls Try.prog 118 #[v, .int .i64 left] w fun e w' => e = .returned (.int .i64 (szL left xs.length)) ∧ Below w.heap.size w w' := by
  obtain ⟨A, n, c, rfl, h, hnc, hcm⟩ := h
  have hr := Below.refl w.heap.size w
  have hl := h.len
  rw [← hl]
  unfold maxLen at hcm
  clear h hl
  by_cases hl : left - n < 0
  · have He := Lib.hid (szL_neg hl)
    go_enter Try.func118, Try.ntmps118
    go_wp2
    go_ret
    exact ⟨by rw [He.out]; rfl, hr⟩
  · have He := Lib.hid (szL_pos hl)
    go_enter Try.func118, Try.ntmps118
    go_wp2
    go_ret
    exact ⟨by rw [He.out]; rfl, hr⟩
theorem szPortS_v (v : Value) (xs : List DPort) (left : Int) (w : World) {B : Nat} (h : RdS portRd 2 w B v xs) (hB : B ≤ w.heap.size) (h0 : 0 ≤ left) (h1 : left ≤ 1048576) :
    Calls Try.prog 119 #[v, .int .i64 left] w fun e w' => e = .returned (.int .i64 (szL left xs.length)) ∧ Below w.heap.size w w' := by
  obtain ⟨A, n, c, rfl, h, hnc, hcm⟩ := h
  have hr := Below.refl w.heap.size w
  have hl := h.len
  rw [← hl]
  unfold maxLen at hcm
  clear h hl
  by_cases hl : left - n < 0
  · have He := Lib.hid (szL_neg hl)
    go_enter Try.func119, Try.ntmps119
    go_wp2
    go_ret
    exact ⟨by rw [He.out]; rfl, hr⟩
  · have He := Lib.hid (szL_pos hl)
    go_enter Try.func119, Try.ntmps119
    go_wp2
    go_ret
    exact ⟨by rw [He.out]; rfl, hr⟩
set_option maxHeartbeats 1000000 in
theorem szAgent_v (v : Value) (x : DAgent) (left : Int) (w : World) {B : Nat} (h : RdT agentRd w B v x) (hB : B ≤ w.heap.size) (h0 : 0 ≤ left) (h1 : left ≤ 1048576) :
    Calls Try.prog 71 #[v, .int .i64 left] w fun e w' => e = .returned (.int .i64 (szL left (szAgent x))) ∧ Below w.heap.size w w' := by
  obtain ⟨cs, rfl, A1, n1, c1, A2, n2, c2, rfl, ⟨g1, r1⟩, ⟨g2, r2⟩⟩ := h
  have hb : ∀ o1, Below w.heap.size w (w.alloc o1) := fun o1 => (Below.refl _ _).alloc (Nat.le_refl _) _
  obtain ⟨s0, es0⟩ : ∃ s : Nat, s = x.data.length := ⟨_, rfl⟩
  obtain ⟨s1, es1⟩ : ∃ s : Nat, s = x.ports.length := ⟨_, rfl⟩
  have Hs : Hid (szAgent x = s0 + s1) := by show _ = _; rw [es0, es1]; rfl
  have Es0 := Lib.hid es0
  have Es1 := Lib.hid es1
  clear es0 es1
  by_cases d0 : left - (s0 : Int) < 0
  · have He : Hid (szL left (szAgent x) = -1) := by show _ = _; rw [Hs.out, szL_neg (by omega)]
    go_enter Try.func71, Try.ntmps71
    go_wp2_with fail
    refine (szInt64S_v _ x.data (left) _ (B := B) ⟨A1, n1, c1, rfl, g1.below intRd_ok ((hb _).mono hB), r1⟩ (Nat.le_trans hB (hb _).size) (by omega) (by omega)).mono ?_
    rw [← Es0.out, szL_neg (by omega)]
    rintro e w1 ⟨rfl, q1⟩
    have T := (hb _).trans (q1.mono (hb _).size)
    have B1 := (Blk.new w _ _).below q1 (by simp)
    have z1 : w.heap.size + 1 ≤ w1.heap.size := by have := q1.size; simpa using this
    clear q1
    go_wp2_with fail
    go_ret
    exact ⟨by rw [He.out]; rfl, T⟩
  · skip
    by_cases d1 : left - s0 - (s1 : Int) < 0
    · have He : Hid (szL left (szAgent x) = -1) := by show _ = _; rw [Hs.out, szL_neg (by omega)]
      go_enter Try.func71, Try.ntmps71
      go_wp2_with fail
      refine (szInt64S_v _ x.data (left) _ (B := B) ⟨A1, n1, c1, rfl, g1.below intRd_ok ((hb _).mono hB), r1⟩ (Nat.le_trans hB (hb _).size) (by omega) (by omega)).mono ?_
      rw [← Es0.out, szL_pos (by omega)]
      rintro e w1 ⟨rfl, q1⟩
      have T := (hb _).trans (q1.mono (hb _).size)
      have B1 := (Blk.new w _ _).below q1 (by simp)
      have z1 : w.heap.size + 1 ≤ w1.heap.size := by have := q1.size; simpa using this
      clear q1
      have cB := B1.cell
      go_wp2_with fail
      clear cB
      refine (szPortS_v _ x.ports (left - s0) _ (B := B) ⟨A2, n2, c2, rfl, g2.below portRd_ok ((T).mono hB), r2⟩ (Nat.le_trans hB (T).size) (by omega) (by omega)).mono ?_
      rw [← Es1.out, szL_neg (by omega)]
      rintro e w2 ⟨rfl, q2⟩
      have T := T.trans (q2.mono T.size)
      have B1 := B1.below q2 (by omega)
      have z2 := Nat.le_trans z1 q2.size
      clear q2
      go_wp2_with fail
      go_ret
      exact ⟨by rw [He.out]; rfl, T⟩
    · skip
      have He : Hid (szL left (szAgent x) = left - s0 - s1) := by show _ = _; rw [Hs.out, szL_pos (by omega)]; try omega
      go_enter Try.func71, Try.ntmps71
      go_wp2_with fail
      refine (szInt64S_v _ x.data (left) _ (B := B) ⟨A1, n1, c1, rfl, g1.below intRd_ok ((hb _).mono hB), r1⟩ (Nat.le_trans hB (hb _).size) (by omega) (by omega)).mono ?_
      rw [← Es0.out, szL_pos (by omega)]
      rintro e w1 ⟨rfl, q1⟩
      have T := (hb _).trans (q1.mono (hb _).size)
      have B1 := (Blk.new w _ _).below q1 (by simp)
      have z1 : w.heap.size + 1 ≤ w1.heap.size := by have := q1.size; simpa using this
      clear q1
      have cB := B1.cell
      go_wp2_with fail
      clear cB
      refine (szPortS_v _ x.ports (left - s0) _ (B := B) ⟨A2, n2, c2, rfl, g2.below portRd_ok ((T).mono hB), r2⟩ (Nat.le_trans hB (T).size) (by omega) (by omega)).mono ?_
      rw [← Es1.out, szL_pos (by omega)]
      rintro e w2 ⟨rfl, q2⟩
      have T := T.trans (q2.mono T.size)
      have B1 := B1.below q2 (by omega)
      have z2 := Nat.le_trans z1 q2.size
      clear q2
      go_wp2_with fail
      go_ret
      exact ⟨by rw [He.out]; rfl, T⟩
theorem szAgentS_take {xs : List DAgent} {k : Nat} {x : DAgent} (h : xs[k]? = some x) : ((xs.take (k + 1)).map szAgent).sum = ((xs.take k).map szAgent).sum + szAgent x := by
  rw [take_succ_some h]; simp
theorem szAgentS_le (xs : List DAgent) (k : Nat) : ((xs.take k).map szAgent).sum ≤ (xs.map szAgent).sum := by
  have h : ((xs.take k ++ xs.drop k).map szAgent).sum = (xs.map szAgent).sum := by rw [List.take_append_drop]
  rw [List.map_append, List.sum_append] at h
  omega
set_option maxHeartbeats 1000000 in
theorem szAgentS_v (v : Value) (xs : List DAgent) (left : Int) (w : World) {B : Nat} (h : RdS agentRd 5 w B v xs) (hB : B ≤ w.heap.size) (h0 : 0 ≤ left) (h1 : left ≤ 1048576) :
    Calls Try.prog 34 #[v, .int .i64 left] w fun e w' => e = .returned (.int .i64 (szL left (szAgentS xs))) ∧ Below w.heap.size w w' := by
  obtain ⟨A, n, c, rfl, hx, hnc, hcm⟩ := h
  have hr := Below.refl w.heap.size w
  unfold maxLen at hcm
  have lx := Lib.hid hx.len
  by_cases hl : left - n < 0
  · have He : Hid (szL left (szAgentS xs) = -1) := szL_neg (by unfold szAgentS; rw [← lx.out]; omega)
    go_enter Try.func34, Try.ntmps34
    go_wp2
    go_ret
    exact ⟨by rw [He.out]; rfl, hr⟩
  · go_enter Try.func34, Try.ntmps34
    go_wp2
    go_loopw [1, 5] (fun s i wr => ∃ (k : Nat) (l : Int), k ≤ n ∧ i = .int .i64 k ∧ s = .int .i64 l ∧ 0 ≤ l ∧ l ≤ 1048576 ∧ Hid (l = left - n - (((xs.take k).map szAgent).sum : Nat)) ∧ Below w.heap.size w wr) (fun _ i _ => n - (intOf i).toNat)
    case atStart => exact ⟨0, left - n, by omega, rfl, rfl, by omega, by omega, by simp [Hid], hr⟩
    case round =>
      obtain ⟨k, s, hk, rfl, rfl, hs0, hs1, hs, hq⟩ := hrel
      by_cases hlt : k < n
      · obtain ⟨b, off, x, A1, n1, c1, A2, n2, c2, rfl, hb, hxk, hc0, hc1, hc2, hc3, hc4, ⟨g1, r1⟩, ⟨g2, r2⟩⟩ := (hx.below agentRd_ok (hq.mono hB)).agent hlt
        have Hxk := Lib.hid hxk
        clear hxk
        by_cases hd : s - (szAgent x : Int) < 0
        · have f := szL_neg hd
          have He : Hid (szL left (szAgentS xs) = -1) := szL_neg (by
            have e1 := szAgentS_le xs (k + 1)
            rw [szAgentS_take Hxk.out] at e1
            have e2 := hs.out
            have e3 := lx.out
            unfold szAgentS
            omega)
          go_wp2_with fail
          refine (szAgent_v _ x s _ (B := B) ⟨_, rfl, A1, n1, c1, A2, n2, c2, rfl, ⟨g1, r1⟩, ⟨g2, r2⟩⟩ (Nat.le_trans hB hq.size) hs0 hs1).mono ?_
          rintro e w1 ⟨rfl, q1⟩
          go_wp2_with fail
          go_ret
          exact ⟨by rw [He.out]; rfl, hq.trans (q1.mono hq.size)⟩
        · have f := szL_pos hd
          have Hn : Hid (s - (szAgent x : Int) = left - n - (((xs.take (k + 1)).map szAgent).sum : Nat)) := by
            have e1 := szAgentS_take Hxk.out
            have e2 := hs.out
            show _ = _
            rw [e1]
            omega
          go_wp2_with fail
          refine (szAgent_v _ x s _ (B := B) ⟨_, rfl, A1, n1, c1, A2, n2, c2, rfl, ⟨g1, r1⟩, ⟨g2, r2⟩⟩ (Nat.le_trans hB hq.size) hs0 hs1).mono ?_
          rintro e w1 ⟨rfl, q1⟩
          go_wp2_with fail
          go_roundw
          case rel => exact ⟨k + 1, s - (szAgent x : Int), by omega, by go_num, rfl, by omega, by omega, Hn.out, hq.trans (q1.mono hq.size)⟩
          case measure => simp [intOf]; omega
      · have He : Hid (szL left (szAgentS xs) = s) := by
          have e1 : xs.take k = xs := List.take_of_length_le (by have := lx.out; omega)
          have e2 := hs.out
          rw [e1] at e2
          have e3 := lx.out
          show _ = _
          rw [szL_pos (by unfold szAgentS; omega)]
          unfold szAgentS
          omega
        go_wp2_with fail
        go_ret
        exact ⟨by rw [He.out]; rfl, hq⟩
set_option maxHeartbeats 1000000 in
theorem szNet_v (v : Value) (x : DNet) (left : Int) (w : World) {B : Nat} (h : RdT netRd w B v x) (hB : B ≤ w.heap.size) (h0 : 0 ≤ left) (h1 : left ≤ 1048576) :
    Calls Try.prog 8 #[v, .int .i64 left] w fun e w' => e = .returned (.int .i64 (szL left (szNet x))) ∧ Below w.heap.size w w' := by
  obtain ⟨cs, rfl, A1, n1, c1, rfl, ⟨g1, r1⟩⟩ := h
  have hb : ∀ o1, Below w.heap.size w (w.alloc o1) := fun o1 => (Below.refl _ _).alloc (Nat.le_refl _) _
  obtain ⟨s0, es0⟩ : ∃ s : Nat, s = szAgentS x.agents := ⟨_, rfl⟩
  have Hs : Hid (szNet x = s0) := by show _ = _; rw [es0]; rfl
  have Es0 := Lib.hid es0
  clear es0
  by_cases d0 : left - (s0 : Int) < 0
  · have He : Hid (szL left (szNet x) = -1) := by show _ = _; rw [Hs.out, szL_neg (by omega)]
    go_enter Try.func8, Try.ntmps8
    go_wp2_with fail
    refine (szAgentS_v _ x.agents (left) _ (B := B) ⟨A1, n1, c1, rfl, g1.below agentRd_ok ((hb _).mono hB), r1⟩ (Nat.le_trans hB (hb _).size) (by omega) (by omega)).mono ?_
    rw [← Es0.out, szL_neg (by omega)]
    rintro e w1 ⟨rfl, q1⟩
    have T := (hb _).trans (q1.mono (hb _).size)
    have B1 := (Blk.new w _ _).below q1 (by simp)
    have z1 : w.heap.size + 1 ≤ w1.heap.size := by have := q1.size; simpa using this
    clear q1
    go_wp2_with fail
    go_ret
    exact ⟨by rw [He.out]; rfl, T⟩
  · skip
    have He : Hid (szL left (szNet x) = left - s0) := by show _ = _; rw [Hs.out, szL_pos (by omega)]; try omega
    go_enter Try.func8, Try.ntmps8
    go_wp2_with fail
    refine (szAgentS_v _ x.agents (left) _ (B := B) ⟨A1, n1, c1, rfl, g1.below agentRd_ok ((hb _).mono hB), r1⟩ (Nat.le_trans hB (hb _).size) (by omega) (by omega)).mono ?_
    rw [← Es0.out, szL_pos (by omega)]
    rintro e w1 ⟨rfl, q1⟩
    have T := (hb _).trans (q1.mono (hb _).size)
    have B1 := (Blk.new w _ _).below q1 (by simp)
    have z1 : w.heap.size + 1 ≤ w1.heap.size := by have := q1.size; simpa using this
    clear q1
    go_wp2_with fail
    go_ret
    exact ⟨by rw [He.out]; rfl, T⟩
end
section
open Go.RowKit
set_option linter.unusedVariables false
set_option linter.unusedSimpArgs false
theorem toPort_v (v : Value) (x : DPort) (w : World) {B : Nat} (h : RdT portRd w B v x) :
    Calls Try.prog 153 #[v] w fun e w' => e = .returned (.agg #[.int .i64 x.agent, .int .i64 x.slot]) ∧ Below w.heap.size w w' := by
  obtain ⟨cs, rfl, rfl⟩ := h
  go_enter Try.func153, Try.ntmps153
  go_wp2_with fail
  exact bodyPost_ret (v := .agg #[.int .i64 x.agent, .int .i64 x.slot]) (by simp [results, Try.results153, go_sem]) rfl ⟨rfl, (((Below.refl _ _).alloc (Nat.le_refl _) _).alloc (by simp) _).alloc (by simp; omega) _⟩
theorem info_PortS : (Try.prog.info? 81).map (fun i => (i.zero, i.size, i.bytes)) = some (some (.agg #[.int .i64 0, .int .i64 0]), 2, 16) := by kernel_rfl
set_option maxHeartbeats 1000000 in
theorem toPortS_v (v : Value) (xs : List DPort) (w : World) {B : Nat} (h : RdS portRd 2 w B v xs) (hB : B ≤ w.heap.size) (hs : xs.length ≤ 1048576) :
    Calls Try.prog 125 #[v] w fun e w' => Ret1 (fun v' => OwS portOw 2 w' v' xs w.heap.size w'.heap.size) e ∧ Below w.heap.size w w' := by
  obtain ⟨A, n, c, rfl, hx, hnc, hcm⟩ := h
  have lx := Lib.hid hx.len
  have hlen := hs
  have hn : n ≤ 1048576 := by have := lx.out; omega
  have hmk := run_make_sz 120 81 Try.underlying120 info_PortS n (by omega) (by omega)
  go_enter Try.func125, Try.ntmps125
  go_wp2
  clear hmk
  go_loopw [4] (fun i wr => ∃ k : Nat, k ≤ n ∧ i = .int .i64 k ∧ Below w.heap.size w wr ∧ w.heap.size + 1 ≤ wr.heap.size ∧ (∃ arr, Blk wr w.heap.size 81 arr ∧ Hid (arr.size = n * 2)) ∧ ∃ bs, ElAt portOw 2 wr w.heap.size 0 (xs.take k) bs ∧ bs.Nodup ∧ ∀ b ∈ bs, w.heap.size + 1 ≤ b ∧ b < wr.heap.size) (fun i _ => n - (intOf i).toNat)
  case atStart => exact ⟨0, by omega, rfl, (Below.refl _ _).alloc (Nat.le_refl _) _, by simp, ⟨_, Blk.new _ _ _, by simp [Hid, madeCells_size]⟩, [], rfl, List.nodup_nil, fun b hb => by simp at hb⟩
  case round =>
    obtain ⟨k, hk, rfl, hb, hzz, ⟨arr, BA, hasz⟩, bs, hel, hnd, hin⟩ := hrel
    by_cases hlt : k < n
    · obtain ⟨b, off, x, rfl, hlb, hxk, hc0, hc1⟩ := (hx.below portRd_ok (hb.mono hB)).port hlt
      have Hxk := Lib.hid hxk
      clear hxk
      go_wp2_with fail
      refine (toPort_v _ x _ (B := 0) ⟨_, rfl, rfl⟩).mono ?_
      rintro e w1 ⟨rfl, q1⟩
      obtain ⟨bl, HO, nd1, in1⟩ : ∃ bl, portOw w1 [.int .i64 x.agent, .int .i64 x.slot] x bl ∧ bl.Nodup ∧ ∀ b ∈ bl, wr.heap.size ≤ b ∧ b < w1.heap.size := ⟨[], ⟨rfl, rfl⟩, List.nodup_nil, fun b hb => by simp at hb⟩
      have BA := BA.below q1 (by omega)
      obtain ⟨z0, hz0⟩ := BA.some_ (i := k * 2) (by rw [hasz.out]; omega)
      obtain ⟨z1, hz1⟩ := BA.some_ (i := k * 2 + 1) (by rw [hasz.out]; omega)
      have fz := BA.frozen
      have zz := q1.size
      have Hel := Lib.hid (hel.keep portOw_ok (q1.block _ (by omega)) (fun k hk => q1.block k (hin k hk).2))
      clear hel
      have TB : ∀ y0 y1, Below w.heap.size w ((w1.setCell ⟨w.heap.size, k * 2, none⟩ y0).setCell ⟨w.heap.size, k * 2 + 1, none⟩ y1) := fun y0 y1 => (((hb.trans (q1.mono hb.size)).setCell (p := ⟨w.heap.size, k * 2, none⟩) (Nat.le_refl _) _).setCell (p := ⟨w.heap.size, k * 2 + 1, none⟩) (Nat.le_refl _) _)
      go_wp2_with fail
      go_roundw
      case rel =>
        refine ⟨k + 1, by omega, by go_num, TB _ _, by simp [World.setCell]; omega, ⟨_, ((BA.set_ (k * 2) _).set_ (k * 2 + 1) _), by simpa [Hid] using hasz⟩, bs ++ bl, ?_⟩
        rw [take_succ_some Hxk.out]
        have hlk : (xs.take k).length = k := by have := lx.out; simp; omega
        have h1 := ElAt.setRun portOw_ok (vs := [.int .i64 x.agent, .int .i64 x.slot]) (p := k * 2) Hel.out (fun hh => by have := hin _ hh; omega) (Or.inr (by rw [hlk]; omega))
        have hnn := nodup_two hnd nd1 hin in1 hzz zz
        refine ⟨ElAt.append h1 (ElAt.one (portOw_ok.keep (w' := setRun w1 w.heap.size (k * 2) [.int .i64 x.agent, .int .i64 x.slot]) (fun b hb => setRun_block (fun e => by have := in1 b hb; omega)) HO) ?_), hnn.1, fun b hb => by have := hnn.2 b hb; simp only [World.size_setCell]; exact this⟩
        rw [hlk, Nat.zero_add]
        exact setRun_csAt (vs := [.int .i64 x.agent, .int .i64 x.slot]) (fun j hj => by
          have hj : j < 2 := by simpa using hj
          match j, hj with
          | 0, _ => exact ⟨z0, hz0⟩
          | 1, _ => exact ⟨z1, hz1⟩) (fun j hj => fz _)
      case measure => simp [intOf]; omega
    · have hkn : k = n := by omega
      have e : xs.take k = xs := List.take_of_length_le (by have := lx.out; omega)
      rw [e] at hel
      have Hkn := Lib.hid hkn
      clear hkn e
      go_wp2
      go_ret
      exact ⟨⟨_, rfl, some ⟨w.heap.size, 0, none⟩, n, n, w.heap.size :: bs, rfl, ⟨lx.out, .inr ⟨_, _, bs, rfl, rfl, hel⟩⟩, List.nodup_cons.2 ⟨fun hh => by have := hin _ hh; omega, hnd⟩, fun b hb => by
        rcases List.mem_cons.1 hb with rfl | hb
        · omega
        · have := hin b hb; omega, Nat.le_refl _, by unfold maxLen; omega⟩, hb⟩
end
section
open Go.RowKit
set_option linter.unusedVariables false
set_option linter.unusedSimpArgs false
set_option maxHeartbeats 1000000 in
theorem toAgent_v (v : Value) (x : DAgent) (w : World) {B : Nat} (h : RdT agentRd w B v x) (hB : B ≤ w.heap.size) (hs : szAgent x ≤ 1048576) :
    Calls Try.prog 78 #[v] w fun e w' => Ret1 (fun v' => OwT agentOw w' v' x w.heap.size w'.heap.size) e ∧ Below w.heap.size w w' := by
  obtain ⟨cs, rfl, A1, n1, c1, A2, n2, c2, rfl, ⟨h1, r1⟩, ⟨h2, r2⟩⟩ := h
  unfold szAgent at hs
  have hb : ∀ o1 o2 o3, Below w.heap.size w (((w.alloc o1).alloc o2).alloc o3) := fun o1 o2 o3 => (((Below.refl _ _).alloc (Nat.le_refl _) _).alloc (by simp) _).alloc (by simp; omega) _
  go_enter Try.func78, Try.ntmps78
  go_wp2_with fail
  refine (toInt64S_v _ x.data _ (B := B) ⟨A1, n1, c1, rfl, h1.below intRd_ok ((hb _ _ _).mono hB), r1⟩ (Nat.le_trans hB (hb _ _ _).size) (by first | omega | (unfold lenOk; omega))).mono ?_
  rintro e w1 ⟨⟨v1, rfl, O1⟩, q1⟩
  have z1 : w.heap.size + 1 + 1 + 1 ≤ w1.heap.size := by have := q1.size; simpa using this
  have O1 := O1.wide (lo' := w.heap.size + 1 + 1 + 1) (hi' := w1.heap.size) (by simp) (Nat.le_refl _)
  obtain ⟨A1', m1, d1, bs1, rfl, ow1, nd1, in1, rr1⟩ := O1
  have T1 := (hb _ _ _).trans (q1.mono (hb _ _ _).size)
  have BB := blk3_0.below q1 (by simp <;> omega)
  have BR := blk3_1.below q1 (by simp <;> omega)
  have BO := blk3_2.below q1 (by simp <;> omega)
  clear q1
  have cB := BB.cell
  have cO := BO.cell
  have fO := BO.frozen
  go_wp2_with fail
  clear cB cO fO
  have T1 := T1.setCell (p := ⟨w.heap.size + 1 + 1, 3, none⟩) (by simp; omega) (.slice A1' m1 d1)
  have BB := BB.far (p := ⟨w.heap.size + 1 + 1, 3, none⟩) (by simp; omega) (.slice A1' m1 d1)
  have BR := BR.far (p := ⟨w.heap.size + 1 + 1, 3, none⟩) (by simp) (.slice A1' m1 d1)
  have BO := BO.set_ 3 (.slice A1' m1 d1)
  have ow1 := ow1.keep intOw_ok (w' := World.setCell w1 ⟨w.heap.size + 1 + 1, 3, none⟩ (.slice A1' m1 d1)) (fun k hk => Below.heap_setCell _ _ _ _ (by have := in1 k hk; simp; omega))
  refine (toPortS_v _ x.ports _ (B := B) ⟨A2, n2, c2, rfl, h2.below portRd_ok (T1.mono hB), r2⟩ (Nat.le_trans hB T1.size) (by first | omega | (unfold lenOk; omega))).mono ?_
  rintro e w2 ⟨⟨v2, rfl, O2⟩, q2⟩
  have z2 : w1.heap.size ≤ w2.heap.size := by have := q2.size; simpa using this
  have O2 := O2.wide (lo' := w1.heap.size) (hi' := w2.heap.size) (by simp) (Nat.le_refl _)
  obtain ⟨A2', m2, d2, bs2, rfl, ow2, nd2, in2, rr2⟩ := O2
  have T1 := T1.trans (q2.mono T1.size)
  have BB := BB.below q2 (by simp <;> omega)
  have BR := BR.below q2 (by simp <;> omega)
  have BO := BO.below q2 (by simp <;> omega)
  have ow1 := ow1.keep intOw_ok (w' := w2) (fun k hk => q2.block k (by have := in1 k hk; simp <;> omega))
  clear q2
  have cB := BB.cell
  have cO := BO.cell
  have fO := BO.frozen
  have cR := BR.cell
  have fR := BR.frozen
  go_wp2_with fail
  have hfin : ∀ w', OnlyIn (w.heap.size + 1) (w.heap.size + 1 + 1 + 1) w2 w' → (Ret1 (fun v' => OwT agentOw w' v' x w.heap.size w'.heap.size) (.returned (.agg #[.int .i64 x.kind, .int .i64 x.level, .int .i64 x.value, (.slice A1' m1 d1), (.slice A2' m2 d2)])) ∧ Below w.heap.size w w') := fun w' ho => by
    refine ⟨⟨_, rfl, [.int .i64 x.kind, .int .i64 x.level, .int .i64 x.value, (.slice A1' m1 d1), (.slice A2' m2 d2)], bs1 ++ bs2, rfl, ⟨A1', m1, d1, A2', m2, d2, bs1, bs2, rfl, ⟨ow1.keep intOw_ok (fun k hk => ho.block k (.inr (by have := in1 k hk; omega))), rr1⟩, ⟨ow2.keep portOw_ok (fun k hk => ho.block k (.inr (by have := in2 k hk; omega))), rr2⟩, rfl⟩, ?_⟩, T1.trans (ho.below.mono (by omega))⟩
    have h1 : bs1.Nodup ∧ ∀ b ∈ bs1, w.heap.size ≤ b ∧ b < w1.heap.size := ⟨nd1, fun b hb => by have := in1 b hb; omega⟩
    have h2 := nodup_two (lo := w.heap.size) (mid := w1.heap.size) (hi := w2.heap.size) h1.1 nd2 (fun b hb => by have := h1.2 b hb; omega) in2 (by omega) (by omega)
    exact ⟨h2.1, fun b hb => by have := h2.2 b hb; have := ho.size; omega⟩
  refine bodyPost_ret (v := .agg #[.int .i64 x.kind, .int .i64 x.level, .int .i64 x.value, (.slice A1' m1 d1), (.slice A2' m2 d2)]) (by simp [results, Try.results78, go_sem, cR]) rfl (hfin _ ?_)
  repeat (first | (with_reducible exact OnlyIn.refl _ _ _) | (with_reducible refine OnlyIn.setCell ?_ ⟨by simp, by simp⟩ _))
theorem szAgentS_el {xs : List DAgent} {k : Nat} {x : DAgent} (h : xs[k]? = some x) : szAgent x ≤ szAgentS xs := by
  have h1 := szAgentS_take h
  have h2 := szAgentS_le xs (k + 1)
  unfold szAgentS
  omega
theorem info_AgentS : (Try.prog.info? 122).map (fun i => (i.zero, i.size, i.bytes)) = some (some (.agg #[.int .i64 0, .int .i64 0, .int .i64 0, .slice none 0 0, .slice none 0 0]), 5, 72) := by kernel_rfl
set_option maxHeartbeats 1000000 in
theorem toAgentS_v (v : Value) (xs : List DAgent) (w : World) {B : Nat} (h : RdS agentRd 5 w B v xs) (hB : B ≤ w.heap.size) (hs : szAgentS xs ≤ 1048576) :
    Calls Try.prog 37 #[v] w fun e w' => Ret1 (fun v' => OwS agentOw 5 w' v' xs w.heap.size w'.heap.size) e ∧ Below w.heap.size w w' := by
  obtain ⟨A, n, c, rfl, hx, hnc, hcm⟩ := h
  have lx := Lib.hid hx.len
  have hlen : xs.length ≤ 1048576 := by unfold szAgentS at hs; omega
  have hn : n ≤ 1048576 := by have := lx.out; omega
  have hmk := run_make_sz 29 122 Try.underlying29 info_AgentS n (by omega) (by omega)
  go_enter Try.func37, Try.ntmps37
  go_wp2
  clear hmk
  go_loopw [4] (fun i wr => ∃ k : Nat, k ≤ n ∧ i = .int .i64 k ∧ Below w.heap.size w wr ∧ w.heap.size + 1 ≤ wr.heap.size ∧ (∃ arr, Blk wr w.heap.size 122 arr ∧ Hid (arr.size = n * 5)) ∧ ∃ bs, ElAt agentOw 5 wr w.heap.size 0 (xs.take k) bs ∧ bs.Nodup ∧ ∀ b ∈ bs, w.heap.size + 1 ≤ b ∧ b < wr.heap.size) (fun i _ => n - (intOf i).toNat)
  case atStart => exact ⟨0, by omega, rfl, (Below.refl _ _).alloc (Nat.le_refl _) _, by simp, ⟨_, Blk.new _ _ _, by simp [Hid, madeCells_size]⟩, [], rfl, List.nodup_nil, fun b hb => by simp at hb⟩
  case round =>
    obtain ⟨k, hk, rfl, hb, hzz, ⟨arr, BA, hasz⟩, bs, hel, hnd, hin⟩ := hrel
    by_cases hlt : k < n
    · obtain ⟨b, off, x, A1, n1, c1, A2, n2, c2, rfl, hlb, hxk, hc0, hc1, hc2, hc3, hc4, ⟨h1, r1⟩, ⟨h2, r2⟩⟩ := (hx.below agentRd_ok (hb.mono hB)).agent hlt
      have Hxk := Lib.hid hxk
      clear hxk
      go_wp2_with fail
      refine (toAgent_v _ x _ (B := B) ⟨_, rfl, A1, n1, c1, A2, n2, c2, rfl, ⟨h1, r1⟩, ⟨h2, r2⟩⟩ (Nat.le_trans hB hb.size) (by have := szAgentS_el Hxk.out; omega)).mono ?_
      rintro e w1 ⟨⟨v1, rfl, O1⟩, q1⟩
      obtain ⟨cs1, bl, rfl, HO, nd1, in1⟩ := O1
      have HO' := HO
      obtain ⟨A1', m1, d1, A2', m2, d2, b1, b2, rfl, _⟩ := HO'
      have BA := BA.below q1 (by omega)
      obtain ⟨z0, hz0⟩ := BA.some_ (i := k * 5) (by rw [hasz.out]; omega)
      obtain ⟨z1, hz1⟩ := BA.some_ (i := k * 5 + 1) (by rw [hasz.out]; omega)
      obtain ⟨z2, hz2⟩ := BA.some_ (i := k * 5 + 2) (by rw [hasz.out]; omega)
      obtain ⟨z3, hz3⟩ := BA.some_ (i := k * 5 + 3) (by rw [hasz.out]; omega)
      obtain ⟨z4, hz4⟩ := BA.some_ (i := k * 5 + 4) (by rw [hasz.out]; omega)
      have fz := BA.frozen
      have zz := q1.size
      have Hel := Lib.hid (hel.keep agentOw_ok (q1.block _ (by omega)) (fun k hk => q1.block k (hin k hk).2))
      clear hel
      have TB : ∀ y0 y1 y2 y3 y4, Below w.heap.size w (((((w1.setCell ⟨w.heap.size, k * 5, none⟩ y0).setCell ⟨w.heap.size, k * 5 + 1, none⟩ y1).setCell ⟨w.heap.size, k * 5 + 2, none⟩ y2).setCell ⟨w.heap.size, k * 5 + 3, none⟩ y3).setCell ⟨w.heap.size, k * 5 + 4, none⟩ y4) := fun y0 y1 y2 y3 y4 => ((((((hb.trans (q1.mono hb.size)).setCell (p := ⟨w.heap.size, k * 5, none⟩) (Nat.le_refl _) _).setCell (p := ⟨w.heap.size, k * 5 + 1, none⟩) (Nat.le_refl _) _).setCell (p := ⟨w.heap.size, k * 5 + 2, none⟩) (Nat.le_refl _) _).setCell (p := ⟨w.heap.size, k * 5 + 3, none⟩) (Nat.le_refl _) _).setCell (p := ⟨w.heap.size, k * 5 + 4, none⟩) (Nat.le_refl _) _)
      go_wp2_with fail
      go_roundw
      case rel =>
        refine ⟨k + 1, by omega, by go_num, TB _ _ _ _ _, by simp [World.setCell]; omega, ⟨_, (((((BA.set_ (k * 5) _).set_ (k * 5 + 1) _).set_ (k * 5 + 2) _).set_ (k * 5 + 3) _).set_ (k * 5 + 4) _), by simpa [Hid] using hasz⟩, bs ++ bl, ?_⟩
        rw [take_succ_some Hxk.out]
        have hlk : (xs.take k).length = k := by have := lx.out; simp; omega
        have h1 := ElAt.setRun agentOw_ok (vs := [.int .i64 x.kind, .int .i64 x.level, .int .i64 x.value, .slice A1' m1 d1, .slice A2' m2 d2]) (p := k * 5) Hel.out (fun hh => by have := hin _ hh; omega) (Or.inr (by rw [hlk]; omega))
        have hnn := nodup_two hnd nd1 hin in1 hzz zz
        refine ⟨ElAt.append h1 (ElAt.one (agentOw_ok.keep (w' := setRun w1 w.heap.size (k * 5) [.int .i64 x.kind, .int .i64 x.level, .int .i64 x.value, .slice A1' m1 d1, .slice A2' m2 d2]) (fun b hb => setRun_block (fun e => by have := in1 b hb; omega)) HO) ?_), hnn.1, fun b hb => by have := hnn.2 b hb; simp only [World.size_setCell]; exact this⟩
        rw [hlk, Nat.zero_add]
        exact setRun_csAt (vs := [.int .i64 x.kind, .int .i64 x.level, .int .i64 x.value, .slice A1' m1 d1, .slice A2' m2 d2]) (fun j hj => by
          have hj : j < 5 := by simpa using hj
          match j, hj with
          | 0, _ => exact ⟨z0, hz0⟩
          | 1, _ => exact ⟨z1, hz1⟩
          | 2, _ => exact ⟨z2, hz2⟩
          | 3, _ => exact ⟨z3, hz3⟩
          | 4, _ => exact ⟨z4, hz4⟩) (fun j hj => fz _)
      case measure => simp [intOf]; omega
    · have hkn : k = n := by omega
      have e : xs.take k = xs := List.take_of_length_le (by have := lx.out; omega)
      rw [e] at hel
      have Hkn := Lib.hid hkn
      clear hkn e
      go_wp2
      go_ret
      exact ⟨⟨_, rfl, some ⟨w.heap.size, 0, none⟩, n, n, w.heap.size :: bs, rfl, ⟨lx.out, .inr ⟨_, _, bs, rfl, rfl, hel⟩⟩, List.nodup_cons.2 ⟨fun hh => by have := hin _ hh; omega, hnd⟩, fun b hb => by
        rcases List.mem_cons.1 hb with rfl | hb
        · omega
        · have := hin b hb; omega, Nat.le_refl _, by unfold maxLen; omega⟩, hb⟩
set_option maxHeartbeats 1000000 in
theorem toNet_v (v : Value) (x : DNet) (w : World) {B : Nat} (h : RdT netRd w B v x) (hB : B ≤ w.heap.size) (hs : szNet x ≤ 1048576) :
    Calls Try.prog 10 #[v] w fun e w' => Ret1 (fun v' => OwT netOw w' v' x w.heap.size w'.heap.size) e ∧ Below w.heap.size w w' := by
  obtain ⟨cs, rfl, A1, n1, c1, rfl, ⟨h1, r1⟩⟩ := h
  unfold szNet at hs
  have hb : ∀ o1 o2 o3, Below w.heap.size w (((w.alloc o1).alloc o2).alloc o3) := fun o1 o2 o3 => (((Below.refl _ _).alloc (Nat.le_refl _) _).alloc (by simp) _).alloc (by simp; omega) _
  go_enter Try.func10, Try.ntmps10
  go_wp2_with fail
  refine (toAgentS_v _ x.agents _ (B := B) ⟨A1, n1, c1, rfl, h1.below agentRd_ok ((hb _ _ _).mono hB), r1⟩ (Nat.le_trans hB (hb _ _ _).size) (by first | omega | (unfold lenOk; omega))).mono ?_
  rintro e w1 ⟨⟨v1, rfl, O1⟩, q1⟩
  have z1 : w.heap.size + 1 + 1 + 1 ≤ w1.heap.size := by have := q1.size; simpa using this
  have O1 := O1.wide (lo' := w.heap.size + 1 + 1 + 1) (hi' := w1.heap.size) (by simp) (Nat.le_refl _)
  obtain ⟨A1', m1, d1, bs1, rfl, ow1, nd1, in1, rr1⟩ := O1
  have T1 := (hb _ _ _).trans (q1.mono (hb _ _ _).size)
  have BB := blk3_0.below q1 (by simp <;> omega)
  have BR := blk3_1.below q1 (by simp <;> omega)
  have BO := blk3_2.below q1 (by simp <;> omega)
  clear q1
  have cB := BB.cell
  have cO := BO.cell
  have fO := BO.frozen
  have cR := BR.cell
  have fR := BR.frozen
  go_wp2_with fail
  have hfin : ∀ w', OnlyIn (w.heap.size + 1) (w.heap.size + 1 + 1 + 1) w1 w' → (Ret1 (fun v' => OwT netOw w' v' x w.heap.size w'.heap.size) (.returned (.agg #[(.slice A1' m1 d1)])) ∧ Below w.heap.size w w') := fun w' ho => by
    refine ⟨⟨_, rfl, [(.slice A1' m1 d1)], bs1, rfl, ⟨A1', m1, d1, bs1, rfl, ⟨ow1.keep agentOw_ok (fun k hk => ho.block k (.inr (by have := in1 k hk; omega))), rr1⟩, rfl⟩, ?_⟩, T1.trans (ho.below.mono (by omega))⟩
    have h1 : bs1.Nodup ∧ ∀ b ∈ bs1, w.heap.size ≤ b ∧ b < w1.heap.size := ⟨nd1, fun b hb => by have := in1 b hb; omega⟩
    exact ⟨h1.1, fun b hb => by have := h1.2 b hb; have := ho.size; omega⟩
  refine bodyPost_ret (v := .agg #[(.slice A1' m1 d1)]) (by simp [results, Try.results10, go_sem, cR]) rfl (hfin _ ?_)
  repeat (first | (with_reducible exact OnlyIn.refl _ _ _) | (with_reducible refine OnlyIn.setCell ?_ ⟨by simp, by simp⟩ _))
end
section
open Go.RowKit
set_option linter.unusedVariables false
set_option linter.unusedSimpArgs false
set_option maxHeartbeats 1000000 in
theorem eqPort_v (v u : Value) (x y : DPort) (w : World) {B B' : Nat} (h : RdT portRd w B v x) (h' : RdT portRd w B' u y) (hB : B ≤ w.heap.size) (hB' : B' ≤ w.heap.size) :
    Calls Try.prog 164 #[v, u] w fun e w' => e = .returned (.bool (decide (x = y))) ∧ Below w.heap.size w w' := by
  obtain ⟨cs, rfl, rfl⟩ := h
  obtain ⟨cs, rfl, rfl⟩ := h'
  have hb : ∀ o1 o2, Below w.heap.size w ((w.alloc o1).alloc o2) := fun o1 o2 => ((Below.refl _ _).alloc (Nat.le_refl _) _).alloc (by simp) _
  by_cases e0 : x.agent = y.agent
  · have f0 : (x.agent != y.agent) = false := by simp [e0]
    by_cases e1 : x.slot = y.slot
    · have f1 : (x.slot != y.slot) = false := by simp [e1]
      have He : Hid (decide (x = y) = true) := decide_eq_true (by cases x; cases y; simp_all)
      clear e0 e1
      go_enter Try.func164, Try.ntmps164
      go_wp2_with fail
      go_ret
      exact ⟨by rw [He.out]; rfl, hb _ _⟩
    · have f1 : (x.slot != y.slot) = true := by simp [e1]
      have He : Hid (decide (x = y) = false) := decide_eq_false (by intro exy; exact e1 (by rw [exy]))
      clear e0 e1
      go_enter Try.func164, Try.ntmps164
      go_wp2_with fail
      go_ret
      exact ⟨by rw [He.out]; rfl, hb _ _⟩
  · have f0 : (x.agent != y.agent) = true := by simp [e0]
    have He : Hid (decide (x = y) = false) := decide_eq_false (by intro exy; exact e0 (by rw [exy]))
    clear e0
    go_enter Try.func164, Try.ntmps164
    go_wp2_with fail
    go_ret
    exact ⟨by rw [He.out]; rfl, hb _ _⟩
set_option maxHeartbeats 1000000 in
theorem eqPortS_v (v u : Value) (xs ys : List DPort) (w : World) {B B' : Nat} (h : RdS portRd 2 w B v xs) (h' : RdS portRd 2 w B' u ys) (hB : B ≤ w.heap.size) (hB' : B' ≤ w.heap.size) :
    Calls Try.prog 131 #[v, u] w fun e w' => e = .returned (.bool (eqL xs ys)) ∧ Below w.heap.size w w' := by
  obtain ⟨A, n, c, rfl, hx, hnc, hcm⟩ := h
  obtain ⟨C, m, d, rfl, hy, hmd, hdm⟩ := h'
  unfold maxLen at hcm hdm
  have lx := Lib.hid hx.len
  have ly := Lib.hid hy.len
  have hr := Below.refl w.heap.size w
  by_cases hnm : n = m
  · subst hnm
    go_enter Try.func131, Try.ntmps131
    go_wp2
    go_loopw [5] (fun i wr => ∃ k : Nat, k ≤ n ∧ i = .int .i64 k ∧ Hid (xs.take k = ys.take k) ∧ Below w.heap.size w wr) (fun i _ => n - (intOf i).toNat)
    case atStart => exact ⟨0, by omega, rfl, rfl, hr⟩
    case round =>
      obtain ⟨k, hk, rfl, ht, hq⟩ := hrel
      by_cases hlt : k < n
      · have hx' := hx.below portRd_ok (hq.mono hB)
        have hy' := hy.below portRd_ok (hq.mono hB')
        obtain ⟨b, off, x, rfl, hb, hxk, hc0, hc1⟩ := hx'.port hlt
        obtain ⟨b', off', y, rfl, hb', hyk, hc0', hc1'⟩ := hy'.port hlt
        have Hxk := Lib.hid hxk
        have Hyk := Lib.hid hyk
        clear hxk hyk hx' hy'
        have hzB : B ≤ wr.drew.heap.size := Nat.le_trans hB hq.size
        have hzB' : B' ≤ wr.drew.heap.size := Nat.le_trans hB' hq.size
        by_cases hxy : x = y
        · have hf : decide (x = y) = true := decide_eq_true hxy
          have Hxy := Lib.hid hxy
          clear hxy
          go_wp2_with fail
          go_region_with (go_at_call 164; refine (eqPort_v _ _ x y _ (B := 0) (B' := 0) ⟨_, rfl, rfl⟩ ⟨_, rfl, rfl⟩ (Nat.zero_le _) (Nat.zero_le _)).mono ?_; rintro e w1 ⟨rfl, hq1⟩)
          all_goals
            go_wp2_with fail
            go_roundw
            case rel => exact ⟨k + 1, by omega, by go_num, eqL_step Hxk.out Hyk.out ht.out Hxy.out, hq.drew.trans (hq1.mono hq.size)⟩
            case measure => simp [intOf]; omega
        · have hf : decide (x = y) = false := decide_eq_false hxy
          have Hno := Lib.hid (eqL_no Hxk.out Hyk.out hxy)
          clear hxy
          go_wp2_with fail
          go_region_with (go_at_call 164; refine (eqPort_v _ _ x y _ (B := 0) (B' := 0) ⟨_, rfl, rfl⟩ ⟨_, rfl, rfl⟩ (Nat.zero_le _) (Nat.zero_le _)).mono ?_; rintro e w1 ⟨rfl, hq1⟩)
          all_goals
            go_wp2_with fail
            go_ret
            exact ⟨by rw [Hno.out]; rfl, hq.drew.trans (hq1.mono hq.size)⟩
      · have Hyes := Lib.hid (eqL_yes (k := k) ht.out (by have := lx.out; omega) (by have := ly.out; omega))
        go_wp2
        go_ret
        exact ⟨by rw [Hyes.out]; rfl, hq⟩
  · have Hno := Lib.hid (eqL_len (xs := xs) (ys := ys) (by have := lx.out; have := ly.out; omega))
    have hf : ((n : Int) != (m : Int)) = true := by simp; omega
    go_enter Try.func131, Try.ntmps131
    go_wp2
    go_ret
    exact ⟨by rw [Hno.out]; rfl, hr⟩
end
section
open Go.RowKit
set_option linter.unusedVariables false
set_option linter.unusedSimpArgs false
set_option maxHeartbeats 1000000 in
theorem eqAgent_v (v u : Value) (x y : DAgent) (w : World) {B B' : Nat} (h : RdT agentRd w B v x) (h' : RdT agentRd w B' u y) (hB : B ≤ w.heap.size) (hB' : B' ≤ w.heap.size) :
    Calls Try.prog 89 #[v, u] w fun e w' => e = .returned (.bool (decide (x = y))) ∧ Below w.heap.size w w' := by
  obtain ⟨cs, rfl, A1, n1, c1, A2, n2, c2, rfl, ⟨h1, r1⟩, ⟨h2, r2⟩⟩ := h
  obtain ⟨cs, rfl, A1', n1', c1', A2', n2', c2', rfl, ⟨h1', r1'⟩, ⟨h2', r2'⟩⟩ := h'
  have hb : ∀ o1 o2, Below w.heap.size w ((w.alloc o1).alloc o2) := fun o1 o2 => ((Below.refl _ _).alloc (Nat.le_refl _) _).alloc (by simp) _
  by_cases e0 : x.kind = y.kind
  · have f0 : (x.kind != y.kind) = false := by simp [e0]
    by_cases e1 : x.level = y.level
    · have f1 : (x.level != y.level) = false := by simp [e1]
      by_cases e2 : x.value = y.value
      · have f2 : (x.value != y.value) = false := by simp [e2]
        by_cases e3 : x.data = y.data
        · have f3 : eqL x.data y.data = true := decide_eq_true e3
          by_cases e4 : x.ports = y.ports
          · have f4 : eqL x.ports y.ports = true := decide_eq_true e4
            have He : Hid (decide (x = y) = true) := decide_eq_true (by cases x; cases y; simp_all)
            clear e0 e1 e2 e3 e4
            go_enter Try.func89, Try.ntmps89
            go_wp2_with fail
            refine (eqInt64S_v _ _ x.data y.data _ (B := B) (B' := B') ⟨A1, n1, c1, rfl, h1.below intRd_ok ((hb _ _).mono hB), r1⟩ ⟨A1', n1', c1', rfl, h1'.below intRd_ok ((hb _ _).mono hB'), r1'⟩ (Nat.le_trans hB (hb _ _).size) (Nat.le_trans hB' (hb _ _).size)).mono ?_
            rintro e w1 ⟨rfl, q1⟩
            have T := (hb _ _).trans (q1.mono (hb _ _).size)
            have B1 := blk2_0.below q1 (by simp <;> omega)
            have B2 := blk2_1.below q1 (by simp <;> omega)
            have z1 : w.heap.size + 1 + 1 ≤ w1.heap.size := by have := q1.size; simpa using this
            clear q1
            have g1 := B1.cell
            have g2 := B2.cell
            go_wp2_with fail
            clear g1 g2
            refine (eqPortS_v _ _ x.ports y.ports _ (B := B) (B' := B') ⟨A2, n2, c2, rfl, h2.below portRd_ok ((T).mono hB), r2⟩ ⟨A2', n2', c2', rfl, h2'.below portRd_ok ((T).mono hB'), r2'⟩ (Nat.le_trans hB (T).size) (Nat.le_trans hB' (T).size)).mono ?_
            rintro e w2 ⟨rfl, q2⟩
            have T := T.trans (q2.mono T.size)
            have B1 := B1.below q2 (by omega)
            have B2 := B2.below q2 (by omega)
            have z2 := Nat.le_trans z1 q2.size
            clear q2
            go_wp2_with fail
            go_ret
            exact ⟨by rw [He.out]; rfl, T⟩
          · have f4 : eqL x.ports y.ports = false := decide_eq_false e4
            have He : Hid (decide (x = y) = false) := decide_eq_false (by intro exy; exact e4 (by rw [exy]))
            clear e0 e1 e2 e3 e4
            go_enter Try.func89, Try.ntmps89
            go_wp2_with fail
            refine (eqInt64S_v _ _ x.data y.data _ (B := B) (B' := B') ⟨A1, n1, c1, rfl, h1.below intRd_ok ((hb _ _).mono hB), r1⟩ ⟨A1', n1', c1', rfl, h1'.below intRd_ok ((hb _ _).mono hB'), r1'⟩ (Nat.le_trans hB (hb _ _).size) (Nat.le_trans hB' (hb _ _).size)).mono ?_
            rintro e w1 ⟨rfl, q1⟩
            have T := (hb _ _).trans (q1.mono (hb _ _).size)
            have B1 := blk2_0.below q1 (by simp <;> omega)
            have B2 := blk2_1.below q1 (by simp <;> omega)
            have z1 : w.heap.size + 1 + 1 ≤ w1.heap.size := by have := q1.size; simpa using this
            clear q1
            have g1 := B1.cell
            have g2 := B2.cell
            go_wp2_with fail
            clear g1 g2
            refine (eqPortS_v _ _ x.ports y.ports _ (B := B) (B' := B') ⟨A2, n2, c2, rfl, h2.below portRd_ok ((T).mono hB), r2⟩ ⟨A2', n2', c2', rfl, h2'.below portRd_ok ((T).mono hB'), r2'⟩ (Nat.le_trans hB (T).size) (Nat.le_trans hB' (T).size)).mono ?_
            rintro e w2 ⟨rfl, q2⟩
            have T := T.trans (q2.mono T.size)
            have B1 := B1.below q2 (by omega)
            have B2 := B2.below q2 (by omega)
            have z2 := Nat.le_trans z1 q2.size
            clear q2
            go_wp2_with fail
            go_ret
            exact ⟨by rw [He.out]; rfl, T⟩
        · have f3 : eqL x.data y.data = false := decide_eq_false e3
          have He : Hid (decide (x = y) = false) := decide_eq_false (by intro exy; exact e3 (by rw [exy]))
          clear e0 e1 e2 e3
          go_enter Try.func89, Try.ntmps89
          go_wp2_with fail
          refine (eqInt64S_v _ _ x.data y.data _ (B := B) (B' := B') ⟨A1, n1, c1, rfl, h1.below intRd_ok ((hb _ _).mono hB), r1⟩ ⟨A1', n1', c1', rfl, h1'.below intRd_ok ((hb _ _).mono hB'), r1'⟩ (Nat.le_trans hB (hb _ _).size) (Nat.le_trans hB' (hb _ _).size)).mono ?_
          rintro e w1 ⟨rfl, q1⟩
          have T := (hb _ _).trans (q1.mono (hb _ _).size)
          have B1 := blk2_0.below q1 (by simp <;> omega)
          have B2 := blk2_1.below q1 (by simp <;> omega)
          have z1 : w.heap.size + 1 + 1 ≤ w1.heap.size := by have := q1.size; simpa using this
          clear q1
          go_wp2_with fail
          go_ret
          exact ⟨by rw [He.out]; rfl, T⟩
      · have f2 : (x.value != y.value) = true := by simp [e2]
        have He : Hid (decide (x = y) = false) := decide_eq_false (by intro exy; exact e2 (by rw [exy]))
        clear e0 e1 e2
        go_enter Try.func89, Try.ntmps89
        go_wp2_with fail
        go_ret
        exact ⟨by rw [He.out]; rfl, hb _ _⟩
    · have f1 : (x.level != y.level) = true := by simp [e1]
      have He : Hid (decide (x = y) = false) := decide_eq_false (by intro exy; exact e1 (by rw [exy]))
      clear e0 e1
      go_enter Try.func89, Try.ntmps89
      go_wp2_with fail
      go_ret
      exact ⟨by rw [He.out]; rfl, hb _ _⟩
  · have f0 : (x.kind != y.kind) = true := by simp [e0]
    have He : Hid (decide (x = y) = false) := decide_eq_false (by intro exy; exact e0 (by rw [exy]))
    clear e0
    go_enter Try.func89, Try.ntmps89
    go_wp2_with fail
    go_ret
    exact ⟨by rw [He.out]; rfl, hb _ _⟩
set_option maxHeartbeats 1000000 in
theorem eqAgentS_v (v u : Value) (xs ys : List DAgent) (w : World) {B B' : Nat} (h : RdS agentRd 5 w B v xs) (h' : RdS agentRd 5 w B' u ys) (hB : B ≤ w.heap.size) (hB' : B' ≤ w.heap.size) :
    Calls Try.prog 40 #[v, u] w fun e w' => e = .returned (.bool (eqL xs ys)) ∧ Below w.heap.size w w' := by
  obtain ⟨A, n, c, rfl, hx, hnc, hcm⟩ := h
  obtain ⟨C, m, d, rfl, hy, hmd, hdm⟩ := h'
  unfold maxLen at hcm hdm
  have lx := Lib.hid hx.len
  have ly := Lib.hid hy.len
  have hr := Below.refl w.heap.size w
  by_cases hnm : n = m
  · subst hnm
    go_enter Try.func40, Try.ntmps40
    go_wp2
    go_loopw [5] (fun i wr => ∃ k : Nat, k ≤ n ∧ i = .int .i64 k ∧ Hid (xs.take k = ys.take k) ∧ Below w.heap.size w wr) (fun i _ => n - (intOf i).toNat)
    case atStart => exact ⟨0, by omega, rfl, rfl, hr⟩
    case round =>
      obtain ⟨k, hk, rfl, ht, hq⟩ := hrel
      by_cases hlt : k < n
      · have hx' := hx.below agentRd_ok (hq.mono hB)
        have hy' := hy.below agentRd_ok (hq.mono hB')
        obtain ⟨b, off, x, A1, n1, c1, A2, n2, c2, rfl, hb, hxk, hc0, hc1, hc2, hc3, hc4, ⟨h1, r1⟩, ⟨h2, r2⟩⟩ := hx'.agent hlt
        obtain ⟨b', off', y, A1', n1', c1', A2', n2', c2', rfl, hb', hyk, hc0', hc1', hc2', hc3', hc4', ⟨h1', r1'⟩, ⟨h2', r2'⟩⟩ := hy'.agent hlt
        have Hxk := Lib.hid hxk
        have Hyk := Lib.hid hyk
        clear hxk hyk hx' hy'
        have hzB : B ≤ wr.drew.heap.size := Nat.le_trans hB hq.size
        have hzB' : B' ≤ wr.drew.heap.size := Nat.le_trans hB' hq.size
        by_cases hxy : x = y
        · have hf : decide (x = y) = true := decide_eq_true hxy
          have Hxy := Lib.hid hxy
          clear hxy
          go_wp2_with fail
          go_region_with (go_at_call 89; refine (eqAgent_v _ _ x y _ (B := B) (B' := B') ⟨_, rfl, A1, n1, c1, A2, n2, c2, rfl, ⟨h1.drew intRd_ok, r1⟩, ⟨h2.drew portRd_ok, r2⟩⟩ ⟨_, rfl, A1', n1', c1', A2', n2', c2', rfl, ⟨h1'.drew intRd_ok, r1'⟩, ⟨h2'.drew portRd_ok, r2'⟩⟩ hzB hzB').mono ?_; rintro e w1 ⟨rfl, hq1⟩)
          all_goals
            go_wp2_with fail
            go_roundw
            case rel => exact ⟨k + 1, by omega, by go_num, eqL_step Hxk.out Hyk.out ht.out Hxy.out, hq.drew.trans (hq1.mono hq.size)⟩
            case measure => simp [intOf]; omega
        · have hf : decide (x = y) = false := decide_eq_false hxy
          have Hno := Lib.hid (eqL_no Hxk.out Hyk.out hxy)
          clear hxy
          go_wp2_with fail
          go_region_with (go_at_call 89; refine (eqAgent_v _ _ x y _ (B := B) (B' := B') ⟨_, rfl, A1, n1, c1, A2, n2, c2, rfl, ⟨h1.drew intRd_ok, r1⟩, ⟨h2.drew portRd_ok, r2⟩⟩ ⟨_, rfl, A1', n1', c1', A2', n2', c2', rfl, ⟨h1'.drew intRd_ok, r1'⟩, ⟨h2'.drew portRd_ok, r2'⟩⟩ hzB hzB').mono ?_; rintro e w1 ⟨rfl, hq1⟩)
          all_goals
            go_wp2_with fail
            go_ret
            exact ⟨by rw [Hno.out]; rfl, hq.drew.trans (hq1.mono hq.size)⟩
      · have Hyes := Lib.hid (eqL_yes (k := k) ht.out (by have := lx.out; omega) (by have := ly.out; omega))
        go_wp2
        go_ret
        exact ⟨by rw [Hyes.out]; rfl, hq⟩
  · have Hno := Lib.hid (eqL_len (xs := xs) (ys := ys) (by have := lx.out; have := ly.out; omega))
    have hf : ((n : Int) != (m : Int)) = true := by simp; omega
    go_enter Try.func40, Try.ntmps40
    go_wp2
    go_ret
    exact ⟨by rw [Hno.out]; rfl, hr⟩
set_option maxHeartbeats 1000000 in
theorem eqNet_v (v u : Value) (x y : DNet) (w : World) {B B' : Nat} (h : RdT netRd w B v x) (h' : RdT netRd w B' u y) (hB : B ≤ w.heap.size) (hB' : B' ≤ w.heap.size) :
    Calls Try.prog 13 #[v, u] w fun e w' => e = .returned (.bool (decide (x = y))) ∧ Below w.heap.size w w' := by
  obtain ⟨cs, rfl, A1, n1, c1, rfl, ⟨h1, r1⟩⟩ := h
  obtain ⟨cs, rfl, A1', n1', c1', rfl, ⟨h1', r1'⟩⟩ := h'
  have hb : ∀ o1 o2, Below w.heap.size w ((w.alloc o1).alloc o2) := fun o1 o2 => ((Below.refl _ _).alloc (Nat.le_refl _) _).alloc (by simp) _
  by_cases e0 : x.agents = y.agents
  · have f0 : eqL x.agents y.agents = true := decide_eq_true e0
    have He : Hid (decide (x = y) = true) := decide_eq_true (by cases x; cases y; simp_all)
    clear e0
    go_enter Try.func13, Try.ntmps13
    go_wp2_with fail
    refine (eqAgentS_v _ _ x.agents y.agents _ (B := B) (B' := B') ⟨A1, n1, c1, rfl, h1.below agentRd_ok ((hb _ _).mono hB), r1⟩ ⟨A1', n1', c1', rfl, h1'.below agentRd_ok ((hb _ _).mono hB'), r1'⟩ (Nat.le_trans hB (hb _ _).size) (Nat.le_trans hB' (hb _ _).size)).mono ?_
    rintro e w1 ⟨rfl, q1⟩
    have T := (hb _ _).trans (q1.mono (hb _ _).size)
    have B1 := blk2_0.below q1 (by simp <;> omega)
    have B2 := blk2_1.below q1 (by simp <;> omega)
    have z1 : w.heap.size + 1 + 1 ≤ w1.heap.size := by have := q1.size; simpa using this
    clear q1
    go_wp2_with fail
    go_ret
    exact ⟨by rw [He.out]; rfl, T⟩
  · have f0 : eqL x.agents y.agents = false := decide_eq_false e0
    have He : Hid (decide (x = y) = false) := decide_eq_false (by intro exy; exact e0 (by rw [exy]))
    clear e0
    go_enter Try.func13, Try.ntmps13
    go_wp2_with fail
    refine (eqAgentS_v _ _ x.agents y.agents _ (B := B) (B' := B') ⟨A1, n1, c1, rfl, h1.below agentRd_ok ((hb _ _).mono hB), r1⟩ ⟨A1', n1', c1', rfl, h1'.below agentRd_ok ((hb _ _).mono hB'), r1'⟩ (Nat.le_trans hB (hb _ _).size) (Nat.le_trans hB' (hb _ _).size)).mono ?_
    rintro e w1 ⟨rfl, q1⟩
    have T := (hb _ _).trans (q1.mono (hb _ _).size)
    have B1 := blk2_0.below q1 (by simp <;> omega)
    have B2 := blk2_1.below q1 (by simp <;> omega)
    have z1 : w.heap.size + 1 + 1 ≤ w1.heap.size := by have := q1.size; simpa using this
    clear q1
    go_wp2_with fail
    go_ret
    exact ⟨by rw [He.out]; rfl, T⟩
end
section
open Go.RowKit
set_option linter.unusedVariables false
set_option linter.unusedSimpArgs false
set_option maxRecDepth 100000
set_option maxHeartbeats 8000000 in
theorem walk_IsOrientable (w : World) (v0 : Value) (x : DNet) (R0 : RdT netRd w w.heap.size v0 x) :
    Calls Try.prog 4 #[v0] w fun e w' => e = .returned (.bool true) ∧ Below w.heap.size w w' := by
  obtain ⟨a0A0, a0n0, a0c0, rfl⟩ : ∃ a0A0 a0n0 a0c0, v0 = .agg #[.slice a0A0 a0n0 a0c0] := by obtain ⟨cs, rfl, ⟨A0, n0, c0, rfl, _⟩⟩ := R0; exact ⟨A0, n0, c0, rfl⟩
  by_cases d0 : (szNet x : Int) ≤ 1048576
  case neg =>
    have T := Below.refl w.heap.size w
    have T : Below w.heap.size w (w.alloc (.cells #[.slice a0A0 a0n0 a0c0] 24)) := T.alloc (by first | exact Nat.le_refl _ | (simp; done) | (simp; omega)) _
    have B0 : Blk (w.alloc (.cells #[.slice a0A0 a0n0 a0c0] 24)) (w.heap.size) 24 #[.slice a0A0 a0n0 a0c0] := by have := Blk.new w 24 #[.slice a0A0 a0n0 a0c0]; simpa using this
    have zb0 : (w.alloc (.cells #[.slice a0A0 a0n0 a0c0] 24)).heap.size = w.heap.size + 1 := by simp
    go_enter Try.func4, Try.ntmps4
    go_wp2_with fail
    refine (szNet_v _ x (1048576) _ (R0.below netRd_ok T) T.size (by omega) (by omega)).mono ?_
    rw [szL_neg (by omega)]
    rintro e w1 ⟨rfl, b1⟩
    have z1 := b1.size
    have B0 := B0.below b1 (by omega)
    have T := T.trans (b1.mono (by omega))
    have gB0 := B0.cell
    go_wp2_with fail
    go_ret
    exact ⟨rfl, T⟩
  have s0 : szNet x ≤ 1048576 := by omega
  have T := Below.refl w.heap.size w
  have T : Below w.heap.size w (w.alloc (.cells #[.slice a0A0 a0n0 a0c0] 24)) := T.alloc (by first | exact Nat.le_refl _ | (simp; done) | (simp; omega)) _
  have B0 : Blk (w.alloc (.cells #[.slice a0A0 a0n0 a0c0] 24)) (w.heap.size) 24 #[.slice a0A0 a0n0 a0c0] := by have := Blk.new w 24 #[.slice a0A0 a0n0 a0c0]; simpa using this
  have zb0 : (w.alloc (.cells #[.slice a0A0 a0n0 a0c0] 24)).heap.size = w.heap.size + 1 := by simp
  go_enter Try.func4, Try.ntmps4
  go_wp2_with fail
  refine (szNet_v _ x (1048576) _ (R0.below netRd_ok T) T.size (by omega) (by omega)).mono ?_
  rw [szL_pos (by omega)]
  rintro e w1 ⟨rfl, b1⟩
  have z1 := b1.size
  have B0 := B0.below b1 (by omega)
  have T := T.trans (b1.mono (by omega))
  have gB0 := B0.cell
  go_wp2_with fail
  refine (toNet_v _ x _ (R0.below netRd_ok T) T.size s0).mono ?_
  rintro e w2 ⟨⟨t1, rfl, p2⟩, b2⟩
  have z2 := b2.size
  have B0 := B0.below b2 (by omega)
  have T := T.trans (b2.mono (by omega))
  clear gB0
  have gB0 := B0.cell
  go_wp2_with fail
  refine (specIsOrientable_v _ x _ (p2.reads (netOw_reads (w2).heap.size) (by omega)) (Nat.le_refl _) s0).mono ?_
  rintro e w3 ⟨rfl, b3⟩
  have z3 := b3.size
  have B0 := B0.below b3 (by omega)
  have p2 := p2.below netOw_ok b3 (by omega)
  have T := T.trans (b3.mono (by omega))
  clear gB0
  have gB0 := B0.cell
  clear p2
  go_wp2_with fail
  refine (toNet_v _ x _ (R0.below netRd_ok T) T.size s0).mono ?_
  rintro e w4 ⟨⟨t4, rfl, p5⟩, b4⟩
  have z4 := b4.size
  have B0 := B0.below b4 (by omega)
  have T := T.trans (b4.mono (by omega))
  clear gB0
  have gB0 := B0.cell
  obtain ⟨l7A0, l7n0, l7c0, rfl⟩ : ∃ l7A0 l7n0 l7c0, t4 = .agg #[.slice l7A0 l7n0 l7c0] := by obtain ⟨cs, bs, rfl, ⟨A0, n0, c0, b0, rfl, _⟩, _⟩ := p5; exact ⟨A0, n0, c0, rfl⟩
  have b5 : Below w4.heap.size w4 (w4.alloc (.cells #[.slice l7A0 l7n0 l7c0] 31)) := (Below.refl _ _).alloc (Nat.le_refl _) _
  have z5 : (w4.alloc (.cells #[.slice l7A0 l7n0 l7c0] 31)).heap.size = w4.heap.size + 1 := World.size_alloc _ _
  have B0 := B0.below b5 (by omega)
  have p5 := p5.below netOw_ok b5 (by omega)
  have T := T.trans (b5.mono (by omega))
  have X6 : Blk (w4.alloc (.cells #[.slice l7A0 l7n0 l7c0] 31)) w4.heap.size 31 #[.slice l7A0 l7n0 l7c0] := Blk.new _ _ _
  clear gB0
  have gB0 := B0.cell
  have gX6 := X6.cell
  go_wp2_with fail
  refine (implIsOrientable_v _ x _ (p5.reads (netOw_reads ((w4.alloc (.cells #[.slice l7A0 l7n0 l7c0] 31))).heap.size) (by omega)) (Nat.le_refl _) s0).mono ?_
  rintro e w6 ⟨rfl, b6⟩
  have z6 := b6.size
  have B0 := B0.below b6 (by omega)
  have X6 := X6.below b6 (by omega)
  have p5 := p5.below netOw_ok b6 (by omega)
  have T := T.trans (b6.mono (by omega))
  clear gB0
  clear gX6
  have gB0 := B0.cell
  have gX6 := X6.cell
  go_wp2_with fail
  have T := T.drew
  have B0 := B0.drew
  have X6 := X6.drew
  have p5 := p5.keep netOw_ok (w' := w6.drew) (fun _ _ _ => rfl)
  have zd7 : w6.drew.heap.size = w6.heap.size := rfl
  go_region_held3 (fun w' => w'.cell? ⟨w4.heap.size, 0, none⟩ = some (.slice l7A0 l7n0 l7c0) ∧ w'.cell? ⟨w.heap.size, 0, none⟩ = some (.slice a0A0 a0n0 a0c0)) (exact ⟨gX6 0, gB0 0⟩) (first
    | (go_at_call 10; refine (toNet_v _ x _ (R0.below netRd_ok T) T.size s0).mono ?_; rintro e w8 ⟨⟨t9, rfl, p10⟩, b8⟩; have z8 := b8.size; have B0 := B0.below b8 (by omega); have X6 := X6.below b8 (by omega); have p5 := p5.below netOw_ok b8 (by omega); have T := T.trans (b8.mono (by omega)); clear gB0; clear gX6; have gB0 := B0.cell; have gX6 := X6.cell)
    | (go_at_call 13; refine (eqNet_v _ _ _ _ _ (p5.reads (netOw_reads (w8).heap.size) (by omega)) (p10.reads (netOw_reads (w8).heap.size) (by omega)) (Nat.le_refl _) (Nat.le_refl _)).mono ?_; rintro e w9 ⟨rfl, b9⟩; have z9 := b9.size; have B0 := B0.below b9 (by omega); have X6 := X6.below b9 (by omega); have p5 := p5.below netOw_ok b9 (by omega); have p10 := p10.below netOw_ok b9 (by omega); have T := T.trans (b9.mono (by omega)); clear gB0; clear gX6; have gB0 := B0.cell; have gX6 := X6.cell))
  go_wp2_with fail
  go_ret
  exact ⟨rfl, T⟩
end
section
open Go.RowKit Go.ChangeShapes Go.WideShapes Go.Deep Go.WideMaps
set_option linter.unusedVariables false
def Opens {α : Type} (P : Program) (t : TypeId) (R : Rd α) : Prop := ∀ (H : Type) (enc : TypeId × Value → H) (W : World) (fuel : Nat) (cs : List Value) (x : DataW H × List MemPlace),
  DataW.trod enc P W 0 (fun _ => true) true fuel t cs = some x → ∃ d, R W W.heap.size cs d
theorem opens_int {P : Program} {t : TypeId} (ht : P.underlying t = some (.int .i64)) : Opens P t intRd := fun H enc W fuel cs x h => by
  obtain ⟨n, hc, _, _⟩ := DataW.trod_int ht h
  exact ⟨n, hc⟩
theorem spot_none {w : World} {a : Addr} {v : Value} (h : w.cell? a = some v) : a.spot = none := by
  unfold World.cell? at h
  split at h
  · cases hs : a.spot with
    | none => rfl
    | some s => simp [hs] at h
  · simp at h
theorem opens_slice {α : Type} {P : Program} {t e : TypeId} {R : Rd α} {sz : Nat} (ht : P.underlying t = some (.slice e)) (hsz : P.cellsOf e = sz) (hpos : 0 < sz) (ok : RdOk R sz) (he : Opens P e R) : Opens P t (slRd R sz) := fun H enc W fuel cs x h => by
  rcases open_slice ht h with ⟨rfl, rfl⟩ | ⟨a, len, cap, m, n, D, Pl, rfl, hb, hl, hm, hmm, hx, hel⟩
  · exact ⟨[], none, 0, 0, rfl, SlAt.none_, Nat.le_refl _, Nat.zero_le _⟩
  · have hmc : len ≤ m := by rw [hmm]; simp; omega
    have hel' : ∀ i, i < len → ∃ p : List Value × α, R W W.heap.size p.1 p.2 ∧ ∀ j, j < sz → W.cell? (a.add (i * sz + j)) = p.1[j]? := fun i hi => by
      obtain ⟨cs', hc, htr⟩ := hel i (by omega)
      obtain ⟨d, hd⟩ := he H enc W n cs' (D i, Pl i) htr
      obtain ⟨_, hlen, hat⟩ := World.cells?_some hc
      exact ⟨(cs', d), hd, fun j hj => by
        have := hat j (by rw [hsz]; exact hj)
        rw [hsz, Go.Deep.add_add] at this
        exact this⟩
    rcases Nat.eq_zero_or_pos len with h0 | h0
    · subst h0
      exact ⟨[], some a, 0, cap, rfl, SlAt.none_, Nat.zero_le _, hm⟩
    · have hne : Nonempty (List Value × α) := let ⟨p, _⟩ := hel' 0 h0; ⟨p⟩
      have hf : ∃ f : Nat → List Value × α, ∀ i, i < len → R W W.heap.size (f i).1 (f i).2 ∧ ∀ j, j < sz → W.cell? (a.add (i * sz + j)) = (f i).1[j]? := by
        classical
        refine ⟨fun i => if hi : i < len then Classical.choose (hel' i hi) else Classical.choice hne, fun i hi => ?_⟩
        simp only [dif_pos hi]
        exact Classical.choose_spec (hel' i hi)
      obtain ⟨f, hf⟩ := hf
      have hc0 : ∃ v, W.cell? a = some v := by
        obtain ⟨hR, hc⟩ := hf 0 h0
        have hlR := ok.len hR
        have h1 := hc 0 hpos
        have h2 : a.add (0 * sz + 0) = a := by simp [Addr.add]
        rw [h2, List.getElem?_eq_getElem (by omega)] at h1
        exact ⟨_, h1⟩
      obtain ⟨v0, hv0⟩ := hc0
      have hsp := spot_none hv0
      have hbl := World.block_lt_of_cell? _ _ hv0
      have ea : a = ⟨a.block, a.off, none⟩ := by cases a; simp_all
      refine ⟨(List.range len).map fun i => (f i).2, some a, len, cap, rfl, ⟨by simp, fun _ => ⟨a.block, a.off, by rw [← ea], hbl, fun i x hx => ?_⟩⟩, hl, hm⟩
      have hi : i < len := by simpa using lt_of_some hx
      have hx' : (f i).2 = x := by simpa [hi] using hx
      subst hx'
      obtain ⟨hR, hc⟩ := hf i hi
      refine ⟨_, hR, fun j v hj => ?_⟩
      have hj' : j < sz := by have := lt_of_some hj; rw [ok.len hR] at this; exact this
      have h1 := hc j hj'
      rw [hj] at h1
      have e2 : a.add (i * sz + j) = ⟨a.block, a.off + i * sz + j, none⟩ := by
        rw [ea]; simp only [Addr.add_lit]; congr 1; omega
      rw [← e2]
      exact h1
/-- An argument's value as its cells. -/
theorem opens_arg {α : Type} {P : Program} {t : TypeId} {R : Rd α} (h : Opens P t R) {H : Type} {enc : TypeId × Value → H} {W : World} {v : Value} {d : DataW H} {ps : List MemPlace} (ht : DataW.Trod enc P W 0 (fun _ => true) true t v d ps) : ∃ x, R W W.heap.size v.cells.toList x := by
  obtain ⟨fuel, hf⟩ := ht
  exact h H enc W fuel _ _ hf
end
section
open Go.RowKit
theorem opens_ints : Opens Try.prog 39 (slRd intRd 1) := opens_slice Try.underlying39 (by kernel_rfl) (by decide) intRd_ok (opens_int Try.underlying2)
end
section
open Go.RowKit Go.ChangeShapes Go.WideShapes Go.Deep Go.WideMaps
set_option linter.unusedVariables false
set_option linter.unusedSimpArgs false
theorem trod_fields {P : Program} {t : TypeId} {fs : Array Field} {H : Type} {enc : TypeId × Value → H} {W : World} {fuel : Nat} {cs : List Value} {x : DataW H × List MemPlace} (ht : P.underlying t = some (.struct fs)) (h : DataW.trod enc P W 0 (fun _ => true) true fuel t cs = some x) :
    cs.length = P.cellsOf t ∧ ∃ n, ∀ (i : Nat) (f : Field), fs[i]? = some f → ∃ y, DataW.trod enc P W 0 (fun _ => true) true n f.type ((cs.drop f.offset).take (P.cellsOf f.type)) = some y := by
  obtain ⟨xs, n, _, _, hl, hlen, hf⟩ := DataW.trod_struct ht h
  refine ⟨hl, n, fun i f hi => ?_⟩
  have hlt : i < fs.size := (Array.getElem?_eq_some_iff.1 hi).1
  exact ⟨xs[i], by rw [hf i f hi]; exact List.getElem?_eq_getElem (by omega)⟩
/-- A struct argument. -/
theorem open_st {α : Type} {P : Program} {t : TypeId} {fs : Array Field} {R : Rd α} (h : Opens P t R) (ht : P.underlying t = some (.struct fs)) {r : Reach} {b0 : Nat} {H : Type} {enc : TypeId × Value → H} {W : World} {v : Value} {d : DataW H} {ps : List MemPlace}
    (hv : Value.okWide P W r b0 t v) (hd : DataW.Trod enc P W 0 (fun _ => true) true t v d ps) : ∃ x, RdT R W W.heap.size v x := by
  obtain ⟨cs, rfl, _⟩ := okWide_struct ht hv
  obtain ⟨x, hx⟩ := opens_arg h hd
  exact ⟨x, cs.toList, by simp, by simpa [Value.cells] using hx⟩
theorem len1 {α : Type} {l : List α} (h : l.length = 1) : ∃ a0, l = [a0] := by
  match l, h with
  | [a0], _ => exact ⟨a0, rfl⟩
theorem len2 {α : Type} {l : List α} (h : l.length = 2) : ∃ a0 a1, l = [a0, a1] := by
  match l, h with
  | [a0, a1], _ => exact ⟨a0, a1, rfl⟩
theorem len5 {α : Type} {l : List α} (h : l.length = 5) : ∃ a0 a1 a2 a3 a4, l = [a0, a1, a2, a3, a4] := by
  match l, h with
  | [a0, a1, a2, a3, a4], _ => exact ⟨a0, a1, a2, a3, a4, rfl⟩
theorem opens_Port : Opens Try.prog 194 portRd := fun H enc W fuel cs x h => by
  obtain ⟨hl, m, hf⟩ := trod_fields Try.underlying194 h
  replace hl : cs.length = 2 := hl.trans (by kernel_rfl)
  obtain ⟨a0, a1, rfl⟩ := len2 hl
  obtain ⟨y0, h0⟩ : ∃ y, DataW.trod enc Try.prog W 0 (fun _ => true) true m 2 (([a0, a1].drop 0).take (Try.prog.cellsOf 2)) = some y := hf 0 _ rfl
  have k0 : Try.prog.cellsOf 2 = 1 := by kernel_rfl
  rw [k0] at h0; simp only [List.drop_zero, List.drop_succ_cons, List.take_succ_cons, List.take_zero] at h0
  obtain ⟨d0, e0⟩ := opens_int Try.underlying2 H enc W _ _ _ h0
  unfold intRd at e0; simp only [List.cons.injEq, and_true] at e0
  obtain ⟨y1, h1⟩ : ∃ y, DataW.trod enc Try.prog W 0 (fun _ => true) true m 2 (([a0, a1].drop 1).take (Try.prog.cellsOf 2)) = some y := hf 1 _ rfl
  have k1 : Try.prog.cellsOf 2 = 1 := by kernel_rfl
  rw [k1] at h1; simp only [List.drop_zero, List.drop_succ_cons, List.take_succ_cons, List.take_zero] at h1
  obtain ⟨d1, e1⟩ := opens_int Try.underlying2 H enc W _ _ _ h1
  unfold intRd at e1; simp only [List.cons.injEq, and_true] at e1
  subst e0; subst e1
  exact ⟨⟨d0, d1⟩, rfl⟩
theorem opens_PortS : Opens Try.prog 115 (slRd portRd 2) := opens_slice Try.underlying115 (by kernel_rfl) (by decide) portRd_ok opens_Port
theorem opens_Agent : Opens Try.prog 117 agentRd := fun H enc W fuel cs x h => by
  obtain ⟨hl, m, hf⟩ := trod_fields Try.underlying117 h
  replace hl : cs.length = 5 := hl.trans (by kernel_rfl)
  obtain ⟨a0, a1, a2, a3, a4, rfl⟩ := len5 hl
  obtain ⟨y0, h0⟩ : ∃ y, DataW.trod enc Try.prog W 0 (fun _ => true) true m 2 (([a0, a1, a2, a3, a4].drop 0).take (Try.prog.cellsOf 2)) = some y := hf 0 _ rfl
  have k0 : Try.prog.cellsOf 2 = 1 := by kernel_rfl
  rw [k0] at h0; simp only [List.drop_zero, List.drop_succ_cons, List.take_succ_cons, List.take_zero] at h0
  obtain ⟨d0, e0⟩ := opens_int Try.underlying2 H enc W _ _ _ h0
  unfold intRd at e0; simp only [List.cons.injEq, and_true] at e0
  obtain ⟨y1, h1⟩ : ∃ y, DataW.trod enc Try.prog W 0 (fun _ => true) true m 2 (([a0, a1, a2, a3, a4].drop 1).take (Try.prog.cellsOf 2)) = some y := hf 1 _ rfl
  have k1 : Try.prog.cellsOf 2 = 1 := by kernel_rfl
  rw [k1] at h1; simp only [List.drop_zero, List.drop_succ_cons, List.take_succ_cons, List.take_zero] at h1
  obtain ⟨d1, e1⟩ := opens_int Try.underlying2 H enc W _ _ _ h1
  unfold intRd at e1; simp only [List.cons.injEq, and_true] at e1
  obtain ⟨y2, h2⟩ : ∃ y, DataW.trod enc Try.prog W 0 (fun _ => true) true m 2 (([a0, a1, a2, a3, a4].drop 2).take (Try.prog.cellsOf 2)) = some y := hf 2 _ rfl
  have k2 : Try.prog.cellsOf 2 = 1 := by kernel_rfl
  rw [k2] at h2; simp only [List.drop_zero, List.drop_succ_cons, List.take_succ_cons, List.take_zero] at h2
  obtain ⟨d2, e2⟩ := opens_int Try.underlying2 H enc W _ _ _ h2
  unfold intRd at e2; simp only [List.cons.injEq, and_true] at e2
  obtain ⟨y3, h3⟩ : ∃ y, DataW.trod enc Try.prog W 0 (fun _ => true) true m 39 (([a0, a1, a2, a3, a4].drop 3).take (Try.prog.cellsOf 39)) = some y := hf 3 _ rfl
  have k3 : Try.prog.cellsOf 39 = 1 := by kernel_rfl
  rw [k3] at h3; simp only [List.drop_zero, List.drop_succ_cons, List.take_succ_cons, List.take_zero] at h3
  obtain ⟨d3, A3, n3, c3, e3, g3, r3⟩ := opens_ints H enc W _ _ _ h3
  simp only [List.cons.injEq, and_true] at e3
  obtain ⟨y4, h4⟩ : ∃ y, DataW.trod enc Try.prog W 0 (fun _ => true) true m 115 (([a0, a1, a2, a3, a4].drop 4).take (Try.prog.cellsOf 115)) = some y := hf 4 _ rfl
  have k4 : Try.prog.cellsOf 115 = 1 := by kernel_rfl
  rw [k4] at h4; simp only [List.drop_zero, List.drop_succ_cons, List.take_succ_cons, List.take_zero] at h4
  obtain ⟨d4, A4, n4, c4, e4, g4, r4⟩ := opens_PortS H enc W _ _ _ h4
  simp only [List.cons.injEq, and_true] at e4
  subst e0; subst e1; subst e2; subst e3; subst e4
  exact ⟨⟨d0, d1, d2, d3, d4⟩, A3, n3, c3, A4, n4, c4, rfl, ⟨g3, r3⟩, ⟨g4, r4⟩⟩
theorem opens_AgentS : Opens Try.prog 22 (slRd agentRd 5) := opens_slice Try.underlying22 (by kernel_rfl) (by decide) agentRd_ok opens_Agent
theorem opens_Net : Opens Try.prog 24 netRd := fun H enc W fuel cs x h => by
  obtain ⟨hl, m, hf⟩ := trod_fields Try.underlying24 h
  replace hl : cs.length = 1 := hl.trans (by kernel_rfl)
  obtain ⟨a0, rfl⟩ := len1 hl
  obtain ⟨y0, h0⟩ : ∃ y, DataW.trod enc Try.prog W 0 (fun _ => true) true m 22 (([a0].drop 0).take (Try.prog.cellsOf 22)) = some y := hf 0 _ rfl
  have k0 : Try.prog.cellsOf 22 = 1 := by kernel_rfl
  rw [k0] at h0; simp only [List.drop_zero, List.drop_succ_cons, List.take_succ_cons, List.take_zero] at h0
  obtain ⟨d0, A0, n0, c0, e0, g0, r0⟩ := opens_AgentS H enc W _ _ _ h0
  simp only [List.cons.injEq, and_true] at e0
  subst e0
  exact ⟨⟨d0⟩, A0, n0, c0, rfl, ⟨g0, r0⟩⟩
end
section
open Go.ChangeShapes Go.WideShapes Go.ChangeAt Go.RowKit Go.WideElems
set_option linter.unusedVariables false
theorem own : ownKnob Try.prog.godebug = none := by kernel_rfl
theorem laid : laidOutB Try.prog = true := by kernel_rfl
section
variable {H : Type} {enc : TypeId × Value → H}
theorem trodAll_stays {W W' : World} {sp : Nat → Bool} (hb : Below W.heap.size W W') : ∀ (ts : List TypeId) (vs : List Value) (ds : List (DataW H)) (ps : List MemPlace),
    (∀ t ∈ ts, Try.prog.readableRec t = true ∧ t < Try.prog.types.size) → DataW.TrodAll enc Try.prog W 0 (fun _ => true) true ts vs ds ps →
    (∀ x ∈ ps, x.block < W.heap.size) → (∀ x ∈ ps, sp x.block = true) → DataW.TrodAll enc Try.prog W' 0 sp true ts vs ds ps
  | [], [], [], ps, _, h, _, _ => h
  | t :: ts, v :: vs, d :: ds, ps, hts, h, hlt, hsp => by
    obtain ⟨p, q, h1, h2, rfl⟩ := h
    have ht := hts t (by simp)
    exact ⟨p, q, Trod_stays laid ht.1 ht.2 h1 (fun x hx => hb.same (hlt x (by simp [hx]))) (fun x hx => hsp x (by simp [hx])),
      trodAll_stays hb ts vs ds q (fun t' h' => hts t' (by simp [h'])) h2 (fun x hx => hlt x (by simp [hx])) (fun x hx => hsp x (by simp [hx])), rfl⟩
  | [], _ :: _, _, _, _, h, _, _ => h.elim
  | [], [], _ :: _, _, _, h, _, _ => h.elim
  | _ :: _, [], _, _, _, h, _, _ => h.elim
  | _ :: _, _ :: _, [], _, _, h, _, _ => h.elim
theorem post_law {f : Func} {s : ChangeSpec} {W W' : World} {args : Array Value} {ds : List (DataW H)} {before : List MemPlace}
    (hv : s.vars = []) (hr1 : f.resultTypes = #[4])
    (hp0 : (f.params.toList.all fun t => Try.prog.readableRec t && decide (t < Try.prog.types.size)) = true)
    (hres : (s.fn H (ds ++ [])).results = [.lit (.bool true)]) (hargs : (s.fn H (ds ++ [])).args = ds) (hvars : (s.fn H (ds ++ [])).vars = [])
    (hW : DataW.Whole enc Try.prog f.params.toList s.vars false W args.toList ds [] before)
    (hb : Below W.heap.size W W') :
    s.post enc Try.prog f false true false false W args (.bool true) W' := by
  have hp : ∀ t ∈ f.params.toList, Try.prog.readableRec t = true ∧ t < Try.prog.types.size := fun t ht => by simpa using List.all_eq_true.1 hp0 t ht
  have hlt : ∀ p ∈ before, p.block < W.heap.size := fun p hp => hW.lt p hp
  have hold : ∀ p ∈ before, (fun b => decide (b < W.heap.size)) p.block = true := fun p hp => by simpa using hlt p hp
  have hWh := hW
  obtain ⟨p, q, hA, hV, rfl, hfz, _⟩ := hWh
  rw [hv] at hV
  obtain rfl : q = [] := hV
  rw [List.append_nil] at hlt hold
  have hA' : ∀ sp : Nat → Bool, (∀ x ∈ p, sp x.block = true) → DataW.TrodAll enc Try.prog W' 0 sp true f.params.toList args.toList ds p := fun sp hsp =>
    trodAll_stays hb _ _ _ _ hp hA hlt hsp
  rw [List.append_nil] at hW
  refine ⟨ds, [], p, [], p, [], hW, ?_, ?_, ?_, World.keptBut_mono (fun x hx => ⟨hx, ?_⟩) (hb.frame (· ∈ p)), fun h => by cases h⟩
  · rw [hres, hr1]
    exact trodAll_cons_mk (shut_bool Try.underlying4 _) trodAll_mk0
  · rw [hargs]
    exact hA' _ hold
  · rw [hvars, hv]
    rfl
  · simp [hx]
end
end
end Go.Proofs.Ytpbobilkejblgaa
