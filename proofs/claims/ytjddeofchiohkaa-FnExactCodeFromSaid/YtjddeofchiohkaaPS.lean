/- TraverseFrom, CodeFrom: the models agree. -/
import Derived.Test.YtjddeofchiohkaaPR
import Derived.Test.YtjddeofchiohkaaWF
namespace Go.Proofs.Ytjddeofchiohkaa
open Go.RowKit
set_option linter.unusedVariables false
set_option linter.unusedSimpArgs false
def visit (l : List Int) (a : Int) : List Int := if a ∈ l then l else l ++ [a]
def posOf (l : List Int) (a : Int) : Int := if a ∈ l then (l.idxOf a : Int) else -1
def atOf (n : Nat) (l : List Int) : List Int := (List.range n).map fun (i : Nat) => posOf l (i : Int)
structure GL (n : Nat) (l : List Int) : Prop where
  nd : l.Nodup
  inr : ∀ a ∈ l, 0 ≤ a ∧ a < n
theorem GL.len {n : Nat} {l : List Int} (h : GL n l) : l.length ≤ n := by
  have := php n (l.map Int.toNat) (by
    rw [List.nodup_iff_pairwise_ne, List.pairwise_map]
    refine (List.nodup_iff_pairwise_ne.1 h.nd).imp_of_mem ?_
    intro a b ha hb hab e
    have := h.inr a ha; have := h.inr b hb
    exact hab (by omega)) (fun x hx => by
    obtain ⟨a, ha, rfl⟩ := List.mem_map.1 hx
    have := h.inr a ha
    omega)
  simpa using this
theorem GL.add {n : Nat} {l : List Int} (h : GL n l) {a : Int} (h0 : 0 ≤ a) (h1 : a < n) (hn : a ∉ l) : GL n (l ++ [a]) :=
  ⟨List.nodup_append.2 ⟨h.nd, by simp, fun x hx y hy e => by simp at hy; subst hy; subst e; exact hn hx⟩, fun x hx => by
    rcases List.mem_append.1 hx with h2 | h2
    · exact h.inr x h2
    · simp at h2; subst h2; exact ⟨h0, h1⟩⟩
theorem GL.visit {n : Nat} {l : List Int} (h : GL n l) {a : Int} (h0 : 0 ≤ a) (h1 : a < n) : GL n (visit l a) := by
  unfold Go.Proofs.Ytjddeofchiohkaa.visit
  by_cases ha : a ∈ l
  · rw [if_pos ha]; exact h
  · rw [if_neg ha]; exact h.add h0 h1 ha
theorem posOf_add {l : List Int} {a b : Int} (hn : a ∉ l) : posOf (l ++ [a]) b = if b = a then (l.length : Int) else posOf l b := by
  unfold posOf
  by_cases hb : b = a
  · subst hb
    rw [if_pos (by simp), if_pos rfl, List.idxOf_append]
    simp [hn]
  · rw [if_neg hb]
    by_cases hl : b ∈ l
    · rw [if_pos (by simp [hl]), if_pos hl, List.idxOf_append]
      simp [hl]
    · rw [if_neg (by simp [hl, hb]), if_neg hl]
theorem atOf_get {n : Nat} {l : List Int} {a : Int} (h0 : 0 ≤ a) (h1 : a < n) : getI (atOf n l) a = some (posOf l a) := by
  obtain ⟨k, rfl⟩ := Int.eq_ofNat_of_zero_le h0
  refine getI_nat ?_
  unfold atOf
  rw [List.getElem?_map, List.getElem?_range (by omega)]
  rfl
theorem atOf_set {n : Nat} {l : List Int} {a : Int} (h0 : 0 ≤ a) (h1 : a < n) (hn : a ∉ l) : setI (atOf n l) a (l.length : Int) = atOf n (l ++ [a]) := by
  obtain ⟨k, rfl⟩ := Int.eq_ofNat_of_zero_le h0
  rw [setI_nat]
  apply List.ext_getElem?
  intro i
  unfold atOf
  rw [List.getElem?_set]
  by_cases hi : i < n
  · rw [List.getElem?_map, List.getElem?_map, List.getElem?_range hi]
    simp only [Option.map_some]
    rw [posOf_add hn]
    by_cases hk : k = i
    · subst hk
      simp [hi]
    · have : ¬ ((i : Int) = (k : Int)) := by omega
      rw [if_neg hk, if_neg this]
  · have : ¬ k = i := by omega
    rw [if_neg this, List.getElem?_map, List.getElem?_map, List.getElem?_eq_none (by simp; omega)]
    rfl
theorem posOf_neg {l : List Int} {a : Int} : decide (posOf l a < 0) = decide (a ∉ l) := by
  unfold posOf
  by_cases h : a ∈ l
  · simp [h]
  · simp [h]
def mOf (l : List Int) : MapM Int Bool := l.foldl (fun M a => M.put a true) MapM.empty
theorem mOf_add (l : List Int) (a : Int) : mOf (l ++ [a]) = (mOf l).put a true := by simp [mOf, List.foldl_append]
theorem mOf_ok (l : List Int) : (mOf l).n = l.length ∧ ∀ a, (mOf l).look a false = decide (a ∈ l) := by
  have key : ∀ (k : Nat) (l : List Int), l.length = k → (mOf l).n = l.length ∧ ∀ a, (mOf l).look a false = decide (a ∈ l) := by
    intro k
    induction k with
    | zero => intro l hl; obtain rfl := List.eq_nil_of_length_eq_zero hl; exact ⟨rfl, fun a => by simp [mOf, MapM.empty, MapM.look]⟩
    | succ k ih =>
      intro l hl
      obtain ⟨l', b, rfl⟩ : ∃ l' b, l = l' ++ [b] := by
        have : l ≠ [] := fun e => by rw [e] at hl; simp at hl
        exact ⟨l.dropLast, l.getLast this, (List.dropLast_concat_getLast this).symm⟩
      have hl' : l'.length = k := by simpa using hl
      obtain ⟨h1, h2⟩ := ih l' hl'
      rw [mOf_add]
      refine ⟨by show (mOf l').n + 1 = _; rw [h1]; simp, fun a => ?_⟩
      have h2 := h2 a
      by_cases ha : a = b
      · simp [MapM.look, MapM.put, ha]
      · simp only [MapM.look, MapM.put, if_neg ha] at h2 ⊢
        rw [h2]; simp [ha]
  exact key l.length l rfl
/-- The ports of a valid net lead to agents. -/
theorem Good.to {xs : List DAgent} (G : Good xs) {i : Nat} {x : DAgent} (hx : xs[i]? = some x) {k : Nat} {p : DPort} (hp : x.ports[k]? = some p) : 0 ≤ p.agent ∧ p.agent < xs.length := by
  have h := (G.peer (hasPort_of hx (lt_of_some hp))).1
  rw [peer_of hx hp] at h
  obtain ⟨j, s, y, rfl, hy, _⟩ := hasPort_at h
  have := lt_of_some hy
  simp only
  omega
def visits (l : List Int) (x : DAgent) : List Int := x.ports.foldl (fun l p => visit l p.agent) l

theorem spec_inner {xs : List DAgent} (G : Good xs) {i : Nat} {x : DAgent} (hx : xs[i]? = some x) (K : List Int → List Int → Option (List Int × List Int)) {l : List Int} (hl : GL xs.length l) (g : Nat) (hg : x.ports.length < g) :
    m_spec_l12Traverse_L3 x K g (atOf xs.length l) l 0 = K (atOf xs.length (visits l x)) (visits l x) ∧ GL xs.length (visits l x) := by
  have hn := G.len
  exact foldL (L := fun g s k => m_spec_l12Traverse_L3 x K g (atOf xs.length s) s k) (d := x.ports) (f := fun l p => visit l p.agent) (I := fun _ s => GL xs.length s) (K := fun s => K (atOf xs.length s) s)
    (fun g k p s hp hs => by
      have hk := lt_of_some hp
      obtain ⟨h0, h1⟩ := G.to hx hp
      have hlen := hs.len
      refine ⟨?_, hs.visit h0 h1⟩
      simp -implicitDefEqProofs only [m_spec_l12Traverse_L3, m_spec_l12Traverse_B3, dlt hk, cond_true, getI_nat hp, Option.bind_some, atOf_get h0 h1, posOf_neg]
      unfold visit
      by_cases ha : p.agent ∈ s
      · rw [show decide (p.agent ∉ s) = false by simpa using ha, cond_false, if_pos ha]
      · rw [show decide (p.agent ∉ s) = true by simpa using ha, cond_true, if_neg ha, mustP_ok (by simp; omega), Option.bind_some, atOf_set h0 h1 ha])
    (fun g s _ => by
      simp -implicitDefEqProofs only [m_spec_l12Traverse_L3, m_spec_l12Traverse_B3, dge, cond_false])
    g l hg hl

theorem impl_inner {xs : List DAgent} (G : Good xs) {i : Nat} {x : DAgent} (hx : xs[i]? = some x) (K : List Int → MapM Int Bool → Option (List Int)) {l : List Int} (hl : GL xs.length l) (g : Nat) (hg : x.ports.length < g) :
    m_impl_Net_traverse_L2 x K g l 0 (mOf l) = K (visits l x) (mOf (visits l x)) := by
  have hn := G.len
  exact (foldL (L := fun g s k => m_impl_Net_traverse_L2 x K g s k (mOf s)) (d := x.ports) (f := fun l p => visit l p.agent) (I := fun _ s => GL xs.length s) (K := fun s => K s (mOf s))
    (fun g k p s hp hs => by
      have hk := lt_of_some hp
      obtain ⟨h0, h1⟩ := G.to hx hp
      have hlen := hs.len
      have hm := mOf_ok s
      refine ⟨?_, hs.visit h0 h1⟩
      simp -implicitDefEqProofs only [m_impl_Net_traverse_L2, m_impl_Net_traverse_B2, dlt hk, cond_true, getI_nat hp, Option.bind_some, hm.2]
      rw [ck_ok (by omega), Option.bind_some]
      unfold visit
      by_cases ha : p.agent ∈ s
      · rw [decide_eq_true ha, cond_true, if_pos ha]
      · rw [decide_eq_false ha, cond_false, if_neg ha, Option.bind_some, mustP_ok (by rw [hm.1]; omega), Option.bind_some, mustP_ok (by simp; omega), Option.bind_some, mOf_add])
    (fun g s _ => by
      simp -implicitDefEqProofs only [m_impl_Net_traverse_L2, m_impl_Net_traverse_B2, dge, cond_false])
    g l hg hl).1

/-- The list after k agents have been looked at. -/
def tr (xs : List DAgent) (s : Int) : Nat → List Int
  | 0 => [s]
  | k + 1 => match (tr xs s k)[k]? with
    | none => tr xs s k
    | some a => visits (tr xs s k) (agentAt xs a)
theorem visits_pre (x : DAgent) : ∀ l : List Int, ∃ m, visits l x = l ++ m := by
  unfold visits
  generalize x.ports = ps
  induction ps with
  | nil => intro l; exact ⟨[], by simp⟩
  | cons p ps ih =>
    intro l
    rw [List.foldl_cons]
    by_cases h : p.agent ∈ l
    · rw [show visit l p.agent = l from if_pos h]; exact ih l
    · rw [show visit l p.agent = l ++ [p.agent] from if_neg h]
      obtain ⟨m, hm⟩ := ih (l ++ [p.agent])
      exact ⟨[p.agent] ++ m, by rw [hm, List.append_assoc]⟩
theorem tr_ok {xs : List DAgent} (G : Good xs) {s : Int} (h0 : 0 ≤ s) (h1 : s < xs.length) : ∀ k, GL xs.length (tr xs s k)
  | 0 => ⟨by simp [tr], fun a ha => by simp [tr] at ha; subst ha; exact ⟨h0, h1⟩⟩
  | k + 1 => by
    have ih := tr_ok G h0 h1 k
    show GL xs.length (match (tr xs s k)[k]? with | none => tr xs s k | some a => visits (tr xs s k) (agentAt xs a))
    cases h : (tr xs s k)[k]? with
    | none => exact ih
    | some a =>
      simp only
      obtain ⟨ha0, ha1⟩ := ih.inr a (List.mem_of_getElem? h)
      obtain ⟨j, rfl⟩ := Int.eq_ofNat_of_zero_le ha0
      have hx := List.getElem?_eq_getElem (show j < xs.length by omega)
      rw [agentAt_nat hx]
      unfold visits
      have : ∀ (ps : List DPort), (∀ p ∈ ps, 0 ≤ p.agent ∧ p.agent < xs.length) → ∀ l, GL xs.length l → GL xs.length (ps.foldl (fun l p => visit l p.agent) l) := by
        intro ps
        induction ps with
        | nil => intro _ l hl; exact hl
        | cons p ps ih2 =>
          intro hps l hl
          rw [List.foldl_cons]
          exact ih2 (fun q hq => hps q (by simp [hq])) _ (hl.visit (hps p (by simp)).1 (hps p (by simp)).2)
      refine this _ (fun p hp => ?_) _ ih
      obtain ⟨k', hk', rfl⟩ := List.getElem_of_mem hp
      exact G.to hx (List.getElem?_eq_getElem hk')
theorem tr_end {xs : List DAgent} (G : Good xs) {s : Int} (h0 : 0 ≤ s) (h1 : s < xs.length) : ∃ K, K ≤ xs.length ∧ (tr xs s K).length ≤ K ∧ ∀ k, k < K → k < (tr xs s k).length := by
  obtain ⟨K, h2, h3⟩ := least (p := fun K => (tr xs s K).length ≤ K) ⟨xs.length, (tr_ok G h0 h1 _).len⟩
  refine ⟨K, ?_, h2, fun k hk => by have := h3 k hk; omega⟩
  apply Classical.byContradiction
  intro hn
  exact h3 xs.length (by omega) (tr_ok G h0 h1 _).len
theorem tr_step {xs : List DAgent} {s : Int} {k : Nat} {a : Int} (h : (tr xs s k)[k]? = some a) : tr xs s (k + 1) = visits (tr xs s k) (agentAt xs a) := by
  show (match (tr xs s k)[k]? with | none => tr xs s k | some a => visits (tr xs s k) (agentAt xs a)) = _
  rw [h]
theorem tr_stable {xs : List DAgent} {s : Int} {K : Nat} (h : (tr xs s K).length ≤ K) : ∀ m, tr xs s (K + m) = tr xs s K
  | 0 => rfl
  | m + 1 => by
    have ih := tr_stable h m
    show (match (tr xs s (K + m))[K + m]? with | none => tr xs s (K + m) | some a => visits (tr xs s (K + m)) (agentAt xs a)) = _
    rw [ih, List.getElem?_eq_none (by omega)]
theorem flat_one {α β : Type} (c : β) (l : List α) : l.flatMap (fun _ => [c]) = l.map (fun _ => c) := by
  induction l with
  | nil => rfl
  | cons x l ih => rw [List.flatMap_cons, ih]; rfl

theorem p_sTraverse {xs : List DAgent} (G : Good xs) {s : Int} (h0 : 0 ≤ s) (h1 : s < xs.length) : m_spec_l12Traverse ⟨xs⟩ s = some (tr xs s xs.length, atOf xs.length (tr xs s xs.length)) := by
  have hn := G.len
  obtain ⟨K, hK, hK1, hK2⟩ := tr_end G h0 h1
  have hfin : tr xs s xs.length = tr xs s K := by
    have := tr_stable hK1 (xs.length - K)
    rw [show K + (xs.length - K) = xs.length by omega] at this
    exact this
  have hinit : (List.range' 0 (xs.length - 0)).flatMap (fun _ => [(-1 : Int)]) = atOf xs.length [] := by
    rw [flat_one, Nat.sub_zero, ← List.range_eq_range']
    unfold atOf posOf
    simp
  have key := appI (L := m_spec_l12Traverse_L1 ⟨xs⟩ (m_spec_l12Traverse_A1 ⟨xs⟩ s)) (f := fun _ => [(-1 : Int)]) (n := xs.length) (M := 4294967296) (K := m_spec_l12Traverse_A1 ⟨xs⟩ s)
    (fun g k acc hk hM => by
      simp -implicitDefEqProofs only [m_spec_l12Traverse_L1, m_spec_l12Traverse_B1, dlt hk, cond_true]
      rw [mustP_ok hM, Option.bind_some])
    (fun g acc => by simp -implicitDefEqProofs only [m_spec_l12Traverse_L1, m_spec_l12Traverse_B1, dge, cond_false])
    0 [] (xs.length + 1) (by omega) (by omega) (by rw [hinit]; simp [atOf]; omega)
  rw [hinit, List.nil_append] at key
  have hstep := steps (L := fun g (q : List Int × Int) => m_spec_l12Traverse_L2 ⟨xs⟩ m_spec_l12Traverse_A2 g (atOf xs.length q.1) q.1 q.2) (st := fun k => (tr xs s k, (k : Int))) (n := K)
    (fun g k hk => by
      have hlt := hK2 k hk
      have ha := List.getElem?_eq_getElem hlt
      obtain ⟨a0, a1⟩ := (tr_ok G h0 h1 k).inr _ (List.getElem_mem hlt)
      obtain ⟨j, hj⟩ := Int.eq_ofNat_of_zero_le a0
      have hjl : j < xs.length := by omega
      have hx := List.getElem?_eq_getElem hjl
      rw [hj] at ha
      have hstep := tr_step ha
      rw [agentAt_nat hx] at hstep
      have inner := (spec_inner G hx (m_spec_l12Traverse_A3 (m_spec_l12Traverse_L2 ⟨xs⟩ m_spec_l12Traverse_A2 g) (k : Int)) (tr_ok G h0 h1 k) (xs[j].ports.length + 1) (Nat.lt_succ_self _)).1
      simp -implicitDefEqProofs only [m_spec_l12Traverse_L2, m_spec_l12Traverse_B2, dlt hlt, cond_true, getI_nat ha, getI_nat hx, Option.bind_some]
      rw [inner, m_spec_l12Traverse_A3, ck_ok (by omega), Option.bind_some, hstep]
      simp only [Int.natCast_add, Int.cast_ofNat_Int]) (xs.length + 2 - K)
  have hcon : xs.length + 2 - K + K = xs.length + 2 := by omega
  rw [hcon] at hstep
  have hend : ∀ g, m_spec_l12Traverse_L2 ⟨xs⟩ m_spec_l12Traverse_A2 (g + 1) (atOf xs.length (tr xs s K)) (tr xs s K) (K : Int) = some (tr xs s K, atOf xs.length (tr xs s K)) := by
    intro g
    have : decide ((K : Int) < ((tr xs s K).length : Int)) = false := by simp; omega
    simp -implicitDefEqProofs only [m_spec_l12Traverse_L2, m_spec_l12Traverse_B2, this, cond_false, m_spec_l12Traverse_A2]
  unfold m_spec_l12Traverse
  refine key.trans ?_
  unfold m_spec_l12Traverse_A1
  rw [atOf_get h0 h1, Option.bind_some]
  have hs := atOf_set (l := []) h0 h1 (by simp)
  have hs : setI (atOf xs.length []) s 0 = atOf xs.length [s] := hs
  rw [hs]
  refine Eq.trans hstep ?_
  obtain ⟨g', hg'⟩ : ∃ g', xs.length + 2 - K = g' + 1 := ⟨xs.length + 1 - K, by omega⟩
  rw [hg', hfin]
  exact hend g'
noncomputable def traverseFrom (d : DNet) (s : Int) : List Int × Int := bif validNet d then (bif decide (0 ≤ s ∧ s < d.agents.length) then (tr d.agents s d.agents.length, 0) else ([], 2)) else ([], 1)
theorem p_sStart (d : DNet) (s : Int) (hs : Small d.agents) : m_spec_l12Start d s = some (bif validNet d then (bif decide (0 ≤ s ∧ s < d.agents.length) then 0 else 2) else 1) := by
  have hl := hs.len
  unfold m_spec_l12Start
  rw [p_ok _ hs, Option.bind_some, ck_ok (by omega), Option.bind_some]
  have e : inR s 0 ((d.agents.length : Int) - 1) = decide (0 ≤ s ∧ s < d.agents.length) := by rw [Bool.eq_iff_iff]; simp [inR]; omega
  rw [e]
  cases validNet d <;> cases decide (0 ≤ s ∧ s < d.agents.length) <;> rfl
theorem p_sTraverseFrom (d : DNet) (s : Int) (hs : Small d.agents) : m_spec_TraverseFrom d s = some (traverseFrom d s) := by
  unfold m_spec_TraverseFrom traverseFrom
  rw [p_sStart d s hs, Option.bind_some]
  cases hv : validNet d with
  | false => rfl
  | true =>
    cases hr : decide (0 ≤ s ∧ s < d.agents.length) with
    | false => rfl
    | true =>
      simp only [cond_true]
      rw [show ((0 : Int) != 0) = false from rfl, cond_false]
      obtain ⟨xs⟩ := d
      have hr := of_decide_eq_true hr
      rw [p_sTraverse (good hv) hr.1 hr.2, Option.bind_some]

theorem p_iTraverse {xs : List DAgent} (G : Good xs) {s : Int} (h0 : 0 ≤ s) (h1 : s < xs.length) : m_impl_Net_traverse ⟨xs⟩ s = some (tr xs s xs.length) := by
  have hn := G.len
  obtain ⟨K, hK, hK1, hK2⟩ := tr_end G h0 h1
  have hfin : tr xs s xs.length = tr xs s K := by
    have := tr_stable hK1 (xs.length - K)
    rw [show K + (xs.length - K) = xs.length by omega] at this
    exact this
  have hstep := steps (L := fun g (q : List Int × Int) => m_impl_Net_traverse_L1 ⟨xs⟩ m_impl_Net_traverse_A1 g q.1 q.2 (mOf q.1)) (st := fun k => (tr xs s k, (k : Int))) (n := K)
    (fun g k hk => by
      have hlt := hK2 k hk
      have ha := List.getElem?_eq_getElem hlt
      obtain ⟨a0, a1⟩ := (tr_ok G h0 h1 k).inr _ (List.getElem_mem hlt)
      obtain ⟨j, hj⟩ := Int.eq_ofNat_of_zero_le a0
      have hjl : j < xs.length := by omega
      have hx := List.getElem?_eq_getElem hjl
      rw [hj] at ha
      have hstep := tr_step ha
      rw [agentAt_nat hx] at hstep
      have inner := impl_inner G hx (m_impl_Net_traverse_A2 (m_impl_Net_traverse_L1 ⟨xs⟩ m_impl_Net_traverse_A1 g) (k : Int)) (tr_ok G h0 h1 k) (xs[j].ports.length + 1) (Nat.lt_succ_self _)
      simp -implicitDefEqProofs only [m_impl_Net_traverse_L1, m_impl_Net_traverse_B1, dlt hlt, cond_true, getI_nat ha, getI_nat hx, Option.bind_some]
      rw [inner, m_impl_Net_traverse_A2, ck_ok (by omega), Option.bind_some, hstep]
      simp only [Int.natCast_add, Int.cast_ofNat_Int]) (xs.length + 2 - K)
  have hcon : xs.length + 2 - K + K = xs.length + 2 := by omega
  rw [hcon] at hstep
  have hend : ∀ g, m_impl_Net_traverse_L1 ⟨xs⟩ m_impl_Net_traverse_A1 (g + 1) (tr xs s K) (K : Int) (mOf (tr xs s K)) = some (tr xs s K) := by
    intro g
    have : decide ((K : Int) < ((tr xs s K).length : Int)) = false := by simp; omega
    simp -implicitDefEqProofs only [m_impl_Net_traverse_L1, m_impl_Net_traverse_B1, this, cond_false, m_impl_Net_traverse_A1]
  unfold m_impl_Net_traverse
  rw [ck_ok (by omega), Option.bind_some, mustP_ok (by simp [MapM.empty]), Option.bind_some]
  refine Eq.trans hstep ?_
  obtain ⟨g', hg'⟩ : ∃ g', xs.length + 2 - K = g' + 1 := ⟨xs.length + 1 - K, by omega⟩
  rw [hg', hfin]
  exact hend g'
theorem p_iTraverseFrom (d : DNet) (s : Int) (hs : Small d.agents) : m_impl_TraverseFrom d s = some (traverseFrom d s) := by
  unfold m_impl_TraverseFrom traverseFrom m_impl_Net_hasAgent
  rw [p_valid _ hs, Option.bind_some]
  cases hv : validNet d with
  | false => rfl
  | true =>
    rw [cond_true, cond_true]
    have e : (bif decide (s ≥ 0) then some (decide (s < (d.agents.length : Int))) else some false) = some (decide (0 ≤ s ∧ s < d.agents.length)) := by
      by_cases h : 0 ≤ s <;> simp [h]
    rw [e, Option.bind_some]
    cases hr : decide (0 ≤ s ∧ s < d.agents.length) with
    | false => rfl
    | true =>
      obtain ⟨xs⟩ := d
      have hr := of_decide_eq_true hr
      rw [cond_true, cond_true, p_iTraverse (good hv) hr.1 hr.2, Option.bind_some]
theorem traverseFrom_len (d : DNet) (s : Int) (hs : szNet d ≤ 1048576) : lenOk (traverseFrom d s).1 := by
  unfold traverseFrom lenOk
  cases hv : validNet d with
  | false => simp
  | true =>
    cases hr : decide (0 ≤ s ∧ s < d.agents.length) with
    | false => simp
    | true =>
      have hr := of_decide_eq_true hr
      have := (tr_ok (good hv) hr.1 hr.2 d.agents.length).len
      have := (good hv).len
      simp only [cond_true]
      omega

end Go.Proofs.Ytjddeofchiohkaa
