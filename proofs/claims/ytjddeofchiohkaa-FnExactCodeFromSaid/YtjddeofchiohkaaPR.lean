/- NeededPath, NeededPair: the models agree. -/
import Derived.Test.YtjddeofchiohkaaPQ
import Derived.Test.YtjddeofchiohkaaWE
namespace Go.Proofs.Ytjddeofchiohkaa
open Go.RowKit
set_option linter.unusedVariables false
set_option linter.unusedSimpArgs false
theorem php : ∀ (n : Nat) (l : List Nat), l.Nodup → (∀ x ∈ l, x < n) → l.length ≤ n
  | 0, l, _, h => by
    cases l with
    | nil => simp
    | cons x l => have := h x (by simp); omega
  | n + 1, l, hn, h => by
    by_cases hm : n ∈ l
    · have h1 := php n (l.erase n) (hn.erase n) (fun x hx => by
        have h2 := (hn.mem_erase_iff).1 hx
        have := h x h2.2
        have := h2.1
        omega)
      have := List.length_erase_of_mem hm
      omega
    · have := php n l hn (fun x hx => by
        have h1 := h x hx
        have : x ≠ n := fun e => hm (by rw [← e]; exact hx)
        omega)
      omega
theorem least {p : Nat → Prop} (h : ∃ n, p n) : ∃ n, p n ∧ ∀ k, k < n → ¬ p k := by
  obtain ⟨n, hn⟩ := h
  induction n using Nat.strongRecOn with
  | _ n ih =>
    by_cases h : ∃ k, k < n ∧ p k
    · obtain ⟨k, hk, hp⟩ := h; exact ih k hk hp
    · exact ⟨n, hn, fun k hk hp => h ⟨k, hk, hp⟩⟩
theorem steps {σ ρ : Type} {L : Nat → σ → Option ρ} {st : Nat → σ} : ∀ {n : Nat} (h : ∀ g k, k < n → L (g + 1) (st k) = L g (st (k + 1))) (g : Nat), L (g + n) (st 0) = L g (st n)
  | 0, h, g => rfl
  | n + 1, h, g => by
    rw [← h g n (by omega), ← steps (n := n) (fun g k hk => h g k (by omega)) (g + 1)]
    congr 1; omega

def stepQ (xs : List DAgent) (q : DPort) : DPort := peer xs ⟨q.agent, 0⟩
def orb (xs : List DAgent) (q : DPort) : Nat → DPort
  | 0 => q
  | k + 1 => stepQ xs (orb xs q k)
def pathTo (xs : List DAgent) (q : DPort) (k : Nat) : List Int := (List.range k).map fun i => (orb xs q i).agent
theorem pathTo_succ (xs : List DAgent) (q : DPort) (k : Nat) : pathTo xs q (k + 1) = pathTo xs q k ++ [(orb xs q k).agent] := by simp [pathTo, List.range_succ]
theorem pathTo_len (xs : List DAgent) (q : DPort) (k : Nat) : (pathTo xs q k).length = k := by simp [pathTo]
theorem Good.peer {xs : List DAgent} (G : Good xs) {p : DPort} (h : hasPort xs p = true) : hasPort xs (peer xs p) = true ∧ Go.Proofs.Ytjddeofchiohkaa.peer xs (Go.Proofs.Ytjddeofchiohkaa.peer xs p) = p ∧ Go.Proofs.Ytjddeofchiohkaa.peer xs p ≠ p := by
  obtain ⟨i, k, x, rfl, hx, hk, _⟩ := hasPort_at h
  have hb := G.ports i x hx k hk
  unfold badPort at hb
  simp only [Bool.or_eq_false_iff, Bool.not_eq_false', decide_eq_false_iff_not, decide_eq_true_eq] at hb
  exact ⟨hb.1.2, hb.2, hb.1.1⟩
theorem Good.zero {xs : List DAgent} (G : Good xs) {p : DPort} (h : hasPort xs p = true) : hasPort xs ⟨p.agent, 0⟩ = true := by
  obtain ⟨i, k, x, rfl, hx, hk, _⟩ := hasPort_at h
  exact hasPort_of (k := 0) hx (G.pos hx)
theorem orb_port {xs : List DAgent} (G : Good xs) {q : DPort} (h : hasPort xs q = true) : ∀ k, hasPort xs (orb xs q k) = true
  | 0 => h
  | k + 1 => (G.peer (G.zero (orb_port G h k))).1
def Stops (xs : List DAgent) (q : DPort) (k : Nat) : Prop := (orb xs q k).slot = 0 ∨ ∃ i, i < k ∧ (orb xs q i).agent = (orb xs q k).agent
theorem orb_cycle {xs : List DAgent} {q : DPort} {i j : Nat} (h : (orb xs q i).agent = (orb xs q j).agent) : ∀ m, orb xs q (i + 1 + m) = orb xs q (j + 1 + m)
  | 0 => by show stepQ xs _ = stepQ xs _; unfold stepQ; rw [h]
  | m + 1 => by
    show stepQ xs (orb xs q (i + 1 + m)) = stepQ xs (orb xs q (j + 1 + m))
    rw [orb_cycle h m]
theorem orb_nat {xs : List DAgent} (G : Good xs) {q : DPort} (h : hasPort xs q = true) (k : Nat) : ∃ a : Nat, (orb xs q k).agent = (a : Int) ∧ a < xs.length := by
  obtain ⟨i, s, x, he, hx, _⟩ := hasPort_at (orb_port G h k)
  exact ⟨i, by rw [he], lt_of_some hx⟩
theorem stops {xs : List DAgent} (G : Good xs) {q : DPort} (h : hasPort xs q = true) : ∃ S, S ≤ xs.length ∧ Stops xs q S ∧ ∀ k, k < S → ¬ Stops xs q k := by
  have hex : ∃ S, S ≤ xs.length ∧ Stops xs q S := by
    apply Classical.byContradiction
    intro hn
    have hd : ∀ k, k ≤ xs.length → ¬ Stops xs q k := fun k hk hs => hn ⟨k, hk, hs⟩
    have h1 := php xs.length ((List.range (xs.length + 1)).map fun k => (orb xs q k).agent.toNat) (by
      rw [List.nodup_iff_pairwise_ne, List.pairwise_map]
      refine List.Pairwise.imp_of_mem ?_ (List.pairwise_lt_range)
      intro a b ha hb hab e
      have hb : b < xs.length + 1 := by simpa using hb
      obtain ⟨u, hu, _⟩ := orb_nat G h a
      obtain ⟨v, hv, _⟩ := orb_nat G h b
      refine hd b (by omega) (.inr ⟨a, hab, ?_⟩)
      rw [hu, hv] at e
      have e : u = v := by simpa using e
      rw [hu, hv, e]) (fun x hx => by
      obtain ⟨k, _, rfl⟩ := List.mem_map.1 hx
      obtain ⟨u, hu, hlt⟩ := orb_nat G h k
      rw [hu]; simpa using hlt)
    simp at h1
    omega
  obtain ⟨S, ⟨h1, h2⟩, h3⟩ := least hex
  exact ⟨S, h1, h2, fun k hk hs => h3 k hk ⟨by omega, hs⟩⟩
theorem p_min (a b : Int) : m_spec_l00Min a b = some (if b < a then b else a) := by
  unfold m_spec_l00Min
  simp only [Bool.cond_eq_ite, decide_eq_true_eq]
  by_cases h : a < b
  · have : ¬ b < a := by omega
    simp [h, this]
  · by_cases h2 : b < a
    · simp [h, h2]
    · have : a = b := by omega
      subst this; simp
theorem p_max (a b : Int) : m_spec_l00Max a b = some (if b > a then b else a) := by
  unfold m_spec_l00Max
  simp only [Bool.cond_eq_ite, decide_eq_true_eq]
  by_cases h : a > b
  · have : ¬ b > a := by omega
    simp [h, this]
  · by_cases h2 : b > a
    · simp [h, h2]
    · have : a = b := by omega
      subst this; simp
def pairMM (a b : Int) : DPair := ⟨if b < a then b else a, if b > a then b else a⟩
/-- What the walk finds that stops at S. -/
def found (xs : List DAgent) (q : DPort) (S : Nat) : Bool := decide ((orb xs q S).slot = 0) && decide (0 < S) && !decide ((orb xs q S).agent = 0)
theorem walk_spec {xs : List DAgent} (G : Good xs) {p q : DPort} (hq : hasPort xs q = true) {S : Nat} (hS : S ≤ xs.length) (h1 : Stops xs q S) (h2 : ∀ k, k < S → ¬ Stops xs q k) :
    ∃ r, m_spec_l17Walk_L1 ⟨xs⟩ m_spec_l17Walk_A1 (xs.length + 2) [] ⟨0, 0⟩ q = some r ∧
      (found xs q S = true → r = (pathTo xs q S, pairMM (orb xs q (S - 1)).agent (orb xs q S).agent, 0)) ∧ (found xs q S = false → r.2.2 = 5) := by
  have hone : ∀ g (k : Nat), k < xs.length → (orb xs q k).slot ≠ 0 → m_spec_l17Walk_L1 ⟨xs⟩ m_spec_l17Walk_A1 (g + 1) (pathTo xs q k) ⟨0, 0⟩ (orb xs q k) =
      if (orb xs q (k + 1)).slot = 0 ∧ (orb xs q (k + 1)).agent ≠ 0 then some (pathTo xs q (k + 1), pairMM (orb xs q k).agent (orb xs q (k + 1)).agent, 0) else m_spec_l17Walk_L1 ⟨xs⟩ m_spec_l17Walk_A1 g (pathTo xs q (k + 1)) ⟨0, 0⟩ (orb xs q (k + 1)) := by
    intro g k hk hs
    have hl := G.len
    have e1 : ((orb xs q k).slot != 0) = true := by simpa using hs
    have e2 : decide (((pathTo xs q k).length : Int) < (xs.length : Int)) = true := by rw [pathTo_len]; exact dlt hk
    have e3 : m_spec_l11Peer ⟨xs⟩ ⟨(orb xs q k).agent, 0⟩ = some (orb xs q (k + 1)) := p_speer (G.zero (orb_port G hq k))
    simp -implicitDefEqProofs only [m_spec_l17Walk_L1, m_spec_l17Walk_B1, e1, e2, cond_true, m_spec_l13Port, Option.bind_some, e3, p_min, p_max]
    rw [mustP_ok (by rw [pathTo_len]; simp; omega), Option.bind_some, ← pathTo_succ]
    by_cases c1 : (orb xs q (k + 1)).slot = 0
    · rw [show ((orb xs q (k + 1)).slot == 0) = true by simpa using c1, cond_true]
      by_cases c2 : (orb xs q (k + 1)).agent = 0
      · rw [show ((orb xs q (k + 1)).agent != 0) = false by simpa using c2, cond_false, if_neg (show ¬ ((orb xs q (k + 1)).slot = 0 ∧ (orb xs q (k + 1)).agent ≠ 0) from fun h => h.2 c2)]
      · rw [show ((orb xs q (k + 1)).agent != 0) = true by simpa using c2, cond_true, if_pos (show (orb xs q (k + 1)).slot = 0 ∧ (orb xs q (k + 1)).agent ≠ 0 from ⟨c1, c2⟩)]; rfl
    · rw [show ((orb xs q (k + 1)).slot == 0) = false by simpa using c1, cond_false, if_neg (show ¬ ((orb xs q (k + 1)).slot = 0 ∧ (orb xs q (k + 1)).agent ≠ 0) from fun h => c1 h.1)]
  have hend : ∀ g (k : Nat), ((orb xs q k).slot = 0 ∨ xs.length ≤ k) → m_spec_l17Walk_L1 ⟨xs⟩ m_spec_l17Walk_A1 (g + 1) (pathTo xs q k) ⟨0, 0⟩ (orb xs q k) = some (pathTo xs q k, ⟨0, 0⟩, 5) := by
    intro g k h
    by_cases c1 : (orb xs q k).slot = 0
    · have e1 : ((orb xs q k).slot != 0) = false := by simpa using c1
      simp -implicitDefEqProofs only [m_spec_l17Walk_L1, m_spec_l17Walk_B1, e1, cond_false, m_spec_l17Walk_A1]
    · have e1 : ((orb xs q k).slot != 0) = true := by simpa using c1
      have e2 : decide (((pathTo xs q k).length : Int) < (xs.length : Int)) = false := by
        have : xs.length ≤ k := by rcases h with h | h; exact absurd h c1; exact h
        rw [pathTo_len]; simp; omega
      simp -implicitDefEqProofs only [m_spec_l17Walk_L1, m_spec_l17Walk_B1, e1, e2, cond_true, cond_false, m_spec_l17Walk_A1]
  by_cases c : (orb xs q S).slot = 0
  · -- the first zero is at S
    have hpre : ∀ k, k < S → (orb xs q k).slot ≠ 0 := fun k hk e => h2 k hk (.inl e)
    by_cases c0 : S = 0
    · subst c0
      refine ⟨_, hend (xs.length + 1) 0 (.inl c), fun h => ?_, fun _ => rfl⟩
      simp [found] at h
    · obtain ⟨m, rfl⟩ : ∃ m, S = m + 1 := ⟨S - 1, by omega⟩
      obtain ⟨g', hg'⟩ : ∃ g', xs.length + 2 = g' + 1 + 1 + m := ⟨xs.length - m, by omega⟩
      have hgo := steps (L := fun g (s : List Int × DPort) => m_spec_l17Walk_L1 ⟨xs⟩ m_spec_l17Walk_A1 g s.1 ⟨0, 0⟩ s.2) (st := fun k => (pathTo xs q k, orb xs q k)) (n := m)
        (fun g k hk => by
          have := hone g k (by omega) (hpre k (by omega))
          simp only
          rw [this, if_neg (fun h => hpre (k + 1) (by omega) h.1)]) (g' + 1 + 1)
      have hgo : m_spec_l17Walk_L1 ⟨xs⟩ m_spec_l17Walk_A1 (xs.length + 2) [] ⟨0, 0⟩ q = m_spec_l17Walk_L1 ⟨xs⟩ m_spec_l17Walk_A1 (g' + 1 + 1) (pathTo xs q m) ⟨0, 0⟩ (orb xs q m) := by rw [hg']; exact hgo
      rw [hgo, hone (g' + 1) m (by omega) (hpre m (by omega))]
      by_cases ca : (orb xs q (m + 1)).agent = 0
      · rw [if_neg (fun h => h.2 ca), hend g' (m + 1) (.inl c)]
        refine ⟨_, rfl, fun h => ?_, fun _ => rfl⟩
        simp [found, ca] at h
      · rw [if_pos ⟨c, ca⟩]
        refine ⟨_, rfl, fun _ => rfl, fun h => ?_⟩
        simp [found, ca, c] at h
  · have hcy : ∃ i, i < S ∧ (orb xs q i).agent = (orb xs q S).agent := by
      rcases h1 with h1 | h1
      · exact absurd h1 c
      · exact h1
    obtain ⟨i, hi, he⟩ := hcy
    have hall : ∀ k, (orb xs q k).slot ≠ 0 := by
      intro k
      induction k using Nat.strongRecOn with
      | _ k ih =>
        rcases Nat.lt_trichotomy k S with hk | hk | hk
        · exact fun e => h2 k hk (.inl e)
        · rw [hk]; exact c
        · obtain ⟨m, rfl⟩ : ∃ m, k = S + 1 + m := ⟨k - S - 1, by omega⟩
          rw [← orb_cycle he m]
          exact ih (i + 1 + m) (by omega)
    have hgo := steps (L := fun g (s : List Int × DPort) => m_spec_l17Walk_L1 ⟨xs⟩ m_spec_l17Walk_A1 g s.1 ⟨0, 0⟩ s.2) (st := fun k => (pathTo xs q k, orb xs q k)) (n := xs.length)
      (fun g k hk => by
        have := hone g k (by omega) (hall k)
        simp only
        rw [this, if_neg (fun h => hall (k + 1) h.1)]) 2
    have hgo : m_spec_l17Walk_L1 ⟨xs⟩ m_spec_l17Walk_A1 (xs.length + 2) [] ⟨0, 0⟩ q = m_spec_l17Walk_L1 ⟨xs⟩ m_spec_l17Walk_A1 2 (pathTo xs q xs.length) ⟨0, 0⟩ (orb xs q xs.length) := by rw [Nat.add_comm]; exact hgo
    rw [hgo, hend 1 xs.length (.inr (Nat.le_refl _))]
    refine ⟨_, rfl, fun h => ?_, fun _ => rfl⟩
    simp [found, c] at h

def seenTo (xs : List DAgent) (q : DPort) : Nat → MapM Int Bool
  | 0 => MapM.empty
  | k + 1 => (seenTo xs q k).put (orb xs q k).agent true
theorem seenTo_n (xs : List DAgent) (q : DPort) : ∀ k, (seenTo xs q k).n = k
  | 0 => rfl
  | k + 1 => by show (seenTo xs q k).n + 1 = k + 1; rw [seenTo_n xs q k]
theorem seenTo_look (xs : List DAgent) (q : DPort) : ∀ k a, (seenTo xs q k).look a false = decide (a ∈ pathTo xs q k)
  | 0, a => by simp [seenTo, MapM.empty, MapM.look, pathTo]
  | k + 1, a => by
    rw [pathTo_succ]
    have ih := seenTo_look xs q k a
    by_cases ha : a = (orb xs q k).agent
    · simp [seenTo, MapM.look, MapM.put, ha]
    · simp only [seenTo, MapM.look, MapM.put, if_neg ha] at ih ⊢
      rw [ih]
      simp [ha]
theorem walk_impl {xs : List DAgent} (G : Good xs) {q : DPort} (hq : hasPort xs q = true) {S : Nat} (hS : S ≤ xs.length) (h1 : Stops xs q S) (h2 : ∀ k, k < S → ¬ Stops xs q k) :
    ∃ r, m_impl_Net_needed_L1 ⟨xs⟩ (m_impl_Net_needed_A1 ⟨xs⟩) (xs.length + 2) [] q MapM.empty = some r ∧
      (found xs q S = true → r = (pathTo xs q S, pairMM (orb xs q (S - 1)).agent (orb xs q S).agent, true)) ∧ (found xs q S = false → r.2.2 = false) := by
  have hl := G.len
  have hMn := seenTo_n xs q
  have hMl := seenTo_look xs q
  have hMs : ∀ k, seenTo xs q (k + 1) = (seenTo xs q k).put (orb xs q k).agent true := fun k => rfl
  have hck : ∀ k, ck (orb xs q k).agent = some (orb xs q k).agent := fun k => by
    obtain ⟨a, ha, hlt⟩ := orb_nat G hq k
    rw [ha]; exact ck_ok (by omega)
  have hmem : ∀ k, (orb xs q k).agent ∈ pathTo xs q k ↔ ∃ i, i < k ∧ (orb xs q i).agent = (orb xs q k).agent := fun k => by simp [pathTo]
  have hone : ∀ g (k : Nat), k < S → m_impl_Net_needed_L1 ⟨xs⟩ (m_impl_Net_needed_A1 ⟨xs⟩) (g + 1) (pathTo xs q k) (orb xs q k) (seenTo xs q k) = m_impl_Net_needed_L1 ⟨xs⟩ (m_impl_Net_needed_A1 ⟨xs⟩) g (pathTo xs q (k + 1)) (orb xs q (k + 1)) (seenTo xs q (k + 1)) := by
    intro g k hk
    have hns := h2 k hk
    have e1 : ((orb xs q k).slot != 0) = true := by
      have : (orb xs q k).slot ≠ 0 := fun e => hns (.inl e)
      simpa using this
    have e2 : (seenTo xs q k).look (orb xs q k).agent false = false := by
      rw [hMl]
      exact decide_eq_false (fun h => hns (.inr ((hmem k).1 h)))
    have e3 : m_impl_Net_peer ⟨xs⟩ ⟨(orb xs q k).agent, 0⟩ = some (orb xs q (k + 1)) := p_peer (G.zero (orb_port G hq k))
    have hn := hMn k
    simp -implicitDefEqProofs only [m_impl_Net_needed_L1, m_impl_Net_needed_B1, e1, e2, cond_true, cond_false, hck, Option.bind_some, e3]
    rw [mustP_ok (by omega), Option.bind_some, mustP_ok (by rw [pathTo_len]; simp; omega), Option.bind_some, ← pathTo_succ, ← hMs]
  have hend : ∀ g, m_impl_Net_needed_L1 ⟨xs⟩ (m_impl_Net_needed_A1 ⟨xs⟩) (g + 1) (pathTo xs q S) (orb xs q S) (seenTo xs q S) = m_impl_Net_needed_A1 ⟨xs⟩ (pathTo xs q S) (orb xs q S) := by
    intro g
    by_cases c : (orb xs q S).slot = 0
    · have e1 : ((orb xs q S).slot != 0) = false := by simpa using c
      simp -implicitDefEqProofs only [m_impl_Net_needed_L1, m_impl_Net_needed_B1, e1, cond_false]
    · have e1 : ((orb xs q S).slot != 0) = true := by simpa using c
      have e2 : (seenTo xs q S).look (orb xs q S).agent false = true := by
        rw [hMl]
        refine decide_eq_true ((hmem S).2 ?_)
        rcases h1 with h1 | h1
        · exact absurd h1 c
        · exact h1
      simp -implicitDefEqProofs only [m_impl_Net_needed_L1, m_impl_Net_needed_B1, e1, e2, cond_true, hck, Option.bind_some]
  obtain ⟨g', hg'⟩ : ∃ g', xs.length + 2 = g' + 1 + S := ⟨xs.length + 1 - S, by omega⟩
  have hgo := steps (L := fun g (s : List Int × DPort × MapM Int Bool) => m_impl_Net_needed_L1 ⟨xs⟩ (m_impl_Net_needed_A1 ⟨xs⟩) g s.1 s.2.1 s.2.2) (st := fun k => (pathTo xs q k, orb xs q k, seenTo xs q k)) (n := S)
    (fun g k hk => hone g k hk) (g' + 1)
  have hgo : m_impl_Net_needed_L1 ⟨xs⟩ (m_impl_Net_needed_A1 ⟨xs⟩) (xs.length + 2) [] q MapM.empty = m_impl_Net_needed_A1 ⟨xs⟩ (pathTo xs q S) (orb xs q S) := by
    rw [hg', ← hend g']; exact hgo
  rw [hgo]
  unfold m_impl_Net_needed_A1
  by_cases c : (orb xs q S).slot = 0
  · rw [show ((orb xs q S).slot != 0) = false by simpa using c, cond_false]
    by_cases c0 : S = 0
    · subst c0
      rw [show (((pathTo xs q 0).length : Int) == 0) = true by rw [pathTo_len]; rfl, cond_true]
      exact ⟨_, rfl, fun h => by simp [found] at h, fun _ => rfl⟩
    · rw [show (((pathTo xs q S).length : Int) == 0) = false by rw [pathTo_len]; simp; omega, cond_false]
      obtain ⟨i, s, x, hqe, hx, _⟩ := hasPort_at (orb_port G hq S)
      have ha : (orb xs q S).agent = (i : Int) := by rw [hqe]
      rw [ha, getI_nat hx, Option.bind_some]
      by_cases ck1 : i = 0
      · have hk := (G.root i x hx).2 ck1
        rw [show (x.kind == 1) = true by simpa using hk, cond_true]
        exact ⟨_, rfl, fun h => by simp [found, ha, ck1] at h, fun _ => rfl⟩
      · have hk : x.kind ≠ 1 := fun e => ck1 ((G.root i x hx).1 e)
        rw [show (x.kind == 1) = false by simpa using hk, cond_false]
        rw [ck_ok (by rw [pathTo_len]; omega), Option.bind_some]
        have hlast : getI (pathTo xs q S) (((pathTo xs q S).length : Int) - 1) = some (orb xs q (S - 1)).agent := by
          rw [pathTo_len, show (S : Int) - 1 = ((S - 1 : Nat) : Int) by omega]
          refine getI_nat ?_
          unfold pathTo
          rw [List.getElem?_map, List.getElem?_range (by omega)]
          rfl
        rw [hlast, Option.bind_some]
        refine ⟨_, rfl, fun _ => ?_, fun h => ?_⟩
        · rfl
        · simp [found, ha, c, ck1] at h
          omega
  · rw [show ((orb xs q S).slot != 0) = true by simpa using c, cond_true]
    exact ⟨_, rfl, fun h => by simp [found, c] at h, fun _ => rfl⟩

def known (xs : List DAgent) (p : DPort) : Bool := (peer xs p).slot == 0 && (let k := (agentAt xs (peer xs p).agent).kind; k == 2 || k == 6 || k == 9 || k == 12)
theorem p_value {xs : List DAgent} (G : Good xs) {p : DPort} (h : hasPort xs p = true) : m_spec_l17Value ⟨xs⟩ p = some (known xs p) := by
  obtain ⟨i, s, x, hqe, hx, _, ha⟩ := hasPort_at (G.peer h).1
  have ha1 : (peer xs p).agent = (i : Int) := by rw [hqe]
  unfold m_spec_l17Value known
  rw [p_speer h, Option.bind_some, ha]
  rw [ha1, getI_nat hx]
  simp only [Option.bind_some]
  cases h1 : (peer xs p).slot == 0 with
  | false => rw [show ((peer xs p).slot != 0) = true by simp at h1 ⊢; exact h1]; rfl
  | true =>
    rw [show ((peer xs p).slot != 0) = false by simp at h1 ⊢; exact h1]
    simp only [Bool.true_and, cond_false]
    cases x.kind == 2 <;> cases x.kind == 6 <;> cases x.kind == 9 <;> cases x.kind == 12 <;> rfl
theorem p_isKnown {xs : List DAgent} (G : Good xs) {p : DPort} (h : hasPort xs p = true) : m_impl_Net_isKnown ⟨xs⟩ p = some (known xs p) := by
  obtain ⟨i, s, x, hqe, hx, _, ha⟩ := hasPort_at (G.peer h).1
  have ha1 : (peer xs p).agent = (i : Int) := by rw [hqe]
  unfold m_impl_Net_isKnown known
  rw [p_peer h, Option.bind_some, ha]
  rw [ha1, getI_nat hx]
  simp only [Option.bind_some]
  cases (peer xs p).slot == 0 <;> cases x.kind == 2 <;> cases x.kind == 6 <;> cases x.kind == 9 <;> cases x.kind == 12 <;> rfl
theorem pairAt_mem {xs : List DAgent} (G : Good xs) {a b : Nat} {x : DAgent} (hx : xs[a]? = some x) (hp : x.ports[0]? = some ⟨(b : Int), 0⟩) (hab : a < b) (ha : a ≠ 0) : (⟨(a : Int), (b : Int)⟩ : DPair) ∈ pairsOf xs := by
  unfold pairsOf
  rw [List.mem_flatMap]
  refine ⟨a, by simpa using lt_of_some hx, ?_⟩
  rw [pairAt_eq hx hp, if_pos ⟨rfl, by simp only; omega, fun e => ha ((G.root a x hx).1 e)⟩]
  simp
theorem found_mem {xs : List DAgent} (G : Good xs) {p : DPort} (hp : hasPort xs p = true) {q : DPort} (hq : q = peer xs p) {S : Nat} (h2 : ∀ k, k < S → ¬ Stops xs q k) (hf : found xs q S = true) : pairMM (orb xs q (S - 1)).agent (orb xs q S).agent ∈ pairsOf xs := by
  have hqp : hasPort xs q = true := by rw [hq]; exact (G.peer hp).1
  simp only [found, Bool.and_eq_true, decide_eq_true_eq, Bool.not_eq_true', decide_eq_false_iff_not] at hf
  obtain ⟨⟨f1, f2⟩, f3⟩ := hf
  obtain ⟨m, rfl⟩ : ∃ m, S = m + 1 := ⟨S - 1, by omega⟩
  rw [Nat.add_sub_cancel]
  have hns : (orb xs q m).slot ≠ 0 := fun e => h2 m (by omega) (.inl e)
  obtain ⟨a, sa, x, hqa, hx, hsa, _⟩ := hasPort_at (orb_port G hqp m)
  obtain ⟨b, sb, y, hqb, hy, hsb, _⟩ := hasPort_at (orb_port G hqp (m + 1))
  have ea : (orb xs q m).agent = (a : Int) := by rw [hqa]
  have eb : (orb xs q (m + 1)).agent = (b : Int) := by rw [hqb]
  have eb0 : orb xs q (m + 1) = ⟨(b : Int), 0⟩ := by rw [hqb] at f1 ⊢; simp only at f1; rw [f1]
  have ha0 : hasPort xs ⟨(a : Int), ((0 : Nat) : Int)⟩ = true := hasPort_of hx (G.pos hx)
  have hpa := G.peer ha0
  have hstep : peer xs ⟨(a : Int), ((0 : Nat) : Int)⟩ = ⟨(b : Int), 0⟩ := by
    have : orb xs q (m + 1) = peer xs ⟨(orb xs q m).agent, 0⟩ := rfl
    rw [← eb0, this, ea]; rfl
  rw [hstep] at hpa
  obtain ⟨_, hback, hne⟩ := hpa
  have hab : a ≠ b := fun e => hne (by rw [e]; rfl)
  have hb : b ≠ 0 := fun e => f3 (by rw [eb, e]; rfl)
  have hx0 := List.getElem?_eq_getElem (G.pos hx)
  have hy0 := List.getElem?_eq_getElem (G.pos hy)
  have pa : x.ports[0]? = some ⟨(b : Int), 0⟩ := by rw [hx0, ← peer_of hx hx0, hstep]
  have pb : y.ports[0]? = some ⟨(a : Int), 0⟩ := by
    have e1 := peer_of hy hy0
    have e2 : peer xs ⟨(b : Int), ((0 : Nat) : Int)⟩ = ⟨(a : Int), 0⟩ := hback
    rw [hy0, ← e1, e2]
  have ha : a ≠ 0 := by
    intro e
    have hk := (G.root a x hx).2 e
    have hok := G.ok a x hx
    unfold agentOk at hok
    simp only [Bool.and_eq_true, decide_eq_true_eq, hk] at hok
    have h3 := hok.1.1.2
    have h4 : portsOf 1 (fieldsN 1 x.ports.length) = 1 := by simp [portsOf, fieldsN]
    rw [h4] at h3
    have : sa ≠ 0 := fun e => hns (by rw [hqa, e]; rfl)
    omega
  rw [ea, eb]
  unfold pairMM
  rcases Nat.lt_or_gt_of_ne hab with h | h
  · rw [if_neg (by omega), if_pos (by omega)]
    exact pairAt_mem G hx pa h ha
  · rw [if_pos (by omega), if_neg (by omega)]
    exact pairAt_mem G hy pb h hb
theorem walk_both {xs : List DAgent} (G : Good xs) {p : DPort} (hp : hasPort xs p = true) (hk : known xs p = false) :
    ∃ rs ri, m_spec_l17Walk ⟨xs⟩ p = some rs ∧ m_impl_Net_needed ⟨xs⟩ p = some ri ∧ ((rs.2.2 = 0 ∧ ri.2.2 = true ∧ rs.1 = ri.1 ∧ rs.2.1 = ri.2.1 ∧ rs.2.1 ∈ pairsOf xs) ∨ (rs.2.2 = 5 ∧ ri.2.2 = false)) := by
  have hq := (G.peer hp).1
  obtain ⟨S, hS, h1, h2⟩ := stops G hq
  obtain ⟨rs, e1, f1, f2⟩ := walk_spec G (p := p) hq hS h1 h2
  obtain ⟨ri, e3, f3, f4⟩ := walk_impl G hq hS h1 h2
  refine ⟨rs, ri, ?_, ?_, ?_⟩
  · unfold m_spec_l17Walk
    rw [p_value G hp, Option.bind_some, hk, cond_false, p_speer hp, Option.bind_some]
    exact e1
  · unfold m_impl_Net_needed
    rw [p_peer hp, Option.bind_some]
    exact e3
  · cases hf : found xs (peer xs p) S with
    | true =>
      have g1 := f1 hf
      have g3 := f3 hf
      refine .inl ?_
      rw [g1, g3]
      exact ⟨rfl, rfl, rfl, rfl, found_mem G hp rfl h2 hf⟩
    | false => exact .inr ⟨f2 hf, f4 hf⟩

theorem p_sAsked (d : DNet) (p : DPort) (hs : Small d.agents) : m_spec_l17Asked d p = some (bif validNet d then (bif hasPort d.agents p then 0 else 2) else 1) := by
  unfold m_spec_l17Asked
  rw [p_ok _ hs, Option.bind_some, p_port _ p hs, Option.bind_some]
  cases validNet d <;> cases hasPort d.agents p <;> rfl
theorem p_neededPath (d : DNet) (p : DPort) (hs : Small d.agents) : ∃ r, m_spec_NeededPath d p = some r ∧ m_impl_NeededPath d p = some r := by
  unfold m_spec_NeededPath m_impl_NeededPath m_impl_neededAt
  rw [p_sAsked d p hs, p_valid d hs, p_hasPort, Option.bind_some, Option.bind_some, Option.bind_some]
  cases hv : validNet d with
  | false => exact ⟨_, rfl, rfl⟩
  | true =>
    cases hp : hasPort d.agents p with
    | false => exact ⟨_, rfl, rfl⟩
    | true =>
      obtain ⟨xs⟩ := d
      have G : Good xs := good hv
      simp only [cond_true]
      rw [show ((0 : Int) != 0) = false from rfl, cond_false, p_isKnown G hp, Option.bind_some]
      cases hk : known xs p with
      | true =>
        have : m_spec_l17Walk ⟨xs⟩ p = some ([], ⟨0, 0⟩, 3) := by unfold m_spec_l17Walk; rw [p_value G hp, Option.bind_some, hk, cond_true]
        rw [this]
        exact ⟨_, rfl, rfl⟩
      | false =>
        obtain ⟨rs, ri, e1, e2, h⟩ := walk_both G hp hk
        rw [cond_false, e1, e2, Option.bind_some, Option.bind_some]
        rcases h with ⟨h1, h2, h3, h4, _⟩ | ⟨h1, h2⟩
        · rw [h1, h2]
          exact ⟨_, rfl, by rw [h3]; rfl⟩
        · rw [h1, h2]
          exact ⟨_, rfl, rfl⟩
theorem neededPath_le (d : DNet) (p : DPort) (hs : Small d.agents) {r : List Int × Int} (h : m_spec_NeededPath d p = some r) : r.1.length ≤ 600 := by
  unfold m_spec_NeededPath at h
  rw [p_sAsked d p hs, Option.bind_some] at h
  cases hv : validNet d with
  | false => rw [hv] at h; cases h; simp
  | true =>
    cases hp : hasPort d.agents p with
    | false => rw [hv, hp] at h; cases h; simp
    | true =>
      obtain ⟨xs⟩ := d
      have G : Good xs := good hv
      have hl := G.len
      rw [hv, hp] at h
      simp only [cond_true] at h
      rw [show ((0 : Int) != 0) = false from rfl, cond_false] at h
      cases hk : known xs p with
      | true =>
        have : m_spec_l17Walk ⟨xs⟩ p = some ([], ⟨0, 0⟩, 3) := by unfold m_spec_l17Walk; rw [p_value G hp, Option.bind_some, hk, cond_true]
        rw [this] at h
        cases h; simp
      | false =>
        have hq := (G.peer hp).1
        obtain ⟨S, hS, h1, h2⟩ := stops G hq
        obtain ⟨rs, e1, f1, f2⟩ := walk_spec G (p := p) hq hS h1 h2
        have e : m_spec_l17Walk ⟨xs⟩ p = some rs := by
          unfold m_spec_l17Walk
          rw [p_value G hp, Option.bind_some, hk, cond_false, p_speer hp, Option.bind_some]
          exact e1
        rw [e, Option.bind_some] at h
        cases hf : found xs (peer xs p) S with
        | true =>
          rw [f1 hf] at h
          cases h
          show (pathTo xs (peer xs p) S).length ≤ 600
          rw [pathTo_len]; omega
        | false =>
          rw [f2 hf] at h
          cases h; simp
noncomputable def neededPath (d : DNet) (p : DPort) : List Int × Int := (m_spec_NeededPath d p).getD default
theorem p_sNeededPath (d : DNet) (p : DPort) (hs : Small d.agents) : m_spec_NeededPath d p = some (neededPath d p) := by
  obtain ⟨r, h, _⟩ := p_neededPath d p hs
  unfold neededPath; rw [h]; rfl
theorem neededPath_len (d : DNet) (p : DPort) (hs : szNet d ≤ 1048576) : lenOk (neededPath d p).1 := by
  have := neededPath_le d p hs (p_sNeededPath d p hs)
  unfold lenOk; omega
theorem p_iNeededPath (d : DNet) (p : DPort) (hs : Small d.agents) : m_impl_NeededPath d p = some (neededPath d p) := by
  obtain ⟨r, h, h'⟩ := p_neededPath d p hs
  unfold neededPath; rw [h, h']; rfl

theorem p_sIndex {xs : List DAgent} (G : Good xs) (p : DPair) : m_spec_l17Index ⟨xs⟩ p = some (match (pairsOf xs).findIdx? (fun x => x.a == p.a && x.b == p.b) with | some i => (i : Int) | none => 0) := by
  unfold m_spec_l17Index
  rw [p_sPairs (d := ⟨xs⟩) G, Option.bind_some]
  refine (findI (L := m_spec_l17Index_L1 p (pairsOf xs) m_spec_l17Index_A1) (d := pairsOf xs) (q := fun x => x.a == p.a && x.b == p.b) (hit := fun i => some (i : Int)) (K := some 0)
    (fun g k x hx => by
      have hk := lt_of_some hx
      simp -implicitDefEqProofs only [m_spec_l17Index_L1, m_spec_l17Index_B1, getI_nat hx, Option.bind_some, dlt hk, cond_true]
      cases (x.a == p.a && x.b == p.b) <;> rfl)
    (fun g => by simp -implicitDefEqProofs only [m_spec_l17Index_L1, m_spec_l17Index_B1, dge, cond_false, m_spec_l17Index_A1]) ((pairsOf xs).length + 1) (Nat.lt_succ_self _)).trans ?_
  cases (pairsOf xs).findIdx? (fun x => x.a == p.a && x.b == p.b) <;> rfl
theorem p_iIndex (l : List DPair) (p : DPair) : m_slices_Index_impl_Pair_impl_Pair l p = some (match l.findIdx? (fun x => x.a == p.a && x.b == p.b) with | some i => (i : Int) | none => -1) := by
  unfold m_slices_Index_impl_Pair_impl_Pair
  refine (findI (L := m_slices_Index_impl_Pair_impl_Pair_L1 l p m_slices_Index_impl_Pair_impl_Pair_A1) (d := l) (q := fun x => x.a == p.a && x.b == p.b) (hit := fun i => some (i : Int)) (K := some (-1))
    (fun g k x hx => by
      have hk := lt_of_some hx
      have e : (p.a == x.a && p.b == x.b) = (x.a == p.a && x.b == p.b) := by rw [Bool.eq_iff_iff]; simp only [Bool.and_eq_true, beq_iff_eq]; constructor <;> rintro ⟨h1, h2⟩ <;> exact ⟨h1.symm, h2.symm⟩
      simp -implicitDefEqProofs only [m_slices_Index_impl_Pair_impl_Pair_L1, m_slices_Index_impl_Pair_impl_Pair_B1, getI_nat hx, Option.bind_some, dlt hk, cond_true, e]
      cases (x.a == p.a && x.b == p.b) <;> rfl)
    (fun g => by simp -implicitDefEqProofs only [m_slices_Index_impl_Pair_impl_Pair_L1, m_slices_Index_impl_Pair_impl_Pair_B1, dge, cond_false, m_slices_Index_impl_Pair_impl_Pair_A1]) (l.length + 1) (Nat.lt_succ_self _)).trans ?_
  cases l.findIdx? (fun x => x.a == p.a && x.b == p.b) <;> rfl
theorem p_neededPair (d : DNet) (p : DPort) (hs : Small d.agents) : ∃ r, m_spec_NeededPair d p = some r ∧ m_impl_NeededPair d p = some r := by
  unfold m_spec_NeededPair m_impl_NeededPair m_impl_neededAt
  rw [p_sAsked d p hs, p_valid d hs, p_hasPort, Option.bind_some, Option.bind_some, Option.bind_some]
  cases hv : validNet d with
  | false => exact ⟨_, rfl, rfl⟩
  | true =>
    cases hp : hasPort d.agents p with
    | false => exact ⟨_, rfl, rfl⟩
    | true =>
      obtain ⟨xs⟩ := d
      have G : Good xs := good hv
      simp only [cond_true]
      rw [show ((0 : Int) != 0) = false from rfl, cond_false, p_isKnown G hp, Option.bind_some]
      cases hk : known xs p with
      | true =>
        have : m_spec_l17Walk ⟨xs⟩ p = some ([], ⟨0, 0⟩, 3) := by unfold m_spec_l17Walk; rw [p_value G hp, Option.bind_some, hk, cond_true]
        rw [this]
        exact ⟨_, rfl, rfl⟩
      | false =>
        obtain ⟨rs, ri, e1, e2, h⟩ := walk_both G hp hk
        rw [cond_false, e1, e2, Option.bind_some, Option.bind_some]
        rcases h with ⟨h1, h2, h3, h4, h5⟩ | ⟨h1, h2⟩
        · rw [h1, h2]
          simp only [cond_true, Option.bind_some, show ((0 : Int) != 0) = false from rfl, cond_false]
          rw [p_sIndex G, p_iPairs (d := ⟨xs⟩) G, Option.bind_some, Option.bind_some, p_iIndex, ← h4, Option.bind_some]
          cases hfi : (pairsOf xs).findIdx? (fun x => x.a == rs.2.1.a && x.b == rs.2.1.b) with
          | none =>
            have := List.findIdx?_eq_none_iff.1 hfi _ h5
            simp at this
          | some i => exact ⟨_, rfl, rfl⟩
        · rw [h1, h2]
          exact ⟨_, rfl, rfl⟩
noncomputable def neededPair (d : DNet) (p : DPort) : Int × Int := (m_spec_NeededPair d p).getD default
theorem p_sNeededPair (d : DNet) (p : DPort) (hs : Small d.agents) : m_spec_NeededPair d p = some (neededPair d p) := by
  obtain ⟨r, h, _⟩ := p_neededPair d p hs
  unfold neededPair; rw [h]; rfl
theorem p_iNeededPair (d : DNet) (p : DPort) (hs : Small d.agents) : m_impl_NeededPair d p = some (neededPair d p) := by
  obtain ⟨r, h, h'⟩ := p_neededPair d p hs
  unfold neededPair; rw [h, h']; rfl

end Go.Proofs.Ytjddeofchiohkaa
