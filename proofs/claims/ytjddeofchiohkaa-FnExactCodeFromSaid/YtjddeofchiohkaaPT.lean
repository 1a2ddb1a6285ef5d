/- CodeFrom: the models agree. -/
import Derived.Test.YtjddeofchiohkaaPS
namespace Go.Proofs.Ytjddeofchiohkaa
open Go.RowKit
set_option linter.unusedVariables false
set_option linter.unusedSimpArgs false
theorem visit_mem {l : List Int} {a : Int} : a ∈ visit l a := by
  unfold visit
  by_cases h : a ∈ l
  · rw [if_pos h]; exact h
  · rw [if_neg h]; simp
theorem visit_sub {l : List Int} {a b : Int} (h : b ∈ l) : b ∈ visit l a := by
  unfold visit
  by_cases h' : a ∈ l
  · rw [if_pos h']; exact h
  · rw [if_neg h']; simp [h]
theorem visits_mem (x : DAgent) : ∀ (l : List Int) (p : DPort), p ∈ x.ports → p.agent ∈ visits l x := by
  unfold visits
  generalize x.ports = ps
  have sub : ∀ (ps : List DPort) (l : List Int) (b : Int), b ∈ l → b ∈ ps.foldl (fun l p => visit l p.agent) l := by
    intro ps
    induction ps with
    | nil => intro l b h; exact h
    | cons q ps ih => intro l b h; rw [List.foldl_cons]; exact ih _ _ (visit_sub h)
  induction ps with
  | nil => intro l p h; simp at h
  | cons q ps ih =>
    intro l p h
    rw [List.foldl_cons]
    rcases List.mem_cons.1 h with rfl | h
    · exact sub ps _ _ visit_mem
    · exact ih _ _ h
theorem tr_pre (xs : List DAgent) (s : Int) (k : Nat) : ∀ m, ∃ t, tr xs s (k + m) = tr xs s k ++ t
  | 0 => ⟨[], by simp⟩
  | m + 1 => by
    obtain ⟨t, ht⟩ := tr_pre xs s k m
    show ∃ t, (match (tr xs s (k + m))[k + m]? with | none => tr xs s (k + m) | some a => visits (tr xs s (k + m)) (agentAt xs a)) = _
    cases (tr xs s (k + m))[k + m]? with
    | none => exact ⟨t, ht⟩
    | some a =>
      obtain ⟨u, hu⟩ := visits_pre (agentAt xs a) (tr xs s (k + m))
      exact ⟨t ++ u, by simp only; rw [hu, ht, List.append_assoc]⟩
/-- The traversal is closed. -/
theorem tr_closed {xs : List DAgent} (G : Good xs) {s : Int} (h0 : 0 ≤ s) (h1 : s < xs.length) {a : Int} (ha : a ∈ tr xs s xs.length) {p : DPort} (hp : p ∈ (agentAt xs a).ports) : p.agent ∈ tr xs s xs.length := by
  obtain ⟨K, hK, hK1, hK2⟩ := tr_end G h0 h1
  have hfin : tr xs s xs.length = tr xs s K := by
    have := tr_stable hK1 (xs.length - K)
    rw [show K + (xs.length - K) = xs.length by omega] at this
    exact this
  rw [hfin] at ha ⊢
  obtain ⟨k, hk, hka⟩ := List.getElem_of_mem ha
  have hkK : k < K := by omega
  have hlt := hK2 k hkK
  obtain ⟨t, ht⟩ := tr_pre xs s k (K - k)
  rw [show k + (K - k) = K by omega] at ht
  have e1 : (tr xs s k)[k]? = some a := by
    have e2 := List.getElem?_eq_getElem hk
    rw [hka] at e2
    rw [← e2, ht, List.getElem?_append_left hlt]
  have e3 := tr_step e1
  have e4 := visits_mem (agentAt xs a) (tr xs s k) p hp
  rw [← e3] at e4
  obtain ⟨u, hu⟩ := tr_pre xs s (k + 1) (K - (k + 1))
  rw [show k + 1 + (K - (k + 1)) = K by omega] at hu
  rw [hu]; simp [e4]
def piece (l : List Int) (x : DAgent) : List Int := [x.kind, x.level, x.value, (x.data.length : Int)] ++ x.data ++ x.ports.flatMap fun p => [posOf l p.agent, p.slot]
def codeL (xs : List DAgent) (l : List Int) : List Int := l.flatMap fun a => piece l (agentAt xs a)
theorem piece_len {xs : List DAgent} (hs : Small xs) (l : List Int) {i : Nat} {x : DAgent} (hx : xs[i]? = some x) : (piece l x).length ≤ 3145732 := by
  have h1 := hs.ports (List.mem_of_getElem? hx)
  have h2 := hs.data (List.mem_of_getElem? hx)
  have h3 : ∀ ps : List DPort, (ps.flatMap fun p => [posOf l p.agent, p.slot]).length = 2 * ps.length := by
    intro ps
    induction ps with
    | nil => rfl
    | cons p ps ih => rw [List.flatMap_cons, List.length_append, ih]; simp; omega
  unfold piece
  rw [List.length_append, List.length_append, h3]
  simp
  omega
/-- A loop that appends f of each element. -/
theorem appL {α β ρ : Type} {L : Nat → List β → Int → Option ρ} {d : List α} {f : α → List β} {B M : Nat} {K : List β → Option ρ} (hB : ∀ x ∈ d, (f x).length ≤ B) (h : ∀ g (k : Nat) x acc, d[k]? = some x → acc.length + (f x).length ≤ M → L (g + 1) acc (k : Int) = L g (acc ++ f x) ((k : Int) + 1)) (he : ∀ g acc, L (g + 1) acc (d.length : Int) = K acc)
    (acc : List β) (g : Nat) (hg : d.length < g) (hM : acc.length + d.length * B ≤ M) : L g acc 0 = K (acc ++ d.flatMap f) ∧ (acc ++ d.flatMap f).length ≤ acc.length + d.length * B := by
  have key := foldL (L := L) (d := d) (f := fun s x => s ++ f x) (I := fun k s => k ≤ d.length ∧ s.length ≤ acc.length + k * B) (K := K)
    (fun g k x s hx ⟨hk, hs⟩ => by
      have hkl := lt_of_some hx
      have hb := hB x (List.mem_of_getElem? hx)
      have h1 : k * B + B ≤ d.length * B := by rw [← Nat.succ_mul]; exact Nat.mul_le_mul_right _ hkl
      refine ⟨h g k x s hx (by omega), hkl, ?_⟩
      rw [List.length_append, Nat.succ_mul]; omega)
    (fun g s _ => he g s) g acc hg ⟨Nat.zero_le _, by omega⟩
  have e : ∀ (d : List α) (acc : List β), d.foldl (fun s x => s ++ f x) acc = acc ++ d.flatMap f := by
    intro d
    induction d with
    | nil => intro acc; simp
    | cons x d ih => intro acc; rw [List.foldl_cons, ih, List.flatMap_cons, List.append_assoc]
  rw [e] at key
  exact ⟨key.1, key.2.2⟩

theorem p_sCode {xs : List DAgent} (G : Good xs) (hs : Small xs) {s : Int} (h0 : 0 ≤ s) (h1 : s < xs.length) : m_spec_l12Code ⟨xs⟩ s = some (codeL xs (tr xs s xs.length)) := by
  have hn := G.len
  have hl := tr_ok G h0 h1 xs.length
  have hlen := hl.len
  unfold m_spec_l12Code
  rw [p_sTraverse G h0 h1, Option.bind_some]
  generalize htr : tr xs s xs.length = l at *
  refine (appL (L := m_spec_l12Code_L1 ⟨xs⟩ (l, atOf xs.length l) m_spec_l12Code_A1) (d := l) (f := fun a => piece l (agentAt xs a)) (B := 3145732) (M := 4294967296) (K := some)
    (fun a ha => by
      obtain ⟨a0, a1⟩ := hl.inr a ha
      obtain ⟨j, rfl⟩ := Int.eq_ofNat_of_zero_le a0
      have hx := List.getElem?_eq_getElem (show j < xs.length by omega)
      rw [agentAt_nat hx]
      exact piece_len hs l hx)
    (fun g k a acc ha hM => by
      have hk := lt_of_some ha
      obtain ⟨a0, a1⟩ := hl.inr a (List.mem_of_getElem? ha)
      obtain ⟨j, rfl⟩ := Int.eq_ofNat_of_zero_le a0
      have hx := List.getElem?_eq_getElem (show j < xs.length by omega)
      rw [agentAt_nat hx] at hM ⊢
      have hM2 : acc.length + (4 + xs[j].data.length + (xs[j].ports.flatMap fun p => [posOf l p.agent, p.slot]).length) ≤ 4294967296 := by
        unfold piece at hM; simp only [List.length_append, List.length_cons, List.length_nil] at hM; omega
      have h3 : ∀ ps : List DPort, (ps.flatMap fun p => [posOf l p.agent, p.slot]).length = ps.length * 2 := by
        intro ps
        induction ps with
        | nil => rfl
        | cons p ps ih => rw [List.flatMap_cons, List.length_append, ih]; simp; omega
      rw [h3] at hM2
      have inner := (appL (L := m_spec_l12Code_L2 (l, atOf xs.length l) xs[j] (m_spec_l12Code_A2 (m_spec_l12Code_L1 ⟨xs⟩ (l, atOf xs.length l) m_spec_l12Code_A1 g) (k : Int))) (d := xs[j].ports) (f := fun p => [posOf l p.agent, p.slot]) (B := 2) (M := 4294967296)
        (K := fun acc => m_spec_l12Code_L1 ⟨xs⟩ (l, atOf xs.length l) m_spec_l12Code_A1 g acc ((k : Int) + 1))
        (fun p _ => Nat.le_refl _)
        (fun g' k' p acc' hp hM' => by
          have hk' := lt_of_some hp
          obtain ⟨b0, b1⟩ := G.to hx hp
          simp -implicitDefEqProofs only [m_spec_l12Code_L2, m_spec_l12Code_B2, dlt hk', cond_true, getI_nat hp, Option.bind_some, atOf_get b0 b1]
          rw [mustP_ok hM', Option.bind_some])
        (fun g' acc' => by
          simp -implicitDefEqProofs only [m_spec_l12Code_L2, m_spec_l12Code_B2, dge, cond_false, m_spec_l12Code_A2]
          rw [ck_ok (by omega), Option.bind_some])
        ((acc ++ [xs[j].kind, xs[j].level, xs[j].value, (xs[j].data.length : Int)]) ++ xs[j].data) (xs[j].ports.length + 1) (Nat.lt_succ_self _) (by simp only [List.length_append, List.length_cons, List.length_nil]; omega)).1
      simp -implicitDefEqProofs only [m_spec_l12Code_L1, m_spec_l12Code_B1, dlt hk, cond_true, getI_nat ha, getI_nat hx, Option.bind_some]
      rw [mustP_ok (by simp only [List.length_cons, List.length_nil]; omega), Option.bind_some, mustP_ok (by simp only [List.length_append, List.length_cons, List.length_nil]; omega), Option.bind_some, inner]
      unfold piece
      simp only [List.append_assoc])
    (fun g acc => by simp -implicitDefEqProofs only [m_spec_l12Code_L1, m_spec_l12Code_B1, dge, cond_false, m_spec_l12Code_A1])
    [] (l.length + 1) (Nat.lt_succ_self _) (by simp only [List.length_nil]; omega)).1.trans ?_
  rw [List.nil_append]; rfl
noncomputable def codeFrom (d : DNet) (s : Int) : List Int × Int := bif validNet d then (bif decide (0 ≤ s ∧ s < d.agents.length) then (codeL d.agents (tr d.agents s d.agents.length), 0) else ([], 2)) else ([], 1)
theorem p_sCodeFrom (d : DNet) (s : Int) (hs : Small d.agents) : m_spec_CodeFrom d s = some (codeFrom d s) := by
  unfold m_spec_CodeFrom codeFrom
  rw [p_sStart d s hs, Option.bind_some]
  cases hv : validNet d with
  | false => rfl
  | true =>
    cases hr : decide (0 ≤ s ∧ s < d.agents.length) with
    | false => rfl
    | true =>
      simp only [cond_true]
      rw [show ((0 : Int) != 0) = false from rfl, cond_false]
      obtain ⟨xs⟩ := d
      have hr := of_decide_eq_true hr
      rw [p_sCode (good hv) hs hr.1 hr.2, Option.bind_some]

def placeOf (l : List Int) : Nat → MapM Int Int
  | 0 => MapM.empty
  | k + 1 => (placeOf l k).put (l[k]?.getD 0) (k : Int)
theorem placeOf_n (l : List Int) : ∀ k, (placeOf l k).n = k
  | 0 => rfl
  | k + 1 => by show (placeOf l k).n + 1 = k + 1; rw [placeOf_n l k]
theorem placeOf_look {l : List Int} (hn : l.Nodup) : ∀ k, k ≤ l.length → ∀ i (hi : i < k) (hl : i < l.length), (placeOf l k).look l[i] 0 = (i : Int)
  | 0, _, i, hi, _ => by omega
  | k + 1, hk, i, hi, hl => by
    have hkl : k < l.length := hk
    have e : l[k]?.getD 0 = l[k] := by rw [List.getElem?_eq_getElem hkl]; rfl
    by_cases hik : i = k
    · subst hik
      simp [placeOf, MapM.look, MapM.put, e]
    · have hne : l[i] ≠ l[k] := List.pairwise_iff_getElem.1 (List.nodup_iff_pairwise_ne.1 hn) i k hl hkl (by omega)
      have ih := placeOf_look hn k (by omega) i (by omega) hl
      simp only [placeOf, MapM.look, MapM.put, e, if_neg hne] at ih ⊢
      exact ih
theorem placeOf_pos {l : List Int} (hn : l.Nodup) {a : Int} (ha : a ∈ l) : (placeOf l l.length).look a 0 = posOf l a := by
  have hi := List.idxOf_lt_length_of_mem ha
  have := placeOf_look hn l.length (Nat.le_refl _) (l.idxOf a) hi hi
  rw [List.getElem_idxOf] at this
  rw [this]
  unfold posOf
  rw [if_pos ha]
theorem p_iCode {xs : List DAgent} (G : Good xs) (hs : Small xs) {s : Int} (h0 : 0 ≤ s) (h1 : s < xs.length) : m_impl_Net_code ⟨xs⟩ (tr xs s xs.length) = some (codeL xs (tr xs s xs.length)) := by
  have hn := G.len
  have hl := tr_ok G h0 h1 xs.length
  have hlen := hl.len
  have hcl := fun a ha p hp => tr_closed (a := a) (p := p) G h0 h1 ha hp
  generalize htr : tr xs s xs.length = l at *
  have key := traj (L := fun g (q : Int × MapM Int Int) => m_impl_Net_code_L1 l (m_impl_Net_code_A1 ⟨xs⟩ l) g q.1 q.2) (st := fun k => ((k : Int), placeOf l k)) (n := l.length) (r := m_impl_Net_code_A1 ⟨xs⟩ l (placeOf l l.length))
    (fun g k hk => by
      obtain ⟨a0, a1⟩ := hl.inr _ (List.getElem_mem hk)
      have hpn := placeOf_n l k
      simp -implicitDefEqProofs only [m_impl_Net_code_L1, m_impl_Net_code_B1, dlt hk, cond_true, getI_lt hk, Option.bind_some]
      rw [ck_ok (by omega), Option.bind_some, mustP_ok (by omega), Option.bind_some]
      have e : placeOf l (k + 1) = (placeOf l k).put l[k] (k : Int) := by
        show (placeOf l k).put (l[k]?.getD 0) (k : Int) = _
        rw [List.getElem?_eq_getElem hk]; rfl
      rw [e]
      simp only [Int.natCast_add, Int.cast_ofNat_Int])
    (fun g => by simp -implicitDefEqProofs only [m_impl_Net_code_L1, m_impl_Net_code_B1, dge, cond_false]) (l.length + 1) (Nat.lt_succ_self _)
  unfold m_impl_Net_code
  refine Eq.trans key ?_
  unfold m_impl_Net_code_A1
  refine (appL (L := m_impl_Net_code_L2 ⟨xs⟩ l (placeOf l l.length) m_impl_Net_code_A2) (d := l) (f := fun a => piece l (agentAt xs a)) (B := 3145732) (M := 4294967296) (K := some)
    (fun a ha => by
      obtain ⟨a0, a1⟩ := hl.inr a ha
      obtain ⟨j, rfl⟩ := Int.eq_ofNat_of_zero_le a0
      have hx := List.getElem?_eq_getElem (show j < xs.length by omega)
      rw [agentAt_nat hx]
      exact piece_len hs l hx)
    (fun g k a acc ha hM => by
      have hk := lt_of_some ha
      have hmem := List.mem_of_getElem? ha
      obtain ⟨a0, a1⟩ := hl.inr a hmem
      obtain ⟨j, rfl⟩ := Int.eq_ofNat_of_zero_le a0
      have hx := List.getElem?_eq_getElem (show j < xs.length by omega)
      have hcl := fun p hp => hcl (j : Int) hmem p hp
      rw [agentAt_nat hx] at hM hcl ⊢
      have hM2 : acc.length + (4 + xs[j].data.length + (xs[j].ports.flatMap fun p => [posOf l p.agent, p.slot]).length) ≤ 4294967296 := by
        unfold piece at hM; simp only [List.length_append, List.length_cons, List.length_nil] at hM; omega
      have h3 : ∀ ps : List DPort, (ps.flatMap fun p => [posOf l p.agent, p.slot]).length = ps.length * 2 := by
        intro ps
        induction ps with
        | nil => rfl
        | cons p ps ih => rw [List.flatMap_cons, List.length_append, ih]; simp; omega
      rw [h3] at hM2
      have inner := (appL (L := m_impl_Net_code_L3 (placeOf l l.length) xs[j] (m_impl_Net_code_A3 (m_impl_Net_code_L2 ⟨xs⟩ l (placeOf l l.length) m_impl_Net_code_A2 g) (k : Int))) (d := xs[j].ports) (f := fun p => [posOf l p.agent, p.slot]) (B := 2) (M := 4294967296)
        (K := fun acc => m_impl_Net_code_L2 ⟨xs⟩ l (placeOf l l.length) m_impl_Net_code_A2 g acc ((k : Int) + 1))
        (fun p _ => Nat.le_refl _)
        (fun g' k' p acc' hp hM' => by
          have hk' := lt_of_some hp
          obtain ⟨b0, b1⟩ := G.to hx hp
          have hpos := placeOf_pos hl.nd (hcl p (List.mem_of_getElem? hp))
          simp -implicitDefEqProofs only [m_impl_Net_code_L3, m_impl_Net_code_B3, dlt hk', cond_true, getI_nat hp, Option.bind_some, hpos]
          rw [ck_ok (by omega), Option.bind_some, mustP_ok hM', Option.bind_some])
        (fun g' acc' => by
          simp -implicitDefEqProofs only [m_impl_Net_code_L3, m_impl_Net_code_B3, dge, cond_false, m_impl_Net_code_A3]
          rw [ck_ok (by omega), Option.bind_some])
        ((acc ++ [xs[j].kind, xs[j].level, xs[j].value, (xs[j].data.length : Int)]) ++ xs[j].data) (xs[j].ports.length + 1) (Nat.lt_succ_self _) (by simp only [List.length_append, List.length_cons, List.length_nil]; omega)).1
      simp -implicitDefEqProofs only [m_impl_Net_code_L2, m_impl_Net_code_B2, dlt hk, cond_true, getI_nat ha, getI_nat hx, Option.bind_some]
      rw [mustP_ok (by simp only [List.length_cons, List.length_nil]; omega), Option.bind_some, mustP_ok (by simp only [List.length_append, List.length_cons, List.length_nil]; omega), Option.bind_some, inner]
      unfold piece
      simp only [List.append_assoc])
    (fun g acc => by simp -implicitDefEqProofs only [m_impl_Net_code_L2, m_impl_Net_code_B2, dge, cond_false, m_impl_Net_code_A2])
    [] (l.length + 1) (Nat.lt_succ_self _) (by simp only [List.length_nil]; omega)).1.trans ?_
  rw [List.nil_append]; rfl
theorem agentOk_small {x : DAgent} (h : agentOk x = true) : x.ports.length ≤ 4 ∧ x.data.length ≤ 4 := by
  unfold agentOk at h
  simp only [Bool.and_eq_true, decide_eq_true_eq] at h
  obtain ⟨⟨⟨h1, h2⟩, _⟩, h3⟩ := h
  constructor
  · have : ∀ k f : Int, portsOf k f ≤ 4 := by
      intro k f
      unfold portsOf
      split
      · split <;> omega
      · split
        · omega
        · split
          · omega
          · split
            · omega
            · split <;> omega
    have := this x.kind (fieldsN x.kind x.ports.length)
    omega
  · unfold content at h3
    split at h3
    · simp only [Bool.and_eq_true, decide_eq_true_eq] at h3; omega
    · split at h3
      · simp only [Bool.and_eq_true, decide_eq_true_eq] at h3; omega
      · split at h3
        · simp only [Bool.and_eq_true, decide_eq_true_eq] at h3; omega
        · split at h3
          · simp only [Bool.and_eq_true, decide_eq_true_eq] at h3; omega
          · split at h3
            · simp only [Bool.and_eq_true, decide_eq_true_eq] at h3; omega
            · split at h3
              · simp only [Bool.and_eq_true, decide_eq_true_eq] at h3; omega
              · split at h3
                · simp only [Bool.and_eq_true, decide_eq_true_eq] at h3; omega
                · simp only [Bool.and_eq_true, decide_eq_true_eq] at h3; omega
theorem codeL_len {xs : List DAgent} (G : Good xs) {l : List Int} (hl : GL xs.length l) : (codeL xs l).length ≤ 600 * 16 := by
  have hn := G.len
  have hlen := hl.len
  have key : ∀ d : List Int, (∀ a ∈ d, (piece l (agentAt xs a)).length ≤ 16) → (d.flatMap fun a => piece l (agentAt xs a)).length ≤ d.length * 16 := by
    intro d
    induction d with
    | nil => intro _; simp
    | cons a d ih =>
      intro h
      have h1 := h a (by simp)
      have h2 := ih (fun b hb => h b (by simp [hb]))
      rw [List.flatMap_cons, List.length_append, List.length_cons, Nat.succ_mul]
      omega
  have := key l (fun a ha => by
    obtain ⟨a0, a1⟩ := hl.inr a ha
    obtain ⟨j, rfl⟩ := Int.eq_ofNat_of_zero_le a0
    have hx := List.getElem?_eq_getElem (show j < xs.length by omega)
    rw [agentAt_nat hx]
    obtain ⟨h1, h2⟩ := agentOk_small (G.ok j _ hx)
    have h3 : ∀ ps : List DPort, (ps.flatMap fun p => [posOf l p.agent, p.slot]).length = 2 * ps.length := by
      intro ps
      induction ps with
      | nil => rfl
      | cons p ps ih => rw [List.flatMap_cons, List.length_append, ih]; simp; omega
    unfold piece
    rw [List.length_append, List.length_append, h3]
    simp
    omega)
  unfold codeL
  omega
theorem codeFrom_len (d : DNet) (s : Int) (hs : szNet d ≤ 1048576) : lenOk (codeFrom d s).1 := by
  unfold codeFrom lenOk
  cases hv : validNet d with
  | false => simp
  | true =>
    cases hr : decide (0 ≤ s ∧ s < d.agents.length) with
    | false => simp
    | true =>
      have hr := of_decide_eq_true hr
      have := codeL_len (good hv) (tr_ok (good hv) hr.1 hr.2 d.agents.length)
      simp only [cond_true]
      omega
theorem p_iCodeFrom (d : DNet) (s : Int) (hs : Small d.agents) : m_impl_CodeFrom d s = some (codeFrom d s) := by
  unfold m_impl_CodeFrom
  rw [p_iTraverseFrom d s hs, Option.bind_some]
  unfold traverseFrom codeFrom
  cases hv : validNet d with
  | false => rfl
  | true =>
    cases hr : decide (0 ≤ s ∧ s < d.agents.length) with
    | false => rfl
    | true =>
      obtain ⟨xs⟩ := d
      have hr := of_decide_eq_true hr
      simp only [cond_true]
      rw [show ((0 : Int) != 0) = false from rfl, cond_false, p_iCode (good hv) hs hr.1 hr.2, Option.bind_some]

end Go.Proofs.Ytjddeofchiohkaa
