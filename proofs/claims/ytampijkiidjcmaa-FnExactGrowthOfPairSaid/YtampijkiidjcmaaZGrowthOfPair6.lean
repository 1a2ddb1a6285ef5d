/- Lemmas of the proof of GrowthOfPair, part 6. No condition. -/
import Derived.Test.YtampijkiidjcmaaZGrowthOfPair5
namespace Go.Proofs.Ytampijkiidjcmaa
section
open Go.RowKit
set_option linter.unusedVariables false
set_option linter.unusedSimpArgs false
def netAt (b : List DNet) (i : Int) : DNet := (b[i.toNat]?).getD ⟨[]⟩
theorem netAt_nat {b : List DNet} {k : Nat} {d : DNet} (h : b[k]? = some d) : netAt b (k : Int) = d := by simp [netAt, h]
/-- By how much a pair of class c grows, the agent x first. -/
def gTail (b : List DNet) (c : Int) (x y : DAgent) : Int × Int :=
  if c = 8 then (0, 11) else if c = 3 ∨ c = 4 then ((growth c ((y.ports.length : Int) - 1)).1, 0) else if c = 6 then ((growth c (fieldsN x.kind x.ports.length)).1, 0)
  else if c = 7 then (if x.value ≥ (b.length : Int) then (0, 3) else if hiL (netAt b x.value).agents + x.level > 8 then (0, 9) else ((growth c ((netAt b x.value).agents.length : Int)).1, 0))
  else ((growth c 0).1, 0)
def gPair (b : List DNet) (x y : DAgent) : Int × Int := if pairFirst x.kind x.level y.kind y.level = 2 then gTail b (cls x y) y x else gTail b (cls x y) x y
theorem may_of {xs : List DAgent} (G : Good xs) {i j : Nat} {x y : DAgent} (hx : xs[i]? = some x) (hy : xs[j]? = some y) (h1 : x.kind ≠ 1) (h2 : y.kind ≠ 1) : mayPair x.kind x.level y.kind y.level = true := by
  unfold mayPair
  rw [agentOk_allowed (G.ok i x hx), agentOk_allowed (G.ok j y hy)]
  simp [h1, h2]
theorem may_symm {a b c d : Int} (h : mayPair a b c d = true) : mayPair c d a b = true := by
  unfold mayPair at h ⊢
  simp only [Bool.and_eq_true] at h ⊢
  exact ⟨⟨⟨h.1.1.2, h.1.1.1⟩, h.2⟩, h.1.2⟩
theorem cls_symm {x y : DAgent} (hm : mayPair x.kind x.level y.kind y.level = true) (hf : pairFirst x.kind x.level y.kind y.level = 2) : cls y x = cls x y := by
  have hm2 := may_symm hm
  unfold cls
  have hp : pairClass y.kind y.level x.kind x.level = pairClass x.kind x.level y.kind y.level := by
    unfold pairFirst at hf
    rw [if_pos hm] at hf
    unfold pairClass
    rw [if_pos hm, if_pos hm2]
    by_cases h1 : rule x.kind x.level y.kind y.level ≠ 0
    · rw [if_pos h1] at hf; omega
    · rw [if_neg h1] at hf
      by_cases h2 : rule y.kind y.level x.kind x.level ≠ 0
      · rw [if_pos h2, if_neg h1, if_pos h2]
      · rw [if_neg h2] at hf; omega
  rw [hp]
  by_cases h : (x.kind = 9 ∧ y.kind = 10 ∧ (y.data.length : Int) ≤ x.value) ∨ (x.kind = 10 ∧ y.kind = 9 ∧ (x.data.length : Int) ≤ y.value)
  · rw [if_pos h, if_pos (by rcases h with h | h; exact .inr ⟨h.2.1, h.1, h.2.2⟩; exact .inl ⟨h.2.1, h.1, h.2.2⟩)]
  · rw [if_neg h, if_neg (fun h' => h (by rcases h' with h' | h'; exact .inr ⟨h'.2.1, h'.1, h'.2.2⟩; exact .inl ⟨h'.2.1, h'.1, h'.2.2⟩))]
theorem cls7 {x y : DAgent} (hm : mayPair x.kind x.level y.kind y.level = true) (h : cls x y = 7) : (pairFirst x.kind x.level y.kind y.level = 2 → y.kind = 12) ∧ (pairFirst x.kind x.level y.kind y.level ≠ 2 → x.kind = 12) := by
  have r7 : ∀ a b c d : Int, rule a b c d = 7 → a = 12 := by intro a b c d; unfold rule; grind
  unfold cls at h
  split at h
  · omega
  · unfold pairClass at h
    rw [if_pos hm] at h
    unfold pairFirst
    rw [if_pos hm]
    by_cases h1 : rule x.kind x.level y.kind y.level ≠ 0
    · rw [if_pos h1] at h ⊢
      exact ⟨fun e => by omega, fun _ => r7 _ _ _ _ h⟩
    · rw [if_neg h1] at h ⊢
      by_cases h2 : rule y.kind y.level x.kind x.level ≠ 0
      · rw [if_pos h2] at h ⊢
        exact ⟨fun _ => r7 _ _ _ _ h, fun e => absurd rfl e⟩
      · rw [if_neg h2] at h; omega
theorem value12 {x : DAgent} (h : agentOk x = true) (hk : x.kind = 12) : 0 ≤ x.value ∧ x.value ≤ 23 := by
  unfold agentOk at h
  simp only [Bool.and_eq_true] at h
  have hc := h.2
  unfold content at hc
  rw [hk] at hc
  simp [defIx] at hc
  omega
theorem book_at {b : List DNet} (hb : validBook b = true) {i : Nat} (hi : i < b.length) : validNet b[i] = true := by
  unfold validBook at hb
  simp only [Bool.and_eq_true, List.all_eq_true] at hb
  exact hb.2 _ (List.getElem_mem hi)
theorem hi_bound {xs : List DAgent} (G : Good xs) : 0 ≤ hiL xs ∧ hiL xs ≤ 8 := by
  have hh := hi_spec xs 0
  refine ⟨hh.1, ?_⟩
  unfold hiL
  rcases hh.2.2 with h | ⟨x, hx, h⟩
  · rw [h]; omega
  · rw [← h]; exact (good_level G hx).2.1
theorem s_tail {b : List DNet} (hb : validBook b = true) {x y : DAgent} (hx : x.ports.length ≤ 1048576) (hy : y.ports.length ≤ 1048576) (hlv : 0 ≤ x.level ∧ x.level ≤ 8) (h7 : cls x y = 7 → 0 ≤ x.value) :
    (bif (cls x y == 8) then some (0, 11) else (bif (cls x y == 3) then ((ck ((y.ports.length : Int) - 1)).bind fun s73 => some ((growth (cls x y) s73).1, 0)) else (bif (cls x y == 4) then ((ck ((y.ports.length : Int) - 1)).bind fun s70 => some ((growth (cls x y) s70).1, 0)) else (bif (cls x y == 6) then ((m_spec_l11Fields x).bind fun y64 => some ((growth (cls x y) y64).1, 0)) else (bif (cls x y == 7) then (bif (decide (x.value ≥ (b.length : Int))) then some (0, 3) else ((getI b x.value).bind fun x38 => ((getI b x.value).bind fun x48 => ((m_spec_l13Highest x48).bind fun y56 => ((ck (y56 + x.level)).bind fun s58 => (bif (decide (s58 > 8)) then some (0, 9) else some ((growth (cls x y) (x38.agents.length : Int)).1, 0))))))) else some ((growth (cls x y) 0).1, 0)))))) = some (gTail b (cls x y) x y) := by
  unfold gTail
  by_cases c8 : cls x y = 8
  · simp [c8]
  rw [show (cls x y == 8) = false by simpa using c8, cond_false, if_neg c8]
  by_cases c3 : cls x y = 3
  · rw [show (cls x y == 3) = true by simpa using c3, cond_true, ck_ok (by omega), Option.bind_some, if_pos (.inl c3)]
  rw [show (cls x y == 3) = false by simpa using c3, cond_false]
  by_cases c4 : cls x y = 4
  · rw [show (cls x y == 4) = true by simpa using c4, cond_true, ck_ok (by omega), Option.bind_some, if_pos (.inr c4)]
  rw [show (cls x y == 4) = false by simpa using c4, cond_false, if_neg (by rintro (h | h); exact c3 h; exact c4 h)]
  by_cases c6 : cls x y = 6
  · rw [show (cls x y == 6) = true by simpa using c6, cond_true, p_fields x (by omega), Option.bind_some, if_pos c6]
  rw [show (cls x y == 6) = false by simpa using c6, cond_false, if_neg c6]
  by_cases c7 : cls x y = 7
  · rw [show (cls x y == 7) = true by simpa using c7, cond_true, if_pos c7]
    have v0 := h7 c7
    by_cases hv : x.value ≥ (b.length : Int)
    · rw [decide_eq_true hv, cond_true, if_pos hv]
    · rw [decide_eq_false hv, cond_false, if_neg hv]
      obtain ⟨k, hk⟩ := Int.eq_ofNat_of_zero_le v0
      have hkl : k < b.length := by omega
      have hd := List.getElem?_eq_getElem hkl
      have hh := hi_bound (good (book_at hb hkl))
      rw [hk, getI_nat hd, Option.bind_some, Option.bind_some, p_highest, Option.bind_some, ck_ok (by omega), Option.bind_some, netAt_nat hd]
      by_cases h9 : hiL b[k].agents + x.level > 8
      · rw [decide_eq_true h9, cond_true, if_pos h9]
      · rw [decide_eq_false h9, cond_false, if_neg h9]
  · rw [show (cls x y == 7) = false by simpa using c7, cond_false, if_neg c7]
theorem p_sGrowth {b : List DNet} (hb : validBook b = true) {xs : List DAgent} (G : Good xs) (hs : Small xs) {p : DPair} (h : PairIn xs p) : m_spec_l13Growth b ⟨xs⟩ p.a p.b = some (gPair b (agentAt xs p.a) (agentAt xs p.b)) := by
  obtain ⟨i, j, x, y, rfl, hij, hx, hy, h1, h2, _⟩ := h
  have hm := may_of G hx hy h1 h2
  have sx := (small_sz hs hx).2
  have sy := (small_sz hs hy).2
  have lx := good_level G (List.mem_of_getElem? hx)
  have ly := good_level G (List.mem_of_getElem? hy)
  unfold m_spec_l13Growth m_spec_l13First gPair
  simp only [getI_nat hx, getI_nat hy, Option.bind_some, agentAt_nat hx, agentAt_nat hy]
  by_cases hf : pairFirst x.kind x.level y.kind y.level = 2
  · rw [show (pairFirst x.kind x.level y.kind y.level == 2) = true by simpa using hf, cond_true, if_pos hf, Option.bind_some]
    simp only [getI_nat hx, getI_nat hy, Option.bind_some, p_class]
    rw [← cls_symm hm hf]
    exact s_tail hb sy sx ⟨ly.1, ly.2.1⟩ (fun h7 => (value12 (G.ok j y hy) ((cls7 hm (by rw [← cls_symm hm hf]; exact h7)).1 hf)).1)
  · rw [show (pairFirst x.kind x.level y.kind y.level == 2) = false by simpa using hf, cond_false, if_neg hf, Option.bind_some]
    simp only [getI_nat hx, getI_nat hy, Option.bind_some, p_class]
    exact s_tail hb sx sy ⟨lx.1, lx.2.1⟩ (fun h7 => (value12 (G.ok i x hx) ((cls7 hm h7).2 hf)).1)
noncomputable def growthOfPair (b : List DNet) (d : DNet) (k : Int) : Int × Int :=
  bif validBook b then (if (pairNo d k).2 = 0 then gPair b (agentAt d.agents (pairNo d k).1.a) (agentAt d.agents (pairNo d k).1.b) else (0, (pairNo d k).2)) else (0, 1)
theorem p_sGrowthOfPair (b : List DNet) (d : DNet) (k : Int) (hb : SmallS b) (hs : Small d.agents) : m_spec_GrowthOfPair b d k = some (growthOfPair b d k) := by
  unfold m_spec_GrowthOfPair growthOfPair
  rw [p_sBook b hb, Option.bind_some]
  cases hv : validBook b with
  | false => rfl
  | true =>
    rw [cond_true, cond_true, p_sPair d k hs, Option.bind_some]
    by_cases h : (pairNo d k).2 = 0
    · obtain ⟨G, hin⟩ := pairNo_in h
      rw [show ((pairNo d k).2 != 0) = false by simpa using h, cond_false, if_pos h, p_sGrowth (xs := d.agents) hv G hs hin, Option.bind_some]
    · rw [show ((pairNo d k).2 != 0) = true by simpa using h, cond_true, if_neg h]
/-- What 'check' answers, the agent x first, at the indices i, j. -/
def chk (b : List DNet) (c : Int) (x : DAgent) (i j : Int) : Int × Int × Int × Int :=
  if c = 8 then (0, 0, 0, 11) else if c = 7 then (if x.value ≥ (b.length : Int) then (0, 0, 0, 3) else if hiL (netAt b x.value).agents + x.level > 8 then (0, 0, 0, 9) else (c, i, j, 0)) else (c, i, j, 0)
theorem i_chk {b : List DNet} (hb : validBook b = true) (hsb : SmallS b) {x y : DAgent} (hlv : 0 ≤ x.level ∧ x.level ≤ 8) (c : Int) (h7 : c = 7 → 0 ≤ x.value) (i j : Int) {q : Option DAgent} (hq : q = some x) :
    (bif (c == 8) then some (0, 0, 0, 11) else (bif (c == 7) then (q.bind fun x88 => (bif (decide (x88.value ≥ (b.length : Int))) then some (0, 0, 0, 3) else ((getI b x88.value).bind fun x111 => ((m_impl_shifted x111 x88.level).bind fun y121 => (bif y121.2 then some (c, i, j, 0) else some (0, 0, 0, 9)))))) else some (c, i, j, 0))) = some (chk b c x i j) := by
  subst hq
  unfold chk
  by_cases c8 : c = 8
  · simp [c8]
  rw [show (c == 8) = false by simpa using c8, cond_false, if_neg c8]
  by_cases c7 : c = 7
  · rw [show (c == 7) = true by simpa using c7, cond_true, if_pos c7, Option.bind_some]
    have v0 := h7 c7
    by_cases hv : x.value ≥ (b.length : Int)
    · rw [decide_eq_true hv, cond_true, if_pos hv]
    · rw [decide_eq_false hv, cond_false, if_neg hv]
      obtain ⟨k, hk⟩ := Int.eq_ofNat_of_zero_le v0
      have hkl : k < b.length := by omega
      have hd := List.getElem?_eq_getElem hkl
      have G := good (book_at hb hkl)
      have hsd : Small b[k].agents := hsb _ (List.getElem_mem hkl)
      have hsh := p_shifted (b := x.level) hsd (fun x hx => ⟨(good_level G hx).1, (good_level G hx).2.1⟩) hlv.1 hlv.2
      have e : (⟨b[k].agents⟩ : DNet) = b[k] := rfl
      rw [e] at hsh
      rw [hk, getI_nat hd, Option.bind_some, hsh, Option.bind_some, netAt_nat hd]
      have hi := high_iff G hlv.1 hlv.2
      by_cases h9 : hiL b[k].agents + x.level > 8
      · rw [decide_eq_true h9] at hi
        rw [← hi, if_pos h9]; rfl
      · rw [decide_eq_false h9] at hi
        rw [← hi, if_neg h9]; rfl
  · rw [show (c == 7) = false by simpa using c7, cond_false, if_neg c7]
theorem i_grow {b : List DNet} (hb : validBook b = true) {xs : List DAgent} {i j : Nat} {x y : DAgent} (hx : xs[i]? = some x) (hy : xs[j]? = some y) (sx : x.ports.length ≤ 1048576) (sy : y.ports.length ≤ 1048576) {c : Int} (c8 : c ≠ 8) (h7 : c = 7 → 0 ≤ x.value ∧ x.value < (b.length : Int) ∧ ¬ hiL (netAt b x.value).agents + x.level > 8) :
    m_impl_rewriter_growth ⟨⟨xs⟩, b⟩ c (i : Int) (j : Int) = some (gTail b c x y).1 ∧ (gTail b c x y).2 = 0 := by
  unfold m_impl_rewriter_growth gTail
  simp only [getI_nat hx, getI_nat hy, Option.bind_some]
  rw [if_neg c8]
  by_cases c3 : c = 3
  · rw [show (c == 3) = true by simpa using c3, cond_true, ck_ok (by omega), Option.bind_some, if_pos (.inl c3)]; exact ⟨rfl, rfl⟩
  rw [show (c == 3) = false by simpa using c3, cond_false]
  by_cases c4 : c = 4
  · rw [show (c == 4) = true by simpa using c4, cond_true, ck_ok (by omega), Option.bind_some, if_pos (.inr c4)]; exact ⟨rfl, rfl⟩
  rw [show (c == 4) = false by simpa using c4, cond_false, if_neg (by rintro (h | h); exact c3 h; exact c4 h)]
  by_cases c6 : c = 6
  · rw [show (c == 6) = true by simpa using c6, cond_true, if_pos c6]
    refine ⟨?_, rfl⟩
    unfold fieldsN
    by_cases k9 : x.kind = 9
    · rw [show (x.kind == 9) = true by simpa using k9, cond_true, ck_ok (by omega), Option.bind_some, if_pos k9]
    · rw [show (x.kind == 9) = false by simpa using k9, cond_false, if_neg k9]
  rw [show (c == 6) = false by simpa using c6, cond_false, if_neg c6]
  by_cases c7 : c = 7
  · obtain ⟨v0, v1, v2⟩ := h7 c7
    rw [show (c == 7) = true by simpa using c7, cond_true, if_pos c7, if_neg (by omega), if_neg v2]
    obtain ⟨k, hk⟩ := Int.eq_ofNat_of_zero_le v0
    have hd := List.getElem?_eq_getElem (show k < b.length by omega)
    rw [hk, getI_nat hd, Option.bind_some, netAt_nat hd]
    exact ⟨rfl, rfl⟩
  · rw [show (c == 7) = false by simpa using c7, cond_false, if_neg c7]; exact ⟨rfl, rfl⟩
theorem i_both {b : List DNet} (hb : validBook b = true) {xs : List DAgent} {i j : Nat} {x y : DAgent} (hx : xs[i]? = some x) (hy : xs[j]? = some y) (sx : x.ports.length ≤ 1048576) (sy : y.ports.length ≤ 1048576) (c : Int) (h7 : c = 7 → 0 ≤ x.value) :
    (bif ((chk b c x (i : Int) (j : Int)).2.2.2 != 0) then some (0, (chk b c x (i : Int) (j : Int)).2.2.2) else ((m_impl_rewriter_growth ⟨⟨xs⟩, b⟩ (chk b c x (i : Int) (j : Int)).1 (chk b c x (i : Int) (j : Int)).2.1 (chk b c x (i : Int) (j : Int)).2.2.1).bind fun y32 => some (y32, 0))) = some (gTail b c x y) := by
  have key : c ≠ 8 → (c = 7 → x.value < (b.length : Int) ∧ ¬ hiL (netAt b x.value).agents + x.level > 8) → (bif (((c, (i : Int), (j : Int), (0 : Int)) : Int × Int × Int × Int).2.2.2 != 0) then some ((0 : Int), ((c, (i : Int), (j : Int), (0 : Int)) : Int × Int × Int × Int).2.2.2) else ((m_impl_rewriter_growth ⟨⟨xs⟩, b⟩ c (i : Int) (j : Int)).bind fun y32 => some (y32, (0 : Int)))) = some (gTail b c x y) := by
    intro c8 h
    obtain ⟨e1, e2⟩ := i_grow (y := y) hb hx hy sx sy c8 (fun c7 => ⟨h7 c7, h c7⟩)
    rw [e1, Option.bind_some]
    show some ((gTail b c x y).1, (0 : Int)) = _
    rw [← e2]
  by_cases c8 : c = 8
  · simp [chk, gTail, c8]
  by_cases c7 : c = 7
  · by_cases hv : x.value ≥ (b.length : Int)
    · have e1 : chk b c x (i : Int) (j : Int) = (0, 0, 0, 3) := by unfold chk; rw [if_neg c8, if_pos c7, if_pos hv]
      have e2 : gTail b c x y = (0, 3) := by unfold gTail; rw [if_neg c8, if_neg (by omega), if_neg (by omega), if_pos c7, if_pos hv]
      rw [e1, e2]; rfl
    · by_cases h9 : hiL (netAt b x.value).agents + x.level > 8
      · have e1 : chk b c x (i : Int) (j : Int) = (0, 0, 0, 9) := by unfold chk; rw [if_neg c8, if_pos c7, if_neg hv, if_pos h9]
        have e2 : gTail b c x y = (0, 9) := by unfold gTail; rw [if_neg c8, if_neg (by omega), if_neg (by omega), if_pos c7, if_neg hv, if_pos h9]
        rw [e1, e2]; rfl
      · have e1 : chk b c x (i : Int) (j : Int) = (c, (i : Int), (j : Int), 0) := by unfold chk; rw [if_neg c8, if_pos c7, if_neg hv, if_neg h9]
        rw [e1]; exact key c8 (fun _ => ⟨by omega, h9⟩)
  · have e1 : chk b c x (i : Int) (j : Int) = (c, (i : Int), (j : Int), 0) := by unfold chk; rw [if_neg c8, if_neg c7]
    rw [e1]; exact key c8 (fun h => absurd h c7)
theorem p_iGrowthOfPair (b : List DNet) (d : DNet) (k : Int) (hb : SmallS b) (hs : Small d.agents) : m_impl_GrowthOfPair b d k = some (growthOfPair b d k) := by
  unfold m_impl_GrowthOfPair growthOfPair
  rw [p_iValidTemplates b hb, Option.bind_some]
  cases hv : validBook b with
  | false => rfl
  | true =>
    rw [cond_true, cond_true, p_iPair d k hs, Option.bind_some]
    by_cases h : (pairNo d k).2 = 0
    · obtain ⟨G, hin⟩ := pairNo_in h
      rw [show ((pairNo d k).2 != 0) = false by simpa using h, cond_false, if_pos h]
      have hcl := p_classOf (d := d) G hin
      generalize (pairNo d k).1 = p at *
      obtain ⟨i, j, x, y, rfl, hij, hx, hy, h1, h2, _⟩ := hin
      have hm := may_of G hx hy h1 h2
      have sx := (small_sz hs hx).2
      have sy := (small_sz hs hy).2
      have lx := good_level G (List.mem_of_getElem? hx)
      have ly := good_level G (List.mem_of_getElem? hy)
      obtain ⟨xs⟩ := d
      unfold m_impl_rewriter_check gPair
      simp only [agentAt_nat hx, agentAt_nat hy] at hcl ⊢
      simp only [hcl, Option.bind_some]
      by_cases hf : pairFirst x.kind x.level y.kind y.level = 2
      · rw [if_pos hf]
        have v7 : cls x y = 7 → 0 ≤ y.value := fun h7 => (value12 (G.ok j y hy) ((cls7 hm h7).1 hf)).1
        cases hF : clsF x y with
        | true =>
          rw [cond_true, i_chk (y := x) hv hb ⟨ly.1, ly.2.1⟩ _ v7 (j : Int) (i : Int) (getI_nat hy), Option.bind_some]
          exact i_both hv hy hx sy sx _ v7
        | false =>
          have h8 : cls x y = 8 := by
            unfold clsF at hF
            by_cases h8 : cls x y = 8
            · exact h8
            · simp [h8, hf] at hF
          rw [cond_false, h8]
          simp [gTail]
      · rw [if_neg hf]
        have v7 : cls x y = 7 → 0 ≤ x.value := fun h7 => (value12 (G.ok i x hx) ((cls7 hm h7).2 hf)).1
        have hF : clsF x y = false := by
          unfold clsF
          cases (cls x y == 8 && !(pairClass x.kind x.level y.kind y.level == 8)) with
          | true => rfl
          | false => simpa using hf
        rw [hF, cond_false, i_chk (y := y) hv hb ⟨lx.1, lx.2.1⟩ _ v7 (i : Int) (j : Int) (getI_nat hx), Option.bind_some]
        exact i_both hv hx hy sx sy _ v7
    · rw [show ((pairNo d k).2 != 0) = true by simpa using h, cond_true, if_neg h]
end
section
open Go.RowKit
set_option linter.unusedVariables false
theorem specGrowthOfPair_v (u v : Value) (b : List DNet) (x : DNet) (k : Int) (w : World) {B B' : Nat} (h : RdS netRd 1 w B u b) (h' : RdT netRd w B' v x) (hB : B ≤ w.heap.size) (hB' : B' ≤ w.heap.size) (hb : szNetS b ≤ 1048576) (hs : szNet x ≤ 1048576) :
    Calls Try.prog 57 #[u, v, .int .i64 k] w fun e w' => e = .returned (.tuple #[.int .i64 (growthOfPair b x k).1, .int .i64 (growthOfPair b x k).2]) ∧ Below w.heap.size w w' :=
  c_m_spec_GrowthOfPair b x k _ (p_sGrowthOfPair b x k (smallS hb) hs) u v w (h.more netRd_ok hB) (h'.more netRd_ok hB')
theorem implGrowthOfPair_v (u v : Value) (b : List DNet) (x : DNet) (k : Int) (w : World) {B B' : Nat} (h : RdS netRd 1 w B u b) (h' : RdT netRd w B' v x) (hB : B ≤ w.heap.size) (hB' : B' ≤ w.heap.size) (hb : szNetS b ≤ 1048576) (hs : szNet x ≤ 1048576) :
    Calls Try.prog 58 #[u, v, .int .i64 k] w fun e w' => e = .returned (.tuple #[.int .i64 (growthOfPair b x k).1, .int .i64 (growthOfPair b x k).2]) ∧ Below w.heap.size w w' :=
  c_m_impl_GrowthOfPair b x k _ (p_iGrowthOfPair b x k (smallS hb) hs) u v w (h.more netRd_ok hB) (h'.more netRd_ok hB')
end
section
open Go.RowKit
set_option linter.unusedVariables false
set_option linter.unusedSimpArgs false
theorem szInt64S_v (v : Value) (xs : List Int) (left : Int) (w : World) {B : Nat} (h : RdS intRd 1 w B v xs) (hB : B ≤ w.heap.size) (h0 : 0 ≤ left) (h1 : left ≤ 1048576) :
    Calls Try.prog 157 #[v, .int .i64 left] w fun e w' => e = .returned (.int .i64 (szL left xs.length)) ∧ Below w.heap.size w w' := by
  obtain ⟨A, n, c, rfl, h, hnc, hcm⟩ := h
  have hr := Below.refl w.heap.size w
  have hl := h.len
  rw [← hl]
  unfold maxLen at hcm
  clear h hl
  by_cases hl : left - n < 0
  · have He := Lib.hid (szL_neg hl)
    go_enter Try.func157, Try.ntmps157
    go_wp2
    go_ret
    exact ⟨by rw [He.out]; rfl, hr⟩
  · have He := Lib.hid (szL_pos hl)
    go_enter Try.func157, Try.ntmps157
    go_wp2
    go_ret
    exact ⟨by rw [He.out]; rfl, hr⟩
theorem szPortS_v (v : Value) (xs : List DPort) (left : Int) (w : World) {B : Nat} (h : RdS portRd 2 w B v xs) (hB : B ≤ w.heap.size) (h0 : 0 ≤ left) (h1 : left ≤ 1048576) :
    Calls Try.prog 158 #[v, .int .i64 left] w fun e w' => e = .returned (.int .i64 (szL left xs.length)) ∧ Below w.heap.size w w' := by
  obtain ⟨A, n, c, rfl, h, hnc, hcm⟩ := h
  have hr := Below.refl w.heap.size w
  have hl := h.len
  rw [← hl]
  unfold maxLen at hcm
  clear h hl
  by_cases hl : left - n < 0
  · have He := Lib.hid (szL_neg hl)
    go_enter Try.func158, Try.ntmps158
    go_wp2
    go_ret
    exact ⟨by rw [He.out]; rfl, hr⟩
  · have He := Lib.hid (szL_pos hl)
    go_enter Try.func158, Try.ntmps158
    go_wp2
    go_ret
    exact ⟨by rw [He.out]; rfl, hr⟩
set_option maxHeartbeats 1000000 in
theorem szAgent_v (v : Value) (x : DAgent) (left : Int) (w : World) {B : Nat} (h : RdT agentRd w B v x) (hB : B ≤ w.heap.size) (h0 : 0 ≤ left) (h1 : left ≤ 1048576) :
    Calls Try.prog 108 #[v, .int .i64 left] w fun e w' => e = .returned (.int .i64 (szL left (szAgent x))) ∧ Below w.heap.size w w' := by
  obtain ⟨cs, rfl, A1, n1, c1, A2, n2, c2, rfl, ⟨g1, r1⟩, ⟨g2, r2⟩⟩ := h
  have hb : ∀ o1, Below w.heap.size w (w.alloc o1) := fun o1 => (Below.refl _ _).alloc (Nat.le_refl _) _
  obtain ⟨s0, es0⟩ : ∃ s : Nat, s = x.data.length := ⟨_, rfl⟩
  obtain ⟨s1, es1⟩ : ∃ s : Nat, s = x.ports.length := ⟨_, rfl⟩
  have Hs : Hid (szAgent x = s0 + s1) := by show _ = _; rw [es0, es1]; rfl
  have Es0 := Lib.hid es0
  have Es1 := Lib.hid es1
  clear es0 es1
  by_cases d0 : left - (s0 : Int) < 0
  · have He : Hid (szL left (szAgent x) = -1) := by show _ = _; rw [Hs.out, szL_neg (by omega)]
    go_enter Try.func108, Try.ntmps108
    go_wp2_with fail
    refine (szInt64S_v _ x.data (left) _ (B := B) ⟨A1, n1, c1, rfl, g1.below intRd_ok ((hb _).mono hB), r1⟩ (Nat.le_trans hB (hb _).size) (by omega) (by omega)).mono ?_
    rw [← Es0.out, szL_neg (by omega)]
    rintro e w1 ⟨rfl, q1⟩
    have T := (hb _).trans (q1.mono (hb _).size)
    have B1 := (Blk.new w _ _).below q1 (by simp)
    have z1 : w.heap.size + 1 ≤ w1.heap.size := by have := q1.size; simpa using this
    clear q1
    go_wp2_with fail
    go_ret
    exact ⟨by rw [He.out]; rfl, T⟩
  · skip
    by_cases d1 : left - s0 - (s1 : Int) < 0
    · have He : Hid (szL left (szAgent x) = -1) := by show _ = _; rw [Hs.out, szL_neg (by omega)]
      go_enter Try.func108, Try.ntmps108
      go_wp2_with fail
      refine (szInt64S_v _ x.data (left) _ (B := B) ⟨A1, n1, c1, rfl, g1.below intRd_ok ((hb _).mono hB), r1⟩ (Nat.le_trans hB (hb _).size) (by omega) (by omega)).mono ?_
      rw [← Es0.out, szL_pos (by omega)]
      rintro e w1 ⟨rfl, q1⟩
      have T := (hb _).trans (q1.mono (hb _).size)
      have B1 := (Blk.new w _ _).below q1 (by simp)
      have z1 : w.heap.size + 1 ≤ w1.heap.size := by have := q1.size; simpa using this
      clear q1
      have cB := B1.cell
      go_wp2_with fail
      clear cB
      refine (szPortS_v _ x.ports (left - s0) _ (B := B) ⟨A2, n2, c2, rfl, g2.below portRd_ok ((T).mono hB), r2⟩ (Nat.le_trans hB (T).size) (by omega) (by omega)).mono ?_
      rw [← Es1.out, szL_neg (by omega)]
      rintro e w2 ⟨rfl, q2⟩
      have T := T.trans (q2.mono T.size)
      have B1 := B1.below q2 (by omega)
      have z2 := Nat.le_trans z1 q2.size
      clear q2
      go_wp2_with fail
      go_ret
      exact ⟨by rw [He.out]; rfl, T⟩
    · skip
      have He : Hid (szL left (szAgent x) = left - s0 - s1) := by show _ = _; rw [Hs.out, szL_pos (by omega)]; try omega
      go_enter Try.func108, Try.ntmps108
      go_wp2_with fail
      refine (szInt64S_v _ x.data (left) _ (B := B) ⟨A1, n1, c1, rfl, g1.below intRd_ok ((hb _).mono hB), r1⟩ (Nat.le_trans hB (hb _).size) (by omega) (by omega)).mono ?_
      rw [← Es0.out, szL_pos (by omega)]
      rintro e w1 ⟨rfl, q1⟩
      have T := (hb _).trans (q1.mono (hb _).size)
      have B1 := (Blk.new w _ _).below q1 (by simp)
      have z1 : w.heap.size + 1 ≤ w1.heap.size := by have := q1.size; simpa using this
      clear q1
      have cB := B1.cell
      go_wp2_with fail
      clear cB
      refine (szPortS_v _ x.ports (left - s0) _ (B := B) ⟨A2, n2, c2, rfl, g2.below portRd_ok ((T).mono hB), r2⟩ (Nat.le_trans hB (T).size) (by omega) (by omega)).mono ?_
      rw [← Es1.out, szL_pos (by omega)]
      rintro e w2 ⟨rfl, q2⟩
      have T := T.trans (q2.mono T.size)
      have B1 := B1.below q2 (by omega)
      have z2 := Nat.le_trans z1 q2.size
      clear q2
      go_wp2_with fail
      go_ret
      exact ⟨by rw [He.out]; rfl, T⟩
theorem szAgentS_take {xs : List DAgent} {k : Nat} {x : DAgent} (h : xs[k]? = some x) : ((xs.take (k + 1)).map szAgent).sum = ((xs.take k).map szAgent).sum + szAgent x := by
  rw [take_succ_some h]; simp
theorem szAgentS_le (xs : List DAgent) (k : Nat) : ((xs.take k).map szAgent).sum ≤ (xs.map szAgent).sum := by
  have h : ((xs.take k ++ xs.drop k).map szAgent).sum = (xs.map szAgent).sum := by rw [List.take_append_drop]
  rw [List.map_append, List.sum_append] at h
  omega
set_option maxHeartbeats 1000000 in
theorem szAgentS_v (v : Value) (xs : List DAgent) (left : Int) (w : World) {B : Nat} (h : RdS agentRd 5 w B v xs) (hB : B ≤ w.heap.size) (h0 : 0 ≤ left) (h1 : left ≤ 1048576) :
    Calls Try.prog 59 #[v, .int .i64 left] w fun e w' => e = .returned (.int .i64 (szL left (szAgentS xs))) ∧ Below w.heap.size w w' := by
  obtain ⟨A, n, c, rfl, hx, hnc, hcm⟩ := h
  have hr := Below.refl w.heap.size w
  unfold maxLen at hcm
  have lx := Lib.hid hx.len
  by_cases hl : left - n < 0
  · have He : Hid (szL left (szAgentS xs) = -1) := szL_neg (by unfold szAgentS; rw [← lx.out]; omega)
    go_enter Try.func59, Try.ntmps59
    go_wp2
    go_ret
    exact ⟨by rw [He.out]; rfl, hr⟩
  · go_enter Try.func59, Try.ntmps59
    go_wp2
    go_loopw [1, 5] (fun s i wr => ∃ (k : Nat) (l : Int), k ≤ n ∧ i = .int .i64 k ∧ s = .int .i64 l ∧ 0 ≤ l ∧ l ≤ 1048576 ∧ Hid (l = left - n - (((xs.take k).map szAgent).sum : Nat)) ∧ Below w.heap.size w wr) (fun _ i _ => n - (intOf i).toNat)
    case atStart => exact ⟨0, left - n, by omega, rfl, rfl, by omega, by omega, by simp [Hid], hr⟩
    case round =>
      obtain ⟨k, s, hk, rfl, rfl, hs0, hs1, hs, hq⟩ := hrel
      by_cases hlt : k < n
      · obtain ⟨b, off, x, A1, n1, c1, A2, n2, c2, rfl, hb, hxk, hc0, hc1, hc2, hc3, hc4, ⟨g1, r1⟩, ⟨g2, r2⟩⟩ := (hx.below agentRd_ok (hq.mono hB)).agent hlt
        have Hxk := Lib.hid hxk
        clear hxk
        by_cases hd : s - (szAgent x : Int) < 0
        · have f := szL_neg hd
          have He : Hid (szL left (szAgentS xs) = -1) := szL_neg (by
            have e1 := szAgentS_le xs (k + 1)
            rw [szAgentS_take Hxk.out] at e1
            have e2 := hs.out
            have e3 := lx.out
            unfold szAgentS
            omega)
          go_wp2_with fail
          refine (szAgent_v _ x s _ (B := B) ⟨_, rfl, A1, n1, c1, A2, n2, c2, rfl, ⟨g1, r1⟩, ⟨g2, r2⟩⟩ (Nat.le_trans hB hq.size) hs0 hs1).mono ?_
          rintro e w1 ⟨rfl, q1⟩
          go_wp2_with fail
          go_ret
          exact ⟨by rw [He.out]; rfl, hq.trans (q1.mono hq.size)⟩
        · have f := szL_pos hd
          have Hn : Hid (s - (szAgent x : Int) = left - n - (((xs.take (k + 1)).map szAgent).sum : Nat)) := by
            have e1 := szAgentS_take Hxk.out
            have e2 := hs.out
            show _ = _
            rw [e1]
            omega
          go_wp2_with fail
          refine (szAgent_v _ x s _ (B := B) ⟨_, rfl, A1, n1, c1, A2, n2, c2, rfl, ⟨g1, r1⟩, ⟨g2, r2⟩⟩ (Nat.le_trans hB hq.size) hs0 hs1).mono ?_
          rintro e w1 ⟨rfl, q1⟩
          go_wp2_with fail
          go_roundw
          case rel => exact ⟨k + 1, s - (szAgent x : Int), by omega, by go_num, rfl, by omega, by omega, Hn.out, hq.trans (q1.mono hq.size)⟩
          case measure => simp [intOf]; omega
      · have He : Hid (szL left (szAgentS xs) = s) := by
          have e1 : xs.take k = xs := List.take_of_length_le (by have := lx.out; omega)
          have e2 := hs.out
          rw [e1] at e2
          have e3 := lx.out
          show _ = _
          rw [szL_pos (by unfold szAgentS; omega)]
          unfold szAgentS
          omega
        go_wp2_with fail
        go_ret
        exact ⟨by rw [He.out]; rfl, hq⟩
set_option maxHeartbeats 1000000 in
theorem szNet_v (v : Value) (x : DNet) (left : Int) (w : World) {B : Nat} (h : RdT netRd w B v x) (hB : B ≤ w.heap.size) (h0 : 0 ≤ left) (h1 : left ≤ 1048576) :
    Calls Try.prog 15 #[v, .int .i64 left] w fun e w' => e = .returned (.int .i64 (szL left (szNet x))) ∧ Below w.heap.size w w' := by
  obtain ⟨cs, rfl, A1, n1, c1, rfl, ⟨g1, r1⟩⟩ := h
  have hb : ∀ o1, Below w.heap.size w (w.alloc o1) := fun o1 => (Below.refl _ _).alloc (Nat.le_refl _) _
  obtain ⟨s0, es0⟩ : ∃ s : Nat, s = szAgentS x.agents := ⟨_, rfl⟩
  have Hs : Hid (szNet x = s0) := by show _ = _; rw [es0]; rfl
  have Es0 := Lib.hid es0
  clear es0
  by_cases d0 : left - (s0 : Int) < 0
  · have He : Hid (szL left (szNet x) = -1) := by show _ = _; rw [Hs.out, szL_neg (by omega)]
    go_enter Try.func15, Try.ntmps15
    go_wp2_with fail
    refine (szAgentS_v _ x.agents (left) _ (B := B) ⟨A1, n1, c1, rfl, g1.below agentRd_ok ((hb _).mono hB), r1⟩ (Nat.le_trans hB (hb _).size) (by omega) (by omega)).mono ?_
    rw [← Es0.out, szL_neg (by omega)]
    rintro e w1 ⟨rfl, q1⟩
    have T := (hb _).trans (q1.mono (hb _).size)
    have B1 := (Blk.new w _ _).below q1 (by simp)
    have z1 : w.heap.size + 1 ≤ w1.heap.size := by have := q1.size; simpa using this
    clear q1
    go_wp2_with fail
    go_ret
    exact ⟨by rw [He.out]; rfl, T⟩
  · skip
    have He : Hid (szL left (szNet x) = left - s0) := by show _ = _; rw [Hs.out, szL_pos (by omega)]; try omega
    go_enter Try.func15, Try.ntmps15
    go_wp2_with fail
    refine (szAgentS_v _ x.agents (left) _ (B := B) ⟨A1, n1, c1, rfl, g1.below agentRd_ok ((hb _).mono hB), r1⟩ (Nat.le_trans hB (hb _).size) (by omega) (by omega)).mono ?_
    rw [← Es0.out, szL_pos (by omega)]
    rintro e w1 ⟨rfl, q1⟩
    have T := (hb _).trans (q1.mono (hb _).size)
    have B1 := (Blk.new w _ _).below q1 (by simp)
    have z1 : w.heap.size + 1 ≤ w1.heap.size := by have := q1.size; simpa using this
    clear q1
    go_wp2_with fail
    go_ret
    exact ⟨by rw [He.out]; rfl, T⟩
theorem szNetS_take {xs : List DNet} {k : Nat} {x : DNet} (h : xs[k]? = some x) : ((xs.take (k + 1)).map szNet).sum = ((xs.take k).map szNet).sum + szNet x := by
  rw [take_succ_some h]; simp
theorem szNetS_le (xs : List DNet) (k : Nat) : ((xs.take k).map szNet).sum ≤ (xs.map szNet).sum := by
  have h : ((xs.take k ++ xs.drop k).map szNet).sum = (xs.map szNet).sum := by rw [List.take_append_drop]
  rw [List.map_append, List.sum_append] at h
  omega
set_option maxHeartbeats 1000000 in
theorem szNetS_v (v : Value) (xs : List DNet) (left : Int) (w : World) {B : Nat} (h : RdS netRd 1 w B v xs) (hB : B ≤ w.heap.size) (h0 : 0 ≤ left) (h1 : left ≤ 1048576) :
    Calls Try.prog 52 #[v, .int .i64 left] w fun e w' => e = .returned (.int .i64 (szL left (szNetS xs))) ∧ Below w.heap.size w w' := by
  obtain ⟨A, n, c, rfl, hx, hnc, hcm⟩ := h
  have hr := Below.refl w.heap.size w
  unfold maxLen at hcm
  have lx := Lib.hid hx.len
  by_cases hl : left - n < 0
  · have He : Hid (szL left (szNetS xs) = -1) := szL_neg (by unfold szNetS; rw [← lx.out]; omega)
    go_enter Try.func52, Try.ntmps52
    go_wp2
    go_ret
    exact ⟨by rw [He.out]; rfl, hr⟩
  · go_enter Try.func52, Try.ntmps52
    go_wp2
    go_loopw [1, 5] (fun s i wr => ∃ (k : Nat) (l : Int), k ≤ n ∧ i = .int .i64 k ∧ s = .int .i64 l ∧ 0 ≤ l ∧ l ≤ 1048576 ∧ Hid (l = left - n - (((xs.take k).map szNet).sum : Nat)) ∧ Below w.heap.size w wr) (fun _ i _ => n - (intOf i).toNat)
    case atStart => exact ⟨0, left - n, by omega, rfl, rfl, by omega, by omega, by simp [Hid], hr⟩
    case round =>
      obtain ⟨k, s, hk, rfl, rfl, hs0, hs1, hs, hq⟩ := hrel
      by_cases hlt : k < n
      · obtain ⟨b, off, x, A1, n1, c1, rfl, hb, hxk, hc0, ⟨g1, r1⟩⟩ := (hx.below netRd_ok (hq.mono hB)).net hlt
        have Hxk := Lib.hid hxk
        clear hxk
        by_cases hd : s - (szNet x : Int) < 0
        · have f := szL_neg hd
          have He : Hid (szL left (szNetS xs) = -1) := szL_neg (by
            have e1 := szNetS_le xs (k + 1)
            rw [szNetS_take Hxk.out] at e1
            have e2 := hs.out
            have e3 := lx.out
            unfold szNetS
            omega)
          go_wp2_with fail
          refine (szNet_v _ x s _ (B := B) ⟨_, rfl, A1, n1, c1, rfl, ⟨g1, r1⟩⟩ (Nat.le_trans hB hq.size) hs0 hs1).mono ?_
          rintro e w1 ⟨rfl, q1⟩
          go_wp2_with fail
          go_ret
          exact ⟨by rw [He.out]; rfl, hq.trans (q1.mono hq.size)⟩
        · have f := szL_pos hd
          have Hn : Hid (s - (szNet x : Int) = left - n - (((xs.take (k + 1)).map szNet).sum : Nat)) := by
            have e1 := szNetS_take Hxk.out
            have e2 := hs.out
            show _ = _
            rw [e1]
            omega
          go_wp2_with fail
          refine (szNet_v _ x s _ (B := B) ⟨_, rfl, A1, n1, c1, rfl, ⟨g1, r1⟩⟩ (Nat.le_trans hB hq.size) hs0 hs1).mono ?_
          rintro e w1 ⟨rfl, q1⟩
          go_wp2_with fail
          go_roundw
          case rel => exact ⟨k + 1, s - (szNet x : Int), by omega, by go_num, rfl, by omega, by omega, Hn.out, hq.trans (q1.mono hq.size)⟩
          case measure => simp [intOf]; omega
      · have He : Hid (szL left (szNetS xs) = s) := by
          have e1 : xs.take k = xs := List.take_of_length_le (by have := lx.out; omega)
          have e2 := hs.out
          rw [e1] at e2
          have e3 := lx.out
          show _ = _
          rw [szL_pos (by unfold szNetS; omega)]
          unfold szNetS
          omega
        go_wp2_with fail
        go_ret
        exact ⟨by rw [He.out]; rfl, hq⟩
end
section
open Go.RowKit
set_option linter.unusedVariables false
set_option linter.unusedSimpArgs false
theorem toPort_v (v : Value) (x : DPort) (w : World) {B : Nat} (h : RdT portRd w B v x) :
    Calls Try.prog 179 #[v] w fun e w' => e = .returned (.agg #[.int .i64 x.agent, .int .i64 x.slot]) ∧ Below w.heap.size w w' := by
  obtain ⟨cs, rfl, rfl⟩ := h
  go_enter Try.func179, Try.ntmps179
  go_wp2_with fail
  exact bodyPost_ret (v := .agg #[.int .i64 x.agent, .int .i64 x.slot]) (by simp [results, Try.results179, go_sem]) rfl ⟨rfl, (((Below.refl _ _).alloc (Nat.le_refl _) _).alloc (by simp) _).alloc (by simp; omega) _⟩
theorem info_PortS : (Try.prog.info? 53).map (fun i => (i.zero, i.size, i.bytes)) = some (some (.agg #[.int .i64 0, .int .i64 0]), 2, 16) := by kernel_rfl
set_option maxHeartbeats 1000000 in
theorem toPortS_v (v : Value) (xs : List DPort) (w : World) {B : Nat} (h : RdS portRd 2 w B v xs) (hB : B ≤ w.heap.size) (hs : xs.length ≤ 1048576) :
    Calls Try.prog 161 #[v] w fun e w' => Ret1 (fun v' => OwS portOw 2 w' v' xs w.heap.size w'.heap.size) e ∧ Below w.heap.size w w' := by
  obtain ⟨A, n, c, rfl, hx, hnc, hcm⟩ := h
  have lx := Lib.hid hx.len
  have hlen := hs
  have hn : n ≤ 1048576 := by have := lx.out; omega
  have hmk := run_make_sz 87 53 Try.underlying87 info_PortS n (by omega) (by omega)
  go_enter Try.func161, Try.ntmps161
  go_wp2
  clear hmk
  go_loopw [4] (fun i wr => ∃ k : Nat, k ≤ n ∧ i = .int .i64 k ∧ Below w.heap.size w wr ∧ w.heap.size + 1 ≤ wr.heap.size ∧ (∃ arr, Blk wr w.heap.size 53 arr ∧ Hid (arr.size = n * 2)) ∧ ∃ bs, ElAt portOw 2 wr w.heap.size 0 (xs.take k) bs ∧ bs.Nodup ∧ ∀ b ∈ bs, w.heap.size + 1 ≤ b ∧ b < wr.heap.size) (fun i _ => n - (intOf i).toNat)
  case atStart => exact ⟨0, by omega, rfl, (Below.refl _ _).alloc (Nat.le_refl _) _, by simp, ⟨_, Blk.new _ _ _, by simp [Hid, madeCells_size]⟩, [], rfl, List.nodup_nil, fun b hb => by simp at hb⟩
  case round =>
    obtain ⟨k, hk, rfl, hb, hzz, ⟨arr, BA, hasz⟩, bs, hel, hnd, hin⟩ := hrel
    by_cases hlt : k < n
    · obtain ⟨b, off, x, rfl, hlb, hxk, hc0, hc1⟩ := (hx.below portRd_ok (hb.mono hB)).port hlt
      have Hxk := Lib.hid hxk
      clear hxk
      go_wp2_with fail
      refine (toPort_v _ x _ (B := 0) ⟨_, rfl, rfl⟩).mono ?_
      rintro e w1 ⟨rfl, q1⟩
      obtain ⟨bl, HO, nd1, in1⟩ : ∃ bl, portOw w1 [.int .i64 x.agent, .int .i64 x.slot] x bl ∧ bl.Nodup ∧ ∀ b ∈ bl, wr.heap.size ≤ b ∧ b < w1.heap.size := ⟨[], ⟨rfl, rfl⟩, List.nodup_nil, fun b hb => by simp at hb⟩
      have BA := BA.below q1 (by omega)
      obtain ⟨z0, hz0⟩ := BA.some_ (i := k * 2) (by rw [hasz.out]; omega)
      obtain ⟨z1, hz1⟩ := BA.some_ (i := k * 2 + 1) (by rw [hasz.out]; omega)
      have fz := BA.frozen
      have zz := q1.size
      have Hel := Lib.hid (hel.keep portOw_ok (q1.block _ (by omega)) (fun k hk => q1.block k (hin k hk).2))
      clear hel
      have TB : ∀ y0 y1, Below w.heap.size w ((w1.setCell ⟨w.heap.size, k * 2, none⟩ y0).setCell ⟨w.heap.size, k * 2 + 1, none⟩ y1) := fun y0 y1 => (((hb.trans (q1.mono hb.size)).setCell (p := ⟨w.heap.size, k * 2, none⟩) (Nat.le_refl _) _).setCell (p := ⟨w.heap.size, k * 2 + 1, none⟩) (Nat.le_refl _) _)
      go_wp2_with fail
      go_roundw
      case rel =>
        refine ⟨k + 1, by omega, by go_num, TB _ _, by simp [World.setCell]; omega, ⟨_, ((BA.set_ (k * 2) _).set_ (k * 2 + 1) _), by simpa [Hid] using hasz⟩, bs ++ bl, ?_⟩
        rw [take_succ_some Hxk.out]
        have hlk : (xs.take k).length = k := by have := lx.out; simp; omega
        have h1 := ElAt.setRun portOw_ok (vs := [.int .i64 x.agent, .int .i64 x.slot]) (p := k * 2) Hel.out (fun hh => by have := hin _ hh; omega) (Or.inr (by rw [hlk]; omega))
        have hnn := nodup_two hnd nd1 hin in1 hzz zz
        refine ⟨ElAt.append h1 (ElAt.one (portOw_ok.keep (w' := setRun w1 w.heap.size (k * 2) [.int .i64 x.agent, .int .i64 x.slot]) (fun b hb => setRun_block (fun e => by have := in1 b hb; omega)) HO) ?_), hnn.1, fun b hb => by have := hnn.2 b hb; simp only [World.size_setCell]; exact this⟩
        rw [hlk, Nat.zero_add]
        exact setRun_csAt (vs := [.int .i64 x.agent, .int .i64 x.slot]) (fun j hj => by
          have hj : j < 2 := by simpa using hj
          match j, hj with
          | 0, _ => exact ⟨z0, hz0⟩
          | 1, _ => exact ⟨z1, hz1⟩) (fun j hj => fz _)
      case measure => simp [intOf]; omega
    · have hkn : k = n := by omega
      have e : xs.take k = xs := List.take_of_length_le (by have := lx.out; omega)
      rw [e] at hel
      have Hkn := Lib.hid hkn
      clear hkn e
      go_wp2
      go_ret
      exact ⟨⟨_, rfl, some ⟨w.heap.size, 0, none⟩, n, n, w.heap.size :: bs, rfl, ⟨lx.out, .inr ⟨_, _, bs, rfl, rfl, hel⟩⟩, List.nodup_cons.2 ⟨fun hh => by have := hin _ hh; omega, hnd⟩, fun b hb => by
        rcases List.mem_cons.1 hb with rfl | hb
        · omega
        · have := hin b hb; omega, Nat.le_refl _, by unfold maxLen; omega⟩, hb⟩
end
section
open Go.RowKit
set_option linter.unusedVariables false
set_option linter.unusedSimpArgs false
set_option maxHeartbeats 1000000 in
theorem toAgent_v (v : Value) (x : DAgent) (w : World) {B : Nat} (h : RdT agentRd w B v x) (hB : B ≤ w.heap.size) (hs : szAgent x ≤ 1048576) :
    Calls Try.prog 110 #[v] w fun e w' => Ret1 (fun v' => OwT agentOw w' v' x w.heap.size w'.heap.size) e ∧ Below w.heap.size w w' := by
  obtain ⟨cs, rfl, A1, n1, c1, A2, n2, c2, rfl, ⟨h1, r1⟩, ⟨h2, r2⟩⟩ := h
  unfold szAgent at hs
  have hb : ∀ o1 o2 o3, Below w.heap.size w (((w.alloc o1).alloc o2).alloc o3) := fun o1 o2 o3 => (((Below.refl _ _).alloc (Nat.le_refl _) _).alloc (by simp) _).alloc (by simp; omega) _
  go_enter Try.func110, Try.ntmps110
  go_wp2_with fail
  refine (toInt64S_v _ x.data _ (B := B) ⟨A1, n1, c1, rfl, h1.below intRd_ok ((hb _ _ _).mono hB), r1⟩ (Nat.le_trans hB (hb _ _ _).size) (by first | omega | (unfold lenOk; omega))).mono ?_
  rintro e w1 ⟨⟨v1, rfl, O1⟩, q1⟩
  have z1 : w.heap.size + 1 + 1 + 1 ≤ w1.heap.size := by have := q1.size; simpa using this
  have O1 := O1.wide (lo' := w.heap.size + 1 + 1 + 1) (hi' := w1.heap.size) (by simp) (Nat.le_refl _)
  obtain ⟨A1', m1, d1, bs1, rfl, ow1, nd1, in1, rr1⟩ := O1
  have T1 := (hb _ _ _).trans (q1.mono (hb _ _ _).size)
  have BB := blk3_0.below q1 (by simp <;> omega)
  have BR := blk3_1.below q1 (by simp <;> omega)
  have BO := blk3_2.below q1 (by simp <;> omega)
  clear q1
  have cB := BB.cell
  have cO := BO.cell
  have fO := BO.frozen
  go_wp2_with fail
  clear cB cO fO
  have T1 := T1.setCell (p := ⟨w.heap.size + 1 + 1, 3, none⟩) (by simp; omega) (.slice A1' m1 d1)
  have BB := BB.far (p := ⟨w.heap.size + 1 + 1, 3, none⟩) (by simp; omega) (.slice A1' m1 d1)
  have BR := BR.far (p := ⟨w.heap.size + 1 + 1, 3, none⟩) (by simp) (.slice A1' m1 d1)
  have BO := BO.set_ 3 (.slice A1' m1 d1)
  have ow1 := ow1.keep intOw_ok (w' := World.setCell w1 ⟨w.heap.size + 1 + 1, 3, none⟩ (.slice A1' m1 d1)) (fun k hk => Below.heap_setCell _ _ _ _ (by have := in1 k hk; simp; omega))
  refine (toPortS_v _ x.ports _ (B := B) ⟨A2, n2, c2, rfl, h2.below portRd_ok (T1.mono hB), r2⟩ (Nat.le_trans hB T1.size) (by first | omega | (unfold lenOk; omega))).mono ?_
  rintro e w2 ⟨⟨v2, rfl, O2⟩, q2⟩
  have z2 : w1.heap.size ≤ w2.heap.size := by have := q2.size; simpa using this
  have O2 := O2.wide (lo' := w1.heap.size) (hi' := w2.heap.size) (by simp) (Nat.le_refl _)
  obtain ⟨A2', m2, d2, bs2, rfl, ow2, nd2, in2, rr2⟩ := O2
  have T1 := T1.trans (q2.mono T1.size)
  have BB := BB.below q2 (by simp <;> omega)
  have BR := BR.below q2 (by simp <;> omega)
  have BO := BO.below q2 (by simp <;> omega)
  have ow1 := ow1.keep intOw_ok (w' := w2) (fun k hk => q2.block k (by have := in1 k hk; simp <;> omega))
  clear q2
  have cB := BB.cell
  have cO := BO.cell
  have fO := BO.frozen
  have cR := BR.cell
  have fR := BR.frozen
  go_wp2_with fail
  have hfin : ∀ w', OnlyIn (w.heap.size + 1) (w.heap.size + 1 + 1 + 1) w2 w' → (Ret1 (fun v' => OwT agentOw w' v' x w.heap.size w'.heap.size) (.returned (.agg #[.int .i64 x.kind, .int .i64 x.level, .int .i64 x.value, (.slice A1' m1 d1), (.slice A2' m2 d2)])) ∧ Below w.heap.size w w') := fun w' ho => by
    refine ⟨⟨_, rfl, [.int .i64 x.kind, .int .i64 x.level, .int .i64 x.value, (.slice A1' m1 d1), (.slice A2' m2 d2)], bs1 ++ bs2, rfl, ⟨A1', m1, d1, A2', m2, d2, bs1, bs2, rfl, ⟨ow1.keep intOw_ok (fun k hk => ho.block k (.inr (by have := in1 k hk; omega))), rr1⟩, ⟨ow2.keep portOw_ok (fun k hk => ho.block k (.inr (by have := in2 k hk; omega))), rr2⟩, rfl⟩, ?_⟩, T1.trans (ho.below.mono (by omega))⟩
    have h1 : bs1.Nodup ∧ ∀ b ∈ bs1, w.heap.size ≤ b ∧ b < w1.heap.size := ⟨nd1, fun b hb => by have := in1 b hb; omega⟩
    have h2 := nodup_two (lo := w.heap.size) (mid := w1.heap.size) (hi := w2.heap.size) h1.1 nd2 (fun b hb => by have := h1.2 b hb; omega) in2 (by omega) (by omega)
    exact ⟨h2.1, fun b hb => by have := h2.2 b hb; have := ho.size; omega⟩
  refine bodyPost_ret (v := .agg #[.int .i64 x.kind, .int .i64 x.level, .int .i64 x.value, (.slice A1' m1 d1), (.slice A2' m2 d2)]) (by simp [results, Try.results110, go_sem, cR]) rfl (hfin _ ?_)
  repeat (first | (with_reducible exact OnlyIn.refl _ _ _) | (with_reducible refine OnlyIn.setCell ?_ ⟨by simp, by simp⟩ _))
theorem szAgentS_el {xs : List DAgent} {k : Nat} {x : DAgent} (h : xs[k]? = some x) : szAgent x ≤ szAgentS xs := by
  have h1 := szAgentS_take h
  have h2 := szAgentS_le xs (k + 1)
  unfold szAgentS
  omega
theorem info_AgentS : (Try.prog.info? 89).map (fun i => (i.zero, i.size, i.bytes)) = some (some (.agg #[.int .i64 0, .int .i64 0, .int .i64 0, .slice none 0 0, .slice none 0 0]), 5, 72) := by kernel_rfl
set_option maxHeartbeats 1000000 in
theorem toAgentS_v (v : Value) (xs : List DAgent) (w : World) {B : Nat} (h : RdS agentRd 5 w B v xs) (hB : B ≤ w.heap.size) (hs : szAgentS xs ≤ 1048576) :
    Calls Try.prog 62 #[v] w fun e w' => Ret1 (fun v' => OwS agentOw 5 w' v' xs w.heap.size w'.heap.size) e ∧ Below w.heap.size w w' := by
  obtain ⟨A, n, c, rfl, hx, hnc, hcm⟩ := h
  have lx := Lib.hid hx.len
  have hlen : xs.length ≤ 1048576 := by unfold szAgentS at hs; omega
  have hn : n ≤ 1048576 := by have := lx.out; omega
  have hmk := run_make_sz 28 89 Try.underlying28 info_AgentS n (by omega) (by omega)
  go_enter Try.func62, Try.ntmps62
  go_wp2
  clear hmk
  go_loopw [4] (fun i wr => ∃ k : Nat, k ≤ n ∧ i = .int .i64 k ∧ Below w.heap.size w wr ∧ w.heap.size + 1 ≤ wr.heap.size ∧ (∃ arr, Blk wr w.heap.size 89 arr ∧ Hid (arr.size = n * 5)) ∧ ∃ bs, ElAt agentOw 5 wr w.heap.size 0 (xs.take k) bs ∧ bs.Nodup ∧ ∀ b ∈ bs, w.heap.size + 1 ≤ b ∧ b < wr.heap.size) (fun i _ => n - (intOf i).toNat)
  case atStart => exact ⟨0, by omega, rfl, (Below.refl _ _).alloc (Nat.le_refl _) _, by simp, ⟨_, Blk.new _ _ _, by simp [Hid, madeCells_size]⟩, [], rfl, List.nodup_nil, fun b hb => by simp at hb⟩
  case round =>
    obtain ⟨k, hk, rfl, hb, hzz, ⟨arr, BA, hasz⟩, bs, hel, hnd, hin⟩ := hrel
    by_cases hlt : k < n
    · obtain ⟨b, off, x, A1, n1, c1, A2, n2, c2, rfl, hlb, hxk, hc0, hc1, hc2, hc3, hc4, ⟨h1, r1⟩, ⟨h2, r2⟩⟩ := (hx.below agentRd_ok (hb.mono hB)).agent hlt
      have Hxk := Lib.hid hxk
      clear hxk
      go_wp2_with fail
      refine (toAgent_v _ x _ (B := B) ⟨_, rfl, A1, n1, c1, A2, n2, c2, rfl, ⟨h1, r1⟩, ⟨h2, r2⟩⟩ (Nat.le_trans hB hb.size) (by have := szAgentS_el Hxk.out; omega)).mono ?_
      rintro e w1 ⟨⟨v1, rfl, O1⟩, q1⟩
      obtain ⟨cs1, bl, rfl, HO, nd1, in1⟩ := O1
      have HO' := HO
      obtain ⟨A1', m1, d1, A2', m2, d2, b1, b2, rfl, _⟩ := HO'
      have BA := BA.below q1 (by omega)
      obtain ⟨z0, hz0⟩ := BA.some_ (i := k * 5) (by rw [hasz.out]; omega)
      obtain ⟨z1, hz1⟩ := BA.some_ (i := k * 5 + 1) (by rw [hasz.out]; omega)
      obtain ⟨z2, hz2⟩ := BA.some_ (i := k * 5 + 2) (by rw [hasz.out]; omega)
      obtain ⟨z3, hz3⟩ := BA.some_ (i := k * 5 + 3) (by rw [hasz.out]; omega)
      obtain ⟨z4, hz4⟩ := BA.some_ (i := k * 5 + 4) (by rw [hasz.out]; omega)
      have fz := BA.frozen
      have zz := q1.size
      have Hel := Lib.hid (hel.keep agentOw_ok (q1.block _ (by omega)) (fun k hk => q1.block k (hin k hk).2))
      clear hel
      have TB : ∀ y0 y1 y2 y3 y4, Below w.heap.size w (((((w1.setCell ⟨w.heap.size, k * 5, none⟩ y0).setCell ⟨w.heap.size, k * 5 + 1, none⟩ y1).setCell ⟨w.heap.size, k * 5 + 2, none⟩ y2).setCell ⟨w.heap.size, k * 5 + 3, none⟩ y3).setCell ⟨w.heap.size, k * 5 + 4, none⟩ y4) := fun y0 y1 y2 y3 y4 => ((((((hb.trans (q1.mono hb.size)).setCell (p := ⟨w.heap.size, k * 5, none⟩) (Nat.le_refl _) _).setCell (p := ⟨w.heap.size, k * 5 + 1, none⟩) (Nat.le_refl _) _).setCell (p := ⟨w.heap.size, k * 5 + 2, none⟩) (Nat.le_refl _) _).setCell (p := ⟨w.heap.size, k * 5 + 3, none⟩) (Nat.le_refl _) _).setCell (p := ⟨w.heap.size, k * 5 + 4, none⟩) (Nat.le_refl _) _)
      go_wp2_with fail
      go_roundw
      case rel =>
        refine ⟨k + 1, by omega, by go_num, TB _ _ _ _ _, by simp [World.setCell]; omega, ⟨_, (((((BA.set_ (k * 5) _).set_ (k * 5 + 1) _).set_ (k * 5 + 2) _).set_ (k * 5 + 3) _).set_ (k * 5 + 4) _), by simpa [Hid] using hasz⟩, bs ++ bl, ?_⟩
        rw [take_succ_some Hxk.out]
        have hlk : (xs.take k).length = k := by have := lx.out; simp; omega
        have h1 := ElAt.setRun agentOw_ok (vs := [.int .i64 x.kind, .int .i64 x.level, .int .i64 x.value, .slice A1' m1 d1, .slice A2' m2 d2]) (p := k * 5) Hel.out (fun hh => by have := hin _ hh; omega) (Or.inr (by rw [hlk]; omega))
        have hnn := nodup_two hnd nd1 hin in1 hzz zz
        refine ⟨ElAt.append h1 (ElAt.one (agentOw_ok.keep (w' := setRun w1 w.heap.size (k * 5) [.int .i64 x.kind, .int .i64 x.level, .int .i64 x.value, .slice A1' m1 d1, .slice A2' m2 d2]) (fun b hb => setRun_block (fun e => by have := in1 b hb; omega)) HO) ?_), hnn.1, fun b hb => by have := hnn.2 b hb; simp only [World.size_setCell]; exact this⟩
        rw [hlk, Nat.zero_add]
        exact setRun_csAt (vs := [.int .i64 x.kind, .int .i64 x.level, .int .i64 x.value, .slice A1' m1 d1, .slice A2' m2 d2]) (fun j hj => by
          have hj : j < 5 := by simpa using hj
          match j, hj with
          | 0, _ => exact ⟨z0, hz0⟩
          | 1, _ => exact ⟨z1, hz1⟩
          | 2, _ => exact ⟨z2, hz2⟩
          | 3, _ => exact ⟨z3, hz3⟩
          | 4, _ => exact ⟨z4, hz4⟩) (fun j hj => fz _)
      case measure => simp [intOf]; omega
    · have hkn : k = n := by omega
      have e : xs.take k = xs := List.take_of_length_le (by have := lx.out; omega)
      rw [e] at hel
      have Hkn := Lib.hid hkn
      clear hkn e
      go_wp2
      go_ret
      exact ⟨⟨_, rfl, some ⟨w.heap.size, 0, none⟩, n, n, w.heap.size :: bs, rfl, ⟨lx.out, .inr ⟨_, _, bs, rfl, rfl, hel⟩⟩, List.nodup_cons.2 ⟨fun hh => by have := hin _ hh; omega, hnd⟩, fun b hb => by
        rcases List.mem_cons.1 hb with rfl | hb
        · omega
        · have := hin b hb; omega, Nat.le_refl _, by unfold maxLen; omega⟩, hb⟩
set_option maxHeartbeats 1000000 in
theorem toNet_v (v : Value) (x : DNet) (w : World) {B : Nat} (h : RdT netRd w B v x) (hB : B ≤ w.heap.size) (hs : szNet x ≤ 1048576) :
    Calls Try.prog 17 #[v] w fun e w' => Ret1 (fun v' => OwT netOw w' v' x w.heap.size w'.heap.size) e ∧ Below w.heap.size w w' := by
  obtain ⟨cs, rfl, A1, n1, c1, rfl, ⟨h1, r1⟩⟩ := h
  unfold szNet at hs
  have hb : ∀ o1 o2 o3, Below w.heap.size w (((w.alloc o1).alloc o2).alloc o3) := fun o1 o2 o3 => (((Below.refl _ _).alloc (Nat.le_refl _) _).alloc (by simp) _).alloc (by simp; omega) _
  go_enter Try.func17, Try.ntmps17
  go_wp2_with fail
  refine (toAgentS_v _ x.agents _ (B := B) ⟨A1, n1, c1, rfl, h1.below agentRd_ok ((hb _ _ _).mono hB), r1⟩ (Nat.le_trans hB (hb _ _ _).size) (by first | omega | (unfold lenOk; omega))).mono ?_
  rintro e w1 ⟨⟨v1, rfl, O1⟩, q1⟩
  have z1 : w.heap.size + 1 + 1 + 1 ≤ w1.heap.size := by have := q1.size; simpa using this
  have O1 := O1.wide (lo' := w.heap.size + 1 + 1 + 1) (hi' := w1.heap.size) (by simp) (Nat.le_refl _)
  obtain ⟨A1', m1, d1, bs1, rfl, ow1, nd1, in1, rr1⟩ := O1
  have T1 := (hb _ _ _).trans (q1.mono (hb _ _ _).size)
  have BB := blk3_0.below q1 (by simp <;> omega)
  have BR := blk3_1.below q1 (by simp <;> omega)
  have BO := blk3_2.below q1 (by simp <;> omega)
  clear q1
  have cB := BB.cell
  have cO := BO.cell
  have fO := BO.frozen
  have cR := BR.cell
  have fR := BR.frozen
  go_wp2_with fail
  have hfin : ∀ w', OnlyIn (w.heap.size + 1) (w.heap.size + 1 + 1 + 1) w1 w' → (Ret1 (fun v' => OwT netOw w' v' x w.heap.size w'.heap.size) (.returned (.agg #[(.slice A1' m1 d1)])) ∧ Below w.heap.size w w') := fun w' ho => by
    refine ⟨⟨_, rfl, [(.slice A1' m1 d1)], bs1, rfl, ⟨A1', m1, d1, bs1, rfl, ⟨ow1.keep agentOw_ok (fun k hk => ho.block k (.inr (by have := in1 k hk; omega))), rr1⟩, rfl⟩, ?_⟩, T1.trans (ho.below.mono (by omega))⟩
    have h1 : bs1.Nodup ∧ ∀ b ∈ bs1, w.heap.size ≤ b ∧ b < w1.heap.size := ⟨nd1, fun b hb => by have := in1 b hb; omega⟩
    exact ⟨h1.1, fun b hb => by have := h1.2 b hb; have := ho.size; omega⟩
  refine bodyPost_ret (v := .agg #[(.slice A1' m1 d1)]) (by simp [results, Try.results17, go_sem, cR]) rfl (hfin _ ?_)
  repeat (first | (with_reducible exact OnlyIn.refl _ _ _) | (with_reducible refine OnlyIn.setCell ?_ ⟨by simp, by simp⟩ _))
theorem szNetS_el {xs : List DNet} {k : Nat} {x : DNet} (h : xs[k]? = some x) : szNet x ≤ szNetS xs := by
  have h1 := szNetS_take h
  have h2 := szNetS_le xs (k + 1)
  unfold szNetS
  omega
theorem info_NetS : (Try.prog.info? 30).map (fun i => (i.zero, i.size, i.bytes)) = some (some (.agg #[.slice none 0 0]), 1, 24) := by kernel_rfl
set_option maxHeartbeats 1000000 in
theorem toNetS_v (v : Value) (xs : List DNet) (w : World) {B : Nat} (h : RdS netRd 1 w B v xs) (hB : B ≤ w.heap.size) (hs : szNetS xs ≤ 1048576) :
    Calls Try.prog 54 #[v] w fun e w' => Ret1 (fun v' => OwS netOw 1 w' v' xs w.heap.size w'.heap.size) e ∧ Below w.heap.size w w' := by
  obtain ⟨A, n, c, rfl, hx, hnc, hcm⟩ := h
  have lx := Lib.hid hx.len
  have hlen : xs.length ≤ 1048576 := by unfold szNetS at hs; omega
  have hn : n ≤ 1048576 := by have := lx.out; omega
  have hmk := run_make_sz 73 30 Try.underlying73 info_NetS n (by omega) (by omega)
  go_enter Try.func54, Try.ntmps54
  go_wp2
  clear hmk
  go_loopw [4] (fun i wr => ∃ k : Nat, k ≤ n ∧ i = .int .i64 k ∧ Below w.heap.size w wr ∧ w.heap.size + 1 ≤ wr.heap.size ∧ (∃ arr, Blk wr w.heap.size 30 arr ∧ Hid (arr.size = n * 1)) ∧ ∃ bs, ElAt netOw 1 wr w.heap.size 0 (xs.take k) bs ∧ bs.Nodup ∧ ∀ b ∈ bs, w.heap.size + 1 ≤ b ∧ b < wr.heap.size) (fun i _ => n - (intOf i).toNat)
  case atStart => exact ⟨0, by omega, rfl, (Below.refl _ _).alloc (Nat.le_refl _) _, by simp, ⟨_, Blk.new _ _ _, by simp [Hid, madeCells_size]⟩, [], rfl, List.nodup_nil, fun b hb => by simp at hb⟩
  case round =>
    obtain ⟨k, hk, rfl, hb, hzz, ⟨arr, BA, hasz⟩, bs, hel, hnd, hin⟩ := hrel
    by_cases hlt : k < n
    · obtain ⟨b, off, x, A1, n1, c1, rfl, hlb, hxk, hc0, ⟨h1, r1⟩⟩ := (hx.below netRd_ok (hb.mono hB)).net hlt
      have Hxk := Lib.hid hxk
      clear hxk
      go_wp2_with fail
      refine (toNet_v _ x _ (B := B) ⟨_, rfl, A1, n1, c1, rfl, ⟨h1, r1⟩⟩ (Nat.le_trans hB hb.size) (by have := szNetS_el Hxk.out; omega)).mono ?_
      rintro e w1 ⟨⟨v1, rfl, O1⟩, q1⟩
      obtain ⟨cs1, bl, rfl, HO, nd1, in1⟩ := O1
      have HO' := HO
      obtain ⟨A1', m1, d1, b1, rfl, _⟩ := HO'
      have BA := BA.below q1 (by omega)
      obtain ⟨z0, hz0⟩ := BA.some_ (i := k) (by rw [hasz.out]; omega)
      have fz := BA.frozen
      have zz := q1.size
      have Hel := Lib.hid (hel.keep netOw_ok (q1.block _ (by omega)) (fun k hk => q1.block k (hin k hk).2))
      clear hel
      have TB : ∀ y0, Below w.heap.size w (w1.setCell ⟨w.heap.size, k, none⟩ y0) := fun y0 => ((hb.trans (q1.mono hb.size)).setCell (p := ⟨w.heap.size, k, none⟩) (Nat.le_refl _) _)
      go_wp2_with fail
      go_roundw
      case rel =>
        refine ⟨k + 1, by omega, by go_num, TB _, by simp [World.setCell]; omega, ⟨_, (BA.set_ k _), by simpa [Hid] using hasz⟩, bs ++ bl, ?_⟩
        rw [take_succ_some Hxk.out]
        have hlk : (xs.take k).length = k := by have := lx.out; simp; omega
        have h1 := ElAt.setRun netOw_ok (vs := [.slice A1' m1 d1]) (p := k) Hel.out (fun hh => by have := hin _ hh; omega) (Or.inr (by rw [hlk]; omega))
        have hnn := nodup_two hnd nd1 hin in1 hzz zz
        refine ⟨ElAt.append h1 (ElAt.one (netOw_ok.keep (w' := setRun w1 w.heap.size k [.slice A1' m1 d1]) (fun b hb => setRun_block (fun e => by have := in1 b hb; omega)) HO) ?_), hnn.1, fun b hb => by have := hnn.2 b hb; simp only [World.size_setCell]; exact this⟩
        rw [hlk, Nat.zero_add, Nat.mul_one]
        exact setRun_csAt (vs := [.slice A1' m1 d1]) (fun j hj => by
          have hj : j < 1 := by simpa using hj
          match j, hj with
          | 0, _ => exact ⟨z0, hz0⟩) (fun j hj => fz _)
      case measure => simp [intOf]; omega
    · have hkn : k = n := by omega
      have e : xs.take k = xs := List.take_of_length_le (by have := lx.out; omega)
      rw [e] at hel
      have Hkn := Lib.hid hkn
      clear hkn e
      go_wp2
      go_ret
      exact ⟨⟨_, rfl, some ⟨w.heap.size, 0, none⟩, n, n, w.heap.size :: bs, rfl, ⟨lx.out, .inr ⟨_, _, bs, rfl, rfl, hel⟩⟩, List.nodup_cons.2 ⟨fun hh => by have := hin _ hh; omega, hnd⟩, fun b hb => by
        rcases List.mem_cons.1 hb with rfl | hb
        · omega
        · have := hin b hb; omega, Nat.le_refl _, by unfold maxLen; omega⟩, hb⟩
end
section
open Go.RowKit
set_option linter.unusedVariables false
set_option linter.unusedSimpArgs false
set_option maxHeartbeats 1000000 in
theorem eqPort_v (v u : Value) (x y : DPort) (w : World) {B B' : Nat} (h : RdT portRd w B v x) (h' : RdT portRd w B' u y) (hB : B ≤ w.heap.size) (hB' : B' ≤ w.heap.size) :
    Calls Try.prog 93 #[v, u] w fun e w' => e = .returned (.bool (decide (x = y))) ∧ Below w.heap.size w w' := by
  obtain ⟨cs, rfl, rfl⟩ := h
  obtain ⟨cs, rfl, rfl⟩ := h'
  have hb : ∀ o1 o2, Below w.heap.size w ((w.alloc o1).alloc o2) := fun o1 o2 => ((Below.refl _ _).alloc (Nat.le_refl _) _).alloc (by simp) _
  by_cases e0 : x.agent = y.agent
  · have f0 : (x.agent != y.agent) = false := by simp [e0]
    by_cases e1 : x.slot = y.slot
    · have f1 : (x.slot != y.slot) = false := by simp [e1]
      have He : Hid (decide (x = y) = true) := decide_eq_true (by cases x; cases y; simp_all)
      clear e0 e1
      go_enter Try.func93, Try.ntmps93
      go_wp2_with fail
      go_ret
      exact ⟨by rw [He.out]; rfl, hb _ _⟩
    · have f1 : (x.slot != y.slot) = true := by simp [e1]
      have He : Hid (decide (x = y) = false) := decide_eq_false (by intro exy; exact e1 (by rw [exy]))
      clear e0 e1
      go_enter Try.func93, Try.ntmps93
      go_wp2_with fail
      go_ret
      exact ⟨by rw [He.out]; rfl, hb _ _⟩
  · have f0 : (x.agent != y.agent) = true := by simp [e0]
    have He : Hid (decide (x = y) = false) := decide_eq_false (by intro exy; exact e0 (by rw [exy]))
    clear e0
    go_enter Try.func93, Try.ntmps93
    go_wp2_with fail
    go_ret
    exact ⟨by rw [He.out]; rfl, hb _ _⟩
set_option maxHeartbeats 1000000 in
theorem eqPortS_v (v u : Value) (xs ys : List DPort) (w : World) {B B' : Nat} (h : RdS portRd 2 w B v xs) (h' : RdS portRd 2 w B' u ys) (hB : B ≤ w.heap.size) (hB' : B' ≤ w.heap.size) :
    Calls Try.prog 164 #[v, u] w fun e w' => e = .returned (.bool (eqL xs ys)) ∧ Below w.heap.size w w' := by
  obtain ⟨A, n, c, rfl, hx, hnc, hcm⟩ := h
  obtain ⟨C, m, d, rfl, hy, hmd, hdm⟩ := h'
  unfold maxLen at hcm hdm
  have lx := Lib.hid hx.len
  have ly := Lib.hid hy.len
  have hr := Below.refl w.heap.size w
  by_cases hnm : n = m
  · subst hnm
    go_enter Try.func164, Try.ntmps164
    go_wp2
    go_loopw [5] (fun i wr => ∃ k : Nat, k ≤ n ∧ i = .int .i64 k ∧ Hid (xs.take k = ys.take k) ∧ Below w.heap.size w wr) (fun i _ => n - (intOf i).toNat)
    case atStart => exact ⟨0, by omega, rfl, rfl, hr⟩
    case round =>
      obtain ⟨k, hk, rfl, ht, hq⟩ := hrel
      by_cases hlt : k < n
      · have hx' := hx.below portRd_ok (hq.mono hB)
        have hy' := hy.below portRd_ok (hq.mono hB')
        obtain ⟨b, off, x, rfl, hb, hxk, hc0, hc1⟩ := hx'.port hlt
        obtain ⟨b', off', y, rfl, hb', hyk, hc0', hc1'⟩ := hy'.port hlt
        have Hxk := Lib.hid hxk
        have Hyk := Lib.hid hyk
        clear hxk hyk hx' hy'
        have hzB : B ≤ wr.drew.heap.size := Nat.le_trans hB hq.size
        have hzB' : B' ≤ wr.drew.heap.size := Nat.le_trans hB' hq.size
        by_cases hxy : x = y
        · have hf : decide (x = y) = true := decide_eq_true hxy
          have Hxy := Lib.hid hxy
          clear hxy
          go_wp2_with fail
          go_region_with (go_at_call 93; refine (eqPort_v _ _ x y _ (B := 0) (B' := 0) ⟨_, rfl, rfl⟩ ⟨_, rfl, rfl⟩ (Nat.zero_le _) (Nat.zero_le _)).mono ?_; rintro e w1 ⟨rfl, hq1⟩)
          all_goals
            go_wp2_with fail
            go_roundw
            case rel => exact ⟨k + 1, by omega, by go_num, eqL_step Hxk.out Hyk.out ht.out Hxy.out, hq.drew.trans (hq1.mono hq.size)⟩
            case measure => simp [intOf]; omega
        · have hf : decide (x = y) = false := decide_eq_false hxy
          have Hno := Lib.hid (eqL_no Hxk.out Hyk.out hxy)
          clear hxy
          go_wp2_with fail
          go_region_with (go_at_call 93; refine (eqPort_v _ _ x y _ (B := 0) (B' := 0) ⟨_, rfl, rfl⟩ ⟨_, rfl, rfl⟩ (Nat.zero_le _) (Nat.zero_le _)).mono ?_; rintro e w1 ⟨rfl, hq1⟩)
          all_goals
            go_wp2_with fail
            go_ret
            exact ⟨by rw [Hno.out]; rfl, hq.drew.trans (hq1.mono hq.size)⟩
      · have Hyes := Lib.hid (eqL_yes (k := k) ht.out (by have := lx.out; omega) (by have := ly.out; omega))
        go_wp2
        go_ret
        exact ⟨by rw [Hyes.out]; rfl, hq⟩
  · have Hno := Lib.hid (eqL_len (xs := xs) (ys := ys) (by have := lx.out; have := ly.out; omega))
    have hf : ((n : Int) != (m : Int)) = true := by simp; omega
    go_enter Try.func164, Try.ntmps164
    go_wp2
    go_ret
    exact ⟨by rw [Hno.out]; rfl, hr⟩
end
section
open Go.RowKit
set_option linter.unusedVariables false
set_option linter.unusedSimpArgs false
set_option maxHeartbeats 1000000 in
theorem eqAgent_v (v u : Value) (x y : DAgent) (w : World) {B B' : Nat} (h : RdT agentRd w B v x) (h' : RdT agentRd w B' u y) (hB : B ≤ w.heap.size) (hB' : B' ≤ w.heap.size) :
    Calls Try.prog 112 #[v, u] w fun e w' => e = .returned (.bool (decide (x = y))) ∧ Below w.heap.size w w' := by
  obtain ⟨cs, rfl, A1, n1, c1, A2, n2, c2, rfl, ⟨h1, r1⟩, ⟨h2, r2⟩⟩ := h
  obtain ⟨cs, rfl, A1', n1', c1', A2', n2', c2', rfl, ⟨h1', r1'⟩, ⟨h2', r2'⟩⟩ := h'
  have hb : ∀ o1 o2, Below w.heap.size w ((w.alloc o1).alloc o2) := fun o1 o2 => ((Below.refl _ _).alloc (Nat.le_refl _) _).alloc (by simp) _
  by_cases e0 : x.kind = y.kind
  · have f0 : (x.kind != y.kind) = false := by simp [e0]
    by_cases e1 : x.level = y.level
    · have f1 : (x.level != y.level) = false := by simp [e1]
      by_cases e2 : x.value = y.value
      · have f2 : (x.value != y.value) = false := by simp [e2]
        by_cases e3 : x.data = y.data
        · have f3 : eqL x.data y.data = true := decide_eq_true e3
          by_cases e4 : x.ports = y.ports
          · have f4 : eqL x.ports y.ports = true := decide_eq_true e4
            have He : Hid (decide (x = y) = true) := decide_eq_true (by cases x; cases y; simp_all)
            clear e0 e1 e2 e3 e4
            go_enter Try.func112, Try.ntmps112
            go_wp2_with fail
            refine (eqInt64S_v _ _ x.data y.data _ (B := B) (B' := B') ⟨A1, n1, c1, rfl, h1.below intRd_ok ((hb _ _).mono hB), r1⟩ ⟨A1', n1', c1', rfl, h1'.below intRd_ok ((hb _ _).mono hB'), r1'⟩ (Nat.le_trans hB (hb _ _).size) (Nat.le_trans hB' (hb _ _).size)).mono ?_
            rintro e w1 ⟨rfl, q1⟩
            have T := (hb _ _).trans (q1.mono (hb _ _).size)
            have B1 := blk2_0.below q1 (by simp <;> omega)
            have B2 := blk2_1.below q1 (by simp <;> omega)
            have z1 : w.heap.size + 1 + 1 ≤ w1.heap.size := by have := q1.size; simpa using this
            clear q1
            have g1 := B1.cell
            have g2 := B2.cell
            go_wp2_with fail
            clear g1 g2
            refine (eqPortS_v _ _ x.ports y.ports _ (B := B) (B' := B') ⟨A2, n2, c2, rfl, h2.below portRd_ok ((T).mono hB), r2⟩ ⟨A2', n2', c2', rfl, h2'.below portRd_ok ((T).mono hB'), r2'⟩ (Nat.le_trans hB (T).size) (Nat.le_trans hB' (T).size)).mono ?_
            rintro e w2 ⟨rfl, q2⟩
            have T := T.trans (q2.mono T.size)
            have B1 := B1.below q2 (by omega)
            have B2 := B2.below q2 (by omega)
            have z2 := Nat.le_trans z1 q2.size
            clear q2
            go_wp2_with fail
            go_ret
            exact ⟨by rw [He.out]; rfl, T⟩
          · have f4 : eqL x.ports y.ports = false := decide_eq_false e4
            have He : Hid (decide (x = y) = false) := decide_eq_false (by intro exy; exact e4 (by rw [exy]))
            clear e0 e1 e2 e3 e4
            go_enter Try.func112, Try.ntmps112
            go_wp2_with fail
            refine (eqInt64S_v _ _ x.data y.data _ (B := B) (B' := B') ⟨A1, n1, c1, rfl, h1.below intRd_ok ((hb _ _).mono hB), r1⟩ ⟨A1', n1', c1', rfl, h1'.below intRd_ok ((hb _ _).mono hB'), r1'⟩ (Nat.le_trans hB (hb _ _).size) (Nat.le_trans hB' (hb _ _).size)).mono ?_
            rintro e w1 ⟨rfl, q1⟩
            have T := (hb _ _).trans (q1.mono (hb _ _).size)
            have B1 := blk2_0.below q1 (by simp <;> omega)
            have B2 := blk2_1.below q1 (by simp <;> omega)
            have z1 : w.heap.size + 1 + 1 ≤ w1.heap.size := by have := q1.size; simpa using this
            clear q1
            have g1 := B1.cell
            have g2 := B2.cell
            go_wp2_with fail
            clear g1 g2
            refine (eqPortS_v _ _ x.ports y.ports _ (B := B) (B' := B') ⟨A2, n2, c2, rfl, h2.below portRd_ok ((T).mono hB), r2⟩ ⟨A2', n2', c2', rfl, h2'.below portRd_ok ((T).mono hB'), r2'⟩ (Nat.le_trans hB (T).size) (Nat.le_trans hB' (T).size)).mono ?_
            rintro e w2 ⟨rfl, q2⟩
            have T := T.trans (q2.mono T.size)
            have B1 := B1.below q2 (by omega)
            have B2 := B2.below q2 (by omega)
            have z2 := Nat.le_trans z1 q2.size
            clear q2
            go_wp2_with fail
            go_ret
            exact ⟨by rw [He.out]; rfl, T⟩
        · have f3 : eqL x.data y.data = false := decide_eq_false e3
          have He : Hid (decide (x = y) = false) := decide_eq_false (by intro exy; exact e3 (by rw [exy]))
          clear e0 e1 e2 e3
          go_enter Try.func112, Try.ntmps112
          go_wp2_with fail
          refine (eqInt64S_v _ _ x.data y.data _ (B := B) (B' := B') ⟨A1, n1, c1, rfl, h1.below intRd_ok ((hb _ _).mono hB), r1⟩ ⟨A1', n1', c1', rfl, h1'.below intRd_ok ((hb _ _).mono hB'), r1'⟩ (Nat.le_trans hB (hb _ _).size) (Nat.le_trans hB' (hb _ _).size)).mono ?_
          rintro e w1 ⟨rfl, q1⟩
          have T := (hb _ _).trans (q1.mono (hb _ _).size)
          have B1 := blk2_0.below q1 (by simp <;> omega)
          have B2 := blk2_1.below q1 (by simp <;> omega)
          have z1 : w.heap.size + 1 + 1 ≤ w1.heap.size := by have := q1.size; simpa using this
          clear q1
          go_wp2_with fail
          go_ret
          exact ⟨by rw [He.out]; rfl, T⟩
      · have f2 : (x.value != y.value) = true := by simp [e2]
        have He : Hid (decide (x = y) = false) := decide_eq_false (by intro exy; exact e2 (by rw [exy]))
        clear e0 e1 e2
        go_enter Try.func112, Try.ntmps112
        go_wp2_with fail
        go_ret
        exact ⟨by rw [He.out]; rfl, hb _ _⟩
    · have f1 : (x.level != y.level) = true := by simp [e1]
      have He : Hid (decide (x = y) = false) := decide_eq_false (by intro exy; exact e1 (by rw [exy]))
      clear e0 e1
      go_enter Try.func112, Try.ntmps112
      go_wp2_with fail
      go_ret
      exact ⟨by rw [He.out]; rfl, hb _ _⟩
  · have f0 : (x.kind != y.kind) = true := by simp [e0]
    have He : Hid (decide (x = y) = false) := decide_eq_false (by intro exy; exact e0 (by rw [exy]))
    clear e0
    go_enter Try.func112, Try.ntmps112
    go_wp2_with fail
    go_ret
    exact ⟨by rw [He.out]; rfl, hb _ _⟩
set_option maxHeartbeats 1000000 in
theorem eqAgentS_v (v u : Value) (xs ys : List DAgent) (w : World) {B B' : Nat} (h : RdS agentRd 5 w B v xs) (h' : RdS agentRd 5 w B' u ys) (hB : B ≤ w.heap.size) (hB' : B' ≤ w.heap.size) :
    Calls Try.prog 65 #[v, u] w fun e w' => e = .returned (.bool (eqL xs ys)) ∧ Below w.heap.size w w' := by
  obtain ⟨A, n, c, rfl, hx, hnc, hcm⟩ := h
  obtain ⟨C, m, d, rfl, hy, hmd, hdm⟩ := h'
  unfold maxLen at hcm hdm
  have lx := Lib.hid hx.len
  have ly := Lib.hid hy.len
  have hr := Below.refl w.heap.size w
  by_cases hnm : n = m
  · subst hnm
    go_enter Try.func65, Try.ntmps65
    go_wp2
    go_loopw [5] (fun i wr => ∃ k : Nat, k ≤ n ∧ i = .int .i64 k ∧ Hid (xs.take k = ys.take k) ∧ Below w.heap.size w wr) (fun i _ => n - (intOf i).toNat)
    case atStart => exact ⟨0, by omega, rfl, rfl, hr⟩
    case round =>
      obtain ⟨k, hk, rfl, ht, hq⟩ := hrel
      by_cases hlt : k < n
      · have hx' := hx.below agentRd_ok (hq.mono hB)
        have hy' := hy.below agentRd_ok (hq.mono hB')
        obtain ⟨b, off, x, A1, n1, c1, A2, n2, c2, rfl, hb, hxk, hc0, hc1, hc2, hc3, hc4, ⟨h1, r1⟩, ⟨h2, r2⟩⟩ := hx'.agent hlt
        obtain ⟨b', off', y, A1', n1', c1', A2', n2', c2', rfl, hb', hyk, hc0', hc1', hc2', hc3', hc4', ⟨h1', r1'⟩, ⟨h2', r2'⟩⟩ := hy'.agent hlt
        have Hxk := Lib.hid hxk
        have Hyk := Lib.hid hyk
        clear hxk hyk hx' hy'
        have hzB : B ≤ wr.drew.heap.size := Nat.le_trans hB hq.size
        have hzB' : B' ≤ wr.drew.heap.size := Nat.le_trans hB' hq.size
        by_cases hxy : x = y
        · have hf : decide (x = y) = true := decide_eq_true hxy
          have Hxy := Lib.hid hxy
          clear hxy
          go_wp2_with fail
          go_region_with (go_at_call 112; refine (eqAgent_v _ _ x y _ (B := B) (B' := B') ⟨_, rfl, A1, n1, c1, A2, n2, c2, rfl, ⟨h1.drew intRd_ok, r1⟩, ⟨h2.drew portRd_ok, r2⟩⟩ ⟨_, rfl, A1', n1', c1', A2', n2', c2', rfl, ⟨h1'.drew intRd_ok, r1'⟩, ⟨h2'.drew portRd_ok, r2'⟩⟩ hzB hzB').mono ?_; rintro e w1 ⟨rfl, hq1⟩)
          all_goals
            go_wp2_with fail
            go_roundw
            case rel => exact ⟨k + 1, by omega, by go_num, eqL_step Hxk.out Hyk.out ht.out Hxy.out, hq.drew.trans (hq1.mono hq.size)⟩
            case measure => simp [intOf]; omega
        · have hf : decide (x = y) = false := decide_eq_false hxy
          have Hno := Lib.hid (eqL_no Hxk.out Hyk.out hxy)
          clear hxy
          go_wp2_with fail
          go_region_with (go_at_call 112; refine (eqAgent_v _ _ x y _ (B := B) (B' := B') ⟨_, rfl, A1, n1, c1, A2, n2, c2, rfl, ⟨h1.drew intRd_ok, r1⟩, ⟨h2.drew portRd_ok, r2⟩⟩ ⟨_, rfl, A1', n1', c1', A2', n2', c2', rfl, ⟨h1'.drew intRd_ok, r1'⟩, ⟨h2'.drew portRd_ok, r2'⟩⟩ hzB hzB').mono ?_; rintro e w1 ⟨rfl, hq1⟩)
          all_goals
            go_wp2_with fail
            go_ret
            exact ⟨by rw [Hno.out]; rfl, hq.drew.trans (hq1.mono hq.size)⟩
      · have Hyes := Lib.hid (eqL_yes (k := k) ht.out (by have := lx.out; omega) (by have := ly.out; omega))
        go_wp2
        go_ret
        exact ⟨by rw [Hyes.out]; rfl, hq⟩
  · have Hno := Lib.hid (eqL_len (xs := xs) (ys := ys) (by have := lx.out; have := ly.out; omega))
    have hf : ((n : Int) != (m : Int)) = true := by simp; omega
    go_enter Try.func65, Try.ntmps65
    go_wp2
    go_ret
    exact ⟨by rw [Hno.out]; rfl, hr⟩
set_option maxHeartbeats 1000000 in
theorem eqNet_v (v u : Value) (x y : DNet) (w : World) {B B' : Nat} (h : RdT netRd w B v x) (h' : RdT netRd w B' u y) (hB : B ≤ w.heap.size) (hB' : B' ≤ w.heap.size) :
    Calls Try.prog 19 #[v, u] w fun e w' => e = .returned (.bool (decide (x = y))) ∧ Below w.heap.size w w' := by
  obtain ⟨cs, rfl, A1, n1, c1, rfl, ⟨h1, r1⟩⟩ := h
  obtain ⟨cs, rfl, A1', n1', c1', rfl, ⟨h1', r1'⟩⟩ := h'
  have hb : ∀ o1 o2, Below w.heap.size w ((w.alloc o1).alloc o2) := fun o1 o2 => ((Below.refl _ _).alloc (Nat.le_refl _) _).alloc (by simp) _
  by_cases e0 : x.agents = y.agents
  · have f0 : eqL x.agents y.agents = true := decide_eq_true e0
    have He : Hid (decide (x = y) = true) := decide_eq_true (by cases x; cases y; simp_all)
    clear e0
    go_enter Try.func19, Try.ntmps19
    go_wp2_with fail
    refine (eqAgentS_v _ _ x.agents y.agents _ (B := B) (B' := B') ⟨A1, n1, c1, rfl, h1.below agentRd_ok ((hb _ _).mono hB), r1⟩ ⟨A1', n1', c1', rfl, h1'.below agentRd_ok ((hb _ _).mono hB'), r1'⟩ (Nat.le_trans hB (hb _ _).size) (Nat.le_trans hB' (hb _ _).size)).mono ?_
    rintro e w1 ⟨rfl, q1⟩
    have T := (hb _ _).trans (q1.mono (hb _ _).size)
    have B1 := blk2_0.below q1 (by simp <;> omega)
    have B2 := blk2_1.below q1 (by simp <;> omega)
    have z1 : w.heap.size + 1 + 1 ≤ w1.heap.size := by have := q1.size; simpa using this
    clear q1
    go_wp2_with fail
    go_ret
    exact ⟨by rw [He.out]; rfl, T⟩
  · have f0 : eqL x.agents y.agents = false := decide_eq_false e0
    have He : Hid (decide (x = y) = false) := decide_eq_false (by intro exy; exact e0 (by rw [exy]))
    clear e0
    go_enter Try.func19, Try.ntmps19
    go_wp2_with fail
    refine (eqAgentS_v _ _ x.agents y.agents _ (B := B) (B' := B') ⟨A1, n1, c1, rfl, h1.below agentRd_ok ((hb _ _).mono hB), r1⟩ ⟨A1', n1', c1', rfl, h1'.below agentRd_ok ((hb _ _).mono hB'), r1'⟩ (Nat.le_trans hB (hb _ _).size) (Nat.le_trans hB' (hb _ _).size)).mono ?_
    rintro e w1 ⟨rfl, q1⟩
    have T := (hb _ _).trans (q1.mono (hb _ _).size)
    have B1 := blk2_0.below q1 (by simp <;> omega)
    have B2 := blk2_1.below q1 (by simp <;> omega)
    have z1 : w.heap.size + 1 + 1 ≤ w1.heap.size := by have := q1.size; simpa using this
    clear q1
    go_wp2_with fail
    go_ret
    exact ⟨by rw [He.out]; rfl, T⟩
set_option maxHeartbeats 1000000 in
theorem eqNetS_v (v u : Value) (xs ys : List DNet) (w : World) {B B' : Nat} (h : RdS netRd 1 w B v xs) (h' : RdS netRd 1 w B' u ys) (hB : B ≤ w.heap.size) (hB' : B' ≤ w.heap.size) :
    Calls Try.prog 56 #[v, u] w fun e w' => e = .returned (.bool (eqL xs ys)) ∧ Below w.heap.size w w' := by
  obtain ⟨A, n, c, rfl, hx, hnc, hcm⟩ := h
  obtain ⟨C, m, d, rfl, hy, hmd, hdm⟩ := h'
  unfold maxLen at hcm hdm
  have lx := Lib.hid hx.len
  have ly := Lib.hid hy.len
  have hr := Below.refl w.heap.size w
  by_cases hnm : n = m
  · subst hnm
    go_enter Try.func56, Try.ntmps56
    go_wp2
    go_loopw [5] (fun i wr => ∃ k : Nat, k ≤ n ∧ i = .int .i64 k ∧ Hid (xs.take k = ys.take k) ∧ Below w.heap.size w wr) (fun i _ => n - (intOf i).toNat)
    case atStart => exact ⟨0, by omega, rfl, rfl, hr⟩
    case round =>
      obtain ⟨k, hk, rfl, ht, hq⟩ := hrel
      by_cases hlt : k < n
      · have hx' := hx.below netRd_ok (hq.mono hB)
        have hy' := hy.below netRd_ok (hq.mono hB')
        obtain ⟨b, off, x, A1, n1, c1, rfl, hb, hxk, hc0, ⟨h1, r1⟩⟩ := hx'.net hlt
        obtain ⟨b', off', y, A1', n1', c1', rfl, hb', hyk, hc0', ⟨h1', r1'⟩⟩ := hy'.net hlt
        have Hxk := Lib.hid hxk
        have Hyk := Lib.hid hyk
        clear hxk hyk hx' hy'
        have hzB : B ≤ wr.drew.heap.size := Nat.le_trans hB hq.size
        have hzB' : B' ≤ wr.drew.heap.size := Nat.le_trans hB' hq.size
        by_cases hxy : x = y
        · have hf : decide (x = y) = true := decide_eq_true hxy
          have Hxy := Lib.hid hxy
          clear hxy
          go_wp2_with fail
          go_region_with (go_at_call 19; refine (eqNet_v _ _ x y _ (B := B) (B' := B') ⟨_, rfl, A1, n1, c1, rfl, ⟨h1.drew agentRd_ok, r1⟩⟩ ⟨_, rfl, A1', n1', c1', rfl, ⟨h1'.drew agentRd_ok, r1'⟩⟩ hzB hzB').mono ?_; rintro e w1 ⟨rfl, hq1⟩)
          all_goals
            go_wp2_with fail
            go_roundw
            case rel => exact ⟨k + 1, by omega, by go_num, eqL_step Hxk.out Hyk.out ht.out Hxy.out, hq.drew.trans (hq1.mono hq.size)⟩
            case measure => simp [intOf]; omega
        · have hf : decide (x = y) = false := decide_eq_false hxy
          have Hno := Lib.hid (eqL_no Hxk.out Hyk.out hxy)
          clear hxy
          go_wp2_with fail
          go_region_with (go_at_call 19; refine (eqNet_v _ _ x y _ (B := B) (B' := B') ⟨_, rfl, A1, n1, c1, rfl, ⟨h1.drew agentRd_ok, r1⟩⟩ ⟨_, rfl, A1', n1', c1', rfl, ⟨h1'.drew agentRd_ok, r1'⟩⟩ hzB hzB').mono ?_; rintro e w1 ⟨rfl, hq1⟩)
          all_goals
            go_wp2_with fail
            go_ret
            exact ⟨by rw [Hno.out]; rfl, hq.drew.trans (hq1.mono hq.size)⟩
      · have Hyes := Lib.hid (eqL_yes (k := k) ht.out (by have := lx.out; omega) (by have := ly.out; omega))
        go_wp2
        go_ret
        exact ⟨by rw [Hyes.out]; rfl, hq⟩
  · have Hno := Lib.hid (eqL_len (xs := xs) (ys := ys) (by have := lx.out; have := ly.out; omega))
    have hf : ((n : Int) != (m : Int)) = true := by simp; omega
    go_enter Try.func56, Try.ntmps56
    go_wp2
    go_ret
    exact ⟨by rw [Hno.out]; rfl, hr⟩
end
section
open Go.RowKit
set_option linter.unusedVariables false
set_option linter.unusedSimpArgs false
set_option maxRecDepth 100000
set_option maxHeartbeats 8000000 in
theorem walk_GrowthOfPair (w : World) (v0 : Value) (b : List DNet) (R0 : RdS netRd 1 w w.heap.size v0 b) (v1 : Value) (x : DNet) (R1 : RdT netRd w w.heap.size v1 x) (k : Int) (wk : (Lit.int IntKind.i64 k).wf = true) :
    Calls Try.prog 14 #[v0, v1, .int .i64 k] w fun e w' => e = .returned (.bool true) ∧ Below w.heap.size w w' := by
  obtain ⟨a0A, a0n, a0c, rfl⟩ : ∃ A n c, v0 = .slice A n c := by obtain ⟨A, n, c, e, _⟩ := R0; exact ⟨A, n, c, e⟩
  have la0 : a0n = b.length := by obtain ⟨A, n, c, e, h, _⟩ := R0; injection e with _ e2 _; rw [e2]; exact h.len
  subst la0
  obtain ⟨a1A0, a1n0, a1c0, rfl⟩ : ∃ a1A0 a1n0 a1c0, v1 = .agg #[.slice a1A0 a1n0 a1c0] := by obtain ⟨cs, rfl, ⟨A0, n0, c0, rfl, _⟩⟩ := R1; exact ⟨A0, n0, c0, rfl⟩
  by_cases d0 : (szNetS b : Int) ≤ 1048576
  case neg =>
    have T := Below.refl w.heap.size w
    have T : Below w.heap.size w (w.alloc (.cells #[.slice a1A0 a1n0 a1c0] 24)) := T.alloc (by first | exact Nat.le_refl _ | (simp; done) | (simp; omega)) _
    have B1 : Blk (w.alloc (.cells #[.slice a1A0 a1n0 a1c0] 24)) (w.heap.size) 24 #[.slice a1A0 a1n0 a1c0] := by have := Blk.new w 24 #[.slice a1A0 a1n0 a1c0]; simpa using this
    have zb0 : (w.alloc (.cells #[.slice a1A0 a1n0 a1c0] 24)).heap.size = w.heap.size + 1 := by simp
    go_enter Try.func14, Try.ntmps14
    go_wp2_with fail
    refine (szNetS_v _ b (1048576) _ (R0.below netRd_ok T) T.size (by omega) (by omega)).mono ?_
    rw [szL_neg (by omega)]
    rintro e w1 ⟨rfl, b1⟩
    have z1 := b1.size
    have B1 := B1.below b1 (by omega)
    have T := T.trans (b1.mono (by omega))
    have gB1 := B1.cell
    go_wp2_with fail
    go_ret
    exact ⟨rfl, T⟩
  by_cases d1 : (szNet x : Int) ≤ 1048576 - (szNetS b : Int)
  case neg =>
    have T := Below.refl w.heap.size w
    have T : Below w.heap.size w (w.alloc (.cells #[.slice a1A0 a1n0 a1c0] 24)) := T.alloc (by first | exact Nat.le_refl _ | (simp; done) | (simp; omega)) _
    have B1 : Blk (w.alloc (.cells #[.slice a1A0 a1n0 a1c0] 24)) (w.heap.size) 24 #[.slice a1A0 a1n0 a1c0] := by have := Blk.new w 24 #[.slice a1A0 a1n0 a1c0]; simpa using this
    have zb0 : (w.alloc (.cells #[.slice a1A0 a1n0 a1c0] 24)).heap.size = w.heap.size + 1 := by simp
    go_enter Try.func14, Try.ntmps14
    go_wp2_with fail
    refine (szNetS_v _ b (1048576) _ (R0.below netRd_ok T) T.size (by omega) (by omega)).mono ?_
    rw [szL_pos (by omega)]
    rintro e w1 ⟨rfl, b1⟩
    have z1 := b1.size
    have B1 := B1.below b1 (by omega)
    have T := T.trans (b1.mono (by omega))
    have gB1 := B1.cell
    go_wp2_with fail
    refine (szNet_v _ x (1048576 - (szNetS b : Int)) _ (R1.below netRd_ok T) T.size (by omega) (by omega)).mono ?_
    rw [szL_neg (by omega)]
    rintro e w2 ⟨rfl, b2⟩
    have z2 := b2.size
    have B1 := B1.below b2 (by omega)
    have T := T.trans (b2.mono (by omega))
    clear gB1
    have gB1 := B1.cell
    go_wp2_with fail
    go_ret
    exact ⟨rfl, T⟩
  have s0 : szNetS b ≤ 1048576 := by omega
  have s1 : szNet x ≤ 1048576 := by omega
  have qa0 : eqL b b = true := decide_eq_true rfl
  have T := Below.refl w.heap.size w
  have T : Below w.heap.size w (w.alloc (.cells #[.slice a1A0 a1n0 a1c0] 24)) := T.alloc (by first | exact Nat.le_refl _ | (simp; done) | (simp; omega)) _
  have B1 : Blk (w.alloc (.cells #[.slice a1A0 a1n0 a1c0] 24)) (w.heap.size) 24 #[.slice a1A0 a1n0 a1c0] := by have := Blk.new w 24 #[.slice a1A0 a1n0 a1c0]; simpa using this
  have zb0 : (w.alloc (.cells #[.slice a1A0 a1n0 a1c0] 24)).heap.size = w.heap.size + 1 := by simp
  go_enter Try.func14, Try.ntmps14
  go_wp2_with fail
  refine (szNetS_v _ b (1048576) _ (R0.below netRd_ok T) T.size (by omega) (by omega)).mono ?_
  rw [szL_pos (by omega)]
  rintro e w1 ⟨rfl, b1⟩
  have z1 := b1.size
  have B1 := B1.below b1 (by omega)
  have T := T.trans (b1.mono (by omega))
  have gB1 := B1.cell
  go_wp2_with fail
  refine (szNet_v _ x (1048576 - (szNetS b : Int)) _ (R1.below netRd_ok T) T.size (by omega) (by omega)).mono ?_
  rw [szL_pos (by omega)]
  rintro e w2 ⟨rfl, b2⟩
  have z2 := b2.size
  have B1 := B1.below b2 (by omega)
  have T := T.trans (b2.mono (by omega))
  clear gB1
  have gB1 := B1.cell
  go_wp2_with fail
  have T := T.drew
  have B1 := B1.drew
  have zd3 : w2.drew.heap.size = w2.heap.size := rfl
  go_region_held3 (fun w' => w'.cell? ⟨w.heap.size, 0, none⟩ = some (.slice a1A0 a1n0 a1c0)) (exact gB1 0) (first
    | (go_at_call 54; refine (toNetS_v _ b _ (R0.below netRd_ok T) T.size s0).mono ?_; rintro e w4 ⟨⟨t1, rfl, p2⟩, b4⟩; have z4 := b4.size; have B1 := B1.below b4 (by omega); have T := T.trans (b4.mono (by omega)); clear gB1; have gB1 := B1.cell)
    | (go_at_call 17; refine (toNet_v _ x _ (R1.below netRd_ok T) T.size s1).mono ?_; rintro e w5 ⟨⟨t3, rfl, p4⟩, b5⟩; have z5 := b5.size; have B1 := B1.below b5 (by omega); have p2 := p2.below netOw_ok b5 (by omega); have T := T.trans (b5.mono (by omega)); clear gB1; have gB1 := B1.cell)
    | (go_at_call 57; refine (specGrowthOfPair_v _ _ b x k _ (p2.reads (netOw_reads (w5).heap.size) (by omega)) (p4.reads (netOw_reads (w5).heap.size) (by omega)) (Nat.le_refl _) (Nat.le_refl _) s0 s1).mono ?_; rintro e w6 ⟨rfl, b6⟩; have z6 := b6.size; have B1 := B1.below b6 (by omega); have p2 := p2.below netOw_ok b6 (by omega); have p4 := p4.below netOw_ok b6 (by omega); have T := T.trans (b6.mono (by omega)); clear gB1; have gB1 := B1.cell; clear p2; clear p4))
  go_wp2_with fail
  refine (toNetS_v _ b _ (R0.below netRd_ok T) T.size s0).mono ?_
  rintro e w7 ⟨⟨t6, rfl, p7⟩, b7⟩
  have z7 := b7.size
  have B1 := B1.below b7 (by omega)
  have T := T.trans (b7.mono (by omega))
  clear gB1
  have gB1 := B1.cell
  go_wp2_with fail
  refine (toNet_v _ x _ (R1.below netRd_ok T) T.size s1).mono ?_
  rintro e w8 ⟨⟨t8, rfl, p9⟩, b8⟩
  have z8 := b8.size
  have B1 := B1.below b8 (by omega)
  have p7 := p7.below netOw_ok b8 (by omega)
  have T := T.trans (b8.mono (by omega))
  clear gB1
  have gB1 := B1.cell
  obtain ⟨l11A0, l11n0, l11c0, rfl⟩ : ∃ l11A0 l11n0 l11c0, t8 = .agg #[.slice l11A0 l11n0 l11c0] := by obtain ⟨cs, bs, rfl, ⟨A0, n0, c0, b0, rfl, _⟩, _⟩ := p9; exact ⟨A0, n0, c0, rfl⟩
  have b9 : Below w8.heap.size w8 (w8.alloc (.cells #[.slice l11A0 l11n0 l11c0] 30)) := (Below.refl _ _).alloc (Nat.le_refl _) _
  have z9 : (w8.alloc (.cells #[.slice l11A0 l11n0 l11c0] 30)).heap.size = w8.heap.size + 1 := World.size_alloc _ _
  have B1 := B1.below b9 (by omega)
  have p7 := p7.below netOw_ok b9 (by omega)
  have p9 := p9.below netOw_ok b9 (by omega)
  have T := T.trans (b9.mono (by omega))
  have X10 : Blk (w8.alloc (.cells #[.slice l11A0 l11n0 l11c0] 30)) w8.heap.size 30 #[.slice l11A0 l11n0 l11c0] := Blk.new _ _ _
  clear gB1
  have gB1 := B1.cell
  have gX10 := X10.cell
  go_wp2_with fail
  refine (implGrowthOfPair_v _ _ b x k _ (p7.reads (netOw_reads ((w8.alloc (.cells #[.slice l11A0 l11n0 l11c0] 30))).heap.size) (by omega)) (p9.reads (netOw_reads ((w8.alloc (.cells #[.slice l11A0 l11n0 l11c0] 30))).heap.size) (by omega)) (Nat.le_refl _) (Nat.le_refl _) s0 s1).mono ?_
  rintro e w10 ⟨rfl, b10⟩
  have z10 := b10.size
  have B1 := B1.below b10 (by omega)
  have X10 := X10.below b10 (by omega)
  have p7 := p7.below netOw_ok b10 (by omega)
  have p9 := p9.below netOw_ok b10 (by omega)
  have T := T.trans (b10.mono (by omega))
  clear gB1
  clear gX10
  have gB1 := B1.cell
  have gX10 := X10.cell
  go_wp2_with fail
  refine (toNetS_v _ b _ (R0.below netRd_ok T) T.size s0).mono ?_
  rintro e w11 ⟨⟨t13, rfl, p14⟩, b11⟩
  have z11 := b11.size
  have B1 := B1.below b11 (by omega)
  have X10 := X10.below b11 (by omega)
  have p7 := p7.below netOw_ok b11 (by omega)
  have p9 := p9.below netOw_ok b11 (by omega)
  have T := T.trans (b11.mono (by omega))
  clear gB1
  clear gX10
  have gB1 := B1.cell
  have gX10 := X10.cell
  go_wp2_with fail
  refine (eqNetS_v _ _ _ _ _ (p7.reads (netOw_reads (w11).heap.size) (by omega)) (p14.reads (netOw_reads (w11).heap.size) (by omega)) (Nat.le_refl _) (Nat.le_refl _)).mono ?_
  rintro e w12 ⟨rfl, b12⟩
  have z12 := b12.size
  have B1 := B1.below b12 (by omega)
  have X10 := X10.below b12 (by omega)
  have p7 := p7.below netOw_ok b12 (by omega)
  have p9 := p9.below netOw_ok b12 (by omega)
  have p14 := p14.below netOw_ok b12 (by omega)
  have T := T.trans (b12.mono (by omega))
  clear gB1
  clear gX10
  have gB1 := B1.cell
  have gX10 := X10.cell
  go_wp2_with fail
  have T := T.drew
  have B1 := B1.drew
  have X10 := X10.drew
  have p7 := p7.keep netOw_ok (w' := w12.drew) (fun _ _ _ => rfl)
  have p9 := p9.keep netOw_ok (w' := w12.drew) (fun _ _ _ => rfl)
  have p14 := p14.keep netOw_ok (w' := w12.drew) (fun _ _ _ => rfl)
  have zd13 : w12.drew.heap.size = w12.heap.size := rfl
  go_region_held3 (fun w' => w'.cell? ⟨w8.heap.size, 0, none⟩ = some (.slice l11A0 l11n0 l11c0) ∧ w'.cell? ⟨w.heap.size, 0, none⟩ = some (.slice a1A0 a1n0 a1c0)) (exact ⟨gX10 0, gB1 0⟩) (first
    | (go_at_call 17; refine (toNet_v _ x _ (R1.below netRd_ok T) T.size s1).mono ?_; rintro e w14 ⟨⟨t15, rfl, p16⟩, b14⟩; have z14 := b14.size; have B1 := B1.below b14 (by omega); have X10 := X10.below b14 (by omega); have p7 := p7.below netOw_ok b14 (by omega); have p9 := p9.below netOw_ok b14 (by omega); have p14 := p14.below netOw_ok b14 (by omega); have T := T.trans (b14.mono (by omega)); clear gB1; clear gX10; have gB1 := B1.cell; have gX10 := X10.cell)
    | (go_at_call 19; refine (eqNet_v _ _ _ _ _ (p9.reads (netOw_reads (w14).heap.size) (by omega)) (p16.reads (netOw_reads (w14).heap.size) (by omega)) (Nat.le_refl _) (Nat.le_refl _)).mono ?_; rintro e w15 ⟨rfl, b15⟩; have z15 := b15.size; have B1 := B1.below b15 (by omega); have X10 := X10.below b15 (by omega); have p7 := p7.below netOw_ok b15 (by omega); have p9 := p9.below netOw_ok b15 (by omega); have p14 := p14.below netOw_ok b15 (by omega); have p16 := p16.below netOw_ok b15 (by omega); have T := T.trans (b15.mono (by omega)); clear gB1; clear gX10; have gB1 := B1.cell; have gX10 := X10.cell))
  go_wp2_with fail
  go_ret
  exact ⟨rfl, T⟩
end
section
open Go.RowKit Go.ChangeShapes Go.WideShapes Go.Deep Go.WideMaps
set_option linter.unusedVariables false
def Opens {α : Type} (P : Program) (t : TypeId) (R : Rd α) : Prop := ∀ (H : Type) (enc : TypeId × Value → H) (W : World) (fuel : Nat) (cs : List Value) (x : DataW H × List MemPlace),
  DataW.trod enc P W 0 (fun _ => true) true fuel t cs = some x → ∃ d, R W W.heap.size cs d
theorem opens_int {P : Program} {t : TypeId} (ht : P.underlying t = some (.int .i64)) : Opens P t intRd := fun H enc W fuel cs x h => by
  obtain ⟨n, hc, _, _⟩ := DataW.trod_int ht h
  exact ⟨n, hc⟩
theorem spot_none {w : World} {a : Addr} {v : Value} (h : w.cell? a = some v) : a.spot = none := by
  unfold World.cell? at h
  split at h
  · cases hs : a.spot with
    | none => rfl
    | some s => simp [hs] at h
  · simp at h
theorem opens_slice {α : Type} {P : Program} {t e : TypeId} {R : Rd α} {sz : Nat} (ht : P.underlying t = some (.slice e)) (hsz : P.cellsOf e = sz) (hpos : 0 < sz) (ok : RdOk R sz) (he : Opens P e R) : Opens P t (slRd R sz) := fun H enc W fuel cs x h => by
  rcases open_slice ht h with ⟨rfl, rfl⟩ | ⟨a, len, cap, m, n, D, Pl, rfl, hb, hl, hm, hmm, hx, hel⟩
  · exact ⟨[], none, 0, 0, rfl, SlAt.none_, Nat.le_refl _, Nat.zero_le _⟩
  · have hmc : len ≤ m := by rw [hmm]; simp; omega
    have hel' : ∀ i, i < len → ∃ p : List Value × α, R W W.heap.size p.1 p.2 ∧ ∀ j, j < sz → W.cell? (a.add (i * sz + j)) = p.1[j]? := fun i hi => by
      obtain ⟨cs', hc, htr⟩ := hel i (by omega)
      obtain ⟨d, hd⟩ := he H enc W n cs' (D i, Pl i) htr
      obtain ⟨_, hlen, hat⟩ := World.cells?_some hc
      exact ⟨(cs', d), hd, fun j hj => by
        have := hat j (by rw [hsz]; exact hj)
        rw [hsz, Go.Deep.add_add] at this
        exact this⟩
    rcases Nat.eq_zero_or_pos len with h0 | h0
    · subst h0
      exact ⟨[], some a, 0, cap, rfl, SlAt.none_, Nat.zero_le _, hm⟩
    · have hne : Nonempty (List Value × α) := let ⟨p, _⟩ := hel' 0 h0; ⟨p⟩
      have hf : ∃ f : Nat → List Value × α, ∀ i, i < len → R W W.heap.size (f i).1 (f i).2 ∧ ∀ j, j < sz → W.cell? (a.add (i * sz + j)) = (f i).1[j]? := by
        classical
        refine ⟨fun i => if hi : i < len then Classical.choose (hel' i hi) else Classical.choice hne, fun i hi => ?_⟩
        simp only [dif_pos hi]
        exact Classical.choose_spec (hel' i hi)
      obtain ⟨f, hf⟩ := hf
      have hc0 : ∃ v, W.cell? a = some v := by
        obtain ⟨hR, hc⟩ := hf 0 h0
        have hlR := ok.len hR
        have h1 := hc 0 hpos
        have h2 : a.add (0 * sz + 0) = a := by simp [Addr.add]
        rw [h2, List.getElem?_eq_getElem (by omega)] at h1
        exact ⟨_, h1⟩
      obtain ⟨v0, hv0⟩ := hc0
      have hsp := spot_none hv0
      have hbl := World.block_lt_of_cell? _ _ hv0
      have ea : a = ⟨a.block, a.off, none⟩ := by cases a; simp_all
      refine ⟨(List.range len).map fun i => (f i).2, some a, len, cap, rfl, ⟨by simp, fun _ => ⟨a.block, a.off, by rw [← ea], hbl, fun i x hx => ?_⟩⟩, hl, hm⟩
      have hi : i < len := by simpa using lt_of_some hx
      have hx' : (f i).2 = x := by simpa [hi] using hx
      subst hx'
      obtain ⟨hR, hc⟩ := hf i hi
      refine ⟨_, hR, fun j v hj => ?_⟩
      have hj' : j < sz := by have := lt_of_some hj; rw [ok.len hR] at this; exact this
      have h1 := hc j hj'
      rw [hj] at h1
      have e2 : a.add (i * sz + j) = ⟨a.block, a.off + i * sz + j, none⟩ := by
        rw [ea]; simp only [Addr.add_lit]; congr 1; omega
      rw [← e2]
      exact h1
/-- An argument's value as its cells. -/
theorem opens_arg {α : Type} {P : Program} {t : TypeId} {R : Rd α} (h : Opens P t R) {H : Type} {enc : TypeId × Value → H} {W : World} {v : Value} {d : DataW H} {ps : List MemPlace} (ht : DataW.Trod enc P W 0 (fun _ => true) true t v d ps) : ∃ x, R W W.heap.size v.cells.toList x := by
  obtain ⟨fuel, hf⟩ := ht
  exact h H enc W fuel _ _ hf
/-- A slice argument. -/
theorem open_sl {α : Type} {P : Program} {t e : TypeId} {R : Rd α} {sz : Nat} (h : Opens P t (slRd R sz)) (ht : P.underlying t = some (.slice e)) {r : Reach} {b0 : Nat} {H : Type} {enc : TypeId × Value → H} {W : World} {v : Value} {d : DataW H} {ps : List MemPlace}
    (hv : Value.okWide P W r b0 t v) (hd : DataW.Trod enc P W 0 (fun _ => true) true t v d ps) : ∃ A n c x, v = .slice A n c ∧ SlAt R sz W W.heap.size A n x ∧ n ≤ c ∧ c ≤ maxLen := by
  obtain ⟨A, n, c, rfl⟩ := okWide_slice ht hv
  obtain ⟨x, A', n', c', e, h1, h2, h3⟩ := opens_arg h hd
  simp [Value.cells] at e
  obtain ⟨rfl, rfl, rfl⟩ := e
  exact ⟨A, n, c, x, rfl, h1, h2, h3⟩
end
section
open Go.RowKit
theorem opens_ints : Opens Try.prog 34 (slRd intRd 1) := opens_slice Try.underlying34 (by kernel_rfl) (by decide) intRd_ok (opens_int Try.underlying2)
end
section
open Go.RowKit Go.ChangeShapes Go.WideShapes Go.Deep Go.WideMaps
set_option linter.unusedVariables false
set_option linter.unusedSimpArgs false
theorem trod_fields {P : Program} {t : TypeId} {fs : Array Field} {H : Type} {enc : TypeId × Value → H} {W : World} {fuel : Nat} {cs : List Value} {x : DataW H × List MemPlace} (ht : P.underlying t = some (.struct fs)) (h : DataW.trod enc P W 0 (fun _ => true) true fuel t cs = some x) :
    cs.length = P.cellsOf t ∧ ∃ n, ∀ (i : Nat) (f : Field), fs[i]? = some f → ∃ y, DataW.trod enc P W 0 (fun _ => true) true n f.type ((cs.drop f.offset).take (P.cellsOf f.type)) = some y := by
  obtain ⟨xs, n, _, _, hl, hlen, hf⟩ := DataW.trod_struct ht h
  refine ⟨hl, n, fun i f hi => ?_⟩
  have hlt : i < fs.size := (Array.getElem?_eq_some_iff.1 hi).1
  exact ⟨xs[i], by rw [hf i f hi]; exact List.getElem?_eq_getElem (by omega)⟩
/-- A struct argument. -/
theorem open_st {α : Type} {P : Program} {t : TypeId} {fs : Array Field} {R : Rd α} (h : Opens P t R) (ht : P.underlying t = some (.struct fs)) {r : Reach} {b0 : Nat} {H : Type} {enc : TypeId × Value → H} {W : World} {v : Value} {d : DataW H} {ps : List MemPlace}
    (hv : Value.okWide P W r b0 t v) (hd : DataW.Trod enc P W 0 (fun _ => true) true t v d ps) : ∃ x, RdT R W W.heap.size v x := by
  obtain ⟨cs, rfl, _⟩ := okWide_struct ht hv
  obtain ⟨x, hx⟩ := opens_arg h hd
  exact ⟨x, cs.toList, by simp, by simpa [Value.cells] using hx⟩
theorem len1 {α : Type} {l : List α} (h : l.length = 1) : ∃ a0, l = [a0] := by
  match l, h with
  | [a0], _ => exact ⟨a0, rfl⟩
theorem len2 {α : Type} {l : List α} (h : l.length = 2) : ∃ a0 a1, l = [a0, a1] := by
  match l, h with
  | [a0, a1], _ => exact ⟨a0, a1, rfl⟩
theorem len5 {α : Type} {l : List α} (h : l.length = 5) : ∃ a0 a1 a2 a3 a4, l = [a0, a1, a2, a3, a4] := by
  match l, h with
  | [a0, a1, a2, a3, a4], _ => exact ⟨a0, a1, a2, a3, a4, rfl⟩
theorem opens_Port : Opens Try.prog 195 portRd := fun H enc W fuel cs x h => by
  obtain ⟨hl, m, hf⟩ := trod_fields Try.underlying195 h
  replace hl : cs.length = 2 := hl.trans (by kernel_rfl)
  obtain ⟨a0, a1, rfl⟩ := len2 hl
  obtain ⟨y0, h0⟩ : ∃ y, DataW.trod enc Try.prog W 0 (fun _ => true) true m 2 (([a0, a1].drop 0).take (Try.prog.cellsOf 2)) = some y := hf 0 _ rfl
  have k0 : Try.prog.cellsOf 2 = 1 := by kernel_rfl
  rw [k0] at h0; simp only [List.drop_zero, List.drop_succ_cons, List.take_succ_cons, List.take_zero] at h0
  obtain ⟨d0, e0⟩ := opens_int Try.underlying2 H enc W _ _ _ h0
  unfold intRd at e0; simp only [List.cons.injEq, and_true] at e0
  obtain ⟨y1, h1⟩ : ∃ y, DataW.trod enc Try.prog W 0 (fun _ => true) true m 2 (([a0, a1].drop 1).take (Try.prog.cellsOf 2)) = some y := hf 1 _ rfl
  have k1 : Try.prog.cellsOf 2 = 1 := by kernel_rfl
  rw [k1] at h1; simp only [List.drop_zero, List.drop_succ_cons, List.take_succ_cons, List.take_zero] at h1
  obtain ⟨d1, e1⟩ := opens_int Try.underlying2 H enc W _ _ _ h1
  unfold intRd at e1; simp only [List.cons.injEq, and_true] at e1
  subst e0; subst e1
  exact ⟨⟨d0, d1⟩, rfl⟩
theorem opens_PortS : Opens Try.prog 143 (slRd portRd 2) := opens_slice Try.underlying143 (by kernel_rfl) (by decide) portRd_ok opens_Port
theorem opens_Agent : Opens Try.prog 145 agentRd := fun H enc W fuel cs x h => by
  obtain ⟨hl, m, hf⟩ := trod_fields Try.underlying145 h
  replace hl : cs.length = 5 := hl.trans (by kernel_rfl)
  obtain ⟨a0, a1, a2, a3, a4, rfl⟩ := len5 hl
  obtain ⟨y0, h0⟩ : ∃ y, DataW.trod enc Try.prog W 0 (fun _ => true) true m 2 (([a0, a1, a2, a3, a4].drop 0).take (Try.prog.cellsOf 2)) = some y := hf 0 _ rfl
  have k0 : Try.prog.cellsOf 2 = 1 := by kernel_rfl
  rw [k0] at h0; simp only [List.drop_zero, List.drop_succ_cons, List.take_succ_cons, List.take_zero] at h0
  obtain ⟨d0, e0⟩ := opens_int Try.underlying2 H enc W _ _ _ h0
  unfold intRd at e0; simp only [List.cons.injEq, and_true] at e0
  obtain ⟨y1, h1⟩ : ∃ y, DataW.trod enc Try.prog W 0 (fun _ => true) true m 2 (([a0, a1, a2, a3, a4].drop 1).take (Try.prog.cellsOf 2)) = some y := hf 1 _ rfl
  have k1 : Try.prog.cellsOf 2 = 1 := by kernel_rfl
  rw [k1] at h1; simp only [List.drop_zero, List.drop_succ_cons, List.take_succ_cons, List.take_zero] at h1
  obtain ⟨d1, e1⟩ := opens_int Try.underlying2 H enc W _ _ _ h1
  unfold intRd at e1; simp only [List.cons.injEq, and_true] at e1
  obtain ⟨y2, h2⟩ : ∃ y, DataW.trod enc Try.prog W 0 (fun _ => true) true m 2 (([a0, a1, a2, a3, a4].drop 2).take (Try.prog.cellsOf 2)) = some y := hf 2 _ rfl
  have k2 : Try.prog.cellsOf 2 = 1 := by kernel_rfl
  rw [k2] at h2; simp only [List.drop_zero, List.drop_succ_cons, List.take_succ_cons, List.take_zero] at h2
  obtain ⟨d2, e2⟩ := opens_int Try.underlying2 H enc W _ _ _ h2
  unfold intRd at e2; simp only [List.cons.injEq, and_true] at e2
  obtain ⟨y3, h3⟩ : ∃ y, DataW.trod enc Try.prog W 0 (fun _ => true) true m 34 (([a0, a1, a2, a3, a4].drop 3).take (Try.prog.cellsOf 34)) = some y := hf 3 _ rfl
  have k3 : Try.prog.cellsOf 34 = 1 := by kernel_rfl
  rw [k3] at h3; simp only [List.drop_zero, List.drop_succ_cons, List.take_succ_cons, List.take_zero] at h3
  obtain ⟨d3, A3, n3, c3, e3, g3, r3⟩ := opens_ints H enc W _ _ _ h3
  simp only [List.cons.injEq, and_true] at e3
  obtain ⟨y4, h4⟩ : ∃ y, DataW.trod enc Try.prog W 0 (fun _ => true) true m 143 (([a0, a1, a2, a3, a4].drop 4).take (Try.prog.cellsOf 143)) = some y := hf 4 _ rfl
  have k4 : Try.prog.cellsOf 143 = 1 := by kernel_rfl
  rw [k4] at h4; simp only [List.drop_zero, List.drop_succ_cons, List.take_succ_cons, List.take_zero] at h4
  obtain ⟨d4, A4, n4, c4, e4, g4, r4⟩ := opens_PortS H enc W _ _ _ h4
  simp only [List.cons.injEq, and_true] at e4
  subst e0; subst e1; subst e2; subst e3; subst e4
  exact ⟨⟨d0, d1, d2, d3, d4⟩, A3, n3, c3, A4, n4, c4, rfl, ⟨g3, r3⟩, ⟨g4, r4⟩⟩
theorem opens_AgentS : Opens Try.prog 22 (slRd agentRd 5) := opens_slice Try.underlying22 (by kernel_rfl) (by decide) agentRd_ok opens_Agent
theorem opens_Net : Opens Try.prog 24 netRd := fun H enc W fuel cs x h => by
  obtain ⟨hl, m, hf⟩ := trod_fields Try.underlying24 h
  replace hl : cs.length = 1 := hl.trans (by kernel_rfl)
  obtain ⟨a0, rfl⟩ := len1 hl
  obtain ⟨y0, h0⟩ : ∃ y, DataW.trod enc Try.prog W 0 (fun _ => true) true m 22 (([a0].drop 0).take (Try.prog.cellsOf 22)) = some y := hf 0 _ rfl
  have k0 : Try.prog.cellsOf 22 = 1 := by kernel_rfl
  rw [k0] at h0; simp only [List.drop_zero, List.drop_succ_cons, List.take_succ_cons, List.take_zero] at h0
  obtain ⟨d0, A0, n0, c0, e0, g0, r0⟩ := opens_AgentS H enc W _ _ _ h0
  simp only [List.cons.injEq, and_true] at e0
  subst e0
  exact ⟨⟨d0⟩, A0, n0, c0, rfl, ⟨g0, r0⟩⟩
theorem opens_NetS : Opens Try.prog 70 (slRd netRd 1) := opens_slice Try.underlying70 (by kernel_rfl) (by decide) netRd_ok opens_Net
end
section
open Go.ChangeShapes Go.WideShapes Go.ChangeAt Go.RowKit Go.WideElems
set_option linter.unusedVariables false
theorem own : ownKnob Try.prog.godebug = none := by kernel_rfl
theorem laid : laidOutB Try.prog = true := by kernel_rfl
section
variable {H : Type} {enc : TypeId × Value → H}
theorem trodAll_stays {W W' : World} {sp : Nat → Bool} (hb : Below W.heap.size W W') : ∀ (ts : List TypeId) (vs : List Value) (ds : List (DataW H)) (ps : List MemPlace),
    (∀ t ∈ ts, Try.prog.readableRec t = true ∧ t < Try.prog.types.size) → DataW.TrodAll enc Try.prog W 0 (fun _ => true) true ts vs ds ps →
    (∀ x ∈ ps, x.block < W.heap.size) → (∀ x ∈ ps, sp x.block = true) → DataW.TrodAll enc Try.prog W' 0 sp true ts vs ds ps
  | [], [], [], ps, _, h, _, _ => h
  | t :: ts, v :: vs, d :: ds, ps, hts, h, hlt, hsp => by
    obtain ⟨p, q, h1, h2, rfl⟩ := h
    have ht := hts t (by simp)
    exact ⟨p, q, Trod_stays laid ht.1 ht.2 h1 (fun x hx => hb.same (hlt x (by simp [hx]))) (fun x hx => hsp x (by simp [hx])),
      trodAll_stays hb ts vs ds q (fun t' h' => hts t' (by simp [h'])) h2 (fun x hx => hlt x (by simp [hx])) (fun x hx => hsp x (by simp [hx])), rfl⟩
  | [], _ :: _, _, _, _, h, _, _ => h.elim
  | [], [], _ :: _, _, _, h, _, _ => h.elim
  | _ :: _, [], _, _, _, h, _, _ => h.elim
  | _ :: _, _ :: _, [], _, _, h, _, _ => h.elim
theorem post_law {f : Func} {s : ChangeSpec} {W W' : World} {args : Array Value} {ds : List (DataW H)} {before : List MemPlace}
    (hv : s.vars = []) (hr1 : f.resultTypes = #[4])
    (hp0 : (f.params.toList.all fun t => Try.prog.readableRec t && decide (t < Try.prog.types.size)) = true)
    (hres : (s.fn H (ds ++ [])).results = [.lit (.bool true)]) (hargs : (s.fn H (ds ++ [])).args = ds) (hvars : (s.fn H (ds ++ [])).vars = [])
    (hW : DataW.Whole enc Try.prog f.params.toList s.vars false W args.toList ds [] before)
    (hb : Below W.heap.size W W') :
    s.post enc Try.prog f false true false false W args (.bool true) W' := by
  have hp : ∀ t ∈ f.params.toList, Try.prog.readableRec t = true ∧ t < Try.prog.types.size := fun t ht => by simpa using List.all_eq_true.1 hp0 t ht
  have hlt : ∀ p ∈ before, p.block < W.heap.size := fun p hp => hW.lt p hp
  have hold : ∀ p ∈ before, (fun b => decide (b < W.heap.size)) p.block = true := fun p hp => by simpa using hlt p hp
  have hWh := hW
  obtain ⟨p, q, hA, hV, rfl, hfz, _⟩ := hWh
  rw [hv] at hV
  obtain rfl : q = [] := hV
  rw [List.append_nil] at hlt hold
  have hA' : ∀ sp : Nat → Bool, (∀ x ∈ p, sp x.block = true) → DataW.TrodAll enc Try.prog W' 0 sp true f.params.toList args.toList ds p := fun sp hsp =>
    trodAll_stays hb _ _ _ _ hp hA hlt hsp
  rw [List.append_nil] at hW
  refine ⟨ds, [], p, [], p, [], hW, ?_, ?_, ?_, World.keptBut_mono (fun x hx => ⟨hx, ?_⟩) (hb.frame (· ∈ p)), fun h => by cases h⟩
  · rw [hres, hr1]
    exact trodAll_cons_mk (shut_bool Try.underlying4 _) trodAll_mk0
  · rw [hargs]
    exact hA' _ hold
  · rw [hvars, hv]
    rfl
  · simp [hx]
end
end
end Go.Proofs.Ytampijkiidjcmaa
