/- CountRoles, FirstClash: the models on data. -/
import Derived.Test.YtampijkiidjcmaaPO
import Derived.Test.YtampijkiidjcmaaWD
namespace Go.Proofs.Ytampijkiidjcmaa
open Go.RowKit
set_option linter.unusedVariables false
set_option linter.unusedSimpArgs false
/-- A loop that seeks the first element with q. -/
theorem findI {α ρ : Type} {L : Nat → Int → Option ρ} {d : List α} {q : α → Bool} {hit : Nat → Option ρ} {K : Option ρ} (h : ∀ g (k : Nat) x, d[k]? = some x → L (g + 1) (k : Int) = if q x then hit k else L g ((k : Int) + 1)) (he : ∀ g, L (g + 1) (d.length : Int) = K) (g : Nat) (hg : d.length < g) :
    L g 0 = match d.findIdx? q with | some i => hit i | none => K := by
  cases hf : d.findIdx? q with
  | none =>
    refine trajI (n := d.length) (fun g k hk => ?_) he g hg
    have hx := List.getElem?_eq_getElem hk
    have := List.findIdx?_eq_none_iff.1 hf d[k] (List.getElem_mem hk)
    rw [h g k _ hx, this]; simp
  | some i =>
    obtain ⟨hi, h1, h2⟩ := List.findIdx?_eq_some_iff_getElem.1 hf
    refine trajI (n := i) (fun g k hk => ?_) (fun g => ?_) g (by omega)
    · have hkl : k < d.length := by omega
      have hx := List.getElem?_eq_getElem hkl
      have := h2 k hk
      rw [h g k _ hx]; simp [this]
    · rw [h g i _ (List.getElem?_eq_getElem hi), h1]; simp
/-- A loop over a list. -/
theorem foldL {α σ ρ : Type} {L : Nat → σ → Int → Option ρ} {d : List α} {f : σ → α → σ} {I : Nat → σ → Prop} {K : σ → Option ρ} (h : ∀ g (k : Nat) x s, d[k]? = some x → I k s → L (g + 1) s (k : Int) = L g (f s x) ((k : Int) + 1) ∧ I (k + 1) (f s x)) (he : ∀ g s, I d.length s → L (g + 1) s (d.length : Int) = K s) :
    ∀ (g : Nat) (s : σ), d.length < g → I 0 s → L g s 0 = K (d.foldl f s) ∧ I d.length (d.foldl f s) := by
  have key : ∀ (m k g : Nat) s, k + m = d.length → m < g → I k s → L g s (k : Int) = K ((d.drop k).foldl f s) ∧ I d.length ((d.drop k).foldl f s) := by
    intro m
    induction m with
    | zero =>
      intro k g s hk hg hI
      obtain ⟨g, rfl⟩ : ∃ g', g = g' + 1 := ⟨g - 1, by omega⟩
      obtain rfl : k = d.length := by omega
      rw [List.drop_length]
      exact ⟨he g s hI, hI⟩
    | succ m ih =>
      intro k g s hk hg hI
      obtain ⟨g, rfl⟩ : ∃ g', g = g' + 1 := ⟨g - 1, by omega⟩
      have hkl : k < d.length := by omega
      have hx := List.getElem?_eq_getElem hkl
      obtain ⟨h1, h2⟩ := h g k _ s hx hI
      rw [h1, List.drop_eq_getElem_cons hkl, List.foldl_cons]
      exact ih (k + 1) g _ (by omega) (by omega) h2
  intro g s hg hI
  have := key d.length 0 g s (by omega) hg hI
  simpa using this
theorem portsFrom_flat' (xs : List DAgent) : allPorts xs = (List.range xs.length).flatMap fun k => agentPorts k ((xs[k]?).getD default) := by
  unfold allPorts
  rw [portsFrom_flat 0 xs, List.range_eq_range']
  simp
def revAt (rev : List Bool) (p : DPort) : Bool := (rev[p.agent.toNat]?).getD false
def isIn (xs : List DAgent) (rev : List Bool) (p : DPort) : Bool := portRole (agentAt xs p.agent).kind p.slot (revAt rev p) == 1
def upd (xs : List DAgent) (rev : List Bool) (s : Int × Int) (p : DPort) : Int × Int := bif isIn xs rev p then (s.1 + 1, s.2) else (s.1, s.2 + 1)
def Fits (xs : List DAgent) (rev : List Bool) : Prop := rev.length = xs.length ∧ ∀ i, i < xs.length → ∃ x r, xs[i]? = some x ∧ rev[i]? = some r ∧ (r = true → turns x.kind = true)
theorem fits_loop {L : Nat → Int → Option Bool} {xs : List DAgent} {rev : List Bool} (hl : rev.length = xs.length)
    (h : ∀ g (i : Nat) x r, xs[i]? = some x → rev[i]? = some r → L (g + 1) (i : Int) = bif r then (bif turns x.kind then L g ((i : Int) + 1) else some false) else L g ((i : Int) + 1)) (he : ∀ g, L (g + 1) (rev.length : Int) = some true) (g : Nat) (hg : rev.length < g) :
    (Fits xs rev ∧ L g 0 = some true) ∨ (¬ Fits xs rev ∧ L g 0 = some false) := by
  have key := allO (L := L) (n := rev.length) (p := fun i => ∃ x r, xs[i]? = some x ∧ rev[i]? = some r ∧ (r = true → turns x.kind = true)) (no := some false) (K := some true)
    (fun g i hi ⟨x, r, hx, hr, h1⟩ => by
      rw [h g i x r hx hr]
      cases r with
      | false => rfl
      | true => rw [h1 rfl]; rfl)
    (fun g i hi hn => by
      have hx := List.getElem?_eq_getElem (show i < xs.length by omega)
      have hr := List.getElem?_eq_getElem hi
      rw [h g i _ _ hx hr]
      cases h1 : rev[i] with
      | false => exact absurd ⟨_, _, hx, hr, fun e => by rw [h1] at e; cases e⟩ hn
      | true =>
        cases h2 : turns xs[i].kind with
        | false => rfl
        | true => exact absurd ⟨_, _, hx, hr, fun _ => h2⟩ hn)
    he g hg
  rcases key with ⟨h1, h2⟩ | ⟨h1, h2⟩
  · exact .inl ⟨⟨hl, fun i hi => h1 i (by omega)⟩, h2⟩
  · exact .inr ⟨fun hf => h1 (fun i hi => hf.2 i (by omega)), h2⟩
theorem p_sFits (d : DNet) (rev : List Bool) : (Fits d.agents rev ∧ m_spec_l19Fits d rev = some true) ∨ (¬ Fits d.agents rev ∧ m_spec_l19Fits d rev = some false) := by
  obtain ⟨xs⟩ := d
  unfold m_spec_l19Fits
  by_cases hl : rev.length = xs.length
  · have e : ((rev.length : Int) != (xs.length : Int)) = false := by simp [hl]
    rw [e, cond_false]
    exact fits_loop hl (fun g i x r hx hr => by
      have hi := lt_of_some hr
      simp -implicitDefEqProofs only [m_spec_l19Fits_L1, m_spec_l19Fits_B1, dlt hi, cond_true, getI_nat hr, getI_nat hx, Option.bind_some])
      (fun g => by simp -implicitDefEqProofs only [m_spec_l19Fits_L1, m_spec_l19Fits_B1, dge, cond_false, m_spec_l19Fits_A1]) _ (Nat.lt_succ_self _)
  · have e : ((rev.length : Int) != (xs.length : Int)) = true := by simp; omega
    rw [e, cond_true]
    exact .inr ⟨fun h => hl h.1, rfl⟩
theorem rev_at {rev : List Bool} {i k : Nat} {r : Bool} (hr : rev[i]? = some r) : revAt rev ⟨(i : Int), (k : Int)⟩ = r := by simp [revAt, hr]
theorem agentOk_len {x : DAgent} (h : agentOk x = true) : (x.ports.length : Int) ≤ roleMost x.kind := by
  unfold agentOk at h
  simp only [Bool.and_eq_true, decide_eq_true_eq] at h
  have h2 := h.1.1.2
  have h1 := h.1.1.1
  unfold fieldsN at h1 h2
  unfold roleMost
  by_cases k9 : x.kind = 9
  · simp only [k9, if_true, portsOf] at h1 h2 ⊢
    split at h1
    · split at h2 <;> omega
    · omega
  · simp only [k9, if_false] at h1 h2 ⊢
    omega
theorem role_eq {xs : List DAgent} {rev : List Bool} (G : Good xs) (F : Fits xs rev) {i k : Nat} {x : DAgent} {r : Bool} (hx : xs[i]? = some x) (hr : rev[i]? = some r) (hk : k < x.ports.length) : roleSpec x.kind k r = portRole x.kind k r := by
  have h1 := agentOk_len (G.ok i x hx)
  obtain ⟨x', r', hx', hr', h2⟩ := F.2 i (lt_of_some hx)
  rw [hx] at hx'; injection hx' with e; subst e
  rw [hr] at hr'; injection hr' with e; subst e
  rw [roleSpec_eq (by omega) (by omega) h2]
  unfold portRole
  have hn : ¬ ((k : Int) < 0 ∨ roleMost x.kind ≤ (k : Int) ∨ (r = true ∧ turns x.kind = false)) := by
    rintro (h | h | ⟨h, h'⟩)
    · omega
    · omega
    · rw [h2 h] at h'; cases h'
  rw [if_neg hn]
open Classical in
noncomputable def countRoles (d : DNet) (rev : List Bool) : Int × Int × Int :=
  if validNet d = true ∧ Fits d.agents rev then (((allPorts d.agents).foldl (upd d.agents rev) (0, 0)).1, ((allPorts d.agents).foldl (upd d.agents rev) (0, 0)).2, 0) else (0, 0, 1)
theorem upd_at {xs : List DAgent} {rev : List Bool} {i k : Nat} {x : DAgent} {r : Bool} (hx : xs[i]? = some x) (hr : rev[i]? = some r) (s : Int × Int) : upd xs rev s ⟨(i : Int), (k : Int)⟩ = bif portRole x.kind k r == 1 then (s.1 + 1, s.2) else (s.1, s.2 + 1) := by
  unfold upd isIn
  rw [rev_at hr]
  simp only [agentAt_nat hx]
theorem p_iFits (d : DNet) (rev : List Bool) : (Fits d.agents rev ∧ m_impl_Net_fits d rev = some true) ∨ (¬ Fits d.agents rev ∧ m_impl_Net_fits d rev = some false) := by
  obtain ⟨xs⟩ := d
  unfold m_impl_Net_fits
  by_cases hl : rev.length = xs.length
  · have e : ((rev.length : Int) != (xs.length : Int)) = false := by simp [hl]
    rw [e, cond_false]
    exact fits_loop hl (fun g i x r hx hr => by
      have hi := lt_of_some hr
      simp -implicitDefEqProofs only [m_impl_Net_fits_L1, m_impl_Net_fits_B1, dlt hi, cond_true, getI_nat hr, getI_nat hx, Option.bind_some])
      (fun g => by simp -implicitDefEqProofs only [m_impl_Net_fits_L1, m_impl_Net_fits_B1, dge, cond_false, m_impl_Net_fits_A1]) _ (Nat.lt_succ_self _)
  · have e : ((rev.length : Int) != (xs.length : Int)) = true := by simp; omega
    rw [e, cond_true]
    exact .inr ⟨fun h => hl h.1, rfl⟩
theorem mem_allPorts {xs : List DAgent} {p : DPort} (h : p ∈ allPorts xs) : ∃ (i k : Nat) (x : DAgent), xs[i]? = some x ∧ k < x.ports.length ∧ p = ⟨(i : Int), (k : Int)⟩ := by
  obtain ⟨j, x, k, h1, h2, rfl⟩ := mem_portsFrom.1 h
  exact ⟨j, k, x, h1, h2, by simp⟩
def cls (x y : DAgent) : Int := if (x.kind = 9 ∧ y.kind = 10 ∧ (y.data.length : Int) ≤ x.value) ∨ (x.kind = 10 ∧ y.kind = 9 ∧ (x.data.length : Int) ≤ y.value) then 8 else pairClass x.kind x.level y.kind y.level
theorem p_class (x y : DAgent) : m_spec_l13Class x y = some (cls x y) := by
  unfold m_spec_l13Class cls
  simp only [Bool.cond_eq_ite, beq_iff_eq, decide_eq_true_eq, ge_iff_le]
  by_cases h1 : x.kind = 9
  · have h1' : ¬ x.kind = 10 := by omega
    by_cases h2 : y.kind = 10
    · by_cases h3 : (y.data.length : Int) ≤ x.value <;> simp [h1, h2, h3]
    · simp [h1, h2]
  · by_cases h2 : x.kind = 10
    · by_cases h3 : y.kind = 9
      · by_cases h4 : (x.data.length : Int) ≤ y.value <;> simp [h2, h3, h4]
      · simp [h2, h3]
    · simp [h1, h2]
/-- An active pair of a net. -/
def PairIn (xs : List DAgent) (p : DPair) : Prop := ∃ (i j : Nat) (x y : DAgent), p = ⟨(i : Int), (j : Int)⟩ ∧ i < j ∧ xs[i]? = some x ∧ xs[j]? = some y ∧ x.kind ≠ 1 ∧ y.kind ≠ 1 ∧ x.ports[0]? = some ⟨(j : Int), 0⟩
theorem pairsOf_in {xs : List DAgent} (G : Good xs) {p : DPair} (h : p ∈ pairsOf xs) : PairIn xs p := by
  unfold pairsOf at h
  rw [List.mem_flatMap] at h
  obtain ⟨i, hi, hp⟩ := h
  have hi : i < xs.length := by simpa using hi
  have hx := List.getElem?_eq_getElem hi
  have h0 := G.pos hx
  have hq := List.getElem?_eq_getElem h0
  rw [pairAt_eq hx hq] at hp
  split at hp
  · rename_i hc
    have hp : p = ⟨(i : Int), xs[i].ports[0].agent⟩ := by simpa using hp
    have hb := G.ports i _ hx 0 h0
    unfold badPort at hb
    have ep : peer xs ⟨(i : Int), ((0 : Nat) : Int)⟩ = xs[i].ports[0] := peer_of hx hq
    rw [ep] at hb
    simp only [Bool.or_eq_false_iff, Bool.not_eq_false'] at hb
    obtain ⟨j, k, y, he, hy, hk, _⟩ := hasPort_at hb.1.2
    have hk0 : k = 0 := by have h := hc.1; rw [he] at h; simp only at h; omega
    subst hk0
    have hj : xs[i].ports[0].agent = (j : Int) := by rw [he]
    refine ⟨i, j, xs[i], y, by rw [hp, hj], by have := hc.2.1; omega, hx, hy, hc.2.2, ?_, by rw [hq, he]; rfl⟩
    intro h1
    have := (G.root j y hy).1 h1
    have := hc.2.1
    omega
  · simp at hp
noncomputable def firstClash (d : DNet) : Int × Int :=
  bif validNet d then (match (pairsOf d.agents).findIdx? (fun p => cls (agentAt d.agents p.a) (agentAt d.agents p.b) == 8) with | some i => ((i : Int), 0) | none => (0, 3)) else (0, 1)
def clsF (x y : DAgent) : Bool := bif cls x y == 8 && !(pairClass x.kind x.level y.kind y.level == 8) then false else pairFirst x.kind x.level y.kind y.level == 2
theorem agentOk_allowed {x : DAgent} (h : agentOk x = true) : allowed x.kind x.level = true := by
  unfold agentOk at h
  simp only [Bool.and_eq_true] at h
  exact h.1.2
theorem p_classOf {d : DNet} {p : DPair} (G : Good d.agents) (h : PairIn d.agents p) : m_impl_Net_classOf d p = some (cls (agentAt d.agents p.a) (agentAt d.agents p.b), clsF (agentAt d.agents p.a) (agentAt d.agents p.b)) := by
  obtain ⟨xs⟩ := d
  have G : Good xs := G
  obtain ⟨i, j, x, y, rfl, hij, hx, hy, h1, h2, _⟩ := h
  have hx : xs[i]? = some x := hx
  have hy : xs[j]? = some y := hy
  have hm : mayPair x.kind x.level y.kind y.level = true := by
    unfold mayPair
    rw [agentOk_allowed (G.ok i x hx), agentOk_allowed (G.ok j y hy)]
    simp [h1, h2]
  unfold m_impl_Net_classOf
  simp only [getI_nat hx, getI_nat hy, Option.bind_some, agentAt_nat hx, agentAt_nat hy]
  have hc : pairClass x.kind x.level y.kind y.level = if rule x.kind x.level y.kind y.level ≠ 0 then rule x.kind x.level y.kind y.level else if rule y.kind y.level x.kind x.level ≠ 0 then rule y.kind y.level x.kind x.level else 8 := by
    unfold pairClass; rw [if_pos hm]
  have hf : pairFirst x.kind x.level y.kind y.level = if rule x.kind x.level y.kind y.level ≠ 0 then 1 else if rule y.kind y.level x.kind x.level ≠ 0 then 2 else 0 := by
    unfold pairFirst; rw [if_pos hm]
  have k1 : rule x.kind x.level y.kind y.level = 6 → y.kind = 10 → x.kind = 9 := by unfold rule; grind
  have k2 : rule y.kind y.level x.kind x.level = 6 → x.kind = 10 → y.kind = 9 := by unfold rule; grind
  have k3 : x.kind = 9 → y.kind = 10 → rule x.kind x.level y.kind y.level = 6 := by unfold rule; grind
  have k4 : x.kind = 10 → rule x.kind x.level y.kind y.level = 0 := by unfold rule; grind
  have k5 : y.kind = 9 → x.kind = 10 → rule y.kind y.level x.kind x.level = 6 := by unfold rule; grind
  unfold clsF cls
  rw [hc, hf]
  generalize rule x.kind x.level y.kind y.level = ra at *
  generalize rule y.kind y.level x.kind x.level = rb at *
  simp only [Bool.cond_eq_ite, beq_iff_eq, decide_eq_true_eq, ge_iff_le]
  clear hc hf hm h1 h2
  grind
end Go.Proofs.Ytampijkiidjcmaa
