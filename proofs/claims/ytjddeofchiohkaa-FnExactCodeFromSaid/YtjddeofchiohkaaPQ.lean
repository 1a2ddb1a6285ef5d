/- CountRoles, FirstClash: the models on data. -/
import Derived.Test.YtjddeofchiohkaaPO
import Derived.Test.YtjddeofchiohkaaWD
namespace Go.Proofs.Ytjddeofchiohkaa
open Go.RowKit
set_option linter.unusedVariables false
set_option linter.unusedSimpArgs false
/-- A loop that seeks the first element with q. -/
theorem findI {α ρ : Type} {L : Nat → Int → Option ρ} {d : List α} {q : α → Bool} {hit : Nat → Option ρ} {K : Option ρ} (h : ∀ g (k : Nat) x, d[k]? = some x → L (g + 1) (k : Int) = if q x then hit k else L g ((k : Int) + 1)) (he : ∀ g, L (g + 1) (d.length : Int) = K) (g : Nat) (hg : d.length < g) :
    L g 0 = match d.findIdx? q with | some i => hit i | none => K := by
  cases hf : d.findIdx? q with
  | none =>
    refine trajI (n := d.length) (fun g k hk => ?_) he g hg
    have hx := List.getElem?_eq_getElem hk
    have := List.findIdx?_eq_none_iff.1 hf d[k] (List.getElem_mem hk)
    rw [h g k _ hx, this]; simp
  | some i =>
    obtain ⟨hi, h1, h2⟩ := List.findIdx?_eq_some_iff_getElem.1 hf
    refine trajI (n := i) (fun g k hk => ?_) (fun g => ?_) g (by omega)
    · have hkl : k < d.length := by omega
      have hx := List.getElem?_eq_getElem hkl
      have := h2 k hk
      rw [h g k _ hx]; simp [this]
    · rw [h g i _ (List.getElem?_eq_getElem hi), h1]; simp
/-- A loop over a list. -/
theorem foldL {α σ ρ : Type} {L : Nat → σ → Int → Option ρ} {d : List α} {f : σ → α → σ} {I : Nat → σ → Prop} {K : σ → Option ρ} (h : ∀ g (k : Nat) x s, d[k]? = some x → I k s → L (g + 1) s (k : Int) = L g (f s x) ((k : Int) + 1) ∧ I (k + 1) (f s x)) (he : ∀ g s, I d.length s → L (g + 1) s (d.length : Int) = K s) :
    ∀ (g : Nat) (s : σ), d.length < g → I 0 s → L g s 0 = K (d.foldl f s) ∧ I d.length (d.foldl f s) := by
  have key : ∀ (m k g : Nat) s, k + m = d.length → m < g → I k s → L g s (k : Int) = K ((d.drop k).foldl f s) ∧ I d.length ((d.drop k).foldl f s) := by
    intro m
    induction m with
    | zero =>
      intro k g s hk hg hI
      obtain ⟨g, rfl⟩ : ∃ g', g = g' + 1 := ⟨g - 1, by omega⟩
      obtain rfl : k = d.length := by omega
      rw [List.drop_length]
      exact ⟨he g s hI, hI⟩
    | succ m ih =>
      intro k g s hk hg hI
      obtain ⟨g, rfl⟩ : ∃ g', g = g' + 1 := ⟨g - 1, by omega⟩
      have hkl : k < d.length := by omega
      have hx := List.getElem?_eq_getElem hkl
      obtain ⟨h1, h2⟩ := h g k _ s hx hI
      rw [h1, List.drop_eq_getElem_cons hkl, List.foldl_cons]
      exact ih (k + 1) g _ (by omega) (by omega) h2
  intro g s hg hI
  have := key d.length 0 g s (by omega) hg hI
  simpa using this
theorem portsFrom_flat' (xs : List DAgent) : allPorts xs = (List.range xs.length).flatMap fun k => agentPorts k ((xs[k]?).getD default) := by
  unfold allPorts
  rw [portsFrom_flat 0 xs, List.range_eq_range']
  simp

def revAt (rev : List Bool) (p : DPort) : Bool := (rev[p.agent.toNat]?).getD false
def isIn (xs : List DAgent) (rev : List Bool) (p : DPort) : Bool := portRole (agentAt xs p.agent).kind p.slot (revAt rev p) == 1
def upd (xs : List DAgent) (rev : List Bool) (s : Int × Int) (p : DPort) : Int × Int := bif isIn xs rev p then (s.1 + 1, s.2) else (s.1, s.2 + 1)
def Fits (xs : List DAgent) (rev : List Bool) : Prop := rev.length = xs.length ∧ ∀ i, i < xs.length → ∃ x r, xs[i]? = some x ∧ rev[i]? = some r ∧ (r = true → turns x.kind = true)
theorem fits_loop {L : Nat → Int → Option Bool} {xs : List DAgent} {rev : List Bool} (hl : rev.length = xs.length)
    (h : ∀ g (i : Nat) x r, xs[i]? = some x → rev[i]? = some r → L (g + 1) (i : Int) = bif r then (bif turns x.kind then L g ((i : Int) + 1) else some false) else L g ((i : Int) + 1)) (he : ∀ g, L (g + 1) (rev.length : Int) = some true) (g : Nat) (hg : rev.length < g) :
    (Fits xs rev ∧ L g 0 = some true) ∨ (¬ Fits xs rev ∧ L g 0 = some false) := by
  have key := allO (L := L) (n := rev.length) (p := fun i => ∃ x r, xs[i]? = some x ∧ rev[i]? = some r ∧ (r = true → turns x.kind = true)) (no := some false) (K := some true)
    (fun g i hi ⟨x, r, hx, hr, h1⟩ => by
      rw [h g i x r hx hr]
      cases r with
      | false => rfl
      | true => rw [h1 rfl]; rfl)
    (fun g i hi hn => by
      have hx := List.getElem?_eq_getElem (show i < xs.length by omega)
      have hr := List.getElem?_eq_getElem hi
      rw [h g i _ _ hx hr]
      cases h1 : rev[i] with
      | false => exact absurd ⟨_, _, hx, hr, fun e => by rw [h1] at e; cases e⟩ hn
      | true =>
        cases h2 : turns xs[i].kind with
        | false => rfl
        | true => exact absurd ⟨_, _, hx, hr, fun _ => h2⟩ hn)
    he g hg
  rcases key with ⟨h1, h2⟩ | ⟨h1, h2⟩
  · exact .inl ⟨⟨hl, fun i hi => h1 i (by omega)⟩, h2⟩
  · exact .inr ⟨fun hf => h1 (fun i hi => hf.2 i (by omega)), h2⟩
theorem p_sFits (d : DNet) (rev : List Bool) : (Fits d.agents rev ∧ m_spec_l19Fits d rev = some true) ∨ (¬ Fits d.agents rev ∧ m_spec_l19Fits d rev = some false) := by
  obtain ⟨xs⟩ := d
  unfold m_spec_l19Fits
  by_cases hl : rev.length = xs.length
  · have e : ((rev.length : Int) != (xs.length : Int)) = false := by simp [hl]
    rw [e, cond_false]
    exact fits_loop hl (fun g i x r hx hr => by
      have hi := lt_of_some hr
      simp -implicitDefEqProofs only [m_spec_l19Fits_L1, m_spec_l19Fits_B1, dlt hi, cond_true, getI_nat hr, getI_nat hx, Option.bind_some])
      (fun g => by simp -implicitDefEqProofs only [m_spec_l19Fits_L1, m_spec_l19Fits_B1, dge, cond_false, m_spec_l19Fits_A1]) _ (Nat.lt_succ_self _)
  · have e : ((rev.length : Int) != (xs.length : Int)) = true := by simp; omega
    rw [e, cond_true]
    exact .inr ⟨fun h => hl h.1, rfl⟩
theorem rev_at {rev : List Bool} {i k : Nat} {r : Bool} (hr : rev[i]? = some r) : revAt rev ⟨(i : Int), (k : Int)⟩ = r := by simp [revAt, hr]
theorem agentOk_len {x : DAgent} (h : agentOk x = true) : (x.ports.length : Int) ≤ roleMost x.kind := by
  unfold agentOk at h
  simp only [Bool.and_eq_true, decide_eq_true_eq] at h
  have h2 := h.1.1.2
  have h1 := h.1.1.1
  unfold fieldsN at h1 h2
  unfold roleMost
  by_cases k9 : x.kind = 9
  · simp only [k9, if_true, portsOf] at h1 h2 ⊢
    split at h1
    · split at h2 <;> omega
    · omega
  · simp only [k9, if_false] at h1 h2 ⊢
    omega
theorem role_eq {xs : List DAgent} {rev : List Bool} (G : Good xs) (F : Fits xs rev) {i k : Nat} {x : DAgent} {r : Bool} (hx : xs[i]? = some x) (hr : rev[i]? = some r) (hk : k < x.ports.length) : roleSpec x.kind k r = portRole x.kind k r := by
  have h1 := agentOk_len (G.ok i x hx)
  obtain ⟨x', r', hx', hr', h2⟩ := F.2 i (lt_of_some hx)
  rw [hx] at hx'; injection hx' with e; subst e
  rw [hr] at hr'; injection hr' with e; subst e
  rw [roleSpec_eq (by omega) (by omega) h2]
  unfold portRole
  have hn : ¬ ((k : Int) < 0 ∨ roleMost x.kind ≤ (k : Int) ∨ (r = true ∧ turns x.kind = false)) := by
    rintro (h | h | ⟨h, h'⟩)
    · omega
    · omega
    · rw [h2 h] at h'; cases h'
  rw [if_neg hn]
open Classical in
noncomputable def countRoles (d : DNet) (rev : List Bool) : Int × Int × Int :=
  if validNet d = true ∧ Fits d.agents rev then (((allPorts d.agents).foldl (upd d.agents rev) (0, 0)).1, ((allPorts d.agents).foldl (upd d.agents rev) (0, 0)).2, 0) else (0, 0, 1)
theorem upd_at {xs : List DAgent} {rev : List Bool} {i k : Nat} {x : DAgent} {r : Bool} (hx : xs[i]? = some x) (hr : rev[i]? = some r) (s : Int × Int) : upd xs rev s ⟨(i : Int), (k : Int)⟩ = bif portRole x.kind k r == 1 then (s.1 + 1, s.2) else (s.1, s.2 + 1) := by
  unfold upd isIn
  rw [rev_at hr]
  simp only [agentAt_nat hx]
theorem p_sCountRoles (d : DNet) (rev : List Bool) (hs : Small d.agents) : m_spec_CountRoles d rev = some (countRoles d rev) := by
  obtain ⟨xs⟩ := d
  have hs : Small xs := hs
  have hl := hs.len
  have ha := hs.all
  unfold m_spec_CountRoles countRoles
  rw [p_ok _ hs, Option.bind_some]
  cases hv : validNet ⟨xs⟩ with
  | false => simp
  | true =>
    have G : Good xs := good hv
    rw [cond_true]
    rcases p_sFits ⟨xs⟩ rev with ⟨F, e⟩ | ⟨F, e⟩
    · rw [e, Option.bind_some, cond_true, if_pos ⟨rfl, F⟩]
      have F : Fits xs rev := F
      have hb : ∀ n, n ≤ xs.length → ((List.range n).flatMap fun k => agentPorts k ((xs[k]?).getD default)).length ≤ 1048576 := by
        intro n hn
        have e := portsFrom_flat' xs
        have : List.range xs.length = List.range n ++ (List.range (xs.length - n)).map (n + ·) := by rw [← List.range_add]; congr 1; omega
        rw [this, List.flatMap_append] at e
        have := congrArg List.length e
        rw [List.length_append] at this
        omega
      have key := foldL (L := fun g (s : Int × Int) i => m_spec_CountRoles_L1 ⟨xs⟩ rev m_spec_CountRoles_A1 g s.1 s.2 i) (d := List.range xs.length) (f := fun s i => (agentPorts i ((xs[i]?).getD default)).foldl (upd xs rev) s)
        (I := fun k s => 0 ≤ s.1 ∧ 0 ≤ s.2 ∧ s.1 + s.2 = (((List.range k).flatMap fun k => agentPorts k ((xs[k]?).getD default)).length : Nat)) (K := fun s => some (s.1, s.2, 0))
        (fun g i i' s hi' ⟨i1, i2, i3⟩ => by
          have hi := lt_of_some hi'
          rw [List.length_range] at hi
          obtain rfl : i = i' := by rw [List.getElem?_range hi] at hi'; injection hi'
          have hx := List.getElem?_eq_getElem hi
          obtain ⟨r, hr⟩ : ∃ r, rev[i]? = some r := ⟨_, List.getElem?_eq_getElem (show i < rev.length by rw [F.1]; exact hi)⟩
          have hb1 := hb (i + 1) hi
          rw [List.range_succ, List.flatMap_append, List.length_append, List.flatMap_cons, List.flatMap_nil, List.append_nil, hx, Option.getD_some, agentPorts_len] at hb1
          have inner := foldL (L := fun g' (s : Int × Int) k => m_spec_CountRoles_L2 ⟨xs⟩ rev (i : Int) (m_spec_CountRoles_A2 (m_spec_CountRoles_L1 ⟨xs⟩ rev m_spec_CountRoles_A1 g) (i : Int)) g' s.1 s.2 k)
            (d := agentPorts i xs[i]) (f := upd xs rev) (I := fun k s' => 0 ≤ s'.1 ∧ 0 ≤ s'.2 ∧ s'.1 + s'.2 = s.1 + s.2 + k) (K := fun s => m_spec_CountRoles_L1 ⟨xs⟩ rev m_spec_CountRoles_A1 g s.1 s.2 ((i : Int) + 1))
            (fun g' k p s' hp' ⟨j1, j2, j3⟩ => by
              have hk := lt_of_some hp'
              rw [agentPorts_len] at hk
              obtain rfl : p = ⟨(i : Int), (k : Int)⟩ := by
                have : (agentPorts i xs[i])[k]? = some ⟨(i : Int), (k : Int)⟩ := by simp [agentPorts, hk]
                rw [this] at hp'; injection hp' with e; exact e.symm
              have e1 := getI_lt hi
              have hq := role_eq G F hx hr hk
              have hu := upd_at (k := k) hx hr s'
              cases hb : portRole xs[i].kind k r == 1 with
              | false =>
                rw [hb, cond_false] at hu
                rw [hu]
                refine ⟨?_, j1, ?_, ?_⟩
                · simp -implicitDefEqProofs only [m_spec_CountRoles_L2, m_spec_CountRoles_B2, e1, Option.bind_some, dlt hk, cond_true, m_spec_l13Port, m_spec_l19At, getI_nat hx, getI_nat hr, hq, hb, cond_false]
                  rw [ck_ok (by omega), Option.bind_some]
                · simp only; omega
                · simp only; omega
              | true =>
                rw [hb, cond_true] at hu
                rw [hu]
                refine ⟨?_, ?_, j2, ?_⟩
                · simp -implicitDefEqProofs only [m_spec_CountRoles_L2, m_spec_CountRoles_B2, e1, Option.bind_some, dlt hk, cond_true, m_spec_l13Port, m_spec_l19At, getI_nat hx, getI_nat hr, hq, hb, cond_false]
                  rw [ck_ok (by omega), Option.bind_some]
                · simp only; omega
                · simp only; omega)
            (fun g' s' _ => by
              have e1 := getI_lt hi
              rw [agentPorts_len]
              simp -implicitDefEqProofs only [m_spec_CountRoles_L2, m_spec_CountRoles_B2, e1, Option.bind_some, dge, cond_false, m_spec_CountRoles_A2]
              rw [ck_ok (by omega), Option.bind_some])
            (xs[i].ports.length + 1) s (by rw [agentPorts_len]; omega) ⟨i1, i2, by omega⟩
          obtain ⟨n1, n2, n3, n4⟩ := inner
          refine ⟨?_, ?_⟩
          · have e1 := getI_lt hi
            simp -implicitDefEqProofs only [m_spec_CountRoles_L1, m_spec_CountRoles_B1, dlt hi, cond_true, e1, Option.getD_some, hx]
            exact n1
          · rw [hx, Option.getD_some]
            refine ⟨n2, n3, ?_⟩
            rw [List.range_succ, List.flatMap_append, List.length_append, List.flatMap_cons, List.flatMap_nil, List.append_nil, hx, Option.getD_some]
            omega)
        (fun g s _ => by
          rw [List.length_range]
          simp -implicitDefEqProofs only [m_spec_CountRoles_L1, m_spec_CountRoles_B1, dge, cond_false, m_spec_CountRoles_A1])
        (xs.length + 1) (0, 0) (by simp) (by simp)
      have e2 : (allPorts xs).foldl (upd xs rev) (0, 0) = (List.range xs.length).foldl (fun s i => (agentPorts i ((xs[i]?).getD default)).foldl (upd xs rev) s) (0, 0) := by
        rw [portsFrom_flat', List.foldl_flatMap]
      rw [e2]
      exact key.1
    · rw [e, Option.bind_some, cond_false, if_neg (fun h => F h.2)]

theorem p_iFits (d : DNet) (rev : List Bool) : (Fits d.agents rev ∧ m_impl_Net_fits d rev = some true) ∨ (¬ Fits d.agents rev ∧ m_impl_Net_fits d rev = some false) := by
  obtain ⟨xs⟩ := d
  unfold m_impl_Net_fits
  by_cases hl : rev.length = xs.length
  · have e : ((rev.length : Int) != (xs.length : Int)) = false := by simp [hl]
    rw [e, cond_false]
    exact fits_loop hl (fun g i x r hx hr => by
      have hi := lt_of_some hr
      simp -implicitDefEqProofs only [m_impl_Net_fits_L1, m_impl_Net_fits_B1, dlt hi, cond_true, getI_nat hr, getI_nat hx, Option.bind_some])
      (fun g => by simp -implicitDefEqProofs only [m_impl_Net_fits_L1, m_impl_Net_fits_B1, dge, cond_false, m_impl_Net_fits_A1]) _ (Nat.lt_succ_self _)
  · have e : ((rev.length : Int) != (xs.length : Int)) = true := by simp; omega
    rw [e, cond_true]
    exact .inr ⟨fun h => hl h.1, rfl⟩
theorem mem_allPorts {xs : List DAgent} {p : DPort} (h : p ∈ allPorts xs) : ∃ (i k : Nat) (x : DAgent), xs[i]? = some x ∧ k < x.ports.length ∧ p = ⟨(i : Int), (k : Int)⟩ := by
  obtain ⟨j, x, k, h1, h2, rfl⟩ := mem_portsFrom.1 h
  exact ⟨j, k, x, h1, h2, by simp⟩
theorem p_iCountRoles (d : DNet) (rev : List Bool) (hs : Small d.agents) : m_impl_CountRoles d rev = some (countRoles d rev) := by
  obtain ⟨xs⟩ := d
  have hs : Small xs := hs
  have hl := hs.len
  have ha := hs.all
  unfold m_impl_CountRoles countRoles
  rw [p_valid _ hs, Option.bind_some]
  cases hv : validNet ⟨xs⟩ with
  | false => simp
  | true =>
    have G : Good xs := good hv
    rw [cond_true]
    rcases p_iFits ⟨xs⟩ rev with ⟨F, e⟩ | ⟨F, e⟩
    · rw [e, Option.bind_some, cond_true, if_pos ⟨rfl, F⟩, p_ports _ hs, Option.bind_some]
      have F : Fits xs rev := F
      have key := foldL (L := fun g (s : Int × Int) i => m_impl_CountRoles_L1 ⟨xs⟩ rev (allPorts xs) m_impl_CountRoles_A1 g s.1 s.2 i) (d := allPorts xs) (f := upd xs rev)
        (I := fun k s => 0 ≤ s.1 ∧ 0 ≤ s.2 ∧ s.1 + s.2 = (k : Nat)) (K := fun s => some (s.1, s.2, 0))
        (fun g k p s hp ⟨j1, j2, j3⟩ => by
          have hk := lt_of_some hp
          obtain ⟨i, q, x, hx, hq, rfl⟩ := mem_allPorts (List.mem_of_getElem? hp)
          obtain ⟨r, hr⟩ : ∃ r, rev[i]? = some r := ⟨_, List.getElem?_eq_getElem (show i < rev.length by rw [F.1]; exact lt_of_some hx)⟩
          have hu := upd_at (k := q) hx hr s
          cases hb : portRole x.kind q r == 1 with
          | false =>
            rw [hb, cond_false] at hu
            rw [hu]
            refine ⟨?_, j1, ?_, ?_⟩
            · simp -implicitDefEqProofs only [m_impl_CountRoles_L1, m_impl_CountRoles_B1, getI_nat hp, Option.bind_some, dlt hk, cond_true, m_impl_Net_role, getI_nat hx, getI_nat hr, hb, cond_false]
              rw [ck_ok (by omega), Option.bind_some]
            · simp only; omega
            · simp only; omega
          | true =>
            rw [hb, cond_true] at hu
            rw [hu]
            refine ⟨?_, ?_, j2, ?_⟩
            · simp -implicitDefEqProofs only [m_impl_CountRoles_L1, m_impl_CountRoles_B1, getI_nat hp, Option.bind_some, dlt hk, cond_true, m_impl_Net_role, getI_nat hx, getI_nat hr, hb, cond_false]
              rw [ck_ok (by omega), Option.bind_some]
            · simp only; omega
            · simp only; omega)
        (fun g s _ => by
          simp -implicitDefEqProofs only [m_impl_CountRoles_L1, m_impl_CountRoles_B1, dge, cond_false, m_impl_CountRoles_A1])
        ((allPorts xs).length + 1) (0, 0) (by omega) (by simp)
      exact key.1
    · rw [e, Option.bind_some, cond_false, if_neg (fun h => F h.2)]

def cls (x y : DAgent) : Int := if (x.kind = 9 ∧ y.kind = 10 ∧ (y.data.length : Int) ≤ x.value) ∨ (x.kind = 10 ∧ y.kind = 9 ∧ (x.data.length : Int) ≤ y.value) then 8 else pairClass x.kind x.level y.kind y.level
theorem p_class (x y : DAgent) : m_spec_l13Class x y = some (cls x y) := by
  unfold m_spec_l13Class cls
  simp only [Bool.cond_eq_ite, beq_iff_eq, decide_eq_true_eq, ge_iff_le]
  by_cases h1 : x.kind = 9
  · have h1' : ¬ x.kind = 10 := by omega
    by_cases h2 : y.kind = 10
    · by_cases h3 : (y.data.length : Int) ≤ x.value <;> simp [h1, h2, h3]
    · simp [h1, h2]
  · by_cases h2 : x.kind = 10
    · by_cases h3 : y.kind = 9
      · by_cases h4 : (x.data.length : Int) ≤ y.value <;> simp [h2, h3, h4]
      · simp [h2, h3]
    · simp [h1, h2]
/-- An active pair of a net. -/
def PairIn (xs : List DAgent) (p : DPair) : Prop := ∃ (i j : Nat) (x y : DAgent), p = ⟨(i : Int), (j : Int)⟩ ∧ i < j ∧ xs[i]? = some x ∧ xs[j]? = some y ∧ x.kind ≠ 1 ∧ y.kind ≠ 1 ∧ x.ports[0]? = some ⟨(j : Int), 0⟩
theorem pairsOf_in {xs : List DAgent} (G : Good xs) {p : DPair} (h : p ∈ pairsOf xs) : PairIn xs p := by
  unfold pairsOf at h
  rw [List.mem_flatMap] at h
  obtain ⟨i, hi, hp⟩ := h
  have hi : i < xs.length := by simpa using hi
  have hx := List.getElem?_eq_getElem hi
  have h0 := G.pos hx
  have hq := List.getElem?_eq_getElem h0
  rw [pairAt_eq hx hq] at hp
  split at hp
  · rename_i hc
    have hp : p = ⟨(i : Int), xs[i].ports[0].agent⟩ := by simpa using hp
    have hb := G.ports i _ hx 0 h0
    unfold badPort at hb
    have ep : peer xs ⟨(i : Int), ((0 : Nat) : Int)⟩ = xs[i].ports[0] := peer_of hx hq
    rw [ep] at hb
    simp only [Bool.or_eq_false_iff, Bool.not_eq_false'] at hb
    obtain ⟨j, k, y, he, hy, hk, _⟩ := hasPort_at hb.1.2
    have hk0 : k = 0 := by have h := hc.1; rw [he] at h; simp only at h; omega
    subst hk0
    have hj : xs[i].ports[0].agent = (j : Int) := by rw [he]
    refine ⟨i, j, xs[i], y, by rw [hp, hj], by have := hc.2.1; omega, hx, hy, hc.2.2, ?_, by rw [hq, he]; rfl⟩
    intro h1
    have := (G.root j y hy).1 h1
    have := hc.2.1
    omega
  · simp at hp
noncomputable def firstClash (d : DNet) : Int × Int :=
  bif validNet d then (match (pairsOf d.agents).findIdx? (fun p => cls (agentAt d.agents p.a) (agentAt d.agents p.b) == 8) with | some i => ((i : Int), 0) | none => (0, 3)) else (0, 1)
theorem p_sFirstClash (d : DNet) (hs : Small d.agents) : m_spec_FirstClash d = some (firstClash d) := by
  obtain ⟨xs⟩ := d
  have hs : Small xs := hs
  unfold m_spec_FirstClash firstClash
  rw [p_ok _ hs, Option.bind_some]
  cases hv : validNet ⟨xs⟩ with
  | false => rfl
  | true =>
    have G : Good xs := good hv
    rw [cond_true, cond_true, p_sPairs (good hv), Option.bind_some]
    have key := findI (L := m_spec_FirstClash_L1 ⟨xs⟩ (pairsOf xs) m_spec_FirstClash_A1) (d := pairsOf xs) (q := fun p => cls (agentAt xs p.a) (agentAt xs p.b) == 8) (hit := fun i => some ((i : Int), 0)) (K := some (0, 3))
      (fun g k p hp => by
        have hk := lt_of_some hp
        obtain ⟨i, j, x, y, rfl, hij, hx, hy, _⟩ := pairsOf_in G (List.mem_of_getElem? hp)
        simp -implicitDefEqProofs only [m_spec_FirstClash_L1, m_spec_FirstClash_B1, getI_nat hp, Option.bind_some, dlt hk, cond_true, getI_nat hx, getI_nat hy, p_class, agentAt_nat hx, agentAt_nat hy]
        cases cls x y == 8 <;> rfl)
      (fun g => by simp -implicitDefEqProofs only [m_spec_FirstClash_L1, m_spec_FirstClash_B1, dge, cond_false, m_spec_FirstClash_A1]) ((pairsOf xs).length + 1) (Nat.lt_succ_self _)
    refine key.trans ?_
    simp only
    cases (pairsOf xs).findIdx? (fun p => cls (agentAt xs p.a) (agentAt xs p.b) == 8) <;> rfl

def clsF (x y : DAgent) : Bool := bif cls x y == 8 && !(pairClass x.kind x.level y.kind y.level == 8) then false else pairFirst x.kind x.level y.kind y.level == 2
theorem agentOk_allowed {x : DAgent} (h : agentOk x = true) : allowed x.kind x.level = true := by
  unfold agentOk at h
  simp only [Bool.and_eq_true] at h
  exact h.1.2
theorem p_classOf {d : DNet} {p : DPair} (G : Good d.agents) (h : PairIn d.agents p) : m_impl_Net_classOf d p = some (cls (agentAt d.agents p.a) (agentAt d.agents p.b), clsF (agentAt d.agents p.a) (agentAt d.agents p.b)) := by
  obtain ⟨xs⟩ := d
  have G : Good xs := G
  obtain ⟨i, j, x, y, rfl, hij, hx, hy, h1, h2, _⟩ := h
  have hx : xs[i]? = some x := hx
  have hy : xs[j]? = some y := hy
  have hm : mayPair x.kind x.level y.kind y.level = true := by
    unfold mayPair
    rw [agentOk_allowed (G.ok i x hx), agentOk_allowed (G.ok j y hy)]
    simp [h1, h2]
  unfold m_impl_Net_classOf
  simp only [getI_nat hx, getI_nat hy, Option.bind_some, agentAt_nat hx, agentAt_nat hy]
  have hc : pairClass x.kind x.level y.kind y.level = if rule x.kind x.level y.kind y.level ≠ 0 then rule x.kind x.level y.kind y.level else if rule y.kind y.level x.kind x.level ≠ 0 then rule y.kind y.level x.kind x.level else 8 := by
    unfold pairClass; rw [if_pos hm]
  have hf : pairFirst x.kind x.level y.kind y.level = if rule x.kind x.level y.kind y.level ≠ 0 then 1 else if rule y.kind y.level x.kind x.level ≠ 0 then 2 else 0 := by
    unfold pairFirst; rw [if_pos hm]
  have k1 : rule x.kind x.level y.kind y.level = 6 → y.kind = 10 → x.kind = 9 := by unfold rule; grind
  have k2 : rule y.kind y.level x.kind x.level = 6 → x.kind = 10 → y.kind = 9 := by unfold rule; grind
  have k3 : x.kind = 9 → y.kind = 10 → rule x.kind x.level y.kind y.level = 6 := by unfold rule; grind
  have k4 : x.kind = 10 → rule x.kind x.level y.kind y.level = 0 := by unfold rule; grind
  have k5 : y.kind = 9 → x.kind = 10 → rule y.kind y.level x.kind x.level = 6 := by unfold rule; grind
  unfold clsF cls
  rw [hc, hf]
  generalize rule x.kind x.level y.kind y.level = ra at *
  generalize rule y.kind y.level x.kind x.level = rb at *
  simp only [Bool.cond_eq_ite, beq_iff_eq, decide_eq_true_eq, ge_iff_le]
  clear hc hf hm h1 h2
  grind
theorem p_index_pair (d : List DPair) (p : DPair → Option Bool) (q : DPair → Bool) (h : ∀ x ∈ d, p x = some (q x)) : m_slices_IndexFunc_impl_Pair_impl_Pair d p = some (match d.findIdx? q with | some i => (i : Int) | none => -1) := by
  unfold m_slices_IndexFunc_impl_Pair_impl_Pair
  have key := findI (L := m_slices_IndexFunc_impl_Pair_impl_Pair_L1 d p m_slices_IndexFunc_impl_Pair_impl_Pair_A1) (d := d) (q := q) (hit := fun i => some (i : Int)) (K := some (-1))
    (fun g k x hx => by
      have hk := lt_of_some hx
      simp -implicitDefEqProofs only [m_slices_IndexFunc_impl_Pair_impl_Pair_L1, m_slices_IndexFunc_impl_Pair_impl_Pair_B1, getI_nat hx, Option.bind_some, dlt hk, cond_true, h x (List.mem_of_getElem? hx)]
      cases q x <;> rfl)
    (fun g => by simp -implicitDefEqProofs only [m_slices_IndexFunc_impl_Pair_impl_Pair_L1, m_slices_IndexFunc_impl_Pair_impl_Pair_B1, dge, cond_false, m_slices_IndexFunc_impl_Pair_impl_Pair_A1]) (d.length + 1) (Nat.lt_succ_self _)
  refine key.trans ?_
  cases d.findIdx? q <;> rfl
theorem p_iFirstClash (d : DNet) (hs : Small d.agents) : m_impl_FirstClash d = some (firstClash d) := by
  unfold m_impl_FirstClash firstClash
  rw [p_valid _ hs, Option.bind_some]
  cases hv : validNet d with
  | false => rfl
  | true =>
    have G := good hv
    rw [cond_true, cond_true, p_iPairs G, Option.bind_some]
    have key := p_index_pair (pairsOf d.agents) (fun x0 => m_impl_FirstClash_1 x0 d) (fun p => cls (agentAt d.agents p.a) (agentAt d.agents p.b) == 8) (fun p hp => by
      simp only [m_impl_FirstClash_1, p_classOf G (pairsOf_in G hp), Option.bind_some])
    rw [key, Option.bind_some]
    cases (pairsOf d.agents).findIdx? (fun p => cls (agentAt d.agents p.a) (agentAt d.agents p.b) == 8) with
    | none => rfl
    | some i =>
      have : decide ((i : Int) < 0) = false := by simp
      simp only [this, cond_false]

end Go.Proofs.Ytjddeofchiohkaa
