/- PeerOf, CountKind, ActivePairs, WiresOf: the models on data. -/
import Derived.Test.YtampijkiidjcmaaPN
import Derived.Test.YtampijkiidjcmaaIntsV
namespace Go.Proofs.Ytampijkiidjcmaa
open Go.RowKit
set_option linter.unusedVariables false
set_option linter.unusedSimpArgs false
/-- A loop that appends f k at index k. -/
theorem appI {α ρ : Type} {L : Nat → List α → Int → Option ρ} {f : Nat → List α} {n M : Nat} {K : List α → Option ρ} (h : ∀ g (k : Nat) acc, k < n → acc.length + (f k).length ≤ M → L (g + 1) acc (k : Int) = L g (acc ++ f k) ((k : Int) + 1)) (he : ∀ g acc, L (g + 1) acc (n : Int) = K acc) :
    ∀ (k0 : Nat) acc g, k0 ≤ n → n < g + k0 → acc.length + ((List.range' k0 (n - k0)).flatMap f).length ≤ M → L g acc (k0 : Int) = K (acc ++ (List.range' k0 (n - k0)).flatMap f) := by
  have key : ∀ d k0 acc g, k0 + d = n → d < g → acc.length + ((List.range' k0 d).flatMap f).length ≤ M → L g acc (k0 : Int) = K (acc ++ (List.range' k0 d).flatMap f) := by
    intro d
    induction d with
    | zero =>
      intro k0 acc g hk hg hM
      obtain ⟨g, rfl⟩ : ∃ g', g = g' + 1 := ⟨g - 1, by omega⟩
      obtain rfl : k0 = n := by omega
      rw [he g]; simp
    | succ d ih =>
      intro k0 acc g hk hg hM
      obtain ⟨g, rfl⟩ : ∃ g', g = g' + 1 := ⟨g - 1, by omega⟩
      rw [List.range'_succ, List.flatMap_cons, List.length_append] at hM
      rw [h g k0 acc (by omega) (by omega)]
      have := ih (k0 + 1) (acc ++ f k0) g (by omega) (by omega) (by rw [List.length_append]; omega)
      rw [List.range'_succ, List.flatMap_cons, ← List.append_assoc]
      simpa using this
  intro k0 acc g hk hg hM
  exact key (n - k0) k0 acc g (by omega) (by omega) hM
noncomputable def peerOf (d : DNet) (p : DPort) : DPort × Int := bif validNet d then (bif hasPort d.agents p then (peer d.agents p, 0) else (⟨0, 0⟩, 2)) else (⟨0, 0⟩, 1)
def cntK (k : Int) (xs : List DAgent) : Nat := (xs.filter fun x => x.kind == k).length
theorem cntK_take {k : Int} {xs : List DAgent} {i : Nat} {x : DAgent} (h : xs[i]? = some x) : cntK k (xs.take (i + 1)) = cntK k (xs.take i) + if x.kind == k then 1 else 0 := by
  rw [take_succ_some h, cntK, List.filter_append, List.length_append, cntK]
  congr 1
  by_cases hk : (x.kind == k) = true <;> simp [hk]
theorem cntK_le (k : Int) (xs : List DAgent) : cntK k xs ≤ xs.length := List.length_filter_le _ _
theorem cntK_take_le (k : Int) (xs : List DAgent) (i : Nat) : cntK k (xs.take i) ≤ xs.length := by
  have h := cntK_le k (xs.take i)
  have : (xs.take i).length ≤ xs.length := by rw [List.length_take]; omega
  omega
noncomputable def countKind (d : DNet) (k : Int) : Int × Int := bif validNet d then (bif isKind k then ((cntK k d.agents : Int), 0) else (0, 2)) else (0, 1)
theorem portsOf_kind {k f : Int} (h : 0 < portsOf k f) : 1 ≤ k ∧ k ≤ 12 := by
  unfold portsOf at h
  split at h
  · omega
  · split at h
    · omega
    · split at h
      · omega
      · split at h
        · omega
        · split at h <;> omega
structure Good (xs : List DAgent) : Prop where
  one : 1 ≤ xs.length
  len : xs.length ≤ 600
  ok : ∀ (i : Nat) (x : DAgent), xs[i]? = some x → agentOk x = true
  root : ∀ (i : Nat) (x : DAgent), xs[i]? = some x → (x.kind = 1 ↔ i = 0)
  ports : PortsOk xs
theorem good {d : DNet} (h : validNet d = true) : Good d.agents := by
  obtain ⟨⟨h1, h2, h3⟩, h4⟩ := validNet_iff.1 h
  exact ⟨h1, h2, fun i x hx => (h3 i x hx).1, fun i x hx => by have := (h3 i x hx).2; simpa using this, h4⟩
theorem agentOk_pos {x : DAgent} (h : agentOk x = true) : 0 < x.ports.length ∧ 1 ≤ x.kind ∧ x.kind ≤ 12 := by
  unfold agentOk at h
  simp only [Bool.and_eq_true, decide_eq_true_eq] at h
  have := portsOf_kind h.1.1.1
  omega
theorem Good.pos {xs : List DAgent} (G : Good xs) {i : Nat} {x : DAgent} (hx : xs[i]? = some x) : 0 < x.ports.length := (agentOk_pos (G.ok i x hx)).1
def pairAt (xs : List DAgent) (i : Nat) : List DPair :=
  let x := agentAt xs i
  let q := peer xs ⟨i, 0⟩
  if q.slot = 0 ∧ (i : Int) < q.agent ∧ x.kind ≠ 1 then [⟨i, q.agent⟩] else []
theorem pairAt_le (xs : List DAgent) (i : Nat) : (pairAt xs i).length ≤ 1 := by
  unfold pairAt; simp only; split <;> simp
theorem flat_le {α β : Type} {f : α → List β} (h : ∀ a, (f a).length ≤ 1) : ∀ l : List α, (l.flatMap f).length ≤ l.length
  | [] => by simp
  | a :: l => by have := flat_le h l; have := h a; simp only [List.flatMap_cons, List.length_append, List.length_cons]; omega
theorem pairAt_eq {xs : List DAgent} {i : Nat} {x : DAgent} {q : DPort} (hx : xs[i]? = some x) (hq : x.ports[0]? = some q) : pairAt xs i = if q.slot = 0 ∧ (i : Int) < q.agent ∧ x.kind ≠ 1 then [⟨i, q.agent⟩] else [] := by
  unfold pairAt
  simp only [agentAt_nat hx]
  have : peer xs ⟨(i : Int), 0⟩ = q := peer_of (k := 0) hx hq
  rw [this]
def pairsOf (xs : List DAgent) : List DPair := (List.range' 0 xs.length).flatMap (pairAt xs)
theorem pairs_one {xs : List DAgent} (G : Good xs) : pairsOf xs = (List.range' 1 (xs.length - 1)).flatMap (pairAt xs) := by
  have h1 := G.one
  obtain ⟨n, hn⟩ : ∃ n, xs.length = n + 1 := ⟨xs.length - 1, by omega⟩
  have hx := List.getElem?_eq_getElem (show 0 < xs.length by omega)
  have hk := (G.root 0 _ hx).2 rfl
  have h0 : pairAt xs 0 = [] := by
    rw [pairAt_eq hx (List.getElem?_eq_getElem (G.pos hx))]
    simp [hk]
  unfold pairsOf
  rw [hn, List.range'_succ, List.flatMap_cons, h0]
  simp
theorem p_sPairs {d : DNet} (G : Good d.agents) : m_spec_l11Pairs d = some (pairsOf d.agents) := by
  obtain ⟨xs⟩ := d
  have G : Good xs := G
  have h1 := G.one
  have hl := G.len
  unfold m_spec_l11Pairs
  rw [pairs_one G]
  have key := appI (L := fun g acc (i : Int) => m_spec_l11Pairs_L1 ⟨xs⟩ m_spec_l11Pairs_A1 g acc (i + 1)) (f := fun k => pairAt xs (k + 1)) (n := xs.length - 1) (M := 4294967296) (K := some)
    (fun g k acc hk hM => by
      have hk1 : k + 1 < xs.length := by omega
      have hx := List.getElem?_eq_getElem hk1
      have hp := G.pos hx
      have hq := List.getElem?_eq_getElem hp
      have hr : xs[k + 1].kind ≠ 1 := fun h => by have := (G.root _ _ hx).1 h; omega
      have h0 : (xs[k + 1].kind == 0) = false := by have := agentOk_pos (G.ok _ _ hx); simp; omega
      have e1 : getI xs ((k : Int) + 1) = some xs[k + 1] := getI_nat (k := k + 1) hx
      have e2 : getI xs[k + 1].ports 0 = some xs[k + 1].ports[0] := getI_nat (k := 0) hq
      have e0 : decide ((k : Int) + 1 < (xs.length : Int)) = true := by simp; omega
      rw [pairAt_eq hx hq] at hM ⊢
      generalize xs[k + 1].ports[0] = q at *
      simp -implicitDefEqProofs only [m_spec_l11Pairs_L1, m_spec_l11Pairs_B1, e0, cond_true, e1, e2, Option.bind_some, h0, cond_false]
      by_cases c1 : q.slot = 0
      · by_cases c2 : (k : Int) + 1 < q.agent
        · have c2' : ((k + 1 : Nat) : Int) < q.agent := by omega
          rw [if_pos ⟨c1, c2', hr⟩] at hM ⊢
          rw [show (q.slot == 0) = true by simpa using c1, show decide (q.agent > (k : Int) + 1) = true by simpa using c2, cond_true, cond_true, mustP_ok (by simpa using hM), Option.bind_some]
          simp only [Int.natCast_add, Int.cast_ofNat_Int]
        · have c2' : ¬ ((k + 1 : Nat) : Int) < q.agent := by omega
          rw [if_neg (fun h => c2' h.2.1), show (q.slot == 0) = true by simpa using c1, show decide (q.agent > (k : Int) + 1) = false by simpa using c2, cond_true, cond_false, List.append_nil]
      · rw [if_neg (fun h => c1 h.1), show (q.slot == 0) = false by simpa using c1, cond_false, List.append_nil])
    (fun g acc => by
      have e0 : decide (((xs.length - 1 : Nat) : Int) + 1 < (xs.length : Int)) = false := by simp; omega
      simp -implicitDefEqProofs only [m_spec_l11Pairs_L1, m_spec_l11Pairs_B1, e0, cond_false, m_spec_l11Pairs_A1])
    0 [] (xs.length + 1) (by omega) (by omega) (by
      have := flat_le (f := fun k => pairAt xs (k + 1)) (fun k => pairAt_le xs (k + 1)) (List.range' 0 (xs.length - 1 - 0))
      rw [List.length_range'] at this
      simp only [List.length_nil]; omega)
  have e : (List.range' 0 (xs.length - 1 - 0)).flatMap (fun k => pairAt xs (k + 1)) = (List.range' 1 (xs.length - 1)).flatMap (pairAt xs) := by
    have : List.range' 1 (xs.length - 1) = (List.range' 0 (xs.length - 1)).map (· + 1) := by rw [List.range'_eq_map_range, List.range_eq_range']; exact List.map_congr_left fun k _ => Nat.add_comm 1 k
    rw [this, List.flatMap_map]; rfl
  rw [e] at key
  simpa using key
noncomputable def activePairs (d : DNet) : List DPair × Int := bif validNet d then (pairsOf d.agents, 0) else ([], 1)
theorem activePairs_len (d : DNet) (hs : szNet d ≤ 1048576) : lenOk (activePairs d).1 := by
  unfold activePairs lenOk
  cases h : validNet d with
  | false => simp
  | true =>
    have hl := (good h).len
    have := flat_le (f := pairAt d.agents) (fun k => pairAt_le d.agents k) (List.range' 0 d.agents.length)
    rw [List.length_range'] at this
    show (pairsOf d.agents).length ≤ _
    unfold pairsOf; omega
theorem p_iPairs {d : DNet} (G : Good d.agents) : m_impl_Net_pairs d = some (pairsOf d.agents) := by
  obtain ⟨xs⟩ := d
  have G : Good xs := G
  have hl := G.len
  unfold m_impl_Net_pairs
  have key := appI (L := m_impl_Net_pairs_L1 ⟨xs⟩ m_impl_Net_pairs_A1) (f := pairAt xs) (n := xs.length) (M := 4294967296) (K := some)
    (fun g k acc hk hM => by
      have hx := List.getElem?_eq_getElem hk
      have hp := G.pos hx
      have hq := List.getElem?_eq_getElem hp
      have e2 : getI xs[k].ports 0 = some xs[k].ports[0] := getI_nat (k := 0) hq
      rw [pairAt_eq hx hq] at hM ⊢
      generalize xs[k].ports[0] = q at *
      simp -implicitDefEqProofs only [m_impl_Net_pairs_L1, m_impl_Net_pairs_B1, dlt hk, cond_true, getI_lt hk, e2, Option.bind_some]
      by_cases c1 : q.slot = 0
      · by_cases c2 : (k : Int) < q.agent
        · by_cases c3 : xs[k].kind = 1
          · rw [if_neg (fun h => h.2.2 c3), show (q.slot == 0) = true by simpa using c1, show decide (q.agent > (k : Int)) = true by simpa using c2, show (xs[k].kind != 1) = false by simpa using c3, cond_true, cond_true, cond_false, List.append_nil]
          · rw [if_pos ⟨c1, c2, c3⟩] at hM ⊢
            rw [show (q.slot == 0) = true by simpa using c1, show decide (q.agent > (k : Int)) = true by simpa using c2, show (xs[k].kind != 1) = true by simpa using c3, cond_true, cond_true, cond_true, mustP_ok (by simpa using hM), Option.bind_some]
        · rw [if_neg (fun h => c2 h.2.1), show (q.slot == 0) = true by simpa using c1, show decide (q.agent > (k : Int)) = false by simpa using c2, cond_true, cond_false, List.append_nil]
      · rw [if_neg (fun h => c1 h.1), show (q.slot == 0) = false by simpa using c1, cond_false, List.append_nil])
    (fun g acc => by
      simp -implicitDefEqProofs only [m_impl_Net_pairs_L1, m_impl_Net_pairs_B1, dge, cond_false, m_impl_Net_pairs_A1])
    0 [] (xs.length + 1) (by omega) (by omega) (by
      have := flat_le (f := pairAt xs) (fun k => pairAt_le xs k) (List.range' 0 (xs.length - 0))
      rw [List.length_range'] at this
      simp only [List.length_nil]; omega)
  simpa [pairsOf] using key
def before (p q : DPort) : Bool := decide (p.agent < q.agent) || (p.agent == q.agent && decide (p.slot < q.slot))
theorem p_before (p q : DPort) : m_spec_l11Before p q = some (before p q) := by
  unfold m_spec_l11Before before
  cases decide (p.agent < q.agent) <;> cases (p.agent == q.agent) <;> simp
def wireOf (xs : List DAgent) (p : DPort) : List DWire := bif before p (peer xs p) then [⟨p, peer xs p⟩] else []
theorem wireOf_le (xs : List DAgent) (p : DPort) : (wireOf xs p).length ≤ 1 := by
  unfold wireOf; cases before p (peer xs p) <;> simp
def wires (xs : List DAgent) : List DWire := (allPorts xs).flatMap (wireOf xs)
theorem portsFrom_flat : ∀ (i : Nat) (xs : List DAgent), portsFrom i xs = (List.range' i xs.length).flatMap fun k => agentPorts k ((xs[k - i]?).getD default)
  | i, [] => by simp [portsFrom]
  | i, x :: xs => by
    rw [portsFrom, portsFrom_flat (i + 1) xs, List.length_cons, List.range'_succ, List.flatMap_cons]
    simp only [Nat.sub_self, List.getElem?_cons_zero, Option.getD_some]
    congr 1
    rw [List.flatMap_def, List.flatMap_def]
    congr 1
    apply List.map_congr_left
    intro k hk
    rw [List.mem_range'_1] at hk
    obtain ⟨m, rfl⟩ : ∃ m, k = i + 1 + m := ⟨k - (i + 1), by omega⟩
    rw [show i + 1 + m - (i + 1) = m by omega, show i + 1 + m - i = m + 1 by omega, List.getElem?_cons_succ]
theorem p_sWires {d : DNet} (hs : Small d.agents) : m_spec_l11Wires d = some (wires d.agents) := by
  obtain ⟨xs⟩ := d
  have hs : Small xs := hs
  have hl := hs.len
  have ha := hs.all
  unfold m_spec_l11Wires
  have ew : wires xs = (List.range' 0 xs.length).flatMap fun k => (agentPorts k ((xs[k]?).getD default)).flatMap (wireOf xs) := by
    unfold wires allPorts
    rw [portsFrom_flat 0 xs, List.flatMap_assoc]
    simp
  have hw : (wires xs).length ≤ 1048576 := by
    have := flat_le (f := wireOf xs) (wireOf_le xs) (allPorts xs)
    unfold wires; omega
  have key := appI (L := m_spec_l11Wires_L1 ⟨xs⟩ m_spec_l11Wires_A1) (f := fun k => (agentPorts k ((xs[k]?).getD default)).flatMap (wireOf xs)) (n := xs.length) (M := 4294967296) (K := some)
    (fun g i acc hi hM => by
      have hx := List.getElem?_eq_getElem hi
      have e1 := getI_lt hi
      rw [hx, Option.getD_some] at hM ⊢
      have ei : (agentPorts i xs[i]).flatMap (wireOf xs) = (List.range' 0 (xs[i].ports.length - 0)).flatMap fun k => wireOf xs ⟨(i : Int), (k : Nat)⟩ := by
        rw [agentPorts, List.flatMap_map, List.range_eq_range', Nat.sub_zero]
      have inner := appI (L := m_spec_l11Wires_L2 ⟨xs⟩ (i : Int) (m_spec_l11Wires_A2 (m_spec_l11Wires_L1 ⟨xs⟩ m_spec_l11Wires_A1 g) (i : Int))) (f := fun k => wireOf xs ⟨(i : Int), (k : Nat)⟩) (n := xs[i].ports.length) (M := 4294967296) (K := fun acc => m_spec_l11Wires_L1 ⟨xs⟩ m_spec_l11Wires_A1 g acc ((i : Int) + 1))
        (fun g k acc hk hM => by
          have hq := List.getElem?_eq_getElem hk
          have e2 := getI_lt hk
          have ep : peer xs ⟨(i : Int), (k : Nat)⟩ = xs[i].ports[k] := peer_of hx hq
          unfold wireOf at hM ⊢
          rw [ep] at hM ⊢
          simp -implicitDefEqProofs only [m_spec_l11Wires_L2, m_spec_l11Wires_B2, e1, e2, Option.bind_some, dlt hk, cond_true, p_before]
          cases hb : before ⟨(i : Int), (k : Nat)⟩ xs[i].ports[k] with
          | false => rw [cond_false, cond_false, List.append_nil]
          | true =>
            rw [hb, cond_true] at hM
            rw [cond_true, cond_true, mustP_ok hM, Option.bind_some])
        (fun g acc => by
          simp -implicitDefEqProofs only [m_spec_l11Wires_L2, m_spec_l11Wires_B2, e1, Option.bind_some, dge, cond_false, m_spec_l11Wires_A2]
          rw [ck_ok (by omega), Option.bind_some])
        0 acc (xs[i].ports.length + 1) (by omega) (by omega) (by rw [← ei]; exact hM)
      rw [← ei] at inner
      simp -implicitDefEqProofs only [m_spec_l11Wires_L1, m_spec_l11Wires_B1, dlt hi, cond_true, e1, Option.getD_some]
      exact inner)
    (fun g acc => by
      simp -implicitDefEqProofs only [m_spec_l11Wires_L1, m_spec_l11Wires_B1, dge, cond_false, m_spec_l11Wires_A1])
    0 [] (xs.length + 1) (by omega) (by omega) (by rw [Nat.sub_zero, ← ew]; simp only [List.length_nil]; omega)
  rw [Nat.sub_zero, ← ew] at key
  simpa using key
noncomputable def wiresOf (d : DNet) : List DWire × Int := bif validNet d then (wires d.agents, 0) else ([], 1)
theorem wiresOf_len (d : DNet) (hs : szNet d ≤ 1048576) : lenOk (wiresOf d).1 := by
  unfold wiresOf lenOk
  cases h : validNet d with
  | false => simp
  | true =>
    have ha := Small.all (xs := d.agents) hs
    have := flat_le (f := wireOf d.agents) (wireOf_le d.agents) (allPorts d.agents)
    show (wires d.agents).length ≤ _
    unfold wires; omega
theorem p_ibefore (p q : DPort) : m_impl_Port_before p q = some (before p q) := by
  unfold m_impl_Port_before before
  cases decide (p.agent < q.agent) <;> cases (p.agent == q.agent) <;> simp
theorem flat_range {α β : Type} [Inhabited α] (f : α → List β) (l : List α) : (List.range' 0 (l.length - 0)).flatMap (fun k => f ((l[k]?).getD default)) = l.flatMap f := by
  have key : ∀ (i : Nat) (l : List α), (List.range' i l.length).flatMap (fun k => f ((l[k - i]?).getD default)) = l.flatMap f := by
    intro i l
    induction l generalizing i with
    | nil => simp
    | cons x l ih =>
      rw [List.length_cons, List.range'_succ, List.flatMap_cons, List.flatMap_cons, ← ih (i + 1)]
      simp only [Nat.sub_self, List.getElem?_cons_zero, Option.getD_some]
      congr 1
      rw [List.flatMap_def, List.flatMap_def]
      congr 1
      apply List.map_congr_left
      intro k hk
      rw [List.mem_range'_1] at hk
      obtain ⟨m, rfl⟩ : ∃ m, k = i + 1 + m := ⟨k - (i + 1), by omega⟩
      rw [show i + 1 + m - (i + 1) = m by omega, show i + 1 + m - i = m + 1 by omega, List.getElem?_cons_succ]
  simpa using key 0 l
theorem hasPort_all {xs : List DAgent} {p : DPort} (h : p ∈ allPorts xs) : hasPort xs p = true := by
  obtain ⟨j, x, k, h1, h2, rfl⟩ := mem_portsFrom.1 h
  have := hasPort_of h1 h2
  simpa using this
end Go.Proofs.Ytampijkiidjcmaa
