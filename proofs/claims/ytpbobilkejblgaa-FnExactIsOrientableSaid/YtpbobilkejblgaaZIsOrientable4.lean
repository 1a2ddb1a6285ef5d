/- Lemmas of the proof of IsOrientable, part 4. No condition. -/
import Derived.Test.YtpbobilkejblgaaZIsOrientable3
namespace Go.Proofs.Ytpbobilkejblgaa
section
open Go.RowKit
set_option linter.unusedVariables false
set_option linter.unusedSimpArgs false
theorem sv_set {l : List Bool} {i : Nat} {b : Bool} (hi : i < l.length) (j : Nat) : sv (l.set i b) (j : Int) = if i = j then b else sv l (j : Int) := by
  unfold sv
  simp only [Int.toNat_natCast]
  by_cases h : i = j
  · subst h; rw [List.getElem?_set_self hi, if_pos rfl]; rfl
  · rw [List.getElem?_set_ne h, if_neg h]
section
variable {xs : List DAgent}
def dst (xs : List DAgent) (s : List Bool × List Bool) (p : DPort) : List Bool × List Bool :=
  if sv s.1 p.agent = true ∧ sv s.1 (peer xs p).agent = false then (s.1.set (peer xs p).agent.toNat true, s.2.set (peer xs p).agent.toNat (sv s.2 p.agent ^^ kk xs p)) else s
structure Inv (xs : List DAgent) (s : List Bool × List Bool) : Prop where
  l1 : s.1.length = xs.length
  l2 : s.2.length = xs.length
  unk : ∀ i : Nat, i < xs.length → sv s.1 (i : Int) = false → sv s.2 (i : Int) = false
  fix : ∀ (i : Nat) (x : DAgent), xs[i]? = some x → turns x.kind = false → sv s.1 (i : Int) = true ∧ sv s.2 (i : Int) = false
def Agree (S : List Bool) (s : List Bool × List Bool) : Prop := ∀ i : Nat, i < s.1.length → sv s.1 (i : Int) = true → sv s.2 (i : Int) = sv S (i : Int)
def FirstI (xs : List DAgent) (s : List Bool × List Bool) : Prop := ∀ D a, Part xs D a → (∀ i, D i → sv s.1 (i : Int) = false) ∨ (sv s.1 (a : Int) = true ∧ sv s.2 (a : Int) = false)
structure PInv (xs : List DAgent) (s : List Bool × List Bool) : Prop where
  inv : Inv xs s
  first : FirstI xs s
  sol : (∃ S, Sol xs S) → ∃ S, Sol xs S ∧ Agree S s
theorem dst_case {s : List Bool × List Bool} {p : DPort} (G : Good xs) (I : Inv xs s) (hp : hasPort xs p = true) :
    dst xs s p = s ∨ ∃ i j : Nat, p.agent = (i : Int) ∧ (peer xs p).agent = (j : Int) ∧ i < xs.length ∧ j < xs.length ∧ sv s.1 (i : Int) = true ∧ sv s.1 (j : Int) = false ∧ dst xs s p = (s.1.set j true, s.2.set j (sv s.2 (i : Int) ^^ kk xs p)) := by
  obtain ⟨i, e, hi⟩ := port_nat hp
  obtain ⟨j, e', hj⟩ := port_nat (G.peer hp).1
  unfold dst
  rw [e, e']
  by_cases h : sv s.1 (i : Int) = true ∧ sv s.1 (j : Int) = false
  · rw [if_pos h]; exact .inr ⟨i, j, rfl, rfl, hi, hj, h.1, h.2, by simp⟩
  · rw [if_neg h]; exact .inl rfl
theorem dst_pinv {s : List Bool × List Bool} {p : DPort} (G : Good xs) (P : PInv xs s) (hp : hasPort xs p = true) : PInv xs (dst xs s p) := by
  have I := P.inv
  rcases dst_case G I hp with e | ⟨a, b, ea, eb, ha, hb, ka, kb, e⟩
  · rw [e]; exact P
  · rw [e]
    have s1 := fun j => sv_set (l := s.1) (i := b) (b := true) (by rw [I.l1]; exact hb) j
    have s2 := fun j => sv_set (l := s.2) (i := b) (b := sv s.2 (a : Int) ^^ kk xs p) (by rw [I.l2]; exact hb) j
    refine ⟨⟨by simp [I.l1], by simp [I.l2], fun i hi h => ?_, fun i x hx ht => ?_⟩, fun D c Q => ?_, fun hS => ?_⟩
    · simp only at h ⊢
      rw [s1] at h
      split at h
      · cases h
      · rename_i hne; rw [s2, if_neg hne]; exact I.unk i hi h
    · simp only
      obtain ⟨f1, f2⟩ := I.fix i x hx ht
      have hne : b ≠ i := fun e2 => by rw [e2, f1] at kb; cases kb
      rw [s1, s2, if_neg hne, if_neg hne]; exact ⟨f1, f2⟩
    · simp only
      have hpp := G.peer hp
      rcases P.first D c Q with h | ⟨h1, h2⟩
      · by_cases hDb : D b
        · have hDa : D a := by
            have := Q.shut _ hpp.1 (by rw [eb]; simpa using hDb)
            rw [hpp.2.1, ea] at this
            simpa using this
          rw [h a hDa] at ka; cases ka
        · left
          intro i hi
          rw [s1, if_neg (fun e2 : b = i => hDb (by rw [e2]; exact hi))]; exact h i hi
      · right
        have hne : b ≠ c := fun e2 => by rw [e2, h1] at kb; cases kb
        rw [s1, s2, if_neg hne, if_neg hne]; exact ⟨h1, h2⟩
    · obtain ⟨S, h1, h2⟩ := P.sol hS
      refine ⟨S, h1, fun i hi hk => ?_⟩
      simp only at hi hk ⊢
      simp only [List.length_set] at hi
      rw [s1] at hk
      rw [s2]
      split
      · rename_i e2
        subst e2
        have := h1.ok p hp
        rw [ea, eb] at this
        rw [this, h2 a (by rw [I.l1]; exact ha) ka]
      · rename_i hne; rw [if_neg hne] at hk; exact h2 i hi hk
theorem pick_pinv {s : List Bool × List Bool} (G : Good xs) (P : PInv xs s) (shut : ∀ p, hasPort xs p = true → sv s.1 p.agent = true → sv s.1 (peer xs p).agent = true) {i : Nat} (hi : i < xs.length) (hk : sv s.1 (i : Int) = false) (hlow : ∀ j, j < i → sv s.1 (j : Int) = true) : PInv xs (s.1.set i true, s.2) := by
  have I := P.inv
  have s1 := fun j => sv_set (l := s.1) (i := i) (b := true) (by rw [I.l1]; exact hi) j
  refine ⟨⟨by simp [I.l1], I.l2, fun j hj h => ?_, fun j x hx ht => ?_⟩, fun D c Q => ?_, fun hS => ?_⟩
  · simp only at h ⊢
    rw [s1] at h
    split at h
    · cases h
    · exact I.unk j hj h
  · obtain ⟨f1, f2⟩ := I.fix j x hx ht
    simp only
    rw [s1]
    refine ⟨?_, f2⟩
    split
    · rfl
    · exact f1
  · simp only
    rcases P.first D c Q with h | ⟨h1, h2⟩
    · by_cases hD : D i
      · right
        have hc := Q.least i hD
        have hci : c = i := by
          rcases Nat.lt_or_ge c i with h3 | h3
          · have := hlow c h3; rw [h c Q.mem] at this; cases this
          · omega
        subst hci
        rw [s1, if_pos rfl]; exact ⟨rfl, I.unk c hi hk⟩
      · left
        intro j hj
        rw [s1, if_neg (fun e2 : i = j => hD (by rw [e2]; exact hj))]; exact h j hj
    · right
      rw [s1]
      refine ⟨?_, h2⟩
      split
      · rfl
      · exact h1
  · obtain ⟨S, h1, h2⟩ := P.sol hS
    have agr : ∀ T, Sol xs T → sv T (i : Int) = false → (∀ j : Nat, j < xs.length → sv s.1 (j : Int) = true → sv T (j : Int) = sv S (j : Int)) → Agree T (s.1.set i true, s.2) := fun T hT hTi hj j hjl hkj => by
      simp only at hjl hkj ⊢
      simp only [List.length_set] at hjl
      rw [s1] at hkj
      by_cases e2 : i = j
      · subst e2; rw [I.unk i hi hk, hTi]
      · rw [if_neg e2] at hkj
        rw [hj j (by rw [← I.l1]; exact hjl) hkj]; exact h2 j hjl hkj
    by_cases hSi : sv S (i : Int) = false
    · exact ⟨S, h1, agr S h1 hSi (fun _ _ _ => rfl)⟩
    · have hSi : sv S (i : Int) = true := by simpa using hSi
      have hT := flip_sol G h1 (U := fun j => !sv s.1 (j : Int)) (fun j x hx hu => by
        cases ht : turns x.kind with
        | true => rfl
        | false => have := (I.fix j x hx ht).1; rw [this] at hu; cases hu) (fun p hp => by
        obtain ⟨a, e, ha⟩ := port_nat hp
        obtain ⟨b, e', hb⟩ := port_nat (G.peer hp).1
        have h3 := shut p hp
        have h4 := shut _ (G.peer hp).1
        rw [(G.peer hp).2.1] at h4
        rw [e, e'] at h3 h4 ⊢
        simp only [Int.toNat_natCast]
        cases h5 : sv s.1 (a : Int) <;> cases h6 : sv s.1 (b : Int) <;> simp_all)
      refine ⟨_, hT, agr _ hT ?_ (fun j hj hkj => ?_)⟩
      · rw [sv_flip (by rw [h1.len]; exact hi), hSi, hk]; rfl
      · rw [sv_flip (by rw [h1.len]; exact hj), hkj]; simp
theorem start_pinv (G : Good xs) : PInv xs (xs.map fun x => !turns x.kind, List.replicate xs.length false) := by
  have k1 : ∀ (i : Nat) (x : DAgent), xs[i]? = some x → sv (xs.map fun x => !turns x.kind) (i : Int) = !turns x.kind := fun i x hx => sv_nat (by rw [List.getElem?_map, hx]; rfl)
  have r1 : ∀ i : Nat, sv (List.replicate xs.length false) (i : Int) = false := fun i => by
    unfold sv
    simp only [Int.toNat_natCast]
    by_cases h : i < xs.length
    · rw [List.getElem?_replicate, if_pos h]; rfl
    · rw [List.getElem?_replicate, if_neg h]; rfl
  refine ⟨⟨by simp, by simp, fun i _ _ => r1 i, fun i x hx ht => ⟨by simp only; rw [k1 i x hx, ht]; rfl, r1 i⟩⟩, fun D a Q => .inl fun i hi => ?_, fun ⟨S, hS⟩ => ⟨S, hS, fun i hi hk => ?_⟩⟩
  · have hx := List.getElem?_eq_getElem (Q.lt i hi)
    simp only
    rw [k1 i _ hx, Q.tur i _ hx hi]; rfl
  · simp only [List.length_map] at hi hk ⊢
    have hx := List.getElem?_eq_getElem hi
    rw [k1 i _ hx] at hk
    rw [r1]
    cases h : sv S (i : Int) with
    | false => rfl
    | true => rw [hS.tur i _ hx h] at hk; cases hk
theorem end_pinv {s : List Bool × List Bool} (G : Good xs) (P : PInv xs s) (hk : ∀ i : Nat, i < xs.length → sv s.1 (i : Int) = true) : First xs s.2 ∧ ((∃ S, Sol xs S) → Sol xs s.2) ∧ Fits xs s.2 := by
  have I := P.inv
  refine ⟨fun D a Q => ?_, fun hS => ?_, ?_⟩
  · rcases P.first D a Q with h | ⟨_, h⟩
    · have := h a Q.mem; rw [hk a (Q.lt a Q.mem)] at this; cases this
    · exact h
  · obtain ⟨S, h1, h2⟩ := P.sol hS
    have : s.2 = S := sv_ext (I.l2.trans h1.len.symm) fun i hi => h2 i (by rw [I.l1, ← I.l2]; exact hi) (hk i (by rw [← I.l2]; exact hi))
    rw [this]; exact h1
  · refine ⟨I.l2, fun i hi => ⟨xs[i], s.2[i]'(by rw [I.l2]; exact hi), List.getElem?_eq_getElem hi, List.getElem?_eq_getElem _, fun h => ?_⟩⟩
    cases ht : turns xs[i].kind with
    | true => rfl
    | false =>
      have := (I.fix i _ (List.getElem?_eq_getElem hi) ht).2
      rw [sv_nat (List.getElem?_eq_getElem (show i < s.2.length by rw [I.l2]; exact hi)), h] at this
      cases this
end
end
section
open Go.RowKit
set_option linter.unusedVariables false
set_option linter.unusedSimpArgs false
section
variable {xs : List DAgent}
/-- The neighbours of an agent that turn. -/
def nbT (xs : List DAgent) (a : Int) : List Int := ((agentAt xs a).ports.map (·.agent)).filter fun q => turns (agentAt xs q).kind
def ptsOf (xs : List DAgent) (a : Int) : List DPort := (List.range (agentAt xs a).ports.length).map fun k : Nat => ⟨a, (k : Int)⟩
def sst (xs : List DAgent) (s : List Int × List Bool) (p : DPort) : List Int × List Bool :=
  if turns (agentAt xs (peer xs p).agent).kind = true ∧ (peer xs p).agent ∉ s.1 then (s.1 ++ [(peer xs p).agent], s.2.set (peer xs p).agent.toNat (sv s.2 p.agent ^^ kk xs p)) else s
def okAt (xs : List DAgent) (rev : List Bool) (p : DPort) : Bool := decide (sv rev (peer xs p).agent = (sv rev p.agent ^^ kk xs p))
def runP (xs : List DAgent) : List DPort → List Int × List Bool → Bool × List Int × List Bool
  | [], s => (true, s)
  | p :: ps, s => if okAt xs (sst xs s p).2 p = true then runP xs ps (sst xs s p) else (false, sst xs s p)
theorem mem_pts {a : Int} (h0 : 0 ≤ a) (h1 : a < xs.length) {p : DPort} (h : p ∈ ptsOf xs a) : hasPort xs p = true ∧ p.agent = a := by
  unfold ptsOf at h
  obtain ⟨k, hk, rfl⟩ := List.mem_map.1 h
  obtain ⟨i, rfl⟩ := Int.eq_ofNat_of_zero_le h0
  have hx := List.getElem?_eq_getElem (show i < xs.length by omega)
  rw [agentAt_nat hx] at hk
  exact ⟨hasPort_of hx (List.mem_range.1 hk), rfl⟩
theorem pts_mem {p : DPort} (h : hasPort xs p = true) : p ∈ ptsOf xs p.agent := by
  obtain ⟨i, k, x, rfl, hx, hk, _⟩ := hasPort_at h
  unfold ptsOf
  simp only [agentAt_nat hx]
  exact List.mem_map.2 ⟨k, List.mem_range.2 hk, rfl⟩
theorem nbT_peer {p : DPort} (h : hasPort xs p = true) (ht : turns (agentAt xs (peer xs p).agent).kind = true) : (peer xs p).agent ∈ nbT xs p.agent := by
  obtain ⟨i, k, x, rfl, hx, hk, _⟩ := hasPort_at h
  unfold nbT
  rw [List.mem_filter]
  refine ⟨?_, ht⟩
  simp only [agentAt_nat hx]
  rw [peer_of hx (List.getElem?_eq_getElem hk)]
  exact List.mem_map.2 ⟨_, List.getElem_mem hk, rfl⟩
theorem nbT_port {a b : Int} (h0 : 0 ≤ a) (h1 : a < xs.length) (h : b ∈ nbT xs a) : turns (agentAt xs b).kind = true ∧ ∃ p, hasPort xs p = true ∧ p.agent = a ∧ (peer xs p).agent = b := by
  unfold nbT at h
  rw [List.mem_filter] at h
  obtain ⟨h, ht⟩ := h
  obtain ⟨i, rfl⟩ := Int.eq_ofNat_of_zero_le h0
  have hx := List.getElem?_eq_getElem (show i < xs.length by omega)
  rw [agentAt_nat hx] at h
  obtain ⟨q, hq, rfl⟩ := List.mem_map.1 h
  obtain ⟨k, hk, rfl⟩ := List.getElem_of_mem hq
  refine ⟨ht, ⟨(i : Int), (k : Int)⟩, hasPort_of hx hk, rfl, ?_⟩
  rw [peer_of hx (List.getElem?_eq_getElem hk)]
theorem nbT_in (G : Good xs) : ∀ a, 0 ≤ a → a < (xs.length : Int) → ∀ q ∈ nbT xs a, 0 ≤ q ∧ q < xs.length := fun a h0 h1 q hq => by
  obtain ⟨_, p, hp, _, e⟩ := nbT_port h0 h1 hq
  obtain ⟨j, e', hj⟩ := port_nat (G.peer hp).1
  rw [← e, e']; omega
/-- What a run over ports of a set gr (shut under neighbours that turn) keeps. -/
structure SI (xs : List DAgent) (gr : List Int) (r0 : List Bool) (s : List Int × List Bool) : Prop where
  len : s.2.length = xs.length
  sub : ∀ a ∈ s.1, a ∈ gr
  out : ∀ i : Nat, i < xs.length → (i : Int) ∉ gr → sv s.2 (i : Int) = sv r0 (i : Int)
  fix : ∀ (i : Nat) (x : DAgent), xs[i]? = some x → turns x.kind = false → sv s.2 (i : Int) = false
structure Grp (xs : List DAgent) (gr : List Int) : Prop where
  gl : GL xs.length gr
  tur : ∀ a ∈ gr, turns (agentAt xs a).kind = true
  shut : ∀ a ∈ gr, ∀ q ∈ nbT xs a, q ∈ gr
theorem sst_keep {gr : List Int} {r0 : List Bool} {s : List Int × List Bool} {p : DPort} (G : Good xs) (R : Grp xs gr) (I : SI xs gr r0 s) (hp : hasPort xs p = true) (hin : p.agent ∈ gr) (hk : p.agent ∈ s.1) :
    SI xs gr r0 (sst xs s p) ∧ (∀ a ∈ s.1, a ∈ (sst xs s p).1) ∧ (∀ a ∈ s.1, sv (sst xs s p).2 a = sv s.2 a) ∧ (turns (agentAt xs (peer xs p).agent).kind = true → (peer xs p).agent ∈ (sst xs s p).1) := by
  obtain ⟨j, e', hj⟩ := port_nat (G.peer hp).1
  unfold sst
  by_cases h : turns (agentAt xs (peer xs p).agent).kind = true ∧ (peer xs p).agent ∉ s.1
  · rw [if_pos h]
    have hq := R.shut _ hin _ (nbT_peer hp h.1)
    rw [e'] at h hq ⊢
    simp only [Int.toNat_natCast]
    have s2 := fun i => sv_set (l := s.2) (i := j) (b := sv s.2 p.agent ^^ kk xs p) (by rw [I.len]; exact hj) i
    refine ⟨⟨by simp [I.len], fun a ha => ?_, fun i hi hn => ?_, fun i x hx ht => ?_⟩, fun a ha => List.mem_append.2 (.inl ha), fun a ha => ?_, fun _ => by simp⟩
    · rcases List.mem_append.1 ha with ha | ha
      · exact I.sub a ha
      · simp at ha; rw [ha]; exact hq
    · simp only
      rw [s2, if_neg (fun e : j = i => hn (by rw [← e]; exact hq))]; exact I.out i hi hn
    · simp only
      rw [s2, if_neg (fun e => by
        subst e
        rw [agentAt_nat hx, ht] at h
        cases h.1)]
      exact I.fix i x hx ht
    · have r := R.gl.inr a (I.sub a ha)
      obtain ⟨i, rfl⟩ := Int.eq_ofNat_of_zero_le r.1
      rw [s2, if_neg (fun e : j = i => h.2 (by rw [e]; exact ha))]
  · rw [if_neg h]
    refine ⟨I, fun a ha => ha, fun a _ => rfl, fun ht => ?_⟩
    apply Classical.byContradiction
    intro hn
    exact h ⟨ht, hn⟩
/-- A run over ports, all of known agents. -/
theorem runP_keep {gr : List Int} {r0 : List Bool} (G : Good xs) (R : Grp xs gr) : ∀ (ps : List DPort) (s : List Int × List Bool), SI xs gr r0 s → (∀ p ∈ ps, hasPort xs p = true ∧ p.agent ∈ gr ∧ p.agent ∈ s.1) →
    SI xs gr r0 (runP xs ps s).2 ∧ (∀ a ∈ s.1, a ∈ (runP xs ps s).2.1) ∧ (∀ a ∈ s.1, sv (runP xs ps s).2.2 a = sv s.2 a) ∧
    ((runP xs ps s).1 = true → ∀ p ∈ ps, okAt xs (runP xs ps s).2.2 p = true ∧ (turns (agentAt xs (peer xs p).agent).kind = true → (peer xs p).agent ∈ (runP xs ps s).2.1))
  | [], s, I, _ => ⟨I, fun a h => h, fun a _ => rfl, fun _ p h => by cases h⟩
  | p :: ps, s, I, h => by
    obtain ⟨hp, hin, hk⟩ := h p (by simp)
    obtain ⟨I', m1, v1, q1⟩ := sst_keep G R I hp hin hk
    unfold runP
    by_cases hok : okAt xs (sst xs s p).2 p = true
    · rw [if_pos hok]
      obtain ⟨J, m2, v2, c2⟩ := runP_keep G R ps (sst xs s p) I' (fun q hq => ⟨(h q (by simp [hq])).1, (h q (by simp [hq])).2.1, m1 _ (h q (by simp [hq])).2.2⟩)
      refine ⟨J, fun a ha => m2 a (m1 a ha), fun a ha => (v2 a (m1 a ha)).trans (v1 a ha), fun ht q hq => ?_⟩
      rcases List.mem_cons.1 hq with rfl | hq
      · refine ⟨?_, fun hturn => m2 _ (q1 hturn)⟩
        unfold okAt at hok ⊢
        have hok := of_decide_eq_true hok
        refine decide_eq_true ?_
        have e1 : sv (runP xs ps (sst xs s q)).2.2 q.agent = sv (sst xs s q).2 q.agent := v2 _ (m1 _ hk)
        have e2 : sv (runP xs ps (sst xs s q)).2.2 (peer xs q).agent = sv (sst xs s q).2 (peer xs q).agent := by
          cases hturn : turns (agentAt xs (peer xs q).agent).kind with
          | true => exact v2 _ (q1 hturn)
          | false =>
            obtain ⟨j, e', hj⟩ := port_nat (G.peer hp).1
            rw [e'] at hturn ⊢
            have hx := List.getElem?_eq_getElem hj
            rw [agentAt_nat hx] at hturn
            rw [J.fix j _ hx hturn, I'.fix j _ hx hturn]
        rw [e1, e2]; exact hok
      · exact c2 ht q hq
    · rw [if_neg hok]
      exact ⟨I', m1, v1, fun hf => by cases hf⟩
/-- A run agrees with a solution that agrees with what is known; and it does not stop. -/
theorem runP_sol {gr : List Int} {r0 S : List Bool} (G : Good xs) (R : Grp xs gr) (hS : Sol xs S) : ∀ (ps : List DPort) (s : List Int × List Bool), SI xs gr r0 s → (∀ p ∈ ps, hasPort xs p = true ∧ p.agent ∈ gr ∧ p.agent ∈ s.1) → (∀ a ∈ s.1, sv s.2 a = sv S a) →
    (runP xs ps s).1 = true ∧ ∀ a ∈ (runP xs ps s).2.1, sv (runP xs ps s).2.2 a = sv S a
  | [], s, I, _, hA => ⟨rfl, hA⟩
  | p :: ps, s, I, h, hA => by
    obtain ⟨hp, hin, hk⟩ := h p (by simp)
    obtain ⟨I', m1, v1, q1⟩ := sst_keep G R I hp hin hk
    have hSp := hS.ok p hp
    have hA' : ∀ a ∈ (sst xs s p).1, sv (sst xs s p).2 a = sv S a := by
      intro a ha
      by_cases has : a ∈ s.1
      · rw [v1 a has]; exact hA a has
      · obtain ⟨j, e', hj⟩ := port_nat (G.peer hp).1
        unfold sst at ha ⊢
        by_cases hc : turns (agentAt xs (peer xs p).agent).kind = true ∧ (peer xs p).agent ∉ s.1
        · rw [if_pos hc] at ha ⊢
          rcases List.mem_append.1 ha with ha | ha
          · exact absurd ha has
          · simp at ha
            rw [ha, hSp]
            simp only
            rw [e']
            simp only [Int.toNat_natCast]
            rw [sv_set (by rw [I.len]; exact hj), if_pos rfl, hA _ hk]
        · rw [if_neg hc] at ha; exact absurd ha has
    have hok : okAt xs (sst xs s p).2 p = true := by
      unfold okAt
      refine decide_eq_true ?_
      have e1 : sv (sst xs s p).2 p.agent = sv S p.agent := hA' _ (m1 _ hk)
      have e2 : sv (sst xs s p).2 (peer xs p).agent = sv S (peer xs p).agent := by
        cases hturn : turns (agentAt xs (peer xs p).agent).kind with
        | true => exact hA' _ (q1 hturn)
        | false =>
          obtain ⟨j, e', hj⟩ := port_nat (G.peer hp).1
          rw [e'] at hturn ⊢
          have hx := List.getElem?_eq_getElem hj
          rw [agentAt_nat hx] at hturn
          rw [I'.fix j _ hx hturn]
          cases h5 : sv S (j : Int) with
          | false => rfl
          | true => rw [hS.tur j _ hx h5] at hturn; cases hturn
      rw [e1, e2]; exact hSp
    unfold runP
    rw [if_pos hok]
    exact runP_sol G R hS ps _ I' (fun q hq => ⟨(h q (by simp [hq])).1, (h q (by simp [hq])).2.1, m1 _ (h q (by simp [hq])).2.2⟩) hA'
/-- The agents of a group one behind the other. -/
def runG (xs : List DAgent) : List Int → List Int × List Bool → Bool × List Int × List Bool
  | [], s => (true, s)
  | a :: l, s => if (runP xs (ptsOf xs a) s).1 = true then runG xs l (runP xs (ptsOf xs a) s).2 else (false, (runP xs (ptsOf xs a) s).2)
/-- Each agent of l, but the first, is a neighbour of what stands ahead of it, or is known. -/
theorem runG_all {gr : List Int} {r0 : List Bool} (G : Good xs) (R : Grp xs gr) (hprev : ∀ (k : Nat) (a : Int), gr[k]? = some a → 0 < k → ∃ (j : Nat) (b : Int), j < k ∧ gr[j]? = some b ∧ a ∈ nbT xs b) :
    ∀ (l done : List Int) (s : List Int × List Bool), done ++ l = gr → SI xs gr r0 s → (∀ a, gr[0]? = some a → a ∈ s.1) → (∀ b ∈ done, ∀ q ∈ nbT xs b, q ∈ s.1) → (∀ b ∈ done, ∀ p, hasPort xs p = true → p.agent = b → okAt xs s.2 p = true) → (∀ b ∈ done, b ∈ s.1) →
    SI xs gr r0 (runG xs l s).2 ∧ (∀ a ∈ s.1, sv (runG xs l s).2.2 a = sv s.2 a) ∧
    ((runG xs l s).1 = true → ∀ b ∈ gr, ∀ p, hasPort xs p = true → p.agent = b → okAt xs (runG xs l s).2.2 p = true) ∧
    (∀ S, Sol xs S → (∀ a ∈ s.1, sv s.2 a = sv S a) → (runG xs l s).1 = true ∧ ∀ b ∈ gr, sv (runG xs l s).2.2 b = sv S b)
  | [], done, s, hd, I, h0, hn, hok, hdk => by
    rw [List.append_nil] at hd
    subst hd
    exact ⟨I, fun a _ => rfl, fun _ => hok, fun S hS hA => ⟨rfl, fun b hb => hA b (hdk b hb)⟩⟩
  | a :: l, done, s, hd, I, h0, hn, hok, hdk => by
    have hka : gr[done.length]? = some a := by rw [← hd, List.getElem?_append_right (Nat.le_refl _)]; simp
    have hag : a ∈ gr := List.mem_of_getElem? hka
    have hak : a ∈ s.1 := by
      rcases Nat.eq_zero_or_pos done.length with h | h
      · rw [h] at hka; exact h0 a hka
      · obtain ⟨j, b, hj, hb, hab⟩ := hprev _ a hka h
        rw [← hd, List.getElem?_append_left hj] at hb
        exact hn b (List.mem_of_getElem? hb) a hab
    have ra := R.gl.inr a hag
    have hps : ∀ p ∈ ptsOf xs a, hasPort xs p = true ∧ p.agent ∈ gr ∧ p.agent ∈ s.1 := fun p hp => by
      obtain ⟨h1, h2⟩ := mem_pts ra.1 ra.2 hp
      rw [h2]; exact ⟨h1, hag, hak⟩
    obtain ⟨J, m2, v2, c2⟩ := runP_keep G R (ptsOf xs a) s I hps
    unfold runG
    cases hr : (runP xs (ptsOf xs a) s).1 with
    | false =>
      rw [if_neg (by simp)]
      refine ⟨J, v2, (fun h => by cases h), fun S hS hA => ?_⟩
      have := (runP_sol G R hS _ s I hps hA).1
      rw [hr] at this; cases this
    | true =>
      rw [if_pos rfl]
      have hc := c2 hr
      have hok' : ∀ b ∈ done ++ [a], ∀ p, hasPort xs p = true → p.agent = b → okAt xs (runP xs (ptsOf xs a) s).2.2 p = true := fun b hb p hp hpb => by
        rcases List.mem_append.1 hb with hb | hb
        · have h1 := hok b hb p hp hpb
          unfold okAt at h1 ⊢
          have h1 := of_decide_eq_true h1
          refine decide_eq_true ?_
          have e1 := v2 p.agent (by rw [hpb]; exact hdk b hb)
          have e2 : sv (runP xs (ptsOf xs a) s).2.2 (peer xs p).agent = sv s.2 (peer xs p).agent := by
            cases hturn : turns (agentAt xs (peer xs p).agent).kind with
            | true => exact v2 _ (hn b hb _ (by rw [← hpb]; exact nbT_peer hp hturn))
            | false =>
              obtain ⟨j, e', hj⟩ := port_nat (G.peer hp).1
              rw [e'] at hturn ⊢
              have hx := List.getElem?_eq_getElem hj
              rw [agentAt_nat hx] at hturn
              rw [J.fix j _ hx hturn, I.fix j _ hx hturn]
          rw [e1, e2]; exact h1
        · simp at hb
          subst hb
          exact (hc p (by rw [← hpb]; exact pts_mem hp)).1
      obtain ⟨K1, K2, K3, K4⟩ := runG_all G R hprev l (done ++ [a]) (runP xs (ptsOf xs a) s).2 (by rw [List.append_assoc]; exact hd) J (fun b hb => m2 b (h0 b hb))
        (fun b hb q hq => by
          rcases List.mem_append.1 hb with hb | hb
          · exact m2 q (hn b hb q hq)
          · simp at hb
            subst hb
            obtain ⟨ht, p, hp, e1, e2⟩ := nbT_port ra.1 ra.2 hq
            rw [← e2] at ht ⊢
            exact (hc p (by rw [← e1]; exact pts_mem hp)).2 ht) hok'
        (fun b hb => by
          rcases List.mem_append.1 hb with hb | hb
          · exact m2 b (hdk b hb)
          · simp at hb; subst hb; exact m2 _ hak)
      refine ⟨K1, fun b hb => (K2 b (m2 b hb)).trans (v2 b hb), K3, fun S hS hA => ?_⟩
      exact K4 S hS (runP_sol G R hS _ s I hps hA).2
end
end
section
open Go.RowKit
set_option linter.unusedVariables false
set_option linter.unusedSimpArgs false
section
variable {xs : List DAgent}
def grp (xs : List DAgent) (i : Nat) : List Int := bf (nbT xs) (i : Int) xs.length
def tryG (xs : List DAgent) (i : Nat) (first : Bool) (rev : List Bool) : Bool × List Int × List Bool := runG xs (grp xs i) ([(i : Int)], rev.set i first)
structure OI (xs : List DAgent) (k : Nat) (done : List Int) (rev : List Bool) : Prop where
  gl : GL xs.length done
  len : rev.length = xs.length
  fix : ∀ (i : Nat) (x : DAgent), xs[i]? = some x → turns x.kind = false → sv rev (i : Int) = false
  tur : ∀ a ∈ done, turns (agentAt xs a).kind = true
  shut : ∀ a ∈ done, ∀ q ∈ nbT xs a, q ∈ done
  all : ∀ (i : Nat) (x : DAgent), i < k → xs[i]? = some x → turns x.kind = true → (i : Int) ∈ done
  ok : ∀ p, hasPort xs p = true → p.agent ∈ done → okAt xs rev p = true
  root : ∀ b ∈ done, ∃ s : Nat, (s : Int) ≤ b ∧ (∀ D a, Part xs D a → D b.toNat → D s) ∧ (sv rev (s : Int) = true → ∀ S, Sol xs S → sv S (s : Int) = true) ∧ (s : Int) ∈ done
theorem nbT_symm (G : Good xs) {a b : Int} (h0 : 0 ≤ a) (h1 : a < xs.length) (ht : turns (agentAt xs a).kind = true) (h : b ∈ nbT xs a) : a ∈ nbT xs b := by
  obtain ⟨_, p, hp, e1, e2⟩ := nbT_port h0 h1 h
  have hq := G.peer hp
  have := nbT_peer hq.1 (by rw [hq.2.1, e1]; exact ht)
  rwa [hq.2.1, e1, e2] at this
theorem grp_ok (G : Good xs) {i : Nat} {x : DAgent} (hx : xs[i]? = some x) (ht : turns x.kind = true) : Grp xs (grp xs i) := by
  have hi := lt_of_some hx
  have hn := nbT_in G
  refine ⟨bf_ok hn (by omega) (by omega) _, fun a ha => ?_, fun a ha q hq => bf_closed hn (by omega) (by omega) ha hq⟩
  have := bf_min (nb := nbT xs) (s := (i : Int)) (p := fun a => 0 ≤ a ∧ a < xs.length ∧ turns (agentAt xs a).kind = true) ⟨by omega, by omega, by rw [agentAt_nat hx]; exact ht⟩
    (fun a ⟨h0, h1, _⟩ q hq => ⟨(hn a h0 h1 q hq).1, (hn a h0 h1 q hq).2, (nbT_port h0 h1 hq).1⟩) _ a ha
  exact this.2.2
theorem grp_self (i : Nat) : (i : Int) ∈ grp xs i := by
  obtain ⟨t, ht⟩ := bf_head (nb := nbT xs) (s := (i : Int)) xs.length
  unfold grp; rw [ht]; simp
theorem grp_apart (G : Good xs) {k : Nat} {done : List Int} {rev : List Bool} (O : OI xs k done rev) {x : DAgent} (hx : xs[k]? = some x) (ht : turns x.kind = true) (hd : (k : Int) ∉ done) : ∀ a ∈ grp xs k, a ∉ done := by
  have hi := lt_of_some hx
  have hn := nbT_in G
  intro a ha
  have := bf_min (nb := nbT xs) (s := (k : Int)) (p := fun a => 0 ≤ a ∧ a < xs.length ∧ turns (agentAt xs a).kind = true ∧ a ∉ done) ⟨by omega, by omega, by rw [agentAt_nat hx]; exact ht, hd⟩
    (fun a ⟨h0, h1, h2, h3⟩ q hq => ⟨(hn a h0 h1 q hq).1, (hn a h0 h1 q hq).2, (nbT_port h0 h1 hq).1, fun hin => h3 (O.shut q hin a (nbT_symm G h0 h1 h2 hq))⟩) _ a ha
  exact this.2.2.2
/-- What a trial shows. -/
theorem tryG_all (G : Good xs) {i : Nat} {x : DAgent} (hx : xs[i]? = some x) (ht : turns x.kind = true) (first : Bool) {rev : List Bool} (hl : rev.length = xs.length) (hfix : ∀ (i : Nat) (x : DAgent), xs[i]? = some x → turns x.kind = false → sv rev (i : Int) = false) :
    SI xs (grp xs i) rev (tryG xs i first rev).2 ∧ sv (tryG xs i first rev).2.2 (i : Int) = first ∧
    ((tryG xs i first rev).1 = true → ∀ b ∈ grp xs i, ∀ p, hasPort xs p = true → p.agent = b → okAt xs (tryG xs i first rev).2.2 p = true) ∧
    (∀ S, Sol xs S → sv S (i : Int) = first → (tryG xs i first rev).1 = true) := by
  have hi := lt_of_some hx
  have hn := nbT_in G
  have s2 := fun j => sv_set (l := rev) (i := i) (b := first) (by rw [hl]; exact hi) j
  have I : SI xs (grp xs i) rev ([(i : Int)], rev.set i first) := ⟨by simp [hl], fun a ha => by simp at ha; subst ha; exact grp_self i, fun j hj hnj => by
      simp only
      rw [s2, if_neg (fun e : i = j => hnj (by rw [← e]; exact grp_self i))], fun j y hy hty => by
      simp only
      rw [s2, if_neg (fun e => by subst e; rw [hx] at hy; injection hy with hy; rw [hy, hty] at ht; cases ht)]
      exact hfix j y hy hty⟩
  obtain ⟨t, htl⟩ := bf_head (nb := nbT xs) (s := (i : Int)) xs.length
  obtain ⟨K1, K2, K3, K4⟩ := runG_all G (grp_ok G hx ht) (fun k a hk h0 => bf_prev hn (by omega) (by omega) xs.length k a hk h0) (grp xs i) [] ([(i : Int)], rev.set i first) rfl I
    (fun a ha => by unfold grp at ha; rw [htl] at ha; simp at ha; simp [ha]) (fun b hb => by cases hb) (fun b hb => by cases hb) (fun b hb => by cases hb)
  have hv : sv (rev.set i first) (i : Int) = first := by rw [s2, if_pos rfl]
  refine ⟨K1, (K2 (i : Int) (by simp)).trans hv, K3, fun S hS hf => (K4 S hS (fun a ha => ?_)).1⟩
  simp at ha
  subst ha
  rw [hv, hf]
/-- A group that fits joins. -/
theorem OI_join (G : Good xs) {k : Nat} {done : List Int} {rev : List Bool} (O : OI xs k done rev) {x : DAgent} (hx : xs[k]? = some x) (ht : turns x.kind = true) (hd : (k : Int) ∉ done) {rev' : List Bool} {kn : List Int}
    (I : SI xs (grp xs k) rev (kn, rev')) (hok : ∀ b ∈ grp xs k, ∀ p, hasPort xs p = true → p.agent = b → okAt xs rev' p = true) (hr : sv rev' (k : Int) = true → ∀ S, Sol xs S → sv S (k : Int) = true) : OI xs (k + 1) (done ++ grp xs k) rev' := by
  have R := grp_ok G hx ht
  have ap := grp_apart G O hx ht hd
  have hi := lt_of_some hx
  have hn := nbT_in G
  have same : ∀ a ∈ done, sv rev' a = sv rev a := fun a ha => by
    have r := O.gl.inr a ha
    obtain ⟨j, rfl⟩ := Int.eq_ofNat_of_zero_le r.1
    exact I.out j (by omega) (fun hin => ap _ hin ha)
  refine ⟨⟨List.nodup_append.2 ⟨O.gl.nd, R.gl.nd, fun a ha b hb e => by subst e; exact ap a hb ha⟩, fun a ha => ?_⟩, I.len, I.fix, fun a ha => ?_, fun a ha q hq => ?_, fun j y hj hy hty => ?_, fun p hp hin => ?_, fun b hb => ?_⟩
  · rcases List.mem_append.1 ha with h | h
    · exact O.gl.inr a h
    · exact R.gl.inr a h
  · rcases List.mem_append.1 ha with h | h
    · exact O.tur a h
    · exact R.tur a h
  · rcases List.mem_append.1 ha with h | h
    · exact List.mem_append.2 (.inl (O.shut a h q hq))
    · exact List.mem_append.2 (.inr (R.shut a h q hq))
  · by_cases e : j = k
    · subst e; exact List.mem_append.2 (.inr (grp_self j))
    · exact List.mem_append.2 (.inl (O.all j y (by omega) hy hty))
  · rcases List.mem_append.1 hin with h | h
    · have h1 := O.ok p hp h
      unfold okAt at h1 ⊢
      have h1 := of_decide_eq_true h1
      refine decide_eq_true ?_
      have e2 : sv rev' (peer xs p).agent = sv rev (peer xs p).agent := by
        cases hturn : turns (agentAt xs (peer xs p).agent).kind with
        | true => exact same _ (O.shut _ h _ (nbT_peer hp hturn))
        | false =>
          obtain ⟨j, e', hj⟩ := port_nat (G.peer hp).1
          rw [e'] at hturn ⊢
          have hxj := List.getElem?_eq_getElem hj
          rw [agentAt_nat hxj] at hturn
          have := I.fix j _ hxj hturn
          simp only at this
          rw [this, O.fix j _ hxj hturn]
      rw [same _ h, e2]; exact h1
    · exact hok _ h p hp rfl
  · rcases List.mem_append.1 hb with h | h
    · obtain ⟨s, h1, h2, h3, h4⟩ := O.root b h
      exact ⟨s, h1, h2, fun h5 => h3 (by rw [← same _ h4]; exact h5), List.mem_append.2 (.inl h4)⟩
    · refine ⟨k, ?_, fun D a Q hD => ?_, hr, List.mem_append.2 (.inr (grp_self k))⟩
      · have r := R.gl.inr b h
        obtain ⟨j, rfl⟩ := Int.eq_ofNat_of_zero_le r.1
        rcases Nat.lt_or_ge j k with h5 | h5
        · have hxj := List.getElem?_eq_getElem (show j < xs.length by omega)
          have := R.tur _ h
          rw [agentAt_nat hxj] at this
          exact absurd (O.all j _ h5 hxj this) (ap _ h)
        · omega
      · have := bf_min (nb := nbT xs) (s := (k : Int)) (p := fun b => 0 ≤ b ∧ b < xs.length ∧ (D b.toNat → D k)) ⟨by omega, by omega, fun h => by simpa using h⟩
          (fun c ⟨h0, h1, h2⟩ q hq => ⟨(hn c h0 h1 q hq).1, (hn c h0 h1 q hq).2, fun hDq => h2 (by
            obtain ⟨_, p, hp, e1, e2⟩ := nbT_port h0 h1 hq
            have hq' := G.peer hp
            have := Q.shut _ hq'.1 (by rw [e2]; exact hDq)
            rwa [hq'.2.1, e1] at this)⟩) _ b h
        exact this.2.2 hD
theorem OI_skip {k : Nat} {done : List Int} {rev : List Bool} (O : OI xs k done rev) (h : ∀ x, xs[k]? = some x → turns x.kind = true → (k : Int) ∈ done) : OI xs (k + 1) done rev :=
  ⟨O.gl, O.len, O.fix, O.tur, O.shut, fun j y hj hy hty => by
      by_cases e : j = k
      · subst e; exact h y hy hty
      · exact O.all j y (by omega) hy hty, O.ok, O.root⟩
theorem OI_start : OI xs 0 [] (List.replicate xs.length false) where
  gl := ⟨List.nodup_nil, fun a ha => by cases ha⟩
  len := by simp
  fix := fun i x hx _ => by
    unfold sv
    simp only [Int.toNat_natCast]
    rw [List.getElem?_replicate, if_pos (lt_of_some hx)]; rfl
  tur := fun a ha => by cases ha
  shut := fun a ha => by cases ha
  all := fun i x hi => by omega
  ok := fun p _ h => by cases h
  root := fun b hb => by cases hb
theorem OI_end (G : Good xs) {done : List Int} {rev : List Bool} (O : OI xs xs.length done rev) : Fits xs rev ∧ ((∃ S, Sol xs S) → Sol xs rev) ∧ (Sol xs rev → First xs rev) := by
  have tur : ∀ (i : Nat) (x : DAgent), xs[i]? = some x → sv rev (i : Int) = true → turns x.kind = true := fun i x hx h => by
    cases ht : turns x.kind with
    | true => rfl
    | false => rw [O.fix i x hx ht] at h; cases h
  refine ⟨⟨O.len, fun i hi => ⟨xs[i], rev[i]'(by rw [O.len]; exact hi), List.getElem?_eq_getElem hi, List.getElem?_eq_getElem _, fun h => tur i _ (List.getElem?_eq_getElem hi) (by rw [sv_nat (List.getElem?_eq_getElem (show i < rev.length by rw [O.len]; exact hi))]; exact h)⟩⟩, fun ⟨S, hS⟩ => ⟨O.len, tur, fun p hp => ?_⟩, fun hR D a Q => ?_⟩
  · have hq := G.peer hp
    obtain ⟨i, e, hi⟩ := port_nat hp
    obtain ⟨j, e', hj⟩ := port_nat hq.1
    have hxi := List.getElem?_eq_getElem hi
    have hxj := List.getElem?_eq_getElem hj
    cases ti : turns xs[i].kind with
    | true =>
      have := O.ok p hp (by rw [e]; exact O.all i _ hi hxi ti)
      unfold okAt at this
      exact of_decide_eq_true this
    | false =>
      cases tj : turns xs[j].kind with
      | true =>
        have := O.ok _ hq.1 (by rw [e']; exact O.all j _ hj hxj tj)
        unfold okAt at this
        have := of_decide_eq_true this
        rw [hq.2.1] at this
        have e3 : kk xs (peer xs p) = kk xs p := by unfold kk; rw [hq.2.1]; cases plp xs p <;> cases plp xs (peer xs p) <;> rfl
        rw [e3] at this
        rw [this]
        cases sv rev (peer xs p).agent <;> cases kk xs p <;> rfl
      | false =>
        have h := hS.ok p hp
        rw [e, e'] at h ⊢
        rw [O.fix i _ hxi ti, O.fix j _ hxj tj]
        have f : ∀ (i : Nat) (hi : i < xs.length), turns xs[i].kind = false → sv S (i : Int) = false := fun i hi h1 => by
          cases h2 : sv S (i : Int) with
          | false => rfl
          | true => rw [hS.tur i _ (List.getElem?_eq_getElem hi) h2] at h1; cases h1
        rw [f i hi ti, f j hj tj] at h
        exact h
  · have ha := Q.lt a Q.mem
    have hxa := List.getElem?_eq_getElem ha
    have hd := O.all a _ ha hxa (Q.tur a _ hxa Q.mem)
    obtain ⟨s, h1, h2, h3, h4⟩ := O.root _ hd
    have hDs := h2 D a Q (by simpa using Q.mem)
    have := Q.least s hDs
    obtain rfl : s = a := by omega
    cases hv : sv rev (s : Int) with
    | false => rfl
    | true =>
      have hall := h3 hv
      classical
      have hT := flip_sol G hR (U := fun j => decide (D j)) (fun j x hx hu => Q.tur j x hx (of_decide_eq_true hu)) (fun p hp => by
        have hq := G.peer hp
        rw [Bool.eq_iff_iff]
        simp only [decide_eq_true_eq]
        refine ⟨Q.shut p hp, fun h => ?_⟩
        have := Q.shut _ hq.1 h
        rwa [hq.2.1] at this)
      have := hall _ hT
      rw [sv_flip (by rw [O.len]; exact ha), hv] at this
      simp [Q.mem] at this
/-- Where both trials fail there is no solution. -/
theorem no_sol (G : Good xs) {i : Nat} {x : DAgent} (hx : xs[i]? = some x) (ht : turns x.kind = true) {rev rev2 : List Bool} (hl : rev.length = xs.length) (hfix : ∀ (i : Nat) (x : DAgent), xs[i]? = some x → turns x.kind = false → sv rev (i : Int) = false) (hl2 : rev2.length = xs.length) (hfix2 : ∀ (i : Nat) (x : DAgent), xs[i]? = some x → turns x.kind = false → sv rev2 (i : Int) = false)
    (h1 : (tryG xs i false rev).1 = false) (h2 : (tryG xs i true rev2).1 = false) : ¬ ∃ S, Sol xs S := fun ⟨S, hS⟩ => by
  cases h : sv S (i : Int) with
  | false => have := (tryG_all G hx ht false hl hfix).2.2.2 S hS h; rw [h1] at this; cases this
  | true => have := (tryG_all G hx ht true hl2 hfix2).2.2.2 S hS h; rw [h2] at this; cases this
end
end
section
open Go.RowKit
set_option linter.unusedVariables false
set_option linter.unusedSimpArgs false
/-- The block of a slice's row. -/
def fb (v : Value) : List Nat := v.ownBlock.toList
/-- Two lists of blocks lie apart. -/
def Ap (l m : List Nat) : Prop := ∀ b ∈ l, b ∉ m
section
variable {l m x l' l2 : List Nat} {k g : Nat} {v u v' : Value}
theorem mem_fb {b : Nat} : b ∈ fb v ↔ v.ownBlock = some b := by simp [fb]
theorem Ap.symm (h : Ap l m) : Ap m l := fun b h1 h2 => h b h2 h1
theorem Ap.nil : Ap [] m := fun b h => by simp at h
theorem Ap.new (h1 : ∀ b ∈ l, k ≤ b) (h2 : ∀ b ∈ x, b < k) : Ap l x := fun b h h' => by have := h1 b h; have := h2 b h'; omega
theorem Ap.one (h : Ap l [g]) : g ∉ l := fun hg => h g hg (by simp)
theorem Ap.far (h : ∀ b ∈ l, b < g) : Ap l [g] := fun b hb h' => by simp at h'; subst h'; exact absurd (h b hb) (Nat.lt_irrefl _)
theorem Ap.app (hn : ∀ b ∈ l', b ∈ l ∨ b ∈ l2 ∨ k ≤ b) (h1 : Ap l x) (h2 : Ap l2 x) (hi : ∀ b ∈ x, b < k) : Ap l' x := fun b hb h' => by
  rcases hn b hb with h3 | h3 | h3
  · exact h1 b h3 h'
  · exact h2 b h3 h'
  · have := hi b h'; omega
theorem Ap.cons (h1 : Ap [g] x) (h2 : Ap l x) : Ap (g :: l) x := fun b hb h' => by
  rcases List.mem_cons.1 hb with rfl | hb
  · exact h1 b (by simp) h'
  · exact h2 b hb h'
theorem Ap.append (h1 : Ap l x) (h2 : Ap m x) : Ap (l ++ m) x := fun b hb h' => by
  rcases List.mem_append.1 hb with hb | hb
  · exact h1 b hb h'
  · exact h2 b hb h'
theorem Dj.ap (h : Dj v u) : Ap (fb v) (fb u) := fun b h1 h2 => h b (mem_fb.1 h1) (mem_fb.1 h2)
theorem Ap.dj (h : Ap (fb v) (fb u)) : Dj v u := fun b h1 h2 => h b (mem_fb.2 h1) (mem_fb.2 h2)
theorem ne_ap (h : v.ownBlock ≠ some g) : Ap (fb v) [g] := fun b h1 h2 => by simp at h2; subst h2; exact h (mem_fb.1 h1)
theorem ap_ne (h : Ap (fb v) [g]) : v.ownBlock ≠ some g := fun h1 => h g (mem_fb.2 h1) (by simp)
end
/-- Elements one behind the other, with what they own. -/
def Parts {α : Type} (O : Ow α) (w : World) : List Value → List α → List Nat → Prop
  | cells, [], ib => cells = [] ∧ ib = []
  | cells, x :: xs, ib => ∃ cs rest b1 b2, cells = cs ++ rest ∧ O w cs x b1 ∧ ib = b1 ++ b2 ∧ Parts O w rest xs b2
/-- A slice of the call's own: its row from block lo on, its elements' blocks (no two alike, none the row's), all among bs. -/
def OwN {α : Type} (e : TypeId) (O : Ow α) (sz : Nat) (w : World) (lo : Nat) (v : Value) (xs : List α) (bs : List Nat) : Prop :=
  ∃ cells ib, w.ownsRow lo e sz v xs.length cells ∧ Parts O w cells xs ib ∧ ib.Nodup ∧ (∀ b ∈ ib, b ∈ bs) ∧ (∀ b, v.ownBlock = some b → b ∈ bs ∧ b ∉ ib) ∧ (∀ b ∈ bs, lo ≤ b ∧ b < w.heap.size)
section
variable {α : Type} {O : Ow α} {R : Rd α} {sz : Nat} {w w' : World} {lo lo' : Nat} {v : Value} {xs ys : List α} {x : α} {bs : List Nat} {e : TypeId}
theorem Parts.keep (ok : OwOk O sz) : ∀ {xs : List α} {cells : List Value} {ib : List Nat}, (∀ b ∈ ib, w'.heap[b]? = w.heap[b]?) → Parts O w cells xs ib → Parts O w' cells xs ib
  | [], _, _, _, h => h
  | x :: xs, _, _, hb, ⟨cs, rest, b1, b2, e1, hO, e2, hr⟩ => by
    subst e1 e2
    exact ⟨cs, rest, b1, b2, rfl, ok.keep (fun b h => hb b (by simp [h])) hO, rfl, Parts.keep ok (fun b h => hb b (by simp [h])) hr⟩
theorem Parts.append : ∀ {xs ys : List α} {c1 c2 : List Value} {i1 i2 : List Nat}, Parts O w c1 xs i1 → Parts O w c2 ys i2 → Parts O w (c1 ++ c2) (xs ++ ys) (i1 ++ i2)
  | [], _, _, _, _, _, ⟨e1, e2⟩, h2 => by subst e1 e2; exact h2
  | x :: xs, _, _, _, _, _, ⟨cs, rest, b1, b2, e1, hO, e2, hr⟩, h2 => by
    subst e1 e2
    exact ⟨cs, _, b1, _, by rw [List.append_assoc], hO, by rw [List.append_assoc], Parts.append hr h2⟩
theorem Parts.one {cs : List Value} {b : List Nat} (h : O w cs x b) : Parts O w cs [x] b := ⟨cs, [], b, [], by simp, h, by simp, rfl, rfl⟩
theorem Parts.len (ok : OwOk O sz) : ∀ {xs : List α} {cells : List Value} {ib : List Nat}, Parts O w cells xs ib → cells.length = xs.length * sz
  | [], _, _, ⟨e, _⟩ => by rw [e]; simp
  | x :: xs, _, _, ⟨cs, rest, b1, b2, e1, hO, e2, hr⟩ => by
    subst e1
    rw [List.length_append, ok.len hO, Parts.len ok hr, List.length_cons, Nat.add_mul]; omega
theorem Parts.elAt (ok : OwOk O sz) {g : Nat} {cur : Array Value} (hb : Blk w g e cur) : ∀ {xs : List α} {cells : List Value} {ib : List Nat} (o : Nat), (∀ (j : Nat) (u : Value), cells[j]? = some u → cur[o + j]? = some u) → Parts O w cells xs ib → ElAt O sz w g o xs ib
  | [], _, _, o, _, ⟨_, e⟩ => e
  | x :: xs, _, _, o, hc, ⟨cs, rest, b1, b2, e1, hO, e2, hr⟩ => by
    subst e1 e2
    have hl := ok.len hO
    refine ⟨cs, b1, b2, hO, hb.csAt (fun j u hj => hc j u ?_), rfl, Parts.elAt ok hb (o + sz) (fun j u hj => ?_) hr⟩
    · rw [List.getElem?_append_left (lt_of_some hj)]; exact hj
    · have := hc (sz + j) u (by rw [List.getElem?_append_right (by omega), hl, show sz + j - sz = j by omega]; exact hj)
      rwa [show o + (sz + j) = o + sz + j by omega] at this
/-- One element of many. -/
theorem Parts.split (ok : OwOk O sz) : ∀ {xs : List α} {cells : List Value} {ib : List Nat} {k : Nat} {x : α}, Parts O w cells xs ib → xs[k]? = some x →
    ∃ c1 cs c2 i1 b1 i2, cells = c1 ++ cs ++ c2 ∧ c1.length = k * sz ∧ O w cs x b1 ∧ ib = i1 ++ (b1 ++ i2) ∧ ∀ w' cs' x' b1', (∀ b ∈ i1 ++ i2, w'.heap[b]? = w.heap[b]?) → O w' cs' x' b1' → Parts O w' (c1 ++ cs' ++ c2) (xs.set k x') (i1 ++ (b1' ++ i2))
  | [], _, _, _, _, _, h => by simp at h
  | y :: ys, _, _, 0, x, ⟨cs, rest, b1, b2, e1, hO, e2, hr⟩, h => by
    have : y = x := by simpa using h
    subst this
    subst e1 e2
    exact ⟨[], cs, rest, [], b1, b2, by simp, by simp, hO, by simp, fun w' cs' x' b1' hb hO' => ⟨cs', rest, b1', b2, by simp, hO', by simp, Parts.keep ok (fun b h => hb b (by simp [h])) hr⟩⟩
  | y :: ys, _, _, k + 1, x, ⟨cs, rest, b1, b2, e1, hO, e2, hr⟩, h => by
    subst e1 e2
    obtain ⟨c1, cs2, c2, i1, b3, i2, f1, f2, f3, f4, f5⟩ := Parts.split ok hr (by simpa using h)
    subst f1 f4
    refine ⟨cs ++ c1, cs2, c2, b1 ++ i1, b3, i2, by simp, by rw [List.length_append, ok.len hO, f2, Nat.add_mul]; omega, f3, by simp, fun w' cs' x' b1' hb hO' => ?_⟩
    refine ⟨cs, _, b1, _, by simp [List.append_assoc], ok.keep (fun b h => hb b (by simp [h])) hO, by simp [List.append_assoc], f5 w' cs' x' b1' (fun b h => hb b (by simp at h ⊢; rcases h with h | h <;> simp [h])) hO'⟩
theorem OwN.keep (ok : OwOk O sz) (h : OwN e O sz w lo v xs bs) (hk : ∀ b ∈ bs, w'.heap[b]? = w.heap[b]?) (hs : w.heap.size ≤ w'.heap.size) : OwN e O sz w' lo v xs bs := by
  obtain ⟨cells, ib, h1, h2, h3, h4, h5, h6⟩ := h
  refine ⟨cells, ib, ?_, h2.keep ok (fun b hb => hk b (h4 b hb)), h3, h4, h5, fun b hb => by have := h6 b hb; omega⟩
  refine ⟨h1.1, ?_⟩
  rcases h1.2 with h | ⟨g, cap, cur, hv, hg, hh, r⟩
  · exact .inl h
  · exact .inr ⟨g, cap, cur, hv, hg, (hk g (h5 g (by rw [hv]; rfl)).1).trans hh, r⟩
theorem OwN.hi (h : OwN e O sz w lo v xs bs) : ∀ b ∈ bs, b < w.heap.size := by obtain ⟨cells, ib, h1, h2, h3, h4, h5, h6⟩ := h; exact fun b hb => (h6 b hb).2
theorem OwN.lo_ (h : OwN e O sz w lo v xs bs) : ∀ b ∈ bs, lo ≤ b := by obtain ⟨cells, ib, h1, h2, h3, h4, h5, h6⟩ := h; exact fun b hb => (h6 b hb).1
theorem OwN.row (h : OwN e O sz w lo v xs bs) {b : Nat} (hb : v.ownBlock = some b) : b ∈ bs := by obtain ⟨cells, ib, h1, h2, h3, h4, h5, h6⟩ := h; exact (h5 b hb).1
theorem OwN.below (ok : OwOk O sz) (h : OwN e O sz w lo v xs bs) (hb : Below w.heap.size w w') : OwN e O sz w' lo v xs bs := h.keep ok (fun b hin => hb.block b (h.hi b hin)) hb.size
theorem OwN.only {b : Nat} (ok : OwOk O sz) (h : OwN e O sz w lo v xs bs) (ho : Only [b] w w') (hn : b ∉ bs) : OwN e O sz w' lo v xs bs := h.keep ok (fun k hk => ho.block k (by intro hin; simp at hin; subst hin; exact hn hk)) (Nat.le_of_eq ho.size.symm)
theorem OwN.grown {row : Option Nat} (ok : OwOk O sz) (h : OwN e O sz w lo v xs bs) (hg : w.grownBy w' row) (hn : Ap bs row.toList) : OwN e O sz w' lo v xs bs := h.keep ok (fun k hk => hg.block k (h.hi k hk) (fun e => hn k hk (by simp [← e]))) hg.size
theorem OwN.mono (h : OwN e O sz w lo v xs bs) (hl : lo' ≤ lo) : OwN e O sz w lo' v xs bs := by
  obtain ⟨cells, ib, h1, h2, h3, h4, h5, h6⟩ := h
  refine ⟨cells, ib, ?_, h2, h3, h4, h5, fun b hb => by have := h6 b hb; omega⟩
  refine ⟨h1.1, ?_⟩
  rcases h1.2 with h | ⟨g, cap, cur, hv, hg, r⟩
  · exact .inl h
  · exact .inr ⟨g, cap, cur, hv, by omega, r⟩
theorem OwN.nil : OwN e O sz w lo (.slice none 0 0) ([] : List α) [] := ⟨[], [], ⟨by simp, .inl ⟨rfl, rfl⟩⟩, ⟨rfl, rfl⟩, List.nodup_nil, fun b hb => by simp at hb, fun b hb => by simp [Value.ownBlock] at hb, fun b hb => by simp at hb⟩
theorem OwN.form (h : OwN e O sz w lo v xs bs) : ∃ A c, v = .slice A xs.length c := by
  obtain ⟨cells, ib, h1, _⟩ := h
  rcases h1.2 with ⟨rfl, h0⟩ | ⟨g, cap, cur, hv, _⟩
  · exact ⟨none, 0, by rw [h0]⟩
  · exact ⟨_, _, hv⟩
theorem OwN.bound (h : OwN e O sz w lo v xs bs) : xs.length ≤ 9223372036854775807 := by
  obtain ⟨cells, ib, h1, _⟩ := h
  rcases h1.2 with ⟨_, h0⟩ | ⟨g, cap, cur, hv, hg, hh, h1, h2, _⟩
  · omega
  · unfold maxLen at h2; omega
theorem OwN.addr0 {A : Option Addr} {n c : Nat} (h : OwN e O sz w lo (.slice A n c) xs bs) (hn : 0 < n) : ∃ b, A = some ⟨b, 0, none⟩ := by
  obtain ⟨cells, ib, h1, _⟩ := h
  rcases h1.2 with ⟨h0, _⟩ | ⟨g, cap, cur, hv, _⟩
  · injection h0 with h1 h2; omega
  · injection hv with h1; exact ⟨g, h1⟩
theorem OwN.own1 (ok : OwOk O sz) (h : OwN e O sz w lo v xs bs) : ∃ A n c l, v = .slice A n c ∧ OwAt O sz w A n xs l ∧ l.Nodup ∧ (∀ b ∈ l, b ∈ bs) ∧ n ≤ c ∧ c ≤ maxLen := by
  obtain ⟨cells, ib, h1, h2, h3, h4, h5, h6⟩ := h
  rcases h1.2 with ⟨rfl, h0⟩ | ⟨g, cap, cur, rfl, hg, hh, k1, k2, k3, k4⟩
  · have : xs = [] := List.eq_nil_of_length_eq_zero h0
    subst this
    exact ⟨none, 0, 0, [], rfl, ⟨rfl, .inl ⟨rfl, rfl⟩⟩, List.nodup_nil, fun b hb => by simp at hb, Nat.le_refl _, Nat.zero_le _⟩
  · obtain ⟨hg1, hg2⟩ := h5 g rfl
    refine ⟨some ⟨g, 0, none⟩, _, cap, g :: ib, rfl, ⟨rfl, .inr ⟨g, 0, ib, rfl, rfl, ?_⟩⟩, List.nodup_cons.2 ⟨hg2, h3⟩, fun b hb => by
      rcases List.mem_cons.1 hb with rfl | hb
      · exact hg1
      · exact h4 b hb, k1, k2⟩
    refine h2.elAt (e := e) ok (cur := cur) hh 0 (fun j u hj => ?_)
    rw [← k4, List.getElem?_take] at hj
    split at hj
    · simpa using hj
    · cases hj
theorem OwN.own (ok : OwOk O sz) (h : OwN e O sz w lo v xs bs) : OwS O sz w v xs lo w.heap.size := by
  obtain ⟨A, n, c, l, e1, h1, h2, h3, r⟩ := h.own1 ok
  exact ⟨A, n, c, l, e1, h1, h2, fun b hb => ⟨h.lo_ b (h3 b hb), h.hi b (h3 b hb)⟩, r⟩
theorem OwN.rdS (ok : OwOk O sz) (hR : Gives O R w.heap.size) (h : OwN e O sz w lo v xs bs) : RdS R sz w w.heap.size v xs := (h.own ok).reads hR (Nat.le_refl _)
theorem OwN.arg (ok : OwOk O sz) (hR : Gives O R w.heap.size) (h : OwN e O sz w lo v xs bs) : Sl R sz w v xs := h.rdS ok hR
end
theorem setI_at {α : Type} {xs : List α} {i : Int} {k : Nat} {x : α} (hi : i = (k : Int)) (hk : k < xs.length) : (setI xs i x)[k]? = some x := by
  subst hi
  rw [setI_nat, List.getElem?_set_self hk]
section
variable {α : Type} {R : Rd α} {O : Ow α} {enc : α → List Value} {sz : Nat} {w w' : World} {lo lo' : Nat} {v : Value} {xs ys : List α} {e : TypeId}
theorem OwF.fhi (h : OwF e enc sz w lo v xs) : ∀ b ∈ fb v, b < w.heap.size := fun b hb => h.hi b (mem_fb.1 hb)
theorem OwF.flo (h : OwF e enc sz w lo v xs) : ∀ b ∈ fb v, lo ≤ b := fun b hb => h.lo_ b (mem_fb.1 hb)
theorem one_hi {g : Nat} (h : g < w.heap.size) : ∀ b ∈ [g], b < w.heap.size := fun b hb => by simp at hb; subst hb; exact h
variable {O' : Ow α} {bs : List Nat} {u : Value}
/-- Another slice of the call's own, while the row of v grows or is written. -/
theorem OwN.dj (h : OwN e O' sz w lo v xs bs) (A : Ap bs (fb u)) : Dj u v := fun b h1 h2 => A b (h.row h2) (mem_fb.2 h1)
end
end
section
open Go.RowKit
set_option linter.unusedVariables false
set_option linter.unusedSimpArgs false
theorem setI_eq {α : Type} {xs : List α} {i : Int} {k : Nat} {x : α} (h : i = (k : Int)) : setI xs i x = xs.set k x := by subst h; rfl
/-- Only the rows of v1 and v2 may have turned, of what was there. -/
structure KeepV (v1 v2 : Value) (w w' : World) : Prop where
  size : w.heap.size ≤ w'.heap.size
  block : ∀ b, b < w.heap.size → v1.ownBlock ≠ some b → v2.ownBlock ≠ some b → w'.heap[b]? = w.heap[b]?
section
variable {v1 v2 v : Value} {w w' w2 : World} {b : Nat}
theorem KeepV.refl (v1 v2 : Value) (w : World) : KeepV v1 v2 w w := ⟨Nat.le_refl _, fun _ _ _ _ => rfl⟩
theorem KeepV.below (K : KeepV v1 v2 w w') (hb : Below w'.heap.size w' w2) : KeepV v1 v2 w w2 := ⟨Nat.le_trans K.size hb.size, fun b h1 h2 h3 => (hb.block b (Nat.lt_of_lt_of_le h1 K.size)).trans (K.block b h1 h2 h3)⟩
theorem KeepV.far (K : KeepV v1 v2 w w') (ho : Only [b] w' w2) (hg : w.heap.size ≤ b) : KeepV v1 v2 w w2 := ⟨Nat.le_trans K.size (Nat.le_of_eq ho.size.symm), fun k h1 h2 h3 => (ho.block k (by simp; omega)).trans (K.block k h1 h2 h3)⟩
theorem KeepV.only1 (K : KeepV v1 v2 w w') (ho : Only [b] w' w2) (e : v1.ownBlock = some b) : KeepV v1 v2 w w2 := ⟨Nat.le_trans K.size (Nat.le_of_eq ho.size.symm), fun k h1 h2 h3 => (ho.block k (by intro hin; simp at hin; subst hin; exact h2 e)).trans (K.block k h1 h2 h3)⟩
theorem KeepV.only2 (K : KeepV v1 v2 w w') (ho : Only [b] w' w2) (e : v2.ownBlock = some b) : KeepV v1 v2 w w2 := ⟨Nat.le_trans K.size (Nat.le_of_eq ho.size.symm), fun k h1 h2 h3 => (ho.block k (by intro hin; simp at hin; subst hin; exact h3 e)).trans (K.block k h1 h2 h3)⟩
theorem Blk.keepV {t : TypeId} {cs : Array Value} (h : Blk w b t cs) (K : KeepV v1 v2 w w') (h1 : v1.ownBlock ≠ some b) (h2 : v2.ownBlock ≠ some b) : Blk w' b t cs := (K.block b h.lt h1 h2).trans h
end
section
variable {α : Type} {enc : α → List Value} {O : Ow α} {sz lo : Nat} {v v1 v2 : Value} {xs : List α} {w w' : World} {e : TypeId} {bs : List Nat}
theorem OwF.lenEq {A : Option Addr} {n c : Nat} (h : OwF e enc sz w lo (.slice A n c) xs) : n = xs.length := by
  obtain ⟨A', c', e1⟩ := h.form
  injection e1
theorem OwF.keepV (h : OwF e enc sz w lo v xs) (K : KeepV v1 v2 w w') (d1 : Dj v v1) (d2 : Dj v v2) : OwF e enc sz w' lo v xs := by
  refine ⟨h.1, ?_⟩
  rcases h.2 with h2 | ⟨g, cap, cur, hv, hg, hh, r⟩
  · exact .inl h2
  · have hb : v.ownBlock = some g := by rw [hv]; rfl
    exact .inr ⟨g, cap, cur, hv, hg, (K.block g (h.lt g hb).2 (d1 g hb) (d2 g hb)).trans hh, r⟩
theorem OwN.keepV (ok : OwOk O sz) (h : OwN e O sz w lo v xs bs) (K : KeepV v1 v2 w w') (d1 : Ap bs (fb v1)) (d2 : Ap bs (fb v2)) : OwN e O sz w' lo v xs bs :=
  h.keep ok (fun b hb => K.block b (h.hi b hb) (fun e => d1 b hb (mem_fb.2 e)) (fun e => d2 b hb (mem_fb.2 e))) K.size
end
theorem OwM.keepV {κ β : Type} {P : Program} {k : TypeId} {lit : κ → Lit} {enc : β → Value} {lo b : Nat} {m : MapM κ β} {v1 v2 : Value} {w w' : World} (h : OwM P k lit enc w lo b m) (K : KeepV v1 v2 w w') (h1 : v1.ownBlock ≠ some b) (h2 : v2.ownBlock ≠ some b) : OwM P k lit enc w' lo b m := h.keep (K.block b h.lt h1 h2)
section
variable {P : Program} {C : World → Prop} {f : Nat → Value} {d : Option Tmp} {ty : TypeId} {pos : String} {af : Array Edge} {g : Option (Nat × Bool)} {x y : Operand} {t t' : TypeId} {m c : Int}
theorem Y.quo (hx : ev f x = .int .i64 m) (hy : ev f y = .int .i64 c) (hc : c ≠ 0) (hr : -9223372036854775808 ≤ m.tdiv c ∧ m.tdiv c ≤ 9223372036854775807) : Y P C f ⟨d, .binOp .quo t x y t', ty, pos, af, g⟩ (.int .i64 (m.tdiv c)) := fun w _ => by
  simp only [execOp, hx, hy, Sem.run_bind, eqGuard_int, Result.andThen_ok]
  simp [binOp, Op.intDiv, hc, wrap_ok hr]
theorem Y.rem (hx : ev f x = .int .i64 m) (hy : ev f y = .int .i64 c) (hc : c ≠ 0) : Y P C f ⟨d, .binOp .rem t x y t', ty, pos, af, g⟩ (.int .i64 (m.tmod c)) := fun w _ => by
  simp only [execOp, hx, hy, Sem.run_bind, eqGuard_int, Result.andThen_ok]
  simp [binOp, Op.intDiv, hc]
end
end
section
open Go.RowKit
set_option linter.unusedVariables false
set_option linter.unusedSimpArgs false
set_option maxRecDepth 100000
def m_spec_l19Spread_A1 (xs2 : List Bool) (xs3 : List Bool) : Option ((List Bool) × (List Bool)) :=
  some (xs2, xs3)
def m_spec_l19Spread_A2 (rec1 : List Bool → List Bool → Bool → Option ((List Bool) × (List Bool))) (xs10 : List Bool) (xs11 : List Bool) (b12 : Bool) : Option ((List Bool) × (List Bool)) :=
  (rec1 xs10 xs11 b12)
def m_spec_l19Spread_B2 (d0 : DNet) (d3 : List DWire) (rec2 : List Bool → List Bool → Bool → Int → Option ((List Bool) × (List Bool))) (K2 : List Bool → List Bool → Bool → Option ((List Bool) × (List Bool))) (xs14 : List Bool) (xs15 : List Bool) (b16 : Bool) (i17 : Int) : Option ((List Bool) × (List Bool)) :=
  ((ck (2 * (d3.length : Int))).bind fun s19 => (bif (decide (i17 < s19)) then ((ck (i17.tdiv 2)).bind fun s21 => ((getI d3 (i17.tdiv 2)).bind fun x22 => ((ck (i17.tdiv 2)).bind fun s35 => ((getI d3 (i17.tdiv 2)).bind fun x36 => (bif ((i17.tmod 2) == 1) then ((ck (i17.tdiv 2)).bind fun s93 => ((getI d3 (i17.tdiv 2)).bind fun x94 => ((ck (i17.tdiv 2)).bind fun s102 => ((getI d3 (i17.tdiv 2)).bind fun x103 => ((getI xs14 x94.b.agent).bind fun x111 => (bif x111 then ((getI xs14 x103.a.agent).bind fun x118 => (bif x118 then (rec2 xs14 xs15 b16 (i17 + 1)) else ((getI xs14 x103.a.agent).bind fun x124 => ((m_spec_l19At d0 xs15 x94.b).bind fun y136 => ((m_spec_l19At d0 xs15 x103.a).bind fun y140 => ((getI xs15 x103.a.agent).bind fun x144 => (rec2 (setI xs14 x103.a.agent true) (setI xs15 x103.a.agent (y136 == y140)) true (i17 + 1)))))))) else (rec2 xs14 xs15 b16 (i17 + 1)))))))) else ((getI xs14 x22.a.agent).bind fun x49 => (bif x49 then ((getI xs14 x36.b.agent).bind fun x56 => (bif x56 then (rec2 xs14 xs15 b16 (i17 + 1)) else ((getI xs14 x36.b.agent).bind fun x62 => ((m_spec_l19At d0 xs15 x22.a).bind fun y74 => ((m_spec_l19At d0 xs15 x36.b).bind fun y78 => ((getI xs15 x36.b.agent).bind fun x82 => (rec2 (setI xs14 x36.b.agent true) (setI xs15 x36.b.agent (y74 == y78)) true (i17 + 1)))))))) else (rec2 xs14 xs15 b16 (i17 + 1))))))))) else (K2 xs14 xs15 b16)))
def m_spec_l19Spread_L2 (d0 : DNet) (d3 : List DWire) (K2 : List Bool → List Bool → Bool → Option ((List Bool) × (List Bool))) : Nat → List Bool → List Bool → Bool → Int → Option ((List Bool) × (List Bool))
  | 0, _, _, _, _ => none
  | g + 1, xs14, xs15, b16, i17 => m_spec_l19Spread_B2 d0 d3 (m_spec_l19Spread_L2 d0 d3 K2 g) K2 xs14 xs15 b16 i17
def m_spec_l19Spread_B1 (d0 : DNet) (d3 : List DWire) (rec1 : List Bool → List Bool → Bool → Option ((List Bool) × (List Bool))) (K1 : List Bool → List Bool → Option ((List Bool) × (List Bool))) (xs5 : List Bool) (xs6 : List Bool) (b7 : Bool) : Option ((List Bool) × (List Bool)) :=
  (bif b7 then (m_spec_l19Spread_L2 d0 d3 (m_spec_l19Spread_A2 rec1) (2 * d3.length + 2) xs5 xs6 false 0) else (K1 xs5 xs6))
def m_spec_l19Spread_L1 (d0 : DNet) (d3 : List DWire) (K1 : List Bool → List Bool → Option ((List Bool) × (List Bool))) : Nat → List Bool → List Bool → Bool → Option ((List Bool) × (List Bool))
  | 0, _, _, _ => none
  | g + 1, xs5, xs6, b7 => m_spec_l19Spread_B1 d0 d3 (m_spec_l19Spread_L1 d0 d3 K1 g) K1 xs5 xs6 b7
def m_spec_l19Spread (d0 : DNet) (d1 : List Bool) (d2 : List Bool) (d3 : List DWire) : Option ((List Bool) × (List Bool)) :=
  (m_spec_l19Spread_L1 d0 d3 m_spec_l19Spread_A1 (d1.length + 2) d1 d2 true)
set_option maxHeartbeats 2000000 in
theorem c_m_spec_l19Spread (d0 : DNet) (d1 : List Bool) (d2 : List Bool) (d3 : List DWire) (r : (List Bool) × (List Bool)) (hm : m_spec_l19Spread d0 d1 d2 d3 = some r) (v0 : Value) (v1 : Value) (v2 : Value) (v3 : Value) (w ws : World) (hT0 : Below w.heap.size w ws) (hv0 : Pt netRd w v0 d0) (hv1 : OwF 4 encB 1 ws w.heap.size v1 d1) (hv2 : OwF 4 encB 1 ws w.heap.size v2 d2) (hv3 : OwF 171 encWire 4 ws w.heap.size v3 d3) (hD1_2 : Dj v1 v2) (hD1_3 : Dj v1 v3) (hD2_3 : Dj v2 v3) :
    Calls Try.prog 76 #[v0, v1, v2, v3] ws fun e w' => e = .returned (.tuple #[]) ∧ OwF 4 encB 1 w' w.heap.size v1 r.1 ∧ OwF 4 encB 1 w' w.heap.size v2 r.2 ∧ OwF 171 encWire 4 w' w.heap.size v3 d3 ∧ KeepV v1 v2 ws w' ∧ Below w.heap.size w w' := by
  obtain ⟨ba0, oa0, csa0, rfl, hba0, hRa0, hca0⟩ := hv0
  have hSa0 := hRa0
  obtain ⟨A1, n1, c1, rfl, ⟨h1, r1⟩⟩ := hRa0
  have e1 := h1.len; subst e1
  have q1 := len_le r1
  obtain ⟨Ap1, cp1, rfl⟩ := OwF.form hv1
  obtain ⟨Ap2, cp2, rfl⟩ := OwF.form hv2
  obtain ⟨Ap3, cp3, rfl⟩ := OwF.form hv3
  have T := hT0
  have K := KeepV.refl (.slice Ap1 d1.length cp1) (.slice Ap2 d2.length cp2) ws
  unfold m_spec_l19Spread at hm
  refine enter 77 Try.func76 rfl rfl rfl ?_
  intro f hf
  have s0 : f 0 = .pointer (some ⟨ba0, oa0, none⟩) := hf 0 _ rfl
  have s1 : f 1 = .slice Ap1 d1.length cp1 := hf 1 _ rfl
  have s2 : f 2 = .slice Ap2 d2.length cp2 := hf 2 _ rfl
  have s3 : f 3 = .slice Ap3 d3.length cp3 := hf 3 _ rfl
  refine wp_seq ?_
  refine wp_rs rfl ?_
  refine RQ.y rfl (Y.assign (v := .bool true) rfl) ?_
  refine RQ.nil ?_
  refine then_n ?_
  refine wp_block ?_
  obtain ⟨K1, hK1, hm⟩ : ∃ K, K = m_spec_l19Spread_A1 ∧ m_spec_l19Spread_L1 d0 d3 K (d1.length + 2) d1 d2 true = some r := ⟨_, rfl, hm⟩
  refine wp_loopX (fun g f w' => ∃ (xs5 : List Bool) (xs6 : List Bool) (b7 : Bool), f 0 = .pointer (some ⟨ba0, oa0, none⟩) ∧ f 3 = .slice Ap3 d3.length cp3 ∧ f 1 = .slice Ap1 d1.length cp1 ∧ OwF 4 encB 1 w' w.heap.size (.slice Ap1 d1.length cp1) xs5 ∧ f 2 = .slice Ap2 d2.length cp2 ∧ OwF 4 encB 1 w' w.heap.size (.slice Ap2 d2.length cp2) xs6 ∧ f 8 = .bool b7 ∧ OwF 171 encWire 4 w' w.heap.size (.slice Ap3 d3.length cp3) d3 ∧ KeepV (.slice Ap1 d1.length cp1) (.slice Ap2 d2.length cp2) ws w' ∧ Below w.heap.size w w' ∧ m_spec_l19Spread_L1 d0 d3 K1 g xs5 xs6 b7 = some r) 0 (fun f w' => ∃ (xs2 : List Bool) (xs3 : List Bool), f 3 = .slice Ap3 d3.length cp3 ∧ f 1 = .slice Ap1 d1.length cp1 ∧ OwF 4 encB 1 w' w.heap.size (.slice Ap1 d1.length cp1) xs2 ∧ f 2 = .slice Ap2 d2.length cp2 ∧ OwF 4 encB 1 w' w.heap.size (.slice Ap2 d2.length cp2) xs3 ∧ OwF 171 encWire 4 w' w.heap.size (.slice Ap3 d3.length cp3) d3 ∧ KeepV (.slice Ap1 d1.length cp1) (.slice Ap2 d2.length cp2) ws w' ∧ Below w.heap.size w w' ∧ m_spec_l19Spread_A1 xs2 xs3 = some r) (d1.length + 2) ⟨d1, d2, true, s0, s3, s1, hv1, s2, hv2, rfl, hv3, K, T, hm⟩ ?_ ?_
  · rintro f w4 ⟨xs2, xs3, s3_1x, s1_1x, Gxs2, s2_1x, Gxs3, hv3, K, T, hm⟩
    unfold m_spec_l19Spread_A1 at hm
    obtain rfl := Option.some.inj hm
    exact (blk_hit (end0 rfl ⟨rfl, Gxs2, Gxs3, hv3, K, T⟩))
  · rintro g f w8 ⟨xs5, xs6, b7, s0_1, s3_1, s1_1, Gxs5, s2_1, Gxs6, s8_1, hv3, K, T, hm⟩
    rcases g with _ | g
    · simp only [m_spec_l19Spread_L1] at hm; cases hm
    obtain ⟨rec1, hrec1, hm⟩ : ∃ z, z = m_spec_l19Spread_L1 d0 d3 K1 g ∧ m_spec_l19Spread_B1 d0 d3 z K1 xs5 xs6 b7 = some r := ⟨_, rfl, hm⟩
    unfold m_spec_l19Spread_B1 at hm
    refine wp_seq ?_
    refine wp_seq ?_
    refine wp_rs rfl ?_
    refine RQ.y rfl (Y.move (v := .bool b7) s8_1) ?_
    refine RQ.nil ?_
    refine then_n ?_
    rcases bcases b7 with c9 | c9
    · replace hm := cF c9 hm
      refine cond_f rfl (vb rfl c9) ?_
      refine wp_exit ?_
      exact (then_x (then_x (hit_x ⟨_, rfl, ⟨xs5, xs6, s3_1, s1_1, Gxs5, s2_1, Gxs6, hv3, K, T, (by rw [hK1] at hm; exact hm)⟩⟩)))
    · replace hm := cT c9 hm
      refine cond_t rfl (vb rfl c9) ?_
      refine wp_skip ?_
      refine then_n ?_
      refine wp_block ?_
      refine wp_seq ?_
      refine wp_rs rfl ?_
      refine RQ.y rfl (Y.assign (v := .bool false) rfl) ?_
      refine RQ.nil ?_
      refine then_n ?_
      refine wp_seq ?_
      refine wp_rs rfl ?_
      refine RQ.y rfl (Y.assign (v := .int .i64 0) rfl) ?_
      refine RQ.nil ?_
      refine then_n ?_
      refine wp_block ?_
      obtain ⟨K2, hK2, hm⟩ : ∃ K, K = (m_spec_l19Spread_A2 rec1) ∧ m_spec_l19Spread_L2 d0 d3 K (2 * d3.length + 2) xs5 xs6 false 0 = some r := ⟨_, rfl, hm⟩
      refine wp_loopX (fun g f w' => ∃ (xs14 : List Bool) (xs15 : List Bool) (b16 : Bool) (i17 : Int), f 0 = .pointer (some ⟨ba0, oa0, none⟩) ∧ f 3 = .slice Ap3 d3.length cp3 ∧ f 1 = .slice Ap1 d1.length cp1 ∧ OwF 4 encB 1 w' w.heap.size (.slice Ap1 d1.length cp1) xs14 ∧ f 2 = .slice Ap2 d2.length cp2 ∧ OwF 4 encB 1 w' w.heap.size (.slice Ap2 d2.length cp2) xs15 ∧ f 8 = .bool b16 ∧ f 9 = .int .i64 i17 ∧ 0 ≤ i17 ∧ OwF 171 encWire 4 w' w.heap.size (.slice Ap3 d3.length cp3) d3 ∧ KeepV (.slice Ap1 d1.length cp1) (.slice Ap2 d2.length cp2) ws w' ∧ Below w.heap.size w w' ∧ m_spec_l19Spread_L2 d0 d3 K2 g xs14 xs15 b16 i17 = some r) 2 (fun f w' => ∃ (xs10 : List Bool) (xs11 : List Bool) (b12 : Bool), f 0 = .pointer (some ⟨ba0, oa0, none⟩) ∧ f 3 = .slice Ap3 d3.length cp3 ∧ f 1 = .slice Ap1 d1.length cp1 ∧ OwF 4 encB 1 w' w.heap.size (.slice Ap1 d1.length cp1) xs10 ∧ f 2 = .slice Ap2 d2.length cp2 ∧ OwF 4 encB 1 w' w.heap.size (.slice Ap2 d2.length cp2) xs11 ∧ f 8 = .bool b12 ∧ OwF 171 encWire 4 w' w.heap.size (.slice Ap3 d3.length cp3) d3 ∧ KeepV (.slice Ap1 d1.length cp1) (.slice Ap2 d2.length cp2) ws w' ∧ Below w.heap.size w w' ∧ m_spec_l19Spread_A2 rec1 xs10 xs11 b12 = some r) (2 * d3.length + 2) ⟨xs5, xs6, false, 0, s0_1, s3_1, s1_1, Gxs5, s2_1, Gxs6, rfl, rfl, (by omega), hv3, K, T, hm⟩ ?_ ?_
      · rintro f w13 ⟨xs10, xs11, b12, s0_2x, s3_2x, s1_2x, Gxs10, s2_2x, Gxs11, s8_2x, hv3, K, T, hm⟩
        unfold m_spec_l19Spread_A2 at hm
        exact (blk_hit (blk_n (then_n ⟨g, _, Nat.lt_succ_self _, rfl, ⟨xs10, xs11, b12, s0_2x, s3_2x, s1_2x, Gxs10, s2_2x, Gxs11, s8_2x, hv3, K, T, (by rw [← hrec1]; exact hm)⟩⟩)))
      · rintro g f w18 ⟨xs14, xs15, b16, i17, s0_2, s3_2, s1_2, Gxs14, s2_2, Gxs15, s8_2, s9_2, nn9_2, hv3, K, T, hm⟩
        rcases g with _ | g
        · simp only [m_spec_l19Spread_L2] at hm; cases hm
        obtain ⟨rec2, hrec2, hm⟩ : ∃ z, z = m_spec_l19Spread_L2 d0 d3 K2 g ∧ m_spec_l19Spread_B2 d0 d3 z K2 xs14 xs15 b16 i17 = some r := ⟨_, rfl, hm⟩
        unfold m_spec_l19Spread_B2 at hm
        refine wp_seq ?_
        refine wp_seq ?_
        refine wp_rs rfl ?_
        refine RQ.y rfl (Y.move (v := .int .i64 i17) s9_2) ?_
        refine RQ.y rfl (Y.move (v := .slice Ap3 d3.length cp3) s3_2) ?_
        refine RQ.y rfl (Y.len (by kernel_rfl) rfl) ?_
        obtain ⟨s19, ks19, hm⟩ := bnd hm
        replace ks19 := ck_some ks19
        refine RQ.y rfl (Y.binI (v := .int .i64 s19) rfl rfl (by rw [binI_mul ks19.2, ks19.1])) ?_
        refine RQ.y rfl (Y.binI (v := .bool (decide (i17 < s19))) rfl rfl rfl) ?_
        refine RQ.nil ?_
        refine then_n ?_
        rcases bcases (decide (i17 < s19)) with c20 | c20
        · replace hm := cF c20 hm
          have pc20 := of_decide_eq_false c20
          refine cond_f rfl (vb rfl c20) ?_
          refine wp_exit ?_
          exact (then_x (then_x (hit_x ⟨_, rfl, ⟨xs14, xs15, b16, s0_2, s3_2, s1_2, Gxs14, s2_2, Gxs15, s8_2, hv3, K, T, (by rw [hK2] at hm; exact hm)⟩⟩)))
        · replace hm := cT c20 hm
          have pc20 := of_decide_eq_true c20
          refine cond_t rfl (vb rfl c20) ?_
          refine wp_skip ?_
          refine then_n ?_
          refine wp_seq ?_
          refine wp_block ?_
          refine wp_seq ?_
          refine wp_rl rfl ?_
          refine RL.y rfl (Y.move (v := .slice Ap3 d3.length cp3) s3_2) ?_
          refine RL.y rfl (Y.move (v := .int .i64 i17) s9_2) ?_
          obtain ⟨s21, ks21, hm⟩ := bnd hm
          replace ks21 := ck_some ks21
          refine RL.y rfl (Y.quo rfl rfl (by decide) ks21.2) ?_
          obtain ⟨x22, hx24, hm⟩ := bnd hm
          obtain ⟨k23, hk25, hl26, hx24⟩ := getI_some hx24
          obtain ⟨b27, rfl⟩ := OwF.addr0 hv3 (by have := OwF.lenEq hv3; omega)
          refine RL.y rfl (Y.indexAddr (m := k23) (sz := 4) rfl rfl hk25 (by have := OwF.lenEq hv3; omega) (by kernel_rfl)) ?_
          refine RL.y rfl (Y.fieldAddr (off := 0) rfl (by kernel_rfl)) ?_
          refine RL.y rfl (Y.loadN (cs := [.int .i64 x22.a.agent, .int .i64 x22.a.slot]) rfl (by kernel_rfl) (cells2 (eqC (OwF.cell fWire hv3 hx24 (j := 0) rfl)) (eqC (OwF.cell fWire hv3 hx24 (j := 1) rfl)))) ?_
          refine RL.alloc (z := .agg #[.int .i64 0, .int .i64 0]) rfl (by kernel_rfl) (fun w28 B29 hb30 szw28 => ?_)
          replace B29 : Blk w28 w18.heap.size 81 #[.int .i64 0, .int .i64 0] := B29
          have GB29 : w.heap.size ≤ w18.heap.size := T.size
          have KZob31 := K.size
          have Nop3_ob31 := OwF.far hv3 (Nat.le_refl _)
          have Nop1_ob31 := OwF.far Gxs14 (Nat.le_refl _)
          have Nop2_ob31 := OwF.far Gxs15 (Nat.le_refl _)
          have hv3 := OwF.below hv3 hb30
          have Gxs14 := OwF.below Gxs14 hb30
          have Gxs15 := OwF.below Gxs15 hb30
          have K := KeepV.below K hb30
          have T := Tt T hb30
          refine RL.store (v := .agg #[.int .i64 x22.a.agent, .int .i64 x22.a.slot]) (cs' := #[.int .i64 x22.a.agent, .int .i64 x22.a.slot]) rfl rfl rfl B29 (by kernel_rfl) (by rfl) (by rfl) (by rfl) (fun w32 B33 ho34 => ?_)
          have szw32 := ho34.size
          have hv3 := OwF.only hv3 ho34 Nop3_ob31
          have Gxs14 := OwF.only Gxs14 ho34 Nop1_ob31
          have Gxs15 := OwF.only Gxs15 ho34 Nop2_ob31
          have K := KeepV.far K ho34 KZob31
          have T := T.trans (ho34.below (by first | (simp; done) | (simp; omega)))
          refine RL.nil ?_
          refine then_n ?_
          refine wp_seq ?_
          refine wp_rl rfl ?_
          refine RL.y rfl (Y.move (v := .slice (some ⟨b27, 0, none⟩) d3.length cp3) s3_2) ?_
          refine RL.y rfl (Y.move (v := .int .i64 i17) s9_2) ?_
          obtain ⟨s35, ks35, hm⟩ := bnd hm
          replace ks35 := ck_some ks35
          refine RL.y rfl (Y.quo rfl rfl (by decide) ks35.2) ?_
          obtain ⟨x36, hx38, hm⟩ := bnd hm
          obtain ⟨k37, hk39, hl40, hx38⟩ := getI_some hx38
          refine RL.y rfl (Y.indexAddr (m := k37) (sz := 4) rfl rfl hk39 (by have := OwF.lenEq hv3; omega) (by kernel_rfl)) ?_
          refine RL.y rfl (Y.fieldAddr (off := 2) rfl (by kernel_rfl)) ?_
          refine RL.y rfl (Y.loadN (cs := [.int .i64 x36.b.agent, .int .i64 x36.b.slot]) rfl (by kernel_rfl) (cells2 (eqC (OwF.cell fWire hv3 hx38 (j := 2) rfl)) (eqC (OwF.cell fWire hv3 hx38 (j := 3) rfl)))) ?_
          refine RL.alloc (z := .agg #[.int .i64 0, .int .i64 0]) rfl (by kernel_rfl) (fun w41 B42 hb43 szw41 => ?_)
          replace B42 : Blk w41 w32.heap.size 81 #[.int .i64 0, .int .i64 0] := B42
          have GB42 : w.heap.size ≤ w32.heap.size := T.size
          have KZob44 := K.size
          have Eob44_ob31 := Nat.ne_of_lt B33.lt
          have Nop3_ob44 := OwF.far hv3 (Nat.le_refl _)
          have Nop1_ob44 := OwF.far Gxs14 (Nat.le_refl _)
          have Nop2_ob44 := OwF.far Gxs15 (Nat.le_refl _)
          have B33 := blkT B33 hb43
          have hv3 := OwF.below hv3 hb43
          have Gxs14 := OwF.below Gxs14 hb43
          have Gxs15 := OwF.below Gxs15 hb43
          have K := KeepV.below K hb43
          have T := Tt T hb43
          refine RL.store (v := .agg #[.int .i64 x36.b.agent, .int .i64 x36.b.slot]) (cs' := #[.int .i64 x36.b.agent, .int .i64 x36.b.slot]) rfl rfl rfl B42 (by kernel_rfl) (by rfl) (by rfl) (by rfl) (fun w45 B46 ho47 => ?_)
          have szw45 := ho47.size
          have B33 := B33.only_ ho47 (by intro hin; simp at hin; exact Eob44_ob31 hin)
          have hv3 := OwF.only hv3 ho47 Nop3_ob44
          have Gxs14 := OwF.only Gxs14 ho47 Nop1_ob44
          have Gxs15 := OwF.only Gxs15 ho47 Nop2_ob44
          have K := KeepV.far K ho47 KZob44
          have T := T.trans (ho47.below (by first | (simp; done) | (simp; omega)))
          refine RL.nil ?_
          refine then_n ?_
          refine wp_seq ?_
          refine wp_seq ?_
          refine wp_rs rfl ?_
          refine RQ.y rfl (Y.move (v := .int .i64 i17) s9_2) ?_
          refine RQ.y rfl (Y.rem rfl rfl (by decide)) ?_
          refine RQ.y rfl (Y.binI (v := .bool ((i17.tmod 2) == 1)) rfl rfl rfl) ?_
          refine RQ.nil ?_
          refine then_n ?_
          rcases bcases ((i17.tmod 2) == 1) with c48 | c48
          · replace hm := cF c48 hm
            refine cond_f rfl (vb rfl c48) ?_
            refine wp_skip ?_
            refine then_n ?_
            refine wp_seq ?_
            refine wp_rs rfl ?_
            refine RQ.y rfl (Y.move (v := .slice Ap1 d1.length cp1) s1_2) ?_
            refine RQ.y rfl (Y.fieldAddr (off := 0) rfl (by kernel_rfl)) ?_
            refine RQ.y rfl (Y.load (v := .int .i64 x22.a.agent) rfl (by kernel_rfl) (eqC (blkCell B33 (i := 0) rfl))) ?_
            obtain ⟨x49, hx51, hm⟩ := bnd hm
            obtain ⟨k50, hk52, hl53, hx51⟩ := getI_some hx51
            obtain ⟨b54, rfl⟩ := OwF.addr0 Gxs14 (by have := OwF.lenEq Gxs14; omega)
            refine RQ.y rfl (Y.indexAddr (m := k50) (sz := 1) rfl rfl hk52 (by have := OwF.lenEq Gxs14; omega) (by kernel_rfl)) ?_
            refine RQ.y rfl (Y.load (v := .bool x49) rfl (by kernel_rfl) (eqC (OwF.cell fB Gxs14 hx51 (j := 0) rfl))) ?_
            refine RQ.y rfl (Y.move (v := .bool x49) rfl) ?_
            rcases bcases x49 with c55 | c55
            · replace hm := cF c55 hm
              refine RQ.skip (wantN (dj := 52) rfl (vb rfl c55) rfl) ?_
              refine RQ.skip (wantN (dj := 52) rfl (vb rfl c55) rfl) ?_
              refine RQ.skip (wantN (dj := 52) rfl (vb rfl c55) rfl) ?_
              refine RQ.skip (wantN (dj := 52) rfl (vb rfl c55) rfl) ?_
              refine RQ.skip (wantN (dj := 52) rfl (vb rfl c55) rfl) ?_
              refine RQ.skip (wantN (dj := 52) rfl (vb rfl c55) rfl) ?_
              refine RQ.y rfl (Y.pick (b := false) (v := .bool false) (vb rfl c55) rfl) ?_
              refine RQ.nil ?_
              refine then_n ?_
              refine cond_f rfl rfl ?_
              refine wp_skip ?_
              refine blk_n (then_n ?_)
              refine wp_rs rfl ?_
              refine RQ.y rfl (Y.move (v := .int .i64 i17) s9_2) ?_
              refine RQ.y rfl (Y.binI rfl rfl (binI_add (m := i17) (by omega))) ?_
              refine RQ.y rfl (Y.assign (v := .int .i64 (i17 + 1)) rfl) ?_
              refine RQ.nil ?_
              exact (then_n ⟨g, _, Nat.lt_succ_self _, rfl, ⟨xs14, xs15, b16, (i17 + 1), s0_2, s3_2, s1_2, Gxs14, s2_2, Gxs15, s8_2, rfl, (by omega), hv3, K, T, (by rw [← hrec2]; exact hm)⟩⟩)
            · replace hm := cT c55 hm
              refine RQ.y (wantT (dj := 52) rfl (vb rfl c55)) (Y.move (v := .slice (some ⟨b54, 0, none⟩) d1.length cp1) s1_2) ?_
              refine RQ.y (wantT (dj := 52) rfl (vb rfl c55)) (Y.fieldAddr (off := 0) rfl (by kernel_rfl)) ?_
              refine RQ.y (wantT (dj := 52) rfl (vb rfl c55)) (Y.load (v := .int .i64 x36.b.agent) rfl (by kernel_rfl) (eqC (blkCell B46 (i := 0) rfl))) ?_
              obtain ⟨x56, hx58, hm⟩ := bnd hm
              obtain ⟨k57, hk59, hl60, hx58⟩ := getI_some hx58
              refine RQ.y (wantT (dj := 52) rfl (vb rfl c55)) (Y.indexAddr (m := k57) (sz := 1) rfl rfl hk59 (by have := OwF.lenEq Gxs14; omega) (by kernel_rfl)) ?_
              refine RQ.y (wantT (dj := 52) rfl (vb rfl c55)) (Y.load (v := .bool x56) rfl (by kernel_rfl) (eqC (OwF.cell fB Gxs14 hx58 (j := 0) rfl))) ?_
              refine RQ.y (wantT (dj := 52) rfl (vb rfl c55)) (Y.not (b' := (!x56)) rfl rfl) ?_
              refine RQ.y rfl (Y.pick (b := true) (v := .bool (!x56)) (vb rfl c55) rfl) ?_
              refine RQ.nil ?_
              refine then_n ?_
              rcases bcases x56 with c61 | c61
              · replace hm := cF c61 hm
                refine cond_t rfl (vbn rfl c61 rfl) ?_
                refine wp_seq ?_
                refine wp_rl rfl ?_
                refine RL.y rfl (Y.move (v := .slice (some ⟨b54, 0, none⟩) d1.length cp1) s1_2) ?_
                refine RL.y rfl (Y.fieldAddr (off := 0) rfl (by kernel_rfl)) ?_
                refine RL.y rfl (Y.load (v := .int .i64 x36.b.agent) rfl (by kernel_rfl) (eqC (blkCell B46 (i := 0) rfl))) ?_
                obtain ⟨x62, hx64, hm⟩ := bnd hm
                obtain ⟨k63, hk65, hl66, hx64⟩ := getI_some hx64
                refine RL.y rfl (Y.indexAddr (m := k63) (sz := 1) rfl rfl hk65 (by have := OwF.lenEq Gxs14; omega) (by kernel_rfl)) ?_
                refine RL.storeF (k := k63) (a := true) fB rfl rfl rfl Gxs14 hl66 rfl (by kernel_rfl) (fun w67 G68 ho69 => ?_)
                have szw67 := ho69.size
                have B33 := Blk.only_ B33 ho69 (fun e => Nop1_ob31 (by simp at e; rw [e]; rfl))
                have B46 := Blk.only_ B46 ho69 (fun e => Nop1_ob44 (by simp at e; rw [e]; rfl))
                have hv3 := OwF.only hv3 ho69 (fun e => (Dj.symm hD1_3) _ e rfl)
                have Gxs15 := OwF.only Gxs15 ho69 (fun e => (Dj.symm hD1_2) _ e rfl)
                have K := KeepV.only1 K ho69 rfl
                have T := T.trans (ho69.below (by intro b hb; simp at hb; subst hb; exact OwF.lo_ Gxs14 _ rfl))
                have G68 : OwF 4 encB 1 w67 w.heap.size (.slice (some ⟨b54, 0, none⟩) d1.length cp1) (setI xs14 x36.b.agent true) := by rw [setI_eq hk65]; exact G68
                have hx70 : (setI xs14 x36.b.agent true)[k63]? = some true := setI_at hk65 hl66
                have hl71 := lt_of_some hx70
                refine RL.nil ?_
                refine then_n ?_
                refine wp_seq ?_
                refine wp_rg (fun w' => Below w.heap.size w w' ∧ Blk w' w18.heap.size 81 #[.int .i64 x22.a.agent, .int .i64 x22.a.slot] ∧ Blk w' w32.heap.size 81 #[.int .i64 x36.b.agent, .int .i64 x36.b.slot]) [(0, true), (1, true), (2, true), (3, true), (4, true), (5, true), (7, true), (8, true), (9, true), (6, false), (10, false), (11, true), (12, true), (13, false)] (by kernel_rfl) (by kernel_rfl) (fun w72 hb73 szw72 => ?_)
                have B33 := blkT B33 hb73
                have B46 := blkT B46 hb73
                have hv3 := OwF.below hv3 hb73
                have G68 := OwF.below G68 hb73
                have Gxs15 := OwF.below Gxs15 hb73
                have K := KeepV.below K hb73
                have T := Tt T hb73
                refine ⟨⟨T, B33, B46⟩, ?_⟩
                refine RG.y rfl rfl (Y.move (v := .slice Ap2 d2.length cp2) s2_2) ?_
                refine RG.y rfl rfl (Y.fieldAddr (off := 0) rfl (by kernel_rfl)) ?_
                refine RG.y rfl rfl (Y.load (v := .int .i64 x36.b.agent) rfl (by kernel_rfl) (fun w' hS => (blkCell hS.2.2 (i := 0) rfl))) ?_
                refine RG.y rfl rfl (Y.move (v := .pointer (some ⟨ba0, oa0, none⟩)) s0_2) ?_
                refine RG.y rfl rfl (Y.move (v := .slice Ap2 d2.length cp2) s2_2) ?_
                refine RG.y rfl rfl (Y.loadN (cs := [.int .i64 x22.a.agent, .int .i64 x22.a.slot]) rfl (by kernel_rfl) (cells2 (fun w' hS => (blkCell hS.2.1 (i := 0) rfl)) (fun w' hS => (blkCell hS.2.1 (i := 1) rfl)))) ?_
                refine RG.y rfl rfl (Y.move (v := .pointer (some ⟨ba0, oa0, none⟩)) s0_2) ?_
                refine RG.y rfl rfl (Y.move (v := .slice Ap2 d2.length cp2) s2_2) ?_
                refine RG.y rfl rfl (Y.loadN (cs := [.int .i64 x36.b.agent, .int .i64 x36.b.slot]) rfl (by kernel_rfl) (cells2 (fun w' hS => (blkCell hS.2.2 (i := 0) rfl)) (fun w' hS => (blkCell hS.2.2 (i := 1) rfl)))) ?_
                refine RG.act rfl ?_
                obtain ⟨y74, e75, hm⟩ := bnd hm
                refine RL.call rfl (am3 rfl rfl rfl) (by kernel_rfl) ((c_m_spec_l19At d0 xs15 x22.a _ e75 _ _ _ (ptArg netRd_ok hba0 hSa0 hca0 T) (OwF.arg fB Gxs15)).mono ?_)
                rintro _ w76 ⟨rfl, hb77⟩
                refine ⟨_, rfl, ?_⟩
                have szw76 := hb77.size
                have B33 := blkT B33 hb77
                have B46 := blkT B46 hb77
                have hv3 := OwF.below hv3 hb77
                have G68 := OwF.below G68 hb77
                have Gxs15 := OwF.below Gxs15 hb77
                have K := KeepV.below K hb77
                have T := Tt T hb77
                refine RL.nil ⟨⟨T, B33, B46⟩, ?_⟩
                refine RG.act rfl ?_
                obtain ⟨y78, e79, hm⟩ := bnd hm
                refine RL.call rfl (am3 rfl rfl rfl) (by kernel_rfl) ((c_m_spec_l19At d0 xs15 x36.b _ e79 _ _ _ (ptArg netRd_ok hba0 hSa0 hca0 T) (OwF.arg fB Gxs15)).mono ?_)
                rintro _ w80 ⟨rfl, hb81⟩
                refine ⟨_, rfl, ?_⟩
                have szw80 := hb81.size
                have B33 := blkT B33 hb81
                have B46 := blkT B46 hb81
                have hv3 := OwF.below hv3 hb81
                have G68 := OwF.below G68 hb81
                have Gxs15 := OwF.below Gxs15 hb81
                have K := KeepV.below K hb81
                have T := Tt T hb81
                refine RL.nil ⟨⟨T, B33, B46⟩, ?_⟩
                refine RG.y rfl rfl (Y.binI (v := .bool (y74 == y78)) rfl rfl rfl) ?_
                obtain ⟨x82, hx84, hm⟩ := bnd hm
                obtain ⟨k83, hk85, hl86, hx84⟩ := getI_some hx84
                obtain ⟨b87, rfl⟩ := OwF.addr0 Gxs15 (by have := OwF.lenEq Gxs15; omega)
                refine RG.y rfl rfl (Y.indexAddr (m := k83) (sz := 1) rfl rfl hk85 (by have := OwF.lenEq Gxs15; omega) (by kernel_rfl)) ?_
                refine RG.act rfl ?_
                refine RL.storeF (k := k83) (a := (y74 == y78)) fB rfl rfl rfl Gxs15 hl86 rfl (by kernel_rfl) (fun w88 G89 ho90 => ?_)
                have szw88 := ho90.size
                have B33 := Blk.only_ B33 ho90 (fun e => Nop2_ob31 (by simp at e; rw [e]; rfl))
                have B46 := Blk.only_ B46 ho90 (fun e => Nop2_ob44 (by simp at e; rw [e]; rfl))
                have hv3 := OwF.only hv3 ho90 (fun e => (Dj.symm hD2_3) _ e rfl)
                have G68 := OwF.only G68 ho90 (fun e => hD1_2 _ e rfl)
                have K := KeepV.only2 K ho90 rfl
                have T := T.trans (ho90.below (by intro b hb; simp at hb; subst hb; exact OwF.lo_ Gxs15 _ rfl))
                have G89 : OwF 4 encB 1 w88 w.heap.size (.slice (some ⟨b87, 0, none⟩) d2.length cp2) (setI xs15 x36.b.agent (y74 == y78)) := by rw [setI_eq hk85]; exact G89
                have hx91 : (setI xs15 x36.b.agent (y74 == y78))[k83]? = some (y74 == y78) := setI_at hk85 hl86
                have hl92 := lt_of_some hx91
                refine RL.nil ⟨⟨T, B33, B46⟩, ?_⟩
                refine RG.nil ?_
                refine then_n ?_
                refine wp_rs rfl ?_
                refine RQ.y rfl (Y.assign (v := .bool true) rfl) ?_
                refine RQ.nil ?_
                refine blk_n (then_n ?_)
                refine wp_rs rfl ?_
                refine RQ.y rfl (Y.move (v := .int .i64 i17) s9_2) ?_
                refine RQ.y rfl (Y.binI rfl rfl (binI_add (m := i17) (by omega))) ?_
                refine RQ.y rfl (Y.assign (v := .int .i64 (i17 + 1)) rfl) ?_
                refine RQ.nil ?_
                exact (then_n ⟨g, _, Nat.lt_succ_self _, rfl, ⟨(setI xs14 x36.b.agent true), (setI xs15 x36.b.agent (y74 == y78)), true, (i17 + 1), s0_2, s3_2, s1_2, G68, s2_2, G89, rfl, rfl, (by omega), hv3, K, T, (by rw [← hrec2]; exact hm)⟩⟩)
              · replace hm := cT c61 hm
                refine cond_f rfl (vbn rfl c61 rfl) ?_
                refine wp_skip ?_
                refine blk_n (then_n ?_)
                refine wp_rs rfl ?_
                refine RQ.y rfl (Y.move (v := .int .i64 i17) s9_2) ?_
                refine RQ.y rfl (Y.binI rfl rfl (binI_add (m := i17) (by omega))) ?_
                refine RQ.y rfl (Y.assign (v := .int .i64 (i17 + 1)) rfl) ?_
                refine RQ.nil ?_
                exact (then_n ⟨g, _, Nat.lt_succ_self _, rfl, ⟨xs14, xs15, b16, (i17 + 1), s0_2, s3_2, s1_2, Gxs14, s2_2, Gxs15, s8_2, rfl, (by omega), hv3, K, T, (by rw [← hrec2]; exact hm)⟩⟩)
          · replace hm := cT c48 hm
            refine cond_t rfl (vb rfl c48) ?_
            refine wp_seq ?_
            refine wp_rl rfl ?_
            refine RL.y rfl (Y.move (v := .slice (some ⟨b27, 0, none⟩) d3.length cp3) s3_2) ?_
            refine RL.y rfl (Y.move (v := .int .i64 i17) s9_2) ?_
            obtain ⟨s93, ks93, hm⟩ := bnd hm
            replace ks93 := ck_some ks93
            refine RL.y rfl (Y.quo rfl rfl (by decide) ks93.2) ?_
            obtain ⟨x94, hx96, hm⟩ := bnd hm
            obtain ⟨k95, hk97, hl98, hx96⟩ := getI_some hx96
            refine RL.y rfl (Y.indexAddr (m := k95) (sz := 4) rfl rfl hk97 (by have := OwF.lenEq hv3; omega) (by kernel_rfl)) ?_
            refine RL.y rfl (Y.fieldAddr (off := 2) rfl (by kernel_rfl)) ?_
            refine RL.y rfl (Y.loadN (cs := [.int .i64 x94.b.agent, .int .i64 x94.b.slot]) rfl (by kernel_rfl) (cells2 (eqC (OwF.cell fWire hv3 hx96 (j := 2) rfl)) (eqC (OwF.cell fWire hv3 hx96 (j := 3) rfl)))) ?_
            refine RL.store (v := .agg #[.int .i64 x94.b.agent, .int .i64 x94.b.slot]) (cs' := #[.int .i64 x94.b.agent, .int .i64 x94.b.slot]) rfl rfl rfl B33 (by kernel_rfl) (by rfl) (by rfl) (by rfl) (fun w99 B100 ho101 => ?_)
            have szw99 := ho101.size
            have B46 := B46.only_ ho101 (by intro hin; simp at hin; exact Eob44_ob31.symm hin)
            have hv3 := OwF.only hv3 ho101 Nop3_ob31
            have Gxs14 := OwF.only Gxs14 ho101 Nop1_ob31
            have Gxs15 := OwF.only Gxs15 ho101 Nop2_ob31
            have K := KeepV.far K ho101 KZob31
            have T := T.trans (ho101.below (by first | (simp; done) | (simp; omega)))
            refine RL.nil ?_
            refine then_n ?_
            refine wp_rl rfl ?_
            refine RL.y rfl (Y.move (v := .slice (some ⟨b27, 0, none⟩) d3.length cp3) s3_2) ?_
            refine RL.y rfl (Y.move (v := .int .i64 i17) s9_2) ?_
            obtain ⟨s102, ks102, hm⟩ := bnd hm
            replace ks102 := ck_some ks102
            refine RL.y rfl (Y.quo rfl rfl (by decide) ks102.2) ?_
            obtain ⟨x103, hx105, hm⟩ := bnd hm
            obtain ⟨k104, hk106, hl107, hx105⟩ := getI_some hx105
            refine RL.y rfl (Y.indexAddr (m := k104) (sz := 4) rfl rfl hk106 (by have := OwF.lenEq hv3; omega) (by kernel_rfl)) ?_
            refine RL.y rfl (Y.fieldAddr (off := 0) rfl (by kernel_rfl)) ?_
            refine RL.y rfl (Y.loadN (cs := [.int .i64 x103.a.agent, .int .i64 x103.a.slot]) rfl (by kernel_rfl) (cells2 (eqC (OwF.cell fWire hv3 hx105 (j := 0) rfl)) (eqC (OwF.cell fWire hv3 hx105 (j := 1) rfl)))) ?_
            refine RL.store (v := .agg #[.int .i64 x103.a.agent, .int .i64 x103.a.slot]) (cs' := #[.int .i64 x103.a.agent, .int .i64 x103.a.slot]) rfl rfl rfl B46 (by kernel_rfl) (by rfl) (by rfl) (by rfl) (fun w108 B109 ho110 => ?_)
            have szw108 := ho110.size
            have B100 := B100.only_ ho110 (by intro hin; simp at hin; exact Eob44_ob31 hin)
            have hv3 := OwF.only hv3 ho110 Nop3_ob44
            have Gxs14 := OwF.only Gxs14 ho110 Nop1_ob44
            have Gxs15 := OwF.only Gxs15 ho110 Nop2_ob44
            have K := KeepV.far K ho110 KZob44
            have T := T.trans (ho110.below (by first | (simp; done) | (simp; omega)))
            refine RL.nil ?_
            refine then_n ?_
            refine wp_seq ?_
            refine wp_rs rfl ?_
            refine RQ.y rfl (Y.move (v := .slice Ap1 d1.length cp1) s1_2) ?_
            refine RQ.y rfl (Y.fieldAddr (off := 0) rfl (by kernel_rfl)) ?_
            refine RQ.y rfl (Y.load (v := .int .i64 x94.b.agent) rfl (by kernel_rfl) (eqC (blkCell B100 (i := 0) rfl))) ?_
            obtain ⟨x111, hx113, hm⟩ := bnd hm
            obtain ⟨k112, hk114, hl115, hx113⟩ := getI_some hx113
            obtain ⟨b116, rfl⟩ := OwF.addr0 Gxs14 (by have := OwF.lenEq Gxs14; omega)
            refine RQ.y rfl (Y.indexAddr (m := k112) (sz := 1) rfl rfl hk114 (by have := OwF.lenEq Gxs14; omega) (by kernel_rfl)) ?_
            refine RQ.y rfl (Y.load (v := .bool x111) rfl (by kernel_rfl) (eqC (OwF.cell fB Gxs14 hx113 (j := 0) rfl))) ?_
            refine RQ.y rfl (Y.move (v := .bool x111) rfl) ?_
            rcases bcases x111 with c117 | c117
            · replace hm := cF c117 hm
              refine RQ.skip (wantN (dj := 52) rfl (vb rfl c117) rfl) ?_
              refine RQ.skip (wantN (dj := 52) rfl (vb rfl c117) rfl) ?_
              refine RQ.skip (wantN (dj := 52) rfl (vb rfl c117) rfl) ?_
              refine RQ.skip (wantN (dj := 52) rfl (vb rfl c117) rfl) ?_
              refine RQ.skip (wantN (dj := 52) rfl (vb rfl c117) rfl) ?_
              refine RQ.skip (wantN (dj := 52) rfl (vb rfl c117) rfl) ?_
              refine RQ.y rfl (Y.pick (b := false) (v := .bool false) (vb rfl c117) rfl) ?_
              refine RQ.nil ?_
              refine then_n ?_
              refine cond_f rfl rfl ?_
              refine wp_skip ?_
              refine blk_n (then_n ?_)
              refine wp_rs rfl ?_
              refine RQ.y rfl (Y.move (v := .int .i64 i17) s9_2) ?_
              refine RQ.y rfl (Y.binI rfl rfl (binI_add (m := i17) (by omega))) ?_
              refine RQ.y rfl (Y.assign (v := .int .i64 (i17 + 1)) rfl) ?_
              refine RQ.nil ?_
              exact (then_n ⟨g, _, Nat.lt_succ_self _, rfl, ⟨xs14, xs15, b16, (i17 + 1), s0_2, s3_2, s1_2, Gxs14, s2_2, Gxs15, s8_2, rfl, (by omega), hv3, K, T, (by rw [← hrec2]; exact hm)⟩⟩)
            · replace hm := cT c117 hm
              refine RQ.y (wantT (dj := 52) rfl (vb rfl c117)) (Y.move (v := .slice (some ⟨b116, 0, none⟩) d1.length cp1) s1_2) ?_
              refine RQ.y (wantT (dj := 52) rfl (vb rfl c117)) (Y.fieldAddr (off := 0) rfl (by kernel_rfl)) ?_
              refine RQ.y (wantT (dj := 52) rfl (vb rfl c117)) (Y.load (v := .int .i64 x103.a.agent) rfl (by kernel_rfl) (eqC (blkCell B109 (i := 0) rfl))) ?_
              obtain ⟨x118, hx120, hm⟩ := bnd hm
              obtain ⟨k119, hk121, hl122, hx120⟩ := getI_some hx120
              refine RQ.y (wantT (dj := 52) rfl (vb rfl c117)) (Y.indexAddr (m := k119) (sz := 1) rfl rfl hk121 (by have := OwF.lenEq Gxs14; omega) (by kernel_rfl)) ?_
              refine RQ.y (wantT (dj := 52) rfl (vb rfl c117)) (Y.load (v := .bool x118) rfl (by kernel_rfl) (eqC (OwF.cell fB Gxs14 hx120 (j := 0) rfl))) ?_
              refine RQ.y (wantT (dj := 52) rfl (vb rfl c117)) (Y.not (b' := (!x118)) rfl rfl) ?_
              refine RQ.y rfl (Y.pick (b := true) (v := .bool (!x118)) (vb rfl c117) rfl) ?_
              refine RQ.nil ?_
              refine then_n ?_
              rcases bcases x118 with c123 | c123
              · replace hm := cF c123 hm
                refine cond_t rfl (vbn rfl c123 rfl) ?_
                refine wp_seq ?_
                refine wp_rl rfl ?_
                refine RL.y rfl (Y.move (v := .slice (some ⟨b116, 0, none⟩) d1.length cp1) s1_2) ?_
                refine RL.y rfl (Y.fieldAddr (off := 0) rfl (by kernel_rfl)) ?_
                refine RL.y rfl (Y.load (v := .int .i64 x103.a.agent) rfl (by kernel_rfl) (eqC (blkCell B109 (i := 0) rfl))) ?_
                obtain ⟨x124, hx126, hm⟩ := bnd hm
                obtain ⟨k125, hk127, hl128, hx126⟩ := getI_some hx126
                refine RL.y rfl (Y.indexAddr (m := k125) (sz := 1) rfl rfl hk127 (by have := OwF.lenEq Gxs14; omega) (by kernel_rfl)) ?_
                refine RL.storeF (k := k125) (a := true) fB rfl rfl rfl Gxs14 hl128 rfl (by kernel_rfl) (fun w129 G130 ho131 => ?_)
                have szw129 := ho131.size
                have B100 := Blk.only_ B100 ho131 (fun e => Nop1_ob31 (by simp at e; rw [e]; rfl))
                have B109 := Blk.only_ B109 ho131 (fun e => Nop1_ob44 (by simp at e; rw [e]; rfl))
                have hv3 := OwF.only hv3 ho131 (fun e => (Dj.symm hD1_3) _ e rfl)
                have Gxs15 := OwF.only Gxs15 ho131 (fun e => (Dj.symm hD1_2) _ e rfl)
                have K := KeepV.only1 K ho131 rfl
                have T := T.trans (ho131.below (by intro b hb; simp at hb; subst hb; exact OwF.lo_ Gxs14 _ rfl))
                have G130 : OwF 4 encB 1 w129 w.heap.size (.slice (some ⟨b116, 0, none⟩) d1.length cp1) (setI xs14 x103.a.agent true) := by rw [setI_eq hk127]; exact G130
                have hx132 : (setI xs14 x103.a.agent true)[k125]? = some true := setI_at hk127 hl128
                have hl133 := lt_of_some hx132
                refine RL.nil ?_
                refine then_n ?_
                refine wp_seq ?_
                refine wp_rg (fun w' => Below w.heap.size w w' ∧ Blk w' w18.heap.size 81 #[.int .i64 x94.b.agent, .int .i64 x94.b.slot] ∧ Blk w' w32.heap.size 81 #[.int .i64 x103.a.agent, .int .i64 x103.a.slot]) [(0, true), (1, true), (2, true), (3, true), (4, true), (5, true), (7, true), (8, true), (9, true), (6, false), (10, false), (11, true), (12, true), (13, false)] (by kernel_rfl) (by kernel_rfl) (fun w134 hb135 szw134 => ?_)
                have B100 := blkT B100 hb135
                have B109 := blkT B109 hb135
                have hv3 := OwF.below hv3 hb135
                have G130 := OwF.below G130 hb135
                have Gxs15 := OwF.below Gxs15 hb135
                have K := KeepV.below K hb135
                have T := Tt T hb135
                refine ⟨⟨T, B100, B109⟩, ?_⟩
                refine RG.y rfl rfl (Y.move (v := .slice Ap2 d2.length cp2) s2_2) ?_
                refine RG.y rfl rfl (Y.fieldAddr (off := 0) rfl (by kernel_rfl)) ?_
                refine RG.y rfl rfl (Y.load (v := .int .i64 x103.a.agent) rfl (by kernel_rfl) (fun w' hS => (blkCell hS.2.2 (i := 0) rfl))) ?_
                refine RG.y rfl rfl (Y.move (v := .pointer (some ⟨ba0, oa0, none⟩)) s0_2) ?_
                refine RG.y rfl rfl (Y.move (v := .slice Ap2 d2.length cp2) s2_2) ?_
                refine RG.y rfl rfl (Y.loadN (cs := [.int .i64 x94.b.agent, .int .i64 x94.b.slot]) rfl (by kernel_rfl) (cells2 (fun w' hS => (blkCell hS.2.1 (i := 0) rfl)) (fun w' hS => (blkCell hS.2.1 (i := 1) rfl)))) ?_
                refine RG.y rfl rfl (Y.move (v := .pointer (some ⟨ba0, oa0, none⟩)) s0_2) ?_
                refine RG.y rfl rfl (Y.move (v := .slice Ap2 d2.length cp2) s2_2) ?_
                refine RG.y rfl rfl (Y.loadN (cs := [.int .i64 x103.a.agent, .int .i64 x103.a.slot]) rfl (by kernel_rfl) (cells2 (fun w' hS => (blkCell hS.2.2 (i := 0) rfl)) (fun w' hS => (blkCell hS.2.2 (i := 1) rfl)))) ?_
                refine RG.act rfl ?_
                obtain ⟨y136, e137, hm⟩ := bnd hm
                refine RL.call rfl (am3 rfl rfl rfl) (by kernel_rfl) ((c_m_spec_l19At d0 xs15 x94.b _ e137 _ _ _ (ptArg netRd_ok hba0 hSa0 hca0 T) (OwF.arg fB Gxs15)).mono ?_)
                rintro _ w138 ⟨rfl, hb139⟩
                refine ⟨_, rfl, ?_⟩
                have szw138 := hb139.size
                have B100 := blkT B100 hb139
                have B109 := blkT B109 hb139
                have hv3 := OwF.below hv3 hb139
                have G130 := OwF.below G130 hb139
                have Gxs15 := OwF.below Gxs15 hb139
                have K := KeepV.below K hb139
                have T := Tt T hb139
                refine RL.nil ⟨⟨T, B100, B109⟩, ?_⟩
                refine RG.act rfl ?_
                obtain ⟨y140, e141, hm⟩ := bnd hm
                refine RL.call rfl (am3 rfl rfl rfl) (by kernel_rfl) ((c_m_spec_l19At d0 xs15 x103.a _ e141 _ _ _ (ptArg netRd_ok hba0 hSa0 hca0 T) (OwF.arg fB Gxs15)).mono ?_)
                rintro _ w142 ⟨rfl, hb143⟩
                refine ⟨_, rfl, ?_⟩
                have szw142 := hb143.size
                have B100 := blkT B100 hb143
                have B109 := blkT B109 hb143
                have hv3 := OwF.below hv3 hb143
                have G130 := OwF.below G130 hb143
                have Gxs15 := OwF.below Gxs15 hb143
                have K := KeepV.below K hb143
                have T := Tt T hb143
                refine RL.nil ⟨⟨T, B100, B109⟩, ?_⟩
                refine RG.y rfl rfl (Y.binI (v := .bool (y136 == y140)) rfl rfl rfl) ?_
                obtain ⟨x144, hx146, hm⟩ := bnd hm
                obtain ⟨k145, hk147, hl148, hx146⟩ := getI_some hx146
                obtain ⟨b149, rfl⟩ := OwF.addr0 Gxs15 (by have := OwF.lenEq Gxs15; omega)
                refine RG.y rfl rfl (Y.indexAddr (m := k145) (sz := 1) rfl rfl hk147 (by have := OwF.lenEq Gxs15; omega) (by kernel_rfl)) ?_
                refine RG.act rfl ?_
                refine RL.storeF (k := k145) (a := (y136 == y140)) fB rfl rfl rfl Gxs15 hl148 rfl (by kernel_rfl) (fun w150 G151 ho152 => ?_)
                have szw150 := ho152.size
                have B100 := Blk.only_ B100 ho152 (fun e => Nop2_ob31 (by simp at e; rw [e]; rfl))
                have B109 := Blk.only_ B109 ho152 (fun e => Nop2_ob44 (by simp at e; rw [e]; rfl))
                have hv3 := OwF.only hv3 ho152 (fun e => (Dj.symm hD2_3) _ e rfl)
                have G130 := OwF.only G130 ho152 (fun e => hD1_2 _ e rfl)
                have K := KeepV.only2 K ho152 rfl
                have T := T.trans (ho152.below (by intro b hb; simp at hb; subst hb; exact OwF.lo_ Gxs15 _ rfl))
                have G151 : OwF 4 encB 1 w150 w.heap.size (.slice (some ⟨b149, 0, none⟩) d2.length cp2) (setI xs15 x103.a.agent (y136 == y140)) := by rw [setI_eq hk147]; exact G151
                have hx153 : (setI xs15 x103.a.agent (y136 == y140))[k145]? = some (y136 == y140) := setI_at hk147 hl148
                have hl154 := lt_of_some hx153
                refine RL.nil ⟨⟨T, B100, B109⟩, ?_⟩
                refine RG.nil ?_
                refine then_n ?_
                refine wp_rs rfl ?_
                refine RQ.y rfl (Y.assign (v := .bool true) rfl) ?_
                refine RQ.nil ?_
                refine blk_n (then_n ?_)
                refine wp_rs rfl ?_
                refine RQ.y rfl (Y.move (v := .int .i64 i17) s9_2) ?_
                refine RQ.y rfl (Y.binI rfl rfl (binI_add (m := i17) (by omega))) ?_
                refine RQ.y rfl (Y.assign (v := .int .i64 (i17 + 1)) rfl) ?_
                refine RQ.nil ?_
                exact (then_n ⟨g, _, Nat.lt_succ_self _, rfl, ⟨(setI xs14 x103.a.agent true), (setI xs15 x103.a.agent (y136 == y140)), true, (i17 + 1), s0_2, s3_2, s1_2, G130, s2_2, G151, rfl, rfl, (by omega), hv3, K, T, (by rw [← hrec2]; exact hm)⟩⟩)
              · replace hm := cT c123 hm
                refine cond_f rfl (vbn rfl c123 rfl) ?_
                refine wp_skip ?_
                refine blk_n (then_n ?_)
                refine wp_rs rfl ?_
                refine RQ.y rfl (Y.move (v := .int .i64 i17) s9_2) ?_
                refine RQ.y rfl (Y.binI rfl rfl (binI_add (m := i17) (by omega))) ?_
                refine RQ.y rfl (Y.assign (v := .int .i64 (i17 + 1)) rfl) ?_
                refine RQ.nil ?_
                exact (then_n ⟨g, _, Nat.lt_succ_self _, rfl, ⟨xs14, xs15, b16, (i17 + 1), s0_2, s3_2, s1_2, Gxs14, s2_2, Gxs15, s8_2, rfl, (by omega), hv3, K, T, (by rw [← hrec2]; exact hm)⟩⟩)
def m_spec_l19Orient_A2 (d0 : DNet) (y2 : List DWire) (xs38 : List Bool) : Option ((List Bool) × Bool) :=
  ((m_spec_l19Bad d0 xs38 y2).bind fun y40 => some (xs38, decide (y40 < 0)))
def m_spec_l19Orient_B2 (d0 : DNet) (y2 : List DWire) (rec2 : List Bool → List Bool → Int → Option ((List Bool) × Bool)) (K2 : List Bool → Option ((List Bool) × Bool)) (xs44 : List Bool) (xs45 : List Bool) (i46 : Int) : Option ((List Bool) × Bool) :=
  (bif (decide (i46 < (xs44.length : Int))) then ((getI xs44 i46).bind fun x51 => (bif x51 then (rec2 xs44 xs45 (i46 + 1)) else ((getI xs44 i46).bind fun x58 => ((m_spec_l19Spread d0 (setI xs44 i46 true) xs45 y2).bind fun y68 => (rec2 y68.1 y68.2 (i46 + 1)))))) else (K2 xs45))
def m_spec_l19Orient_L2 (d0 : DNet) (y2 : List DWire) (K2 : List Bool → Option ((List Bool) × Bool)) : Nat → List Bool → List Bool → Int → Option ((List Bool) × Bool)
  | 0, _, _, _ => none
  | g + 1, xs44, xs45, i46 => m_spec_l19Orient_B2 d0 y2 (m_spec_l19Orient_L2 d0 y2 K2 g) K2 xs44 xs45 i46
def m_spec_l19Orient_A1 (d0 : DNet) (y2 : List DWire) (xs21 : List Bool) (xs22 : List Bool) : Option ((List Bool) × Bool) :=
  ((m_spec_l19Spread d0 xs21 xs22 y2).bind fun y24 => (m_spec_l19Orient_L2 d0 y2 (m_spec_l19Orient_A2 d0 y2) (xs21.length + 1) y24.1 y24.2 0))
def m_spec_l19Orient_B1 (d0 : DNet) (rec1 : List Bool → List Bool → Int → Option ((List Bool) × Bool)) (K1 : List Bool → List Bool → Option ((List Bool) × Bool)) (xs79 : List Bool) (xs80 : List Bool) (i81 : Int) : Option ((List Bool) × Bool) :=
  (bif (decide (i81 < (d0.agents.length : Int))) then ((getI d0.agents i81).bind fun x84 => ((mustP (xs79.length + ([(!(turns x84.kind))]).length ≤ 4294967296)).bind fun _ => ((mustP (xs80.length + ([false]).length ≤ 4294967296)).bind fun _ => (rec1 (xs79 ++ [(!(turns x84.kind))]) (xs80 ++ [false]) (i81 + 1))))) else (K1 xs79 xs80))
def m_spec_l19Orient_L1 (d0 : DNet) (K1 : List Bool → List Bool → Option ((List Bool) × Bool)) : Nat → List Bool → List Bool → Int → Option ((List Bool) × Bool)
  | 0, _, _, _ => none
  | g + 1, xs79, xs80, i81 => m_spec_l19Orient_B1 d0 (m_spec_l19Orient_L1 d0 K1 g) K1 xs79 xs80 i81
def m_spec_l19Orient (d0 : DNet) : Option ((List Bool) × Bool) :=
  ((m_spec_l11Wires d0).bind fun y2 => (m_spec_l19Orient_L1 d0 (m_spec_l19Orient_A1 d0 y2) (d0.agents.length + 1) ([] : List Bool) ([] : List Bool) 0))
set_option maxHeartbeats 2000000 in
theorem c_m_spec_l19Orient (d0 : DNet) (r : (List Bool) × Bool) (hm : m_spec_l19Orient d0 = some r) (v0 : Value) (w : World) (hv0 : Pt netRd w v0 d0) :
    Calls Try.prog 36 #[v0] w fun e w' => (∃ (v0 : Value), e = .returned (.tuple #[v0, .bool r.2]) ∧ OwF 4 encB 1 w' w.heap.size v0 r.1) ∧ Below w.heap.size w w' := by
  obtain ⟨ba0, oa0, csa0, rfl, hba0, hRa0, hca0⟩ := hv0
  have hSa0 := hRa0
  obtain ⟨A1, n1, c1, rfl, ⟨h1, r1⟩⟩ := hRa0
  have e1 := h1.len; subst e1
  have q1 := len_le r1
  have T := Below.refl w.heap.size w
  unfold m_spec_l19Orient at hm
  refine enter 68 Try.func36 rfl rfl rfl ?_
  intro f hf
  have s0 : f 0 = .pointer (some ⟨ba0, oa0, none⟩) := hf 0 _ rfl
  refine wp_seq ?_
  refine wp_rs rfl ?_
  refine RQ.y rfl (Y.assign (v := .slice none 0 0) rfl) ?_
  refine RQ.y rfl (Y.assign (v := .bool false) rfl) ?_
  refine RQ.nil ?_
  refine then_n ?_
  refine wp_seq ?_
  refine wp_rl rfl ?_
  refine RL.y rfl (Y.move (v := .pointer (some ⟨ba0, oa0, none⟩)) s0) ?_
  obtain ⟨y2, e3, hm⟩ := bnd hm
  refine RL.call rfl (am1 rfl) (by kernel_rfl) ((c_m_spec_l11Wires d0 _ e3 _ _ (ptArg netRd_ok hba0 hSa0 hca0 T)).mono ?_)
  rintro _ w7 ⟨⟨v4, rfl, G5⟩, hb8⟩
  refine ⟨_, rfl, ?_⟩
  have szw7 := hb8.size
  have T0w7 := T.size
  have T := Tt T hb8
  replace G5 := OwF.mono G5 T0w7
  refine RL.y rfl (Y.assign (v := v4) rfl) ?_
  refine RL.nil ?_
  refine then_n ?_
  refine wp_seq ?_
  refine wp_rl rfl ?_
  refine RL.bslice (e := 4) (cells := #[]) rfl pm0 (by kernel_rfl) (fun w9 B10 hb11 szw9 => ?_)
  have ZB10 : w.heap.size ≤ w7.heap.size := T.size
  have Do12_o6 := Dj.new (v := .slice (some ⟨w7.heap.size, 0, none⟩) 0 0) litGe (OwF.hi G5)
  have G5 := OwF.below G5 hb11
  have T := Tt T hb11
  have G13 := OwF.lit (enc := encB) (sz := 1) (xs := ([] : List Bool)) B10 ZB10 rfl rfl rfl rfl
  refine RL.y rfl (Y.assign (v := .slice (some ⟨w7.heap.size, 0, none⟩) 0 0) rfl) ?_
  refine RL.nil ?_
  refine then_n ?_
  refine wp_seq ?_
  refine wp_rl rfl ?_
  refine RL.bslice (e := 4) (cells := #[]) rfl pm0 (by kernel_rfl) (fun w15 B16 hb17 szw15 => ?_)
  have ZB16 : w.heap.size ≤ w9.heap.size := T.size
  have Do18_o6 := Dj.new (v := .slice (some ⟨w9.heap.size, 0, none⟩) 0 0) litGe (OwF.hi G5)
  have Do18_o12 := Dj.new (v := .slice (some ⟨w9.heap.size, 0, none⟩) 0 0) litGe (OwF.hi G13)
  have G5 := OwF.below G5 hb17
  have G13 := OwF.below G13 hb17
  have T := Tt T hb17
  have G19 := OwF.lit (enc := encB) (sz := 1) (xs := ([] : List Bool)) B16 ZB16 rfl rfl rfl rfl
  refine RL.y rfl (Y.assign (v := .slice (some ⟨w9.heap.size, 0, none⟩) 0 0) rfl) ?_
  refine RL.nil ?_
  refine then_n ?_
  refine wp_seq ?_
  refine wp_seq ?_
  refine wp_rs rfl ?_
  refine RQ.y rfl (Y.assign (v := .int .i64 0) rfl) ?_
  refine RQ.nil ?_
  refine then_n ?_
  refine wp_block ?_
  obtain ⟨K1, hK1, hm⟩ : ∃ K, K = (m_spec_l19Orient_A1 d0 y2) ∧ m_spec_l19Orient_L1 d0 K (d0.agents.length + 1) ([] : List Bool) ([] : List Bool) 0 = some r := ⟨_, rfl, hm⟩
  refine wp_loopX (fun g f w' => ∃ (xs79 : List Bool) (xs80 : List Bool) (i81 : Int) (uxs79 : Value) (uxs80 : Value), f 0 = .pointer (some ⟨ba0, oa0, none⟩) ∧ f 4 = v4 ∧ f 5 = uxs79 ∧ OwF 4 encB 1 w' w.heap.size uxs79 xs79 ∧ f 6 = uxs80 ∧ OwF 4 encB 1 w' w.heap.size uxs80 xs80 ∧ f 7 = .int .i64 i81 ∧ 0 ≤ i81 ∧ Dj uxs79 v4 ∧ Dj uxs80 uxs79 ∧ Dj uxs80 v4 ∧ OwF 171 encWire 4 w' w.heap.size v4 y2 ∧ Below w.heap.size w w' ∧ m_spec_l19Orient_L1 d0 K1 g xs79 xs80 i81 = some r) 0 (fun f w' => ∃ (xs21 : List Bool) (xs22 : List Bool) (uxs21 : Value) (uxs22 : Value), f 0 = .pointer (some ⟨ba0, oa0, none⟩) ∧ f 4 = v4 ∧ f 5 = uxs21 ∧ OwF 4 encB 1 w' w.heap.size uxs21 xs21 ∧ f 6 = uxs22 ∧ OwF 4 encB 1 w' w.heap.size uxs22 xs22 ∧ Dj uxs21 v4 ∧ Dj uxs22 uxs21 ∧ Dj uxs22 v4 ∧ OwF 171 encWire 4 w' w.heap.size v4 y2 ∧ Below w.heap.size w w' ∧ m_spec_l19Orient_A1 d0 y2 xs21 xs22 = some r) (d0.agents.length + 1) ⟨([] : List Bool), ([] : List Bool), 0, (.slice (some ⟨w7.heap.size, 0, none⟩) 0 0), (.slice (some ⟨w9.heap.size, 0, none⟩) 0 0), s0, rfl, rfl, G13, rfl, G19, rfl, (by omega), (Ap.dj (Dj.ap Do12_o6)), (Ap.dj (Dj.ap Do18_o12)), (Ap.dj (Dj.ap Do18_o6)), G5, T, hm⟩ ?_ ?_
  · rintro f w23 ⟨xs21, xs22, uxs21, uxs22, s0_1x, s4_1x, s5_1x, Guxs21, s6_1x, Guxs22, Doxs21_o6, Doxs22_oxs21, Doxs22_o6, G5, T, hm⟩
    unfold m_spec_l19Orient_A1 at hm
    refine blk_hit (then_n ?_)
    refine wp_seq ?_
    refine wp_rl rfl ?_
    refine RL.y rfl (Y.move (v := .pointer (some ⟨ba0, oa0, none⟩)) s0_1x) ?_
    refine RL.y rfl (Y.move (v := uxs21) s5_1x) ?_
    refine RL.y rfl (Y.move (v := uxs22) s6_1x) ?_
    refine RL.y rfl (Y.move (v := v4) s4_1x) ?_
    obtain ⟨y24, e25, hm⟩ := bnd hm
    obtain ⟨A26, c27, rfl⟩ := OwF.form Guxs21
    have qbA26 := OwF.bound Guxs21
    obtain ⟨A28, c29, rfl⟩ := OwF.form Guxs22
    have qbA28 := OwF.bound Guxs22
    obtain ⟨A30, c31, rfl⟩ := OwF.form G5
    have qbA30 := OwF.bound G5
    refine RL.call rfl (am4 rfl rfl rfl rfl) (by kernel_rfl) ((c_m_spec_l19Spread d0 xs21 xs22 y2 _ e25 _ _ _ _ w w23 T (ptArg netRd_ok hba0 hSa0 hca0 (Below.refl _ _)) Guxs21 Guxs22 G5 (Dj.symm Doxs22_oxs21) Doxs21_o6 Doxs22_o6).mono ?_)
    rintro _ w32 ⟨rfl, G35, G36, G37, K33, hb34⟩
    refine ⟨_, rfl, ?_⟩
    have szw32 := K33.size
    have T := hb34
    refine RL.nil ?_
    refine then_n ?_
    refine wp_seq ?_
    refine wp_seq ?_
    refine wp_rs rfl ?_
    refine RQ.y rfl (Y.assign (v := .int .i64 0) rfl) ?_
    refine RQ.nil ?_
    refine then_n ?_
    refine wp_block ?_
    obtain ⟨K2, hK2, hm⟩ : ∃ K, K = (m_spec_l19Orient_A2 d0 y2) ∧ m_spec_l19Orient_L2 d0 y2 K (xs21.length + 1) y24.1 y24.2 0 = some r := ⟨_, rfl, hm⟩
    refine wp_loopX (fun g f w' => ∃ (xs44 : List Bool) (xs45 : List Bool) (i46 : Int) (uxs44 : Value) (uxs45 : Value), f 0 = .pointer (some ⟨ba0, oa0, none⟩) ∧ f 4 = .slice A30 y2.length c31 ∧ f 5 = uxs44 ∧ OwF 4 encB 1 w' w.heap.size uxs44 xs44 ∧ f 6 = uxs45 ∧ OwF 4 encB 1 w' w.heap.size uxs45 xs45 ∧ f 8 = .int .i64 i46 ∧ 0 ≤ i46 ∧ Dj uxs44 (.slice A30 y2.length c31) ∧ Dj uxs45 uxs44 ∧ Dj uxs45 (.slice A30 y2.length c31) ∧ OwF 171 encWire 4 w' w.heap.size (.slice A30 y2.length c31) y2 ∧ Below w.heap.size w w' ∧ m_spec_l19Orient_L2 d0 y2 K2 g xs44 xs45 i46 = some r) 2 (fun f w' => ∃ (xs38 : List Bool) (uxs38 : Value), f 0 = .pointer (some ⟨ba0, oa0, none⟩) ∧ f 4 = .slice A30 y2.length c31 ∧ f 6 = uxs38 ∧ OwF 4 encB 1 w' w.heap.size uxs38 xs38 ∧ Dj uxs38 (.slice A30 y2.length c31) ∧ OwF 171 encWire 4 w' w.heap.size (.slice A30 y2.length c31) y2 ∧ Below w.heap.size w w' ∧ m_spec_l19Orient_A2 d0 y2 xs38 = some r) (xs21.length + 1) ⟨y24.1, y24.2, 0, (.slice A26 xs21.length c27), (.slice A28 xs22.length c29), s0_1x, s4_1x, s5_1x, G35, s6_1x, G36, rfl, (by omega), (Ap.dj (Dj.ap Doxs21_o6)), (Ap.dj (Dj.ap Doxs22_oxs21)), (Ap.dj (Dj.ap Doxs22_o6)), G37, T, hm⟩ ?_ ?_
    · rintro f w39 ⟨xs38, uxs38, s0_2x, s4_2x, s6_2x, Guxs38, Doxs38_o6, G37, T, hm⟩
      unfold m_spec_l19Orient_A2 at hm
      refine blk_hit (then_n ?_)
      refine wp_seq ?_
      refine wp_rb rfl ?_
      refine RQ.y rfl (Y.move (v := uxs38) s6_2x) ?_
      refine RQ.y rfl (Y.move (v := .pointer (some ⟨ba0, oa0, none⟩)) s0_2x) ?_
      refine RQ.y rfl (Y.move (v := uxs38) s6_2x) ?_
      refine RQ.y rfl (Y.move (v := .slice A30 y2.length c31) s4_2x) ?_
      obtain ⟨y40, e41, hm⟩ := bnd hm
      refine RQ.call rfl (am3 rfl rfl rfl) (by kernel_rfl) (v := .int .i64 y40) (bel (K := fun _ => True) fun w' hb' => (c_m_spec_l19Bad d0 xs38 y2 _ e41 _ _ _ w' (ptArg netRd_ok hba0 hSa0 hca0 (Tt T hb')) (OwF.arg fB (OwF.below Guxs38 hb')) (OwF.arg fWire (OwF.below G37 hb')))) ?_
      refine RQ.y rfl (Y.binI (v := .bool (decide (y40 < 0))) rfl rfl rfl) ?_
      refine RQ.y rfl (Y.assign (v := uxs38) rfl) ?_
      refine RQ.y rfl (Y.assign (v := .bool (decide (y40 < 0))) rfl) ?_
      refine RQ.nil ?_
      intro w42 hb43
      have szw42 := hb43.size
      have Guxs38 := OwF.below Guxs38 hb43
      have T := Tt T hb43
      refine then_n ?_
      refine wp_ret ?_
      obtain rfl := Option.some.inj hm
      exact (ret2 rfl rfl rfl rfl ⟨⟨_, rfl, Guxs38⟩, T⟩)
    · rintro g f w47 ⟨xs44, xs45, i46, uxs44, uxs45, s0_2, s4_2, s5_2, Guxs44, s6_2, Guxs45, s8_2, nn8_2, Doxs44_o6, Doxs45_oxs44, Doxs45_o6, G37, T, hm⟩
      rcases g with _ | g
      · simp only [m_spec_l19Orient_L2] at hm; cases hm
      obtain ⟨rec2, hrec2, hm⟩ : ∃ z, z = m_spec_l19Orient_L2 d0 y2 K2 g ∧ m_spec_l19Orient_B2 d0 y2 z K2 xs44 xs45 i46 = some r := ⟨_, rfl, hm⟩
      unfold m_spec_l19Orient_B2 at hm
      refine wp_seq ?_
      refine wp_seq ?_
      refine wp_rs rfl ?_
      refine RQ.y rfl (Y.move (v := .int .i64 i46) s8_2) ?_
      refine RQ.y rfl (Y.move (v := uxs44) s5_2) ?_
      obtain ⟨A48, c49, rfl⟩ := OwF.form Guxs44
      have qbA48 := OwF.bound Guxs44
      refine RQ.y rfl (Y.len (by kernel_rfl) rfl) ?_
      refine RQ.y rfl (Y.binI (v := .bool (decide (i46 < (xs44.length : Int)))) rfl rfl rfl) ?_
      refine RQ.nil ?_
      refine then_n ?_
      rcases bcases (decide (i46 < (xs44.length : Int))) with c50 | c50
      · replace hm := cF c50 hm
        have pc50 := of_decide_eq_false c50
        refine cond_f rfl (vb rfl c50) ?_
        refine wp_exit ?_
        exact (then_x (then_x (hit_x ⟨_, rfl, ⟨xs45, (uxs45), s0_2, s4_2, s6_2, Guxs45, (Ap.dj (Dj.ap Doxs45_o6)), G37, T, (by rw [hK2] at hm; exact hm)⟩⟩)))
      · replace hm := cT c50 hm
        have pc50 := of_decide_eq_true c50
        refine cond_t rfl (vb rfl c50) ?_
        refine wp_skip ?_
        refine then_n ?_
        refine wp_seq ?_
        refine wp_block ?_
        refine wp_seq ?_
        refine wp_rs rfl ?_
        refine RQ.y rfl (Y.move (v := .slice A48 xs44.length c49) s5_2) ?_
        refine RQ.y rfl (Y.move (v := .int .i64 i46) s8_2) ?_
        obtain ⟨x51, hx53, hm⟩ := bnd hm
        obtain ⟨k52, hk54, hl55, hx53⟩ := getI_some hx53
        obtain ⟨b56, rfl⟩ := OwF.addr0 Guxs44 (by omega)
        refine RQ.y rfl (Y.indexAddr (m := k52) (sz := 1) rfl rfl hk54 hl55 (by kernel_rfl)) ?_
        refine RQ.y rfl (Y.load (v := .bool x51) rfl (by kernel_rfl) (eqC (OwF.cell fB Guxs44 hx53 (j := 0) rfl))) ?_
        refine RQ.y rfl (Y.not (b' := (!x51)) rfl rfl) ?_
        refine RQ.nil ?_
        refine then_n ?_
        rcases bcases x51 with c57 | c57
        · replace hm := cF c57 hm
          refine cond_t rfl (vbn rfl c57 rfl) ?_
          refine wp_seq ?_
          refine wp_rl rfl ?_
          refine RL.y rfl (Y.move (v := .slice (some ⟨b56, 0, none⟩) xs44.length c49) s5_2) ?_
          refine RL.y rfl (Y.move (v := .int .i64 i46) s8_2) ?_
          obtain ⟨x58, hx60, hm⟩ := bnd hm
          obtain ⟨k59, hk61, hl62, hx60⟩ := getI_some hx60
          refine RL.y rfl (Y.indexAddr (m := k59) (sz := 1) rfl rfl hk61 hl62 (by kernel_rfl)) ?_
          refine RL.storeF (k := k59) (a := true) fB rfl rfl rfl Guxs44 hl62 rfl (by kernel_rfl) (fun w63 G64 ho65 => ?_)
          have szw63 := ho65.size
          have G37 := OwF.only G37 ho65 (fun e => (Dj.symm Doxs44_o6) _ e rfl)
          have Guxs45 := OwF.only Guxs45 ho65 (fun e => Doxs45_oxs44 _ e rfl)
          have T := T.trans (ho65.below (by intro b hb; simp at hb; subst hb; exact OwF.lo_ Guxs44 _ rfl))
          have G64 : OwF 4 encB 1 w63 w.heap.size (.slice (some ⟨b56, 0, none⟩) xs44.length c49) (setI xs44 i46 true) := by rw [setI_eq hk61]; exact G64
          have hx66 : (setI xs44 i46 true)[k59]? = some true := setI_at hk61 hl62
          have hl67 := lt_of_some hx66
          refine RL.nil ?_
          refine then_n ?_
          refine wp_rl rfl ?_
          refine RL.y rfl (Y.move (v := .pointer (some ⟨ba0, oa0, none⟩)) s0_2) ?_
          refine RL.y rfl (Y.move (v := .slice (some ⟨b56, 0, none⟩) xs44.length c49) s5_2) ?_
          refine RL.y rfl (Y.move (v := uxs45) s6_2) ?_
          refine RL.y rfl (Y.move (v := .slice A30 y2.length c31) s4_2) ?_
          obtain ⟨y68, e69, hm⟩ := bnd hm
          obtain ⟨A70, c71, rfl⟩ := OwF.form Guxs45
          have qbA70 := OwF.bound Guxs45
          refine RL.call rfl (am4 rfl rfl rfl rfl) (by kernel_rfl) ((c_m_spec_l19Spread d0 (setI xs44 i46 true) xs45 y2 _ e69 _ _ _ _ w w63 T (ptArg netRd_ok hba0 hSa0 hca0 (Below.refl _ _)) G64 Guxs45 G37 (Dj.symm Doxs45_oxs44) Doxs44_o6 Doxs45_o6).mono ?_)
          rintro _ w72 ⟨rfl, G75, G76, G77, K73, hb74⟩
          refine ⟨_, rfl, ?_⟩
          have szw72 := K73.size
          have T := hb74
          refine RL.nil ?_
          refine blk_n (then_n ?_)
          refine wp_rs rfl ?_
          refine RQ.y rfl (Y.move (v := .int .i64 i46) s8_2) ?_
          refine RQ.y rfl (Y.binI rfl rfl (binI_add (m := i46) (by omega))) ?_
          refine RQ.y rfl (Y.assign (v := .int .i64 (i46 + 1)) rfl) ?_
          refine RQ.nil ?_
          exact (then_n ⟨g, _, Nat.lt_succ_self _, rfl, ⟨y68.1, y68.2, (i46 + 1), (.slice (some ⟨b56, 0, none⟩) xs44.length c49), (.slice A70 xs45.length c71), s0_2, s4_2, s5_2, G75, s6_2, G76, rfl, (by omega), (Ap.dj (Dj.ap Doxs44_o6)), (Ap.dj (Dj.ap Doxs45_oxs44)), (Ap.dj (Dj.ap Doxs45_o6)), G77, T, (by rw [← hrec2]; exact hm)⟩⟩)
        · replace hm := cT c57 hm
          refine cond_f rfl (vbn rfl c57 rfl) ?_
          refine wp_skip ?_
          refine blk_n (then_n ?_)
          refine wp_rs rfl ?_
          refine RQ.y rfl (Y.move (v := .int .i64 i46) s8_2) ?_
          refine RQ.y rfl (Y.binI rfl rfl (binI_add (m := i46) (by omega))) ?_
          refine RQ.y rfl (Y.assign (v := .int .i64 (i46 + 1)) rfl) ?_
          refine RQ.nil ?_
          exact (then_n ⟨g, _, Nat.lt_succ_self _, rfl, ⟨xs44, xs45, (i46 + 1), (.slice (some ⟨b56, 0, none⟩) xs44.length c49), (uxs45), s0_2, s4_2, s5_2, Guxs44, s6_2, Guxs45, rfl, (by omega), (Ap.dj (Dj.ap Doxs44_o6)), (Ap.dj (Dj.ap Doxs45_oxs44)), (Ap.dj (Dj.ap Doxs45_o6)), G37, T, (by rw [← hrec2]; exact hm)⟩⟩)
  · rintro g f w82 ⟨xs79, xs80, i81, uxs79, uxs80, s0_1, s4_1, s5_1, Guxs79, s6_1, Guxs80, s7_1, nn7_1, Doxs79_o6, Doxs80_oxs79, Doxs80_o6, G5, T, hm⟩
    rcases g with _ | g
    · simp only [m_spec_l19Orient_L1] at hm; cases hm
    obtain ⟨rec1, hrec1, hm⟩ : ∃ z, z = m_spec_l19Orient_L1 d0 K1 g ∧ m_spec_l19Orient_B1 d0 z K1 xs79 xs80 i81 = some r := ⟨_, rfl, hm⟩
    unfold m_spec_l19Orient_B1 at hm
    refine wp_seq ?_
    refine wp_seq ?_
    refine wp_rs rfl ?_
    refine RQ.y rfl (Y.move (v := .int .i64 i81) s7_1) ?_
    refine RQ.y rfl (Y.move (v := .pointer (some ⟨ba0, oa0, none⟩)) s0_1) ?_
    refine RQ.y rfl (Y.nilCheck rfl) ?_
    refine RQ.y rfl (Y.fieldAddr (off := 0) rfl (by kernel_rfl)) ?_
    refine RQ.y rfl (Y.load (v := .slice A1 d0.agents.length c1) rfl (by kernel_rfl) (eqC (cellT T (hca0 0 _ rfl)))) ?_
    refine RQ.y rfl (Y.len (by kernel_rfl) rfl) ?_
    refine RQ.y rfl (Y.binI (v := .bool (decide (i81 < (d0.agents.length : Int)))) rfl rfl rfl) ?_
    refine RQ.nil ?_
    refine then_n ?_
    rcases bcases (decide (i81 < (d0.agents.length : Int))) with c83 | c83
    · replace hm := cF c83 hm
      have pc83 := of_decide_eq_false c83
      refine cond_f rfl (vb rfl c83) ?_
      refine wp_exit ?_
      exact (then_x (then_x (hit_x ⟨_, rfl, ⟨xs79, xs80, (uxs79), (uxs80), s0_1, s4_1, s5_1, Guxs79, s6_1, Guxs80, (Ap.dj (Dj.ap Doxs79_o6)), (Ap.dj (Dj.ap Doxs80_oxs79)), (Ap.dj (Dj.ap Doxs80_o6)), G5, T, (by rw [hK1] at hm; exact hm)⟩⟩)))
    · replace hm := cT c83 hm
      have pc83 := of_decide_eq_true c83
      refine cond_t rfl (vb rfl c83) ?_
      refine wp_skip ?_
      refine then_n ?_
      refine wp_seq ?_
      refine wp_block ?_
      refine wp_seq ?_
      refine wp_rl rfl ?_
      refine RL.y rfl (Y.move (v := uxs79) s5_1) ?_
      refine RL.y rfl (Y.move (v := .pointer (some ⟨ba0, oa0, none⟩)) s0_1) ?_
      refine RL.y rfl (Y.nilCheck rfl) ?_
      refine RL.y rfl (Y.fieldAddr (off := 0) rfl (by kernel_rfl)) ?_
      refine RL.y rfl (Y.load (v := .slice A1 d0.agents.length c1) rfl (by kernel_rfl) (eqC (cellT T (hca0 0 _ rfl)))) ?_
      refine RL.y rfl (Y.move (v := .int .i64 i81) s7_1) ?_
      obtain ⟨x84, hx87, hm⟩ := bnd hm
      obtain ⟨k85, hk88, hl89, hx87⟩ := getI_some hx87
      obtain ⟨b91, o92, rfl, hbb91⟩ := h1.addr (by omega)
      obtain ⟨cs86, hRcs86, hc90⟩ := h1.el hx87
      have hScs86 := hRcs86
      obtain ⟨A93, n93, c93, A94, n94, c94, rfl, ⟨h93, r93⟩, ⟨h94, r94⟩⟩ := hRcs86
      have e93 := h93.len; subst e93
      have q93 := len_le r93
      have e94 := h94.len; subst e94
      have q94 := len_le r94
      refine RL.y rfl (Y.indexAddr (m := k85) (sz := 5) rfl rfl hk88 hl89 (by kernel_rfl)) ?_
      refine RL.y rfl (Y.fieldAddr (off := 0) rfl (by kernel_rfl)) ?_
      refine RL.y rfl (Y.load (v := .int .i64 x84.kind) rfl (by kernel_rfl) (eqC (cellT T (hc90 0 _ rfl)))) ?_
      refine RL.call rfl (am1 rfl) (by kernel_rfl) ((callB (spec_l19Turns x84.kind _)).mono ?_)
      rintro _ w95 ⟨rfl, hb96⟩
      refine ⟨_, rfl, ?_⟩
      have szw95 := hb96.size
      have G5 := OwF.below G5 hb96
      have Guxs79 := OwF.below Guxs79 hb96
      have Guxs80 := OwF.below Guxs80 hb96
      have T := Tt T hb96
      refine RL.y rfl (Y.not (b' := (!(turns x84.kind))) rfl rfl) ?_
      refine RL.bslice (e := 4) (cells := #[.bool (!(turns x84.kind))]) rfl (pm1 rfl) (by kernel_rfl) (fun w97 B98 hb99 szw97 => ?_)
      have ZB98 : w.heap.size ≤ w95.heap.size := T.size
      have Do100_o6 := Dj.new (v := .slice (some ⟨w95.heap.size, 0, none⟩) 1 1) litGe (OwF.hi G5)
      have Do100_oxs79 := Dj.new (v := .slice (some ⟨w95.heap.size, 0, none⟩) 1 1) litGe (OwF.hi Guxs79)
      have Do100_oxs80 := Dj.new (v := .slice (some ⟨w95.heap.size, 0, none⟩) 1 1) litGe (OwF.hi Guxs80)
      have G5 := OwF.below G5 hb99
      have Guxs79 := OwF.below Guxs79 hb99
      have Guxs80 := OwF.below Guxs80 hb99
      have T := Tt T hb99
      have G101 := OwF.lit (enc := encB) (sz := 1) (xs := [(!(turns x84.kind))]) B98 ZB98 rfl rfl rfl rfl
      obtain ⟨_, m103, hm⟩ := bnd hm
      have hk104 := mustP_some m103
      refine RL.append fB app_bool rfl rfl rfl Guxs79 (OwF.arg fB G101) T.size hk104 (fun v105 w106 G107 hgr108 hbl109 hnb110 => ?_)
      have szw106 := hbl109.size
      have Do111_o6 := Dj.app Doxs79_o6 hnb110 (OwF.hi G5)
      have Do111_oxs80 := Dj.app (Dj.symm Doxs80_oxs79) hnb110 (OwF.hi Guxs80)
      have G5 := OwF.keptD G5 hgr108 (Dj.symm Doxs79_o6)
      have Guxs80 := OwF.keptD Guxs80 hgr108 Doxs80_oxs79
      have T := T.trans hbl109
      refine RL.y rfl (Y.assign (v := v105) rfl) ?_
      refine RL.nil ?_
      refine then_n ?_
      refine wp_rl rfl ?_
      refine RL.y rfl (Y.move (v := uxs80) s6_1) ?_
      refine RL.bslice (e := 4) (cells := #[.bool false]) rfl (pm1 rfl) (by kernel_rfl) (fun w112 B113 hb114 szw112 => ?_)
      have ZB113 : w.heap.size ≤ w106.heap.size := T.size
      have Do115_o6 := Dj.new (v := .slice (some ⟨w106.heap.size, 0, none⟩) 1 1) litGe (OwF.hi G5)
      have Do115_oxs80 := Dj.new (v := .slice (some ⟨w106.heap.size, 0, none⟩) 1 1) litGe (OwF.hi Guxs80)
      have Do115_o111 := Dj.new (v := .slice (some ⟨w106.heap.size, 0, none⟩) 1 1) litGe (OwF.hi G107)
      have G5 := OwF.below G5 hb114
      have Guxs80 := OwF.below Guxs80 hb114
      have G107 := OwF.below G107 hb114
      have T := Tt T hb114
      have G116 := OwF.lit (enc := encB) (sz := 1) (xs := [false]) B113 ZB113 rfl rfl rfl rfl
      obtain ⟨_, m118, hm⟩ := bnd hm
      have hk119 := mustP_some m118
      refine RL.append fB app_bool rfl rfl rfl Guxs80 (OwF.arg fB G116) T.size hk119 (fun v120 w121 G122 hgr123 hbl124 hnb125 => ?_)
      have szw121 := hbl124.size
      have Do126_o6 := Dj.app Doxs80_o6 hnb125 (OwF.hi G5)
      have Do126_o111 := Dj.app (Dj.symm Do111_oxs80) hnb125 (OwF.hi G107)
      have G5 := OwF.keptD G5 hgr123 (Dj.symm Doxs80_o6)
      have G107 := OwF.keptD G107 hgr123 Do111_oxs80
      have T := T.trans hbl124
      refine RL.y rfl (Y.assign (v := v120) rfl) ?_
      refine RL.nil ?_
      refine blk_n (then_n ?_)
      refine wp_rs rfl ?_
      refine RQ.y rfl (Y.move (v := .int .i64 i81) s7_1) ?_
      refine RQ.y rfl (Y.binI rfl rfl (binI_add (m := i81) (by omega))) ?_
      refine RQ.y rfl (Y.assign (v := .int .i64 (i81 + 1)) rfl) ?_
      refine RQ.nil ?_
      exact (then_n ⟨g, _, Nat.lt_succ_self _, rfl, ⟨(xs79 ++ [(!(turns x84.kind))]), (xs80 ++ [false]), (i81 + 1), (v105), (v120), s0_1, s4_1, rfl, G107, rfl, G122, rfl, (by omega), (Ap.dj (Dj.ap Do111_o6)), (Ap.dj (Dj.ap Do126_o111)), (Ap.dj (Dj.ap Do126_o6)), G5, T, (by rw [← hrec1]; exact hm)⟩⟩)
def m_spec_IsOrientable (d0 : DNet) : Option Bool :=
  ((m_spec_l11Ok d0).bind fun y6 => (bif y6 then ((m_spec_l19Orient d0).bind fun y11 => some y11.2) else some false))
set_option maxHeartbeats 2000000 in
theorem c_m_spec_IsOrientable (d0 : DNet) (r : Bool) (hm : m_spec_IsOrientable d0 = some r) (v0 : Value) (w : World) (hv0 : St netRd w v0 d0) :
    Calls Try.prog 17 #[v0] w fun e w' => e = .returned (.bool r) ∧ Below w.heap.size w w' := by
  obtain ⟨csa0, rfl, ⟨A1, n1, c1, rfl, ⟨h1, r1⟩⟩⟩ := hv0
  have e1 := h1.len; subst e1
  have q1 := len_le r1
  have T := Below.refl w.heap.size w
  unfold m_spec_IsOrientable at hm
  refine enter 12 Try.func17 rfl rfl rfl ?_
  intro f hf
  have s0 : f 0 = .agg #[.slice A1 d0.agents.length c1] := hf 0 _ rfl
  refine wp_seq ?_
  refine wp_rl rfl ?_
  refine RL.box rfl s0 (fun w2 B3 hb4 szw2 => ?_)
  replace B3 : Blk w2 w.heap.size 31 #[.slice A1 d0.agents.length c1] := B3
  have GB3 : w.heap.size ≤ w.heap.size := T.size
  have T := Tt T hb4
  refine RL.y rfl (Y.assign (v := .bool false) rfl) ?_
  refine RL.nil ?_
  refine then_n ?_
  refine wp_seq ?_
  refine wp_seq ?_
  refine wp_rb rfl ?_
  obtain ⟨y6, e7, hm⟩ := bnd hm
  refine RQ.call rfl (am1 rfl) (by kernel_rfl) (v := .bool y6) (bel (K := fun _ => True) fun w' hb' => (c_m_spec_l11Ok d0 _ e7 _ w' (ptBox (R := netRd) (blkT B3 hb') ⟨_, _, _, rfl, ⟨SlAt.now agentRd_ok h1 (Nat.le_refl _) (Tt T hb'), r1⟩⟩))) ?_
  refine RQ.y rfl (Y.not (b' := (!y6)) rfl rfl) ?_
  refine RQ.nil ?_
  intro w8 hb9
  have szw8 := hb9.size
  have B3 := blkT B3 hb9
  have T := Tt T hb9
  refine then_n ?_
  rcases bcases y6 with c10 | c10
  · replace hm := cF c10 hm
    refine cond_t rfl (vbn rfl c10 rfl) ?_
    refine wp_seq ?_
    refine wp_rs rfl ?_
    refine RQ.y rfl (Y.assign (v := .bool false) rfl) ?_
    refine RQ.nil ?_
    refine then_n ?_
    refine wp_ret ?_
    obtain rfl := Option.some.inj hm
    exact (then_r (ret1 rfl rfl rfl ⟨rfl, T⟩))
  · replace hm := cT c10 hm
    refine cond_f rfl (vbn rfl c10 rfl) ?_
    refine wp_skip ?_
    refine then_n ?_
    refine wp_seq ?_
    refine wp_rl rfl ?_
    obtain ⟨y11, e12, hm⟩ := bnd hm
    refine RL.call rfl (am1 rfl) (by kernel_rfl) ((c_m_spec_l19Orient d0 _ e12 _ _ (ptBox (R := netRd) B3 ⟨_, _, _, rfl, ⟨SlAt.now agentRd_ok h1 (Nat.le_refl _) T, r1⟩⟩)).mono ?_)
    rintro _ w16 ⟨⟨v13, rfl, G14⟩, hb17⟩
    refine ⟨_, rfl, ?_⟩
    have szw16 := hb17.size
    have T0w16 := T.size
    have Zo15_ob5 := ap_ne (Ap.new (OwF.flo G14) (one_hi B3.lt))
    have B3 := blkT B3 hb17
    have T := Tt T hb17
    replace G14 := OwF.mono G14 T0w16
    refine RL.y rfl (Y.move (v := .tuple #[v13, .bool y11.2]) rfl) ?_
    refine RL.y rfl (Y.extract (i := 0) rfl rfl) ?_
    refine RL.y rfl (Y.extract (i := 1) rfl rfl) ?_
    refine RL.y rfl (Y.assign (v := v13) rfl) ?_
    refine RL.y rfl (Y.assign (v := .bool y11.2) rfl) ?_
    refine RL.nil ?_
    refine then_n ?_
    refine wp_seq ?_
    refine wp_rs rfl ?_
    refine RQ.y rfl (Y.move (v := .bool y11.2) rfl) ?_
    refine RQ.y rfl (Y.assign (v := .bool y11.2) rfl) ?_
    refine RQ.nil ?_
    refine then_n ?_
    refine wp_ret ?_
    obtain rfl := Option.some.inj hm
    exact (ret1 rfl rfl rfl ⟨rfl, T⟩)
def m_impl_Net_group_A1 (xs18 : List Int) : Option (List Int) :=
  some xs18
def m_impl_Net_group_A2 (rec1 : List Int → Int → MapM Int Bool → Option (List Int)) (i21 : Int) (xs46 : List Int) (z47 : MapM Int Bool) : Option (List Int) :=
  ((ck (i21 + 1)).bind fun s49 => (rec1 xs46 s49 z47))
def m_impl_Net_group_B2 (d0 : DNet) (x33 : DAgent) (rec2 : List Int → Int → MapM Int Bool → Option (List Int)) (K2 : List Int → MapM Int Bool → Option (List Int)) (xs50 : List Int) (i51 : Int) (z52 : MapM Int Bool) : Option (List Int) :=
  (bif (decide (i51 < (x33.ports.length : Int))) then ((getI x33.ports i51).bind fun x55 => ((getI d0.agents x55.agent).bind fun x71 => (bif (turns x71.kind) then ((ck x55.agent).bind fun _ => (bif (z52.look x55.agent false) then (rec2 xs50 (i51 + 1) z52) else ((ck x55.agent).bind fun _ => ((mustP (z52.n ≤ 4294967296)).bind fun _ => ((mustP (xs50.length + ([x55.agent]).length ≤ 4294967296)).bind fun _ => (rec2 (xs50 ++ [x55.agent]) (i51 + 1) (z52.put x55.agent true))))))) else (rec2 xs50 (i51 + 1) z52)))) else (K2 xs50 z52))
def m_impl_Net_group_L2 (d0 : DNet) (x33 : DAgent) (K2 : List Int → MapM Int Bool → Option (List Int)) : Nat → List Int → Int → MapM Int Bool → Option (List Int)
  | 0, _, _, _ => none
  | g + 1, xs50, i51, z52 => m_impl_Net_group_B2 d0 x33 (m_impl_Net_group_L2 d0 x33 K2 g) K2 xs50 i51 z52
def m_impl_Net_group_B1 (d0 : DNet) (rec1 : List Int → Int → MapM Int Bool → Option (List Int)) (K1 : List Int → Option (List Int)) (xs20 : List Int) (i21 : Int) (z22 : MapM Int Bool) : Option (List Int) :=
  (bif (decide (i21 < (xs20.length : Int))) then ((getI xs20 i21).bind fun x27 => ((getI d0.agents x27).bind fun x33 => (m_impl_Net_group_L2 d0 x33 (m_impl_Net_group_A2 rec1 i21) (x33.ports.length + 1) xs20 0 z22))) else (K1 xs20))
def m_impl_Net_group_L1 (d0 : DNet) (K1 : List Int → Option (List Int)) : Nat → List Int → Int → MapM Int Bool → Option (List Int)
  | 0, _, _, _ => none
  | g + 1, xs20, i21, z22 => m_impl_Net_group_B1 d0 (m_impl_Net_group_L1 d0 K1 g) K1 xs20 i21 z22
def m_impl_Net_group (d0 : DNet) (d1 : Int) : Option (List Int) :=
  ((ck d1).bind fun _ => ((mustP ((MapM.empty : MapM Int Bool).n ≤ 4294967296)).bind fun _ => (m_impl_Net_group_L1 d0 m_impl_Net_group_A1 (d0.agents.length + 2) ([d1]) 0 ((MapM.empty : MapM Int Bool).put d1 true))))
set_option maxHeartbeats 2000000 in
theorem c_m_impl_Net_group (d0 : DNet) (d1 : Int) (r : List Int) (hm : m_impl_Net_group d0 d1 = some r) (v0 : Value) (w : World) (hv0 : Pt netRd w v0 d0) :
    Calls Try.prog 86 #[v0, .int .i64 d1] w fun e w' => (∃ (v0 : Value), e = .returned (v0) ∧ OwF 2 encI 1 w' w.heap.size v0 r) ∧ Below w.heap.size w w' := by
  obtain ⟨ba0, oa0, csa0, rfl, hba0, hRa0, hca0⟩ := hv0
  have hSa0 := hRa0
  obtain ⟨A1, n1, c1, rfl, ⟨h1, r1⟩⟩ := hRa0
  have e1 := h1.len; subst e1
  have q1 := len_le r1
  have T := Below.refl w.heap.size w
  unfold m_impl_Net_group at hm
  refine enter 64 Try.func86 rfl rfl rfl ?_
  intro f hf
  have s0 : f 0 = .pointer (some ⟨ba0, oa0, none⟩) := hf 0 _ rfl
  have s1 : f 1 = .int .i64 d1 := hf 1 _ rfl
  refine wp_seq ?_
  refine wp_rs rfl ?_
  refine RQ.y rfl (Y.assign (v := .slice none 0 0) rfl) ?_
  refine RQ.nil ?_
  refine then_n ?_
  refine wp_seq ?_
  refine wp_rl rfl ?_
  refine RL.y rfl (Y.move (v := .int .i64 d1) s1) ?_
  refine RL.bslice (e := 2) (cells := #[.int .i64 d1]) rfl (pm1 rfl) (by kernel_rfl) (fun w2 B3 hb4 szw2 => ?_)
  have ZB3 : w.heap.size ≤ w.heap.size := T.size
  have T := Tt T hb4
  have G6 := OwF.lit (enc := encI) (sz := 1) (xs := [d1]) B3 ZB3 rfl rfl rfl rfl
  refine RL.y rfl (Y.assign (v := .slice (some ⟨w.heap.size, 0, none⟩) 1 1) rfl) ?_
  refine RL.nil ?_
  refine then_n ?_
  refine wp_seq ?_
  refine wp_rl rfl ?_
  refine RL.makeMap (κ := Int) (β := Bool) 2 litI encVB rfl (fun w8 B9 hb10 szw8 => ?_)
  replace B9 := OwM.lower B9 T.size
  have No5_ob11 := OwF.far G6 (Nat.le_refl _)
  have G6 := OwF.below G6 hb10
  have T := Tt T hb10
  refine RL.y rfl (Y.move (v := .int .i64 d1) s1) ?_
  obtain ⟨_, kc12, hm⟩ := bnd hm
  replace kc12 := (ck_some kc12).2
  obtain ⟨_, m13, hm⟩ := bnd hm
  have hk14 := mustP_some m13
  refine RL.mapIns (a := d1) (v := true) (enc := encVB) mt_int64_bool rfl rfl rfl rfl kc12 B9 hk14 (fun w15 B16 ho17 => ?_)
  have szw15 := ho17.size
  have G6 := OwF.only G6 ho17 No5_ob11
  have T := T.trans (ho17.below (by intro b hb; simp at hb; subst hb; exact B9.1))
  refine RL.y rfl (Y.move (v := .map (some w2.heap.size)) rfl) ?_
  refine RL.y rfl (Y.assign (v := .map (some w2.heap.size)) rfl) ?_
  refine RL.nil ?_
  refine then_n ?_
  refine wp_seq ?_
  refine wp_seq ?_
  refine wp_rs rfl ?_
  refine RQ.y rfl (Y.assign (v := .int .i64 0) rfl) ?_
  refine RQ.nil ?_
  refine then_n ?_
  refine wp_block ?_
  obtain ⟨K1, hK1, hm⟩ : ∃ K, K = m_impl_Net_group_A1 ∧ m_impl_Net_group_L1 d0 K (d0.agents.length + 2) ([d1]) 0 ((MapM.empty : MapM Int Bool).put d1 true) = some r := ⟨_, rfl, hm⟩
  refine wp_loopX (fun g f w' => ∃ (xs20 : List Int) (i21 : Int) (z22 : MapM Int Bool) (uxs20 : Value), f 0 = .pointer (some ⟨ba0, oa0, none⟩) ∧ f 6 = .map (some w2.heap.size) ∧ f 5 = uxs20 ∧ OwF 2 encI 1 w' w.heap.size uxs20 xs20 ∧ f 7 = .int .i64 i21 ∧ 0 ≤ i21 ∧ OwM Try.prog 2 litI encVB w' w.heap.size w2.heap.size z22 ∧ Value.ownBlock uxs20 ≠ some w2.heap.size ∧ Below w.heap.size w w' ∧ m_impl_Net_group_L1 d0 K1 g xs20 i21 z22 = some r) 0 (fun f w' => ∃ (xs18 : List Int) (uxs18 : Value), f 5 = uxs18 ∧ OwF 2 encI 1 w' w.heap.size uxs18 xs18 ∧ Value.ownBlock uxs18 ≠ some w2.heap.size ∧ Below w.heap.size w w' ∧ m_impl_Net_group_A1 xs18 = some r) (d0.agents.length + 2) ⟨([d1]), 0, ((MapM.empty : MapM Int Bool).put d1 true), (.slice (some ⟨w.heap.size, 0, none⟩) 1 1), s0, rfl, rfl, G6, rfl, (by omega), B16, (ap_ne (ne_ap No5_ob11)), T, hm⟩ ?_ ?_
  · rintro f w19 ⟨xs18, uxs18, s5_1x, Guxs18, Noxs18_ob11, T, hm⟩
    unfold m_impl_Net_group_A1 at hm
    refine blk_hit (then_n ?_)
    refine wp_seq ?_
    refine wp_rs rfl ?_
    refine RQ.y rfl (Y.move (v := uxs18) s5_1x) ?_
    refine RQ.y rfl (Y.assign (v := uxs18) rfl) ?_
    refine RQ.nil ?_
    refine then_n ?_
    refine wp_ret ?_
    obtain rfl := Option.some.inj hm
    exact (ret1 rfl rfl rfl ⟨⟨_, rfl, Guxs18⟩, T⟩)
  · rintro g f w23 ⟨xs20, i21, z22, uxs20, s0_1, s6_1, s5_1, Guxs20, s7_1, nn7_1, Bz22, Noxs20_ob11, T, hm⟩
    rcases g with _ | g
    · simp only [m_impl_Net_group_L1] at hm; cases hm
    obtain ⟨rec1, hrec1, hm⟩ : ∃ z, z = m_impl_Net_group_L1 d0 K1 g ∧ m_impl_Net_group_B1 d0 z K1 xs20 i21 z22 = some r := ⟨_, rfl, hm⟩
    unfold m_impl_Net_group_B1 at hm
    refine wp_seq ?_
    refine wp_seq ?_
    refine wp_rs rfl ?_
    refine RQ.y rfl (Y.move (v := .int .i64 i21) s7_1) ?_
    refine RQ.y rfl (Y.move (v := uxs20) s5_1) ?_
    obtain ⟨A24, c25, rfl⟩ := OwF.form Guxs20
    have qbA24 := OwF.bound Guxs20
    refine RQ.y rfl (Y.len (by kernel_rfl) rfl) ?_
    refine RQ.y rfl (Y.binI (v := .bool (decide (i21 < (xs20.length : Int)))) rfl rfl rfl) ?_
    refine RQ.nil ?_
    refine then_n ?_
    rcases bcases (decide (i21 < (xs20.length : Int))) with c26 | c26
    · replace hm := cF c26 hm
      have pc26 := of_decide_eq_false c26
      refine cond_f rfl (vb rfl c26) ?_
      refine wp_exit ?_
      exact (then_x (then_x (hit_x ⟨_, rfl, ⟨xs20, (.slice A24 xs20.length c25), s5_1, Guxs20, (ap_ne (ne_ap Noxs20_ob11)), T, (by rw [hK1] at hm; exact hm)⟩⟩)))
    · replace hm := cT c26 hm
      have pc26 := of_decide_eq_true c26
      refine cond_t rfl (vb rfl c26) ?_
      refine wp_skip ?_
      refine then_n ?_
      refine wp_seq ?_
      refine wp_block ?_
      refine wp_seq ?_
      refine wp_rbd (by kernel_rfl) (by kernel_rfl) ?_
      refine RQ.y rfl (Y.move (v := .pointer (some ⟨ba0, oa0, none⟩)) s0_1) ?_
      refine RQ.y rfl (Y.nilCheck rfl) ?_
      refine RQ.y rfl (Y.fieldAddr (off := 0) rfl (by kernel_rfl)) ?_
      refine RQ.y rfl (Y.load (v := .slice A1 d0.agents.length c1) rfl (by kernel_rfl) (beC (cellT T (hca0 0 _ rfl)))) ?_
      refine RQ.y rfl (Y.move (v := .slice A24 xs20.length c25) s5_1) ?_
      refine RQ.y rfl (Y.move (v := .int .i64 i21) s7_1) ?_
      obtain ⟨x27, hx29, hm⟩ := bnd hm
      obtain ⟨k28, hk30, hl31, hx29⟩ := getI_some hx29
      obtain ⟨b32, rfl⟩ := OwF.addr0 Guxs20 (by omega)
      refine RQ.y rfl (Y.indexAddr (m := k28) (sz := 1) rfl rfl hk30 hl31 (by kernel_rfl)) ?_
      refine RQ.y rfl (Y.load (v := .int .i64 x27) rfl (by kernel_rfl) (beC (OwF.cell fI Guxs20 hx29 (j := 0) rfl))) ?_
      obtain ⟨x33, hx36, hm⟩ := bnd hm
      obtain ⟨k34, hk37, hl38, hx36⟩ := getI_some hx36
      obtain ⟨b40, o41, rfl, hbb40⟩ := h1.addr (by omega)
      obtain ⟨cs35, hRcs35, hc39⟩ := h1.el hx36
      have hScs35 := hRcs35
      obtain ⟨A42, n42, c42, A43, n43, c43, rfl, ⟨h42, r42⟩, ⟨h43, r43⟩⟩ := hRcs35
      have e42 := h42.len; subst e42
      have q42 := len_le r42
      have e43 := h43.len; subst e43
      have q43 := len_le r43
      refine RQ.y rfl (Y.indexAddr (m := k34) (sz := 5) rfl rfl hk37 hl38 (by kernel_rfl)) ?_
      refine RQ.y rfl (Y.fieldAddr (off := 4) rfl (by kernel_rfl)) ?_
      refine RQ.y rfl (Y.load (v := .slice A43 x33.ports.length c43) rfl (by kernel_rfl) (beC (cellT T (hc39 4 _ rfl)))) ?_
      refine RQ.y rfl (Y.len (by kernel_rfl) rfl) ?_
      refine RQ.y rfl (Y.move (v := .int .i64 0) rfl) ?_
      refine RQ.nil ?_
      intro w44 hb45
      have szw44 := hb45.size
      have Bz22 := OwM.below Bz22 hb45
      have Guxs20 := OwF.below Guxs20 hb45
      have T := Tt T hb45
      refine then_n ?_
      refine wp_block ?_
      obtain ⟨K2, hK2, hm⟩ : ∃ K, K = (m_impl_Net_group_A2 rec1 i21) ∧ m_impl_Net_group_L2 d0 x33 K (x33.ports.length + 1) xs20 0 z22 = some r := ⟨_, rfl, hm⟩
      refine wp_loopX (fun g f w' => ∃ (xs50 : List Int) (i51 : Int) (z52 : MapM Int Bool) (uxs50 : Value), f 0 = .pointer (some ⟨ba0, oa0, none⟩) ∧ f 6 = .map (some w2.heap.size) ∧ f 7 = .int .i64 i21 ∧ f 31 = .slice A43 x33.ports.length c43 ∧ f 32 = .int .i64 (x33.ports.length : Int) ∧ f 5 = uxs50 ∧ OwF 2 encI 1 w' w.heap.size uxs50 xs50 ∧ f 33 = .int .i64 i51 ∧ 0 ≤ i51 ∧ OwM Try.prog 2 litI encVB w' w.heap.size w2.heap.size z52 ∧ Value.ownBlock uxs50 ≠ some w2.heap.size ∧ Below w.heap.size w w' ∧ m_impl_Net_group_L2 d0 x33 K2 g xs50 i51 z52 = some r) 2 (fun f w' => ∃ (xs46 : List Int) (z47 : MapM Int Bool) (uxs46 : Value), f 0 = .pointer (some ⟨ba0, oa0, none⟩) ∧ f 6 = .map (some w2.heap.size) ∧ f 7 = .int .i64 i21 ∧ f 5 = uxs46 ∧ OwF 2 encI 1 w' w.heap.size uxs46 xs46 ∧ OwM Try.prog 2 litI encVB w' w.heap.size w2.heap.size z47 ∧ Value.ownBlock uxs46 ≠ some w2.heap.size ∧ Below w.heap.size w w' ∧ m_impl_Net_group_A2 rec1 i21 xs46 z47 = some r) (x33.ports.length + 1) ⟨xs20, 0, z22, (.slice (some ⟨b32, 0, none⟩) xs20.length c25), s0_1, s6_1, s7_1, rfl, rfl, s5_1, Guxs20, rfl, (by omega), Bz22, (ap_ne (ne_ap Noxs20_ob11)), T, hm⟩ ?_ ?_
      · rintro f w48 ⟨xs46, z47, uxs46, s0_2x, s6_2x, s7_2x, s5_2x, Guxs46, Bz47, Noxs46_ob11, T, hm⟩
        unfold m_impl_Net_group_A2 at hm
        refine blk_hit (blk_n (then_n ?_))
        refine wp_rs rfl ?_
        refine RQ.y rfl (Y.move (v := .int .i64 i21) s7_2x) ?_
        obtain ⟨s49, ks49, hm⟩ := bnd hm
        replace ks49 := ck_some ks49
        refine RQ.y rfl (Y.binI (v := .int .i64 s49) rfl rfl (by rw [binI_add ks49.2, ks49.1])) ?_
        refine RQ.y rfl (Y.assign (v := .int .i64 s49) rfl) ?_
        refine RQ.nil ?_
        exact (then_n ⟨g, _, Nat.lt_succ_self _, rfl, ⟨xs46, s49, z47, (uxs46), s0_2x, s6_2x, s5_2x, Guxs46, rfl, (by omega), Bz47, (ap_ne (ne_ap Noxs46_ob11)), T, (by rw [← hrec1]; exact hm)⟩⟩)
      · rintro g f w53 ⟨xs50, i51, z52, uxs50, s0_2, s6_2, s7_2, s31_2, s32_2, s5_2, Guxs50, s33_2, nn33_2, Bz52, Noxs50_ob11, T, hm⟩
        rcases g with _ | g
        · simp only [m_impl_Net_group_L2] at hm; cases hm
        obtain ⟨rec2, hrec2, hm⟩ : ∃ z, z = m_impl_Net_group_L2 d0 x33 K2 g ∧ m_impl_Net_group_B2 d0 x33 z K2 xs50 i51 z52 = some r := ⟨_, rfl, hm⟩
        unfold m_impl_Net_group_B2 at hm
        refine wp_seq ?_
        refine wp_rs rfl ?_
        refine RQ.y rfl (Y.binI (v := .bool (decide (i51 < (x33.ports.length : Int)))) s33_2 s32_2 rfl) ?_
        refine RQ.nil ?_
        refine then_n ?_
        refine wp_seq ?_
        rcases bcases (decide (i51 < (x33.ports.length : Int))) with c54 | c54
        · replace hm := cF c54 hm
          have pc54 := of_decide_eq_false c54
          refine cond_f rfl (vb rfl c54) ?_
          refine wp_exit ?_
          exact (then_x (then_x (hit_x ⟨_, rfl, ⟨xs50, z52, (uxs50), s0_2, s6_2, s7_2, s5_2, Guxs50, Bz52, (ap_ne (ne_ap Noxs50_ob11)), T, (by rw [hK2] at hm; exact hm)⟩⟩)))
        · replace hm := cT c54 hm
          have pc54 := of_decide_eq_true c54
          refine cond_t rfl (vb rfl c54) ?_
          refine wp_skip ?_
          refine then_n ?_
          refine wp_seq ?_
          refine wp_block ?_
          refine wp_seq ?_
          refine wp_rl rfl ?_
          obtain ⟨x55, hx58, hm⟩ := bnd hm
          obtain ⟨k56, hk59, hl60, hx58⟩ := getI_some hx58
          obtain ⟨b62, o63, rfl, hbb62⟩ := h43.addr (by omega)
          obtain ⟨cs57, hRcs57, hc61⟩ := h43.el hx58
          have hScs57 := hRcs57
          obtain rfl := hRcs57
          refine RL.y rfl (Y.indexAddr (m := k56) (sz := 2) s31_2 s33_2 hk59 hl60 (by kernel_rfl)) ?_
          refine RL.y rfl (Y.loadN (cs := [.int .i64 x55.agent, .int .i64 x55.slot]) rfl (by kernel_rfl) (cells2 (eqC (cellT T (hc61 0 _ rfl))) (eqC (cellT T (hc61 1 _ rfl))))) ?_
          refine RL.alloc (z := .agg #[.int .i64 0, .int .i64 0]) rfl (by kernel_rfl) (fun w64 B65 hb66 szw64 => ?_)
          replace B65 : Blk w64 w53.heap.size 81 #[.int .i64 0, .int .i64 0] := B65
          have GB65 : w.heap.size ≤ w53.heap.size := T.size
          have Eob67_ob11 := Nat.ne_of_lt Bz52.lt
          have Noxs50_ob67 := OwF.far Guxs50 (Nat.le_refl _)
          have Bz52 := OwM.below Bz52 hb66
          have Guxs50 := OwF.below Guxs50 hb66
          have T := Tt T hb66
          refine RL.store (v := .agg #[.int .i64 x55.agent, .int .i64 x55.slot]) (cs' := #[.int .i64 x55.agent, .int .i64 x55.slot]) rfl rfl rfl B65 (by kernel_rfl) (by rfl) (by rfl) (by rfl) (fun w68 B69 ho70 => ?_)
          have szw68 := ho70.size
          have Bz52 := Bz52.only ho70 (by intro hin; simp at hin; exact Eob67_ob11 hin)
          have Guxs50 := OwF.only Guxs50 ho70 Noxs50_ob67
          have T := T.trans (ho70.below (by first | (simp; done) | (simp; omega)))
          refine RL.nil ?_
          refine then_n ?_
          refine wp_seq ?_
          refine wp_rbd (by kernel_rfl) (by kernel_rfl) ?_
          refine RQ.y rfl (Y.move (v := .pointer (some ⟨ba0, oa0, none⟩)) s0_2) ?_
          refine RQ.y rfl (Y.nilCheck rfl) ?_
          refine RQ.y rfl (Y.fieldAddr (off := 0) rfl (by kernel_rfl)) ?_
          refine RQ.y rfl (Y.load (v := .slice (some ⟨b40, o41, none⟩) d0.agents.length c1) rfl (by kernel_rfl) (beC (cellT T (hca0 0 _ rfl)))) ?_
          refine RQ.y rfl (Y.fieldAddr (off := 0) rfl (by kernel_rfl)) ?_
          refine RQ.y rfl (Y.load (v := .int .i64 x55.agent) rfl (by kernel_rfl) (beC (blkCell B69 (i := 0) rfl))) ?_
          obtain ⟨x71, hx74, hm⟩ := bnd hm
          obtain ⟨k72, hk75, hl76, hx74⟩ := getI_some hx74
          obtain ⟨cs73, hRcs73, hc77⟩ := h1.el hx74
          have hScs73 := hRcs73
          obtain ⟨A78, n78, c78, A79, n79, c79, rfl, ⟨h78, r78⟩, ⟨h79, r79⟩⟩ := hRcs73
          have e78 := h78.len; subst e78
          have q78 := len_le r78
          have e79 := h79.len; subst e79
          have q79 := len_le r79
          refine RQ.y rfl (Y.indexAddr (m := k72) (sz := 5) rfl rfl hk75 hl76 (by kernel_rfl)) ?_
          refine RQ.y rfl (Y.fieldAddr (off := 0) rfl (by kernel_rfl)) ?_
          refine RQ.y rfl (Y.load (v := .int .i64 x71.kind) rfl (by kernel_rfl) (beC (cellT T (hc77 0 _ rfl)))) ?_
          refine RQ.call rfl (am1 rfl) (by kernel_rfl) (v := .bool (turns x71.kind)) (bel (K := fun _ => True) fun w' hb' => (callB (impl_canReverse x71.kind w'))) ?_
          refine RQ.y rfl (Y.move (v := .bool (turns x71.kind)) rfl) ?_
          rcases bcases (turns x71.kind) with c80 | c80
          · replace hm := cF c80 hm
            refine RQ.skip (wantN (dj := 47) rfl (vb rfl c80) rfl) ?_
            refine RQ.skip (wantN (dj := 47) rfl (vb rfl c80) rfl) ?_
            refine RQ.skip (wantN (dj := 47) rfl (vb rfl c80) rfl) ?_
            refine RQ.skip (wantN (dj := 47) rfl (vb rfl c80) rfl) ?_
            refine RQ.skip (wantN (dj := 47) rfl (vb rfl c80) rfl) ?_
            refine RQ.y rfl (Y.pick (b := false) (v := .bool false) (vb rfl c80) rfl) ?_
            refine RQ.nil ?_
            intro w81 hb82
            have szw81 := hb82.size
            have Bz52 := OwM.below Bz52 hb82
            have B69 := blkT B69 hb82
            have Guxs50 := OwF.below Guxs50 hb82
            have T := Tt T hb82
            refine then_n ?_
            refine cond_f rfl rfl ?_
            refine wp_skip ?_
            refine blk_n (then_n ?_)
            refine wp_rs rfl ?_
            refine RQ.y rfl (Y.binI s33_2 rfl (binI_add (m := i51) (by omega))) ?_
            refine RQ.y rfl (Y.move (v := .int .i64 (i51 + 1)) rfl) ?_
            refine RQ.nil ?_
            exact (then_n ⟨g, _, Nat.lt_succ_self _, rfl, ⟨xs50, (i51 + 1), z52, (uxs50), s0_2, s6_2, s7_2, s31_2, s32_2, s5_2, Guxs50, rfl, (by omega), Bz52, (ap_ne (ne_ap Noxs50_ob11)), T, (by rw [← hrec2]; exact hm)⟩⟩)
          · replace hm := cT c80 hm
            refine RQ.y (wantT (dj := 47) rfl (vb rfl c80)) (Y.move (v := .map (some w2.heap.size)) s6_2) ?_
            refine RQ.y (wantT (dj := 47) rfl (vb rfl c80)) (Y.fieldAddr (off := 0) rfl (by kernel_rfl)) ?_
            refine RQ.y (wantT (dj := 47) rfl (vb rfl c80)) (Y.load (v := .int .i64 x55.agent) rfl (by kernel_rfl) (beC (blkCell B69 (i := 0) rfl))) ?_
            obtain ⟨_, kc83, hm⟩ := bnd hm
            replace kc83 := (ck_some kc83).2
            refine RQ.y (wantT (dj := 47) rfl (vb rfl c80)) (Y.look (zb := false) (a := x55.agent) mt_int64_bool rfl rfl kc83 (fun w' hb' => OwM.below Bz52 hb')) ?_
            refine RQ.y (wantT (dj := 47) rfl (vb rfl c80)) (Y.not (b' := (!(z52.look x55.agent false))) rfl rfl) ?_
            refine RQ.y rfl (Y.pick (b := true) (v := .bool (!(z52.look x55.agent false))) (vb rfl c80) rfl) ?_
            refine RQ.nil ?_
            intro w84 hb85
            have szw84 := hb85.size
            have Bz52 := OwM.below Bz52 hb85
            have B69 := blkT B69 hb85
            have Guxs50 := OwF.below Guxs50 hb85
            have T := Tt T hb85
            refine then_n ?_
            rcases bcases (z52.look x55.agent false) with c86 | c86
            · replace hm := cF c86 hm
              refine cond_t rfl (vbn rfl c86 rfl) ?_
              refine wp_seq ?_
              refine wp_rl rfl ?_
              refine RL.y rfl (Y.move (v := .map (some w2.heap.size)) s6_2) ?_
              refine RL.y rfl (Y.fieldAddr (off := 0) rfl (by kernel_rfl)) ?_
              refine RL.y rfl (Y.load (v := .int .i64 x55.agent) rfl (by kernel_rfl) (eqC (blkCell B69 (i := 0) rfl))) ?_
              obtain ⟨_, kc87, hm⟩ := bnd hm
              replace kc87 := (ck_some kc87).2
              obtain ⟨_, m88, hm⟩ := bnd hm
              have hk89 := mustP_some m88
              refine RL.mapSet (a := x55.agent) (v := true) (enc := encVB) mt_int64_bool rfl rfl rfl rfl kc87 Bz52 hk89 (fun w90 B91 ho92 => ?_)
              have szw90 := ho92.size
              have B69 := B69.only_ ho92 (by intro hin; simp at hin; exact Eob67_ob11.symm hin)
              have Guxs50 := OwF.only Guxs50 ho92 Noxs50_ob11
              have T := T.trans (ho92.below (by intro b hb; simp at hb; subst hb; exact Bz52.1))
              refine RL.nil ?_
              refine then_n ?_
              refine wp_rl rfl ?_
              refine RL.y rfl (Y.move (v := uxs50) s5_2) ?_
              refine RL.y rfl (Y.fieldAddr (off := 0) rfl (by kernel_rfl)) ?_
              refine RL.y rfl (Y.load (v := .int .i64 x55.agent) rfl (by kernel_rfl) (eqC (blkCell B69 (i := 0) rfl))) ?_
              refine RL.bslice (e := 2) (cells := #[.int .i64 x55.agent]) rfl (pm1 rfl) (by kernel_rfl) (fun w93 B94 hb95 szw93 => ?_)
              have ZB94 : w.heap.size ≤ w90.heap.size := T.size
              have No96_ob11 := litNe (n := 1) (c := 1) B91.lt
              have No96_ob67 := litNe (n := 1) (c := 1) B69.lt
              have Do96_oxs50 := Dj.new (v := .slice (some ⟨w90.heap.size, 0, none⟩) 1 1) litGe (OwF.hi Guxs50)
              have B91 := OwM.below B91 hb95
              have B69 := blkT B69 hb95
              have Guxs50 := OwF.below Guxs50 hb95
              have T := Tt T hb95
              have G97 := OwF.lit (enc := encI) (sz := 1) (xs := [x55.agent]) B94 ZB94 rfl rfl rfl rfl
              obtain ⟨_, m99, hm⟩ := bnd hm
              have hk100 := mustP_some m99
              refine RL.append fI app_int64 rfl rfl rfl Guxs50 (OwF.arg fI G97) T.size hk100 (fun v101 w102 G103 hgr104 hbl105 hnb106 => ?_)
              have szw102 := hbl105.size
              have No107_ob11 := ne_app hnb106 Noxs50_ob11 B91.lt
              have No107_ob67 := ne_app hnb106 Noxs50_ob67 B69.lt
              have B91 := OwM.grown B91 hgr104 Noxs50_ob11
              have B69 := Blk.kept B69 hgr104 Noxs50_ob67
              have T := T.trans hbl105
              refine RL.y rfl (Y.assign (v := v101) rfl) ?_
              refine RL.nil ?_
              refine blk_n (then_n ?_)
              refine wp_rs rfl ?_
              refine RQ.y rfl (Y.binI s33_2 rfl (binI_add (m := i51) (by omega))) ?_
              refine RQ.y rfl (Y.move (v := .int .i64 (i51 + 1)) rfl) ?_
              refine RQ.nil ?_
              exact (then_n ⟨g, _, Nat.lt_succ_self _, rfl, ⟨(xs50 ++ [x55.agent]), (i51 + 1), (z52.put x55.agent true), (v101), s0_2, s6_2, s7_2, s31_2, s32_2, rfl, G103, rfl, (by omega), B91, (ap_ne (ne_ap No107_ob11)), T, (by rw [← hrec2]; exact hm)⟩⟩)
            · replace hm := cT c86 hm
              refine cond_f rfl (vbn rfl c86 rfl) ?_
              refine wp_skip ?_
              refine blk_n (then_n ?_)
              refine wp_rs rfl ?_
              refine RQ.y rfl (Y.binI s33_2 rfl (binI_add (m := i51) (by omega))) ?_
              refine RQ.y rfl (Y.move (v := .int .i64 (i51 + 1)) rfl) ?_
              refine RQ.nil ?_
              exact (then_n ⟨g, _, Nat.lt_succ_self _, rfl, ⟨xs50, (i51 + 1), z52, (uxs50), s0_2, s6_2, s7_2, s31_2, s32_2, s5_2, Guxs50, rfl, (by omega), Bz52, (ap_ne (ne_ap Noxs50_ob11)), T, (by rw [← hrec2]; exact hm)⟩⟩)
def m_impl_Net_spread_A1 (xs34 : List Bool) : Option (Bool × (List Bool)) :=
  some (true, xs34)
def m_impl_Net_spread_A2 (rec1 : List Bool → Int → MapM Int Bool → Option (Bool × (List Bool))) (i37 : Int) (xs57 : List Bool) (z58 : MapM Int Bool) : Option (Bool × (List Bool)) :=
  ((ck (i37 + 1)).bind fun s60 => (rec1 xs57 s60 z58))
def m_impl_Net_spread_B2 (d0 : DNet) (x41 : Int) (x46 : DAgent) (rec2 : List Bool → Int → MapM Int Bool → Option (Bool × (List Bool))) (K2 : List Bool → MapM Int Bool → Option (Bool × (List Bool))) (xs61 : List Bool) (i62 : Int) (z63 : MapM Int Bool) : Option (Bool × (List Bool)) :=
  (bif (decide (i62 < (x46.ports.length : Int))) then ((getI x46.ports i62).bind fun x66 => ((getI d0.agents x66.agent).bind fun x89 => (bif (turns x89.kind) then ((ck x66.agent).bind fun _ => (bif (z63.look x66.agent false) then ((m_impl_Net_role d0 (⟨x41, i62⟩ : DPort) xs61).bind fun y155 => ((m_impl_Net_role d0 x66 xs61).bind fun y157 => (bif (y155 == y157) then some (false, xs61) else (rec2 xs61 (i62 + 1) z63)))) else ((ck x66.agent).bind fun _ => ((mustP (z63.n ≤ 4294967296)).bind fun _ => ((getI xs61 x66.agent).bind fun x118 => ((m_impl_Net_role d0 (⟨x41, i62⟩ : DPort) (setI xs61 x66.agent false)).bind fun y130 => ((m_impl_Net_role d0 x66 (setI xs61 x66.agent false)).bind fun y134 => ((getI (setI xs61 x66.agent false) x66.agent).bind fun x138 => ((m_impl_Net_role d0 (⟨x41, i62⟩ : DPort) (setI (setI xs61 x66.agent false) x66.agent (y130 == y134))).bind fun y148 => ((m_impl_Net_role d0 x66 (setI (setI xs61 x66.agent false) x66.agent (y130 == y134))).bind fun y150 => (bif (y148 == y150) then some (false, (setI (setI xs61 x66.agent false) x66.agent (y130 == y134))) else (rec2 (setI (setI xs61 x66.agent false) x66.agent (y130 == y134)) (i62 + 1) (z63.put x66.agent true))))))))))))) else ((m_impl_Net_role d0 (⟨x41, i62⟩ : DPort) xs61).bind fun y101 => ((m_impl_Net_role d0 x66 xs61).bind fun y103 => (bif (y101 == y103) then some (false, xs61) else (rec2 xs61 (i62 + 1) z63))))))) else (K2 xs61 z63))
def m_impl_Net_spread_L2 (d0 : DNet) (x41 : Int) (x46 : DAgent) (K2 : List Bool → MapM Int Bool → Option (Bool × (List Bool))) : Nat → List Bool → Int → MapM Int Bool → Option (Bool × (List Bool))
  | 0, _, _, _ => none
  | g + 1, xs61, i62, z63 => m_impl_Net_spread_B2 d0 x41 x46 (m_impl_Net_spread_L2 d0 x41 x46 K2 g) K2 xs61 i62 z63
def m_impl_Net_spread_B1 (d0 : DNet) (d1 : List Int) (rec1 : List Bool → Int → MapM Int Bool → Option (Bool × (List Bool))) (K1 : List Bool → Option (Bool × (List Bool))) (xs36 : List Bool) (i37 : Int) (z38 : MapM Int Bool) : Option (Bool × (List Bool)) :=
  (bif (decide (i37 < (d1.length : Int))) then ((getI d1 i37).bind fun x41 => ((getI d0.agents x41).bind fun x46 => (m_impl_Net_spread_L2 d0 x41 x46 (m_impl_Net_spread_A2 rec1 i37) (x46.ports.length + 1) xs36 0 z38))) else (K1 xs36))
def m_impl_Net_spread_L1 (d0 : DNet) (d1 : List Int) (K1 : List Bool → Option (Bool × (List Bool))) : Nat → List Bool → Int → MapM Int Bool → Option (Bool × (List Bool))
  | 0, _, _, _ => none
  | g + 1, xs36, i37, z38 => m_impl_Net_spread_B1 d0 d1 (m_impl_Net_spread_L1 d0 d1 K1 g) K1 xs36 i37 z38
def m_impl_Net_spread (d0 : DNet) (d1 : List Int) (d2 : Bool) (d3 : List Bool) : Option (Bool × (List Bool)) :=
  ((getI d1 0).bind fun x6 => ((ck x6).bind fun _ => ((mustP ((MapM.empty : MapM Int Bool).n ≤ 4294967296)).bind fun _ => ((getI d1 0).bind fun x18 => ((getI d3 x18).bind fun x23 => (m_impl_Net_spread_L1 d0 d1 m_impl_Net_spread_A1 (d1.length + 1) (setI d3 x18 d2) 0 ((MapM.empty : MapM Int Bool).put x6 true)))))))
set_option maxHeartbeats 2000000 in
theorem c_m_impl_Net_spread (d0 : DNet) (d1 : List Int) (d2 : Bool) (d3 : List Bool) (r : Bool × (List Bool)) (hm : m_impl_Net_spread d0 d1 d2 d3 = some r) (v0 : Value) (v1 : Value) (v3 : Value) (w ws : World) (hT0 : Below w.heap.size w ws) (hv0 : Pt netRd w v0 d0) (hv1 : OwF 2 encI 1 ws w.heap.size v1 d1) (hv3 : OwF 4 encB 1 ws w.heap.size v3 d3) (hD1_3 : Dj v1 v3) :
    Calls Try.prog 87 #[v0, v1, .bool d2, v3] ws fun e w' => e = .returned (.bool r.1) ∧ OwF 2 encI 1 w' w.heap.size v1 d1 ∧ OwF 4 encB 1 w' w.heap.size v3 r.2 ∧ KeepV v3 v3 ws w' ∧ Below w.heap.size w w' := by
  obtain ⟨ba0, oa0, csa0, rfl, hba0, hRa0, hca0⟩ := hv0
  have hSa0 := hRa0
  obtain ⟨A1, n1, c1, rfl, ⟨h1, r1⟩⟩ := hRa0
  have e1 := h1.len; subst e1
  have q1 := len_le r1
  obtain ⟨Ap1, cp1, rfl⟩ := OwF.form hv1
  obtain ⟨Ap3, cp3, rfl⟩ := OwF.form hv3
  have T := hT0
  have K := KeepV.refl (.slice Ap3 d3.length cp3) (.slice Ap3 d3.length cp3) ws
  unfold m_impl_Net_spread at hm
  refine enter 97 Try.func87 rfl rfl rfl ?_
  intro f hf
  have s0 : f 0 = .pointer (some ⟨ba0, oa0, none⟩) := hf 0 _ rfl
  have s1 : f 1 = .slice Ap1 d1.length cp1 := hf 1 _ rfl
  have s2 : f 2 = .bool d2 := hf 2 _ rfl
  have s3 : f 3 = .slice Ap3 d3.length cp3 := hf 3 _ rfl
  refine wp_seq ?_
  refine wp_rs rfl ?_
  refine RQ.y rfl (Y.assign (v := .bool false) rfl) ?_
  refine RQ.nil ?_
  refine then_n ?_
  refine wp_seq ?_
  refine wp_rl rfl ?_
  refine RL.makeMap (κ := Int) (β := Bool) 2 litI encVB rfl (fun w2 B3 hb4 szw2 => ?_)
  replace B3 := OwM.lower B3 T.size
  have KZob5 := K.size
  have Nop1_ob5 := OwF.far hv1 (Nat.le_refl _)
  have Nop3_ob5 := OwF.far hv3 (Nat.le_refl _)
  have hv1 := OwF.below hv1 hb4
  have hv3 := OwF.below hv3 hb4
  have K := KeepV.below K hb4
  have T := Tt T hb4
  refine RL.y rfl (Y.move (v := .slice Ap1 d1.length cp1) s1) ?_
  obtain ⟨x6, hx8, hm⟩ := bnd hm
  obtain ⟨k7, hk9, hl10, hx8⟩ := getI_some hx8
  obtain ⟨b11, rfl⟩ := OwF.addr0 hv1 (by have := OwF.lenEq hv1; omega)
  refine RL.y rfl (Y.indexAddr (m := k7) (sz := 1) rfl rfl hk9 (by have := OwF.lenEq hv1; omega) (by kernel_rfl)) ?_
  refine RL.y rfl (Y.load (v := .int .i64 x6) rfl (by kernel_rfl) (eqC (OwF.cell fI hv1 hx8 (j := 0) rfl))) ?_
  obtain ⟨_, kc12, hm⟩ := bnd hm
  replace kc12 := (ck_some kc12).2
  obtain ⟨_, m13, hm⟩ := bnd hm
  have hk14 := mustP_some m13
  refine RL.mapIns (a := x6) (v := true) (enc := encVB) mt_int64_bool rfl rfl rfl rfl kc12 B3 hk14 (fun w15 B16 ho17 => ?_)
  have szw15 := ho17.size
  have hv1 := OwF.only hv1 ho17 Nop1_ob5
  have hv3 := OwF.only hv3 ho17 Nop3_ob5
  have K := KeepV.far K ho17 KZob5
  have T := T.trans (ho17.below (by intro b hb; simp at hb; subst hb; exact B3.1))
  refine RL.y rfl (Y.move (v := .map (some ws.heap.size)) rfl) ?_
  refine RL.y rfl (Y.assign (v := .map (some ws.heap.size)) rfl) ?_
  refine RL.nil ?_
  refine then_n ?_
  refine wp_seq ?_
  refine wp_rl rfl ?_
  refine RL.y rfl (Y.move (v := .slice Ap3 d3.length cp3) s3) ?_
  refine RL.y rfl (Y.move (v := .slice (some ⟨b11, 0, none⟩) d1.length cp1) s1) ?_
  obtain ⟨x18, hx20, hm⟩ := bnd hm
  obtain ⟨k19, hk21, hl22, hx20⟩ := getI_some hx20
  refine RL.y rfl (Y.indexAddr (m := k19) (sz := 1) rfl rfl hk21 (by have := OwF.lenEq hv1; omega) (by kernel_rfl)) ?_
  refine RL.y rfl (Y.load (v := .int .i64 x18) rfl (by kernel_rfl) (eqC (OwF.cell fI hv1 hx20 (j := 0) rfl))) ?_
  refine RL.y rfl (Y.move (v := .bool d2) s2) ?_
  obtain ⟨x23, hx25, hm⟩ := bnd hm
  obtain ⟨k24, hk26, hl27, hx25⟩ := getI_some hx25
  obtain ⟨b28, rfl⟩ := OwF.addr0 hv3 (by have := OwF.lenEq hv3; omega)
  refine RL.y rfl (Y.indexAddr (m := k24) (sz := 1) rfl rfl hk26 (by have := OwF.lenEq hv3; omega) (by kernel_rfl)) ?_
  refine RL.storeF (k := k24) (a := d2) fB rfl rfl rfl hv3 hl27 rfl (by kernel_rfl) (fun w29 G30 ho31 => ?_)
  have szw29 := ho31.size
  have B16 := OwM.only B16 ho31 (fun e => Nop3_ob5 (by simp at e; rw [e]; rfl))
  have hv1 := OwF.only hv1 ho31 (fun e => hD1_3 _ e rfl)
  have K := KeepV.only1 K ho31 rfl
  have T := T.trans (ho31.below (by intro b hb; simp at hb; subst hb; exact OwF.lo_ hv3 _ rfl))
  have G30 : OwF 4 encB 1 w29 w.heap.size (.slice (some ⟨b28, 0, none⟩) d3.length cp3) (setI d3 x18 d2) := by rw [setI_eq hk26]; exact G30
  have hx32 : (setI d3 x18 d2)[k24]? = some d2 := setI_at hk26 hl27
  have hl33 := lt_of_some hx32
  refine RL.nil ?_
  refine then_n ?_
  refine wp_seq ?_
  refine wp_seq ?_
  refine wp_rs rfl ?_
  refine RQ.y rfl (Y.move (v := .slice (some ⟨b11, 0, none⟩) d1.length cp1) s1) ?_
  refine RQ.y rfl (Y.len (by kernel_rfl) rfl) ?_
  refine RQ.y rfl (Y.move (v := .int .i64 0) rfl) ?_
  refine RQ.nil ?_
  refine then_n ?_
  refine wp_block ?_
  obtain ⟨K1, hK1, hm⟩ : ∃ K, K = m_impl_Net_spread_A1 ∧ m_impl_Net_spread_L1 d0 d1 K (d1.length + 1) (setI d3 x18 d2) 0 ((MapM.empty : MapM Int Bool).put x6 true) = some r := ⟨_, rfl, hm⟩
  refine wp_loopX (fun g f w' => ∃ (xs36 : List Bool) (i37 : Int) (z38 : MapM Int Bool), f 0 = .pointer (some ⟨ba0, oa0, none⟩) ∧ f 1 = .slice (some ⟨b11, 0, none⟩) d1.length cp1 ∧ f 9 = .map (some ws.heap.size) ∧ f 26 = .slice (some ⟨b11, 0, none⟩) d1.length cp1 ∧ f 27 = .int .i64 (d1.length : Int) ∧ f 3 = .slice (some ⟨b28, 0, none⟩) d3.length cp3 ∧ OwF 4 encB 1 w' w.heap.size (.slice (some ⟨b28, 0, none⟩) d3.length cp3) xs36 ∧ f 28 = .int .i64 i37 ∧ 0 ≤ i37 ∧ OwM Try.prog 2 litI encVB w' w.heap.size ws.heap.size z38 ∧ OwF 2 encI 1 w' w.heap.size (.slice (some ⟨b11, 0, none⟩) d1.length cp1) d1 ∧ KeepV (.slice (some ⟨b28, 0, none⟩) d3.length cp3) (.slice (some ⟨b28, 0, none⟩) d3.length cp3) ws w' ∧ Below w.heap.size w w' ∧ m_impl_Net_spread_L1 d0 d1 K1 g xs36 i37 z38 = some r) 0 (fun f w' => ∃ (xs34 : List Bool), f 1 = .slice (some ⟨b11, 0, none⟩) d1.length cp1 ∧ f 3 = .slice (some ⟨b28, 0, none⟩) d3.length cp3 ∧ OwF 4 encB 1 w' w.heap.size (.slice (some ⟨b28, 0, none⟩) d3.length cp3) xs34 ∧ OwF 2 encI 1 w' w.heap.size (.slice (some ⟨b11, 0, none⟩) d1.length cp1) d1 ∧ KeepV (.slice (some ⟨b28, 0, none⟩) d3.length cp3) (.slice (some ⟨b28, 0, none⟩) d3.length cp3) ws w' ∧ Below w.heap.size w w' ∧ m_impl_Net_spread_A1 xs34 = some r) (d1.length + 1) ⟨(setI d3 x18 d2), 0, ((MapM.empty : MapM Int Bool).put x6 true), s0, s1, rfl, rfl, rfl, s3, G30, rfl, (by omega), B16, hv1, K, T, hm⟩ ?_ ?_
  · rintro f w35 ⟨xs34, s1_1x, s3_1x, Gxs34, hv1, K, T, hm⟩
    unfold m_impl_Net_spread_A1 at hm
    refine blk_hit (then_n ?_)
    refine wp_seq ?_
    refine wp_rs rfl ?_
    refine RQ.y rfl (Y.assign (v := .bool true) rfl) ?_
    refine RQ.nil ?_
    refine then_n ?_
    refine wp_ret ?_
    obtain rfl := Option.some.inj hm
    exact (ret1 rfl rfl rfl ⟨rfl, hv1, Gxs34, K, T⟩)
  · rintro g f w39 ⟨xs36, i37, z38, s0_1, s1_1, s9_1, s26_1, s27_1, s3_1, Gxs36, s28_1, nn28_1, Bz38, hv1, K, T, hm⟩
    rcases g with _ | g
    · simp only [m_impl_Net_spread_L1] at hm; cases hm
    obtain ⟨rec1, hrec1, hm⟩ : ∃ z, z = m_impl_Net_spread_L1 d0 d1 K1 g ∧ m_impl_Net_spread_B1 d0 d1 z K1 xs36 i37 z38 = some r := ⟨_, rfl, hm⟩
    unfold m_impl_Net_spread_B1 at hm
    refine wp_seq ?_
    refine wp_rs rfl ?_
    refine RQ.y rfl (Y.binI (v := .bool (decide (i37 < (d1.length : Int)))) s28_1 s27_1 rfl) ?_
    refine RQ.nil ?_
    refine then_n ?_
    refine wp_seq ?_
    rcases bcases (decide (i37 < (d1.length : Int))) with c40 | c40
    · replace hm := cF c40 hm
      have pc40 := of_decide_eq_false c40
      refine cond_f rfl (vb rfl c40) ?_
      refine wp_exit ?_
      exact (then_x (then_x (hit_x ⟨_, rfl, ⟨xs36, s1_1, s3_1, Gxs36, hv1, K, T, (by rw [hK1] at hm; exact hm)⟩⟩)))
    · replace hm := cT c40 hm
      have pc40 := of_decide_eq_true c40
      refine cond_t rfl (vb rfl c40) ?_
      refine wp_skip ?_
      refine then_n ?_
      refine wp_seq ?_
      refine wp_block ?_
      refine wp_seq ?_
      refine wp_rs rfl ?_
      obtain ⟨x41, hx43, hm⟩ := bnd hm
      obtain ⟨k42, hk44, hl45, hx43⟩ := getI_some hx43
      refine RQ.y rfl (Y.indexAddr (m := k42) (sz := 1) s26_1 s28_1 hk44 (by have := OwF.lenEq hv1; omega) (by kernel_rfl)) ?_
      refine RQ.y rfl (Y.load (v := .int .i64 x41) rfl (by kernel_rfl) (eqC (OwF.cell fI hv1 hx43 (j := 0) rfl))) ?_
      refine RQ.y rfl (Y.assign (v := .int .i64 x41) rfl) ?_
      refine RQ.nil ?_
      refine then_n ?_
      refine wp_seq ?_
      refine wp_rs rfl ?_
      refine RQ.y rfl (Y.move (v := .pointer (some ⟨ba0, oa0, none⟩)) s0_1) ?_
      refine RQ.y rfl (Y.nilCheck rfl) ?_
      refine RQ.y rfl (Y.fieldAddr (off := 0) rfl (by kernel_rfl)) ?_
      refine RQ.y rfl (Y.load (v := .slice A1 d0.agents.length c1) rfl (by kernel_rfl) (eqC (cellT T (hca0 0 _ rfl)))) ?_
      refine RQ.y rfl (Y.move (v := .int .i64 x41) rfl) ?_
      obtain ⟨x46, hx49, hm⟩ := bnd hm
      obtain ⟨k47, hk50, hl51, hx49⟩ := getI_some hx49
      obtain ⟨b53, o54, rfl, hbb53⟩ := h1.addr (by omega)
      obtain ⟨cs48, hRcs48, hc52⟩ := h1.el hx49
      have hScs48 := hRcs48
      obtain ⟨A55, n55, c55, A56, n56, c56, rfl, ⟨h55, r55⟩, ⟨h56, r56⟩⟩ := hRcs48
      have e55 := h55.len; subst e55
      have q55 := len_le r55
      have e56 := h56.len; subst e56
      have q56 := len_le r56
      refine RQ.y rfl (Y.indexAddr (m := k47) (sz := 5) rfl rfl hk50 hl51 (by kernel_rfl)) ?_
      refine RQ.y rfl (Y.fieldAddr (off := 4) rfl (by kernel_rfl)) ?_
      refine RQ.y rfl (Y.load (v := .slice A56 x46.ports.length c56) rfl (by kernel_rfl) (eqC (cellT T (hc52 4 _ rfl)))) ?_
      refine RQ.y rfl (Y.len (by kernel_rfl) rfl) ?_
      refine RQ.y rfl (Y.move (v := .int .i64 0) rfl) ?_
      refine RQ.nil ?_
      refine then_n ?_
      refine wp_block ?_
      obtain ⟨K2, hK2, hm⟩ : ∃ K, K = (m_impl_Net_spread_A2 rec1 i37) ∧ m_impl_Net_spread_L2 d0 x41 x46 K (x46.ports.length + 1) xs36 0 z38 = some r := ⟨_, rfl, hm⟩
      refine wp_loopX (fun g f w' => ∃ (xs61 : List Bool) (i62 : Int) (z63 : MapM Int Bool), f 0 = .pointer (some ⟨ba0, oa0, none⟩) ∧ f 1 = .slice (some ⟨b11, 0, none⟩) d1.length cp1 ∧ f 9 = .map (some ws.heap.size) ∧ f 11 = .int .i64 x41 ∧ f 26 = .slice (some ⟨b11, 0, none⟩) d1.length cp1 ∧ f 27 = .int .i64 (d1.length : Int) ∧ f 28 = .int .i64 i37 ∧ f 39 = .slice A56 x46.ports.length c56 ∧ f 40 = .int .i64 (x46.ports.length : Int) ∧ f 3 = .slice (some ⟨b28, 0, none⟩) d3.length cp3 ∧ OwF 4 encB 1 w' w.heap.size (.slice (some ⟨b28, 0, none⟩) d3.length cp3) xs61 ∧ f 41 = .int .i64 i62 ∧ 0 ≤ i62 ∧ OwM Try.prog 2 litI encVB w' w.heap.size ws.heap.size z63 ∧ OwF 2 encI 1 w' w.heap.size (.slice (some ⟨b11, 0, none⟩) d1.length cp1) d1 ∧ KeepV (.slice (some ⟨b28, 0, none⟩) d3.length cp3) (.slice (some ⟨b28, 0, none⟩) d3.length cp3) ws w' ∧ Below w.heap.size w w' ∧ m_impl_Net_spread_L2 d0 x41 x46 K2 g xs61 i62 z63 = some r) 2 (fun f w' => ∃ (xs57 : List Bool) (z58 : MapM Int Bool), f 0 = .pointer (some ⟨ba0, oa0, none⟩) ∧ f 1 = .slice (some ⟨b11, 0, none⟩) d1.length cp1 ∧ f 9 = .map (some ws.heap.size) ∧ f 26 = .slice (some ⟨b11, 0, none⟩) d1.length cp1 ∧ f 27 = .int .i64 (d1.length : Int) ∧ f 28 = .int .i64 i37 ∧ f 3 = .slice (some ⟨b28, 0, none⟩) d3.length cp3 ∧ OwF 4 encB 1 w' w.heap.size (.slice (some ⟨b28, 0, none⟩) d3.length cp3) xs57 ∧ OwM Try.prog 2 litI encVB w' w.heap.size ws.heap.size z58 ∧ OwF 2 encI 1 w' w.heap.size (.slice (some ⟨b11, 0, none⟩) d1.length cp1) d1 ∧ KeepV (.slice (some ⟨b28, 0, none⟩) d3.length cp3) (.slice (some ⟨b28, 0, none⟩) d3.length cp3) ws w' ∧ Below w.heap.size w w' ∧ m_impl_Net_spread_A2 rec1 i37 xs57 z58 = some r) (x46.ports.length + 1) ⟨xs36, 0, z38, s0_1, s1_1, s9_1, rfl, s26_1, s27_1, s28_1, rfl, rfl, s3_1, Gxs36, rfl, (by omega), Bz38, hv1, K, T, hm⟩ ?_ ?_
      · rintro f w59 ⟨xs57, z58, s0_2x, s1_2x, s9_2x, s26_2x, s27_2x, s28_2x, s3_2x, Gxs57, Bz58, hv1, K, T, hm⟩
        unfold m_impl_Net_spread_A2 at hm
        refine blk_hit (blk_n (then_n ?_))
        refine wp_rs rfl ?_
        obtain ⟨s60, ks60, hm⟩ := bnd hm
        replace ks60 := ck_some ks60
        refine RQ.y rfl (Y.binI (v := .int .i64 s60) s28_2x rfl (by rw [binI_add ks60.2, ks60.1])) ?_
        refine RQ.y rfl (Y.move (v := .int .i64 s60) rfl) ?_
        refine RQ.nil ?_
        exact (then_n ⟨g, _, Nat.lt_succ_self _, rfl, ⟨xs57, s60, z58, s0_2x, s1_2x, s9_2x, s26_2x, s27_2x, s3_2x, Gxs57, rfl, (by omega), Bz58, hv1, K, T, (by rw [← hrec1]; exact hm)⟩⟩)
      · rintro g f w64 ⟨xs61, i62, z63, s0_2, s1_2, s9_2, s11_2, s26_2, s27_2, s28_2, s39_2, s40_2, s3_2, Gxs61, s41_2, nn41_2, Bz63, hv1, K, T, hm⟩
        rcases g with _ | g
        · simp only [m_impl_Net_spread_L2] at hm; cases hm
        obtain ⟨rec2, hrec2, hm⟩ : ∃ z, z = m_impl_Net_spread_L2 d0 x41 x46 K2 g ∧ m_impl_Net_spread_B2 d0 x41 x46 z K2 xs61 i62 z63 = some r := ⟨_, rfl, hm⟩
        unfold m_impl_Net_spread_B2 at hm
        refine wp_seq ?_
        refine wp_rs rfl ?_
        refine RQ.y rfl (Y.binI (v := .bool (decide (i62 < (x46.ports.length : Int)))) s41_2 s40_2 rfl) ?_
        refine RQ.nil ?_
        refine then_n ?_
        refine wp_seq ?_
        rcases bcases (decide (i62 < (x46.ports.length : Int))) with c65 | c65
        · replace hm := cF c65 hm
          have pc65 := of_decide_eq_false c65
          refine cond_f rfl (vb rfl c65) ?_
          refine wp_exit ?_
          exact (then_x (then_x (hit_x ⟨_, rfl, ⟨xs61, z63, s0_2, s1_2, s9_2, s26_2, s27_2, s28_2, s3_2, Gxs61, Bz63, hv1, K, T, (by rw [hK2] at hm; exact hm)⟩⟩)))
        · replace hm := cT c65 hm
          have pc65 := of_decide_eq_true c65
          refine cond_t rfl (vb rfl c65) ?_
          refine wp_skip ?_
          refine then_n ?_
          refine wp_seq ?_
          refine wp_block ?_
          refine wp_seq ?_
          refine wp_rl rfl ?_
          refine RL.y rfl (Y.move (v := .int .i64 i62) s41_2) ?_
          obtain ⟨x66, hx69, hm⟩ := bnd hm
          obtain ⟨k67, hk70, hl71, hx69⟩ := getI_some hx69
          obtain ⟨b73, o74, rfl, hbb73⟩ := h56.addr (by omega)
          obtain ⟨cs68, hRcs68, hc72⟩ := h56.el hx69
          have hScs68 := hRcs68
          obtain rfl := hRcs68
          refine RL.y rfl (Y.indexAddr (m := k67) (sz := 2) s39_2 s41_2 hk70 hl71 (by kernel_rfl)) ?_
          refine RL.y rfl (Y.loadN (cs := [.int .i64 x66.agent, .int .i64 x66.slot]) rfl (by kernel_rfl) (cells2 (eqC (cellT T (hc72 0 _ rfl))) (eqC (cellT T (hc72 1 _ rfl))))) ?_
          refine RL.alloc (z := .agg #[.int .i64 0, .int .i64 0]) rfl (by kernel_rfl) (fun w75 B76 hb77 szw75 => ?_)
          replace B76 : Blk w75 w64.heap.size 81 #[.int .i64 0, .int .i64 0] := B76
          have GB76 : w.heap.size ≤ w64.heap.size := T.size
          have KZob78 := K.size
          have Eob78_ob5 := Nat.ne_of_lt Bz63.lt
          have Nop1_ob78 := OwF.far hv1 (Nat.le_refl _)
          have Nop3_ob78 := OwF.far Gxs61 (Nat.le_refl _)
          have Bz63 := OwM.below Bz63 hb77
          have hv1 := OwF.below hv1 hb77
          have Gxs61 := OwF.below Gxs61 hb77
          have K := KeepV.below K hb77
          have T := Tt T hb77
          refine RL.y rfl (Y.assign (v := .int .i64 i62) rfl) ?_
          refine RL.store (v := .agg #[.int .i64 x66.agent, .int .i64 x66.slot]) (cs' := #[.int .i64 x66.agent, .int .i64 x66.slot]) rfl rfl rfl B76 (by kernel_rfl) (by rfl) (by rfl) (by rfl) (fun w79 B80 ho81 => ?_)
          have szw79 := ho81.size
          have Bz63 := Bz63.only ho81 (by intro hin; simp at hin; exact Eob78_ob5 hin)
          have hv1 := OwF.only hv1 ho81 Nop1_ob78
          have Gxs61 := OwF.only Gxs61 ho81 Nop3_ob78
          have K := KeepV.far K ho81 KZob78
          have T := T.trans (ho81.below (by first | (simp; done) | (simp; omega)))
          refine RL.nil ?_
          refine then_n ?_
          refine wp_seq ?_
          refine wp_rl rfl ?_
          refine RL.y rfl (Y.move (v := .int .i64 x41) s11_2) ?_
          refine RL.y rfl (Y.move (v := .int .i64 i62) rfl) ?_
          refine RL.y rfl (Y.build2 (cells := #[.int .i64 x41, .int .i64 i62]) rfl rfl (by kernel_rfl) (by kernel_rfl)) ?_
          refine RL.alloc (z := .agg #[.int .i64 0, .int .i64 0]) rfl (by kernel_rfl) (fun w82 B83 hb84 szw82 => ?_)
          replace B83 : Blk w82 w79.heap.size 81 #[.int .i64 0, .int .i64 0] := B83
          have GB83 : w.heap.size ≤ w79.heap.size := T.size
          have KZob85 := K.size
          have Eob85_ob5 := Nat.ne_of_lt Bz63.lt
          have Eob85_ob78 := Nat.ne_of_lt B80.lt
          have Nop1_ob85 := OwF.far hv1 (Nat.le_refl _)
          have Nop3_ob85 := OwF.far Gxs61 (Nat.le_refl _)
          have Bz63 := OwM.below Bz63 hb84
          have B80 := blkT B80 hb84
          have hv1 := OwF.below hv1 hb84
          have Gxs61 := OwF.below Gxs61 hb84
          have K := KeepV.below K hb84
          have T := Tt T hb84
          refine RL.store (v := .agg #[.int .i64 x41, .int .i64 i62]) (cs' := #[.int .i64 x41, .int .i64 i62]) rfl rfl rfl B83 (by kernel_rfl) (by rfl) (by rfl) (by rfl) (fun w86 B87 ho88 => ?_)
          have szw86 := ho88.size
          have Bz63 := Bz63.only ho88 (by intro hin; simp at hin; exact Eob85_ob5 hin)
          have B80 := B80.only_ ho88 (by intro hin; simp at hin; exact Eob85_ob78 hin)
          have hv1 := OwF.only hv1 ho88 Nop1_ob85
          have Gxs61 := OwF.only Gxs61 ho88 Nop3_ob85
          have K := KeepV.far K ho88 KZob85
          have T := T.trans (ho88.below (by first | (simp; done) | (simp; omega)))
          refine RL.nil ?_
          refine then_n ?_
          refine wp_seq ?_
          refine wp_seq ?_
          refine wp_rbd (by kernel_rfl) (by kernel_rfl) ?_
          refine RQ.y rfl (Y.move (v := .pointer (some ⟨ba0, oa0, none⟩)) s0_2) ?_
          refine RQ.y rfl (Y.nilCheck rfl) ?_
          refine RQ.y rfl (Y.fieldAddr (off := 0) rfl (by kernel_rfl)) ?_
          refine RQ.y rfl (Y.load (v := .slice (some ⟨b53, o54, none⟩) d0.agents.length c1) rfl (by kernel_rfl) (beC (cellT T (hca0 0 _ rfl)))) ?_
          refine RQ.y rfl (Y.fieldAddr (off := 0) rfl (by kernel_rfl)) ?_
          refine RQ.y rfl (Y.load (v := .int .i64 x66.agent) rfl (by kernel_rfl) (beC (blkCell B80 (i := 0) rfl))) ?_
          obtain ⟨x89, hx92, hm⟩ := bnd hm
          obtain ⟨k90, hk93, hl94, hx92⟩ := getI_some hx92
          obtain ⟨cs91, hRcs91, hc95⟩ := h1.el hx92
          have hScs91 := hRcs91
          obtain ⟨A96, n96, c96, A97, n97, c97, rfl, ⟨h96, r96⟩, ⟨h97, r97⟩⟩ := hRcs91
          have e96 := h96.len; subst e96
          have q96 := len_le r96
          have e97 := h97.len; subst e97
          have q97 := len_le r97
          refine RQ.y rfl (Y.indexAddr (m := k90) (sz := 5) rfl rfl hk93 hl94 (by kernel_rfl)) ?_
          refine RQ.y rfl (Y.fieldAddr (off := 0) rfl (by kernel_rfl)) ?_
          refine RQ.y rfl (Y.load (v := .int .i64 x89.kind) rfl (by kernel_rfl) (beC (cellT T (hc95 0 _ rfl)))) ?_
          refine RQ.call rfl (am1 rfl) (by kernel_rfl) (v := .bool (turns x89.kind)) (bel (K := fun _ => True) fun w' hb' => (callB (impl_canReverse x89.kind w'))) ?_
          refine RQ.y rfl (Y.move (v := .bool (turns x89.kind)) rfl) ?_
          rcases bcases (turns x89.kind) with c98 | c98
          · replace hm := cF c98 hm
            refine RQ.skip (wantN (dj := 59) rfl (vb rfl c98) rfl) ?_
            refine RQ.skip (wantN (dj := 59) rfl (vb rfl c98) rfl) ?_
            refine RQ.skip (wantN (dj := 59) rfl (vb rfl c98) rfl) ?_
            refine RQ.skip (wantN (dj := 59) rfl (vb rfl c98) rfl) ?_
            refine RQ.skip (wantN (dj := 59) rfl (vb rfl c98) rfl) ?_
            refine RQ.y rfl (Y.pick (b := false) (v := .bool false) (vb rfl c98) rfl) ?_
            refine RQ.nil ?_
            intro w99 hb100
            have szw99 := hb100.size
            have Bz63 := OwM.below Bz63 hb100
            have B80 := blkT B80 hb100
            have B87 := blkT B87 hb100
            have hv1 := OwF.below hv1 hb100
            have Gxs61 := OwF.below Gxs61 hb100
            have K := KeepV.below K hb100
            have T := Tt T hb100
            refine then_n ?_
            refine cond_f rfl rfl ?_
            refine wp_skip ?_
            refine then_n ?_
            refine wp_seq ?_
            refine wp_rbd (by kernel_rfl) (by kernel_rfl) ?_
            refine RQ.y rfl (Y.move (v := .pointer (some ⟨ba0, oa0, none⟩)) s0_2) ?_
            refine RQ.y rfl (Y.loadN (cs := [.int .i64 x41, .int .i64 i62]) rfl (by kernel_rfl) (cells2 (beC (blkCell B87 (i := 0) rfl)) (beC (blkCell B87 (i := 1) rfl)))) ?_
            refine RQ.y rfl (Y.move (v := .slice (some ⟨b28, 0, none⟩) d3.length cp3) s3_2) ?_
            obtain ⟨y101, e102, hm⟩ := bnd hm
            refine RQ.call rfl (am3 rfl rfl rfl) (by kernel_rfl) (v := .int .i64 y101) (bel (K := fun _ => True) fun w' hb' => (c_m_impl_Net_role d0 (⟨x41, i62⟩ : DPort) xs61 _ e102 _ _ w' (ptArg netRd_ok hba0 hSa0 hca0 (Tt T hb')) (OwF.arg fB (OwF.below Gxs61 hb')))) ?_
            refine RQ.y rfl (Y.move (v := .pointer (some ⟨ba0, oa0, none⟩)) s0_2) ?_
            refine RQ.y rfl (Y.loadN (cs := [.int .i64 x66.agent, .int .i64 x66.slot]) rfl (by kernel_rfl) (cells2 (beC (blkCell B80 (i := 0) rfl)) (beC (blkCell B80 (i := 1) rfl)))) ?_
            refine RQ.y rfl (Y.move (v := .slice (some ⟨b28, 0, none⟩) d3.length cp3) s3_2) ?_
            obtain ⟨y103, e104, hm⟩ := bnd hm
            refine RQ.call rfl (am3 rfl rfl rfl) (by kernel_rfl) (v := .int .i64 y103) (bel (K := fun _ => True) fun w' hb' => (c_m_impl_Net_role d0 x66 xs61 _ e104 _ _ w' (ptArg netRd_ok hba0 hSa0 hca0 (Tt T hb')) (OwF.arg fB (OwF.below Gxs61 hb')))) ?_
            refine RQ.y rfl (Y.binI (v := .bool (y101 == y103)) rfl rfl rfl) ?_
            refine RQ.nil ?_
            intro w105 hb106
            have szw105 := hb106.size
            have Bz63 := OwM.below Bz63 hb106
            have hv1 := OwF.below hv1 hb106
            have Gxs61 := OwF.below Gxs61 hb106
            have K := KeepV.below K hb106
            have T := Tt T hb106
            refine then_n ?_
            rcases bcases (y101 == y103) with c107 | c107
            · replace hm := cF c107 hm
              refine cond_f rfl (vb rfl c107) ?_
              refine wp_skip ?_
              refine blk_n (then_n ?_)
              refine wp_rs rfl ?_
              refine RQ.y rfl (Y.binI s41_2 rfl (binI_add (m := i62) (by omega))) ?_
              refine RQ.y rfl (Y.move (v := .int .i64 (i62 + 1)) rfl) ?_
              refine RQ.nil ?_
              exact (then_n ⟨g, _, Nat.lt_succ_self _, rfl, ⟨xs61, (i62 + 1), z63, s0_2, s1_2, s9_2, s11_2, s26_2, s27_2, s28_2, s39_2, s40_2, s3_2, Gxs61, rfl, (by omega), Bz63, hv1, K, T, (by rw [← hrec2]; exact hm)⟩⟩)
            · replace hm := cT c107 hm
              refine cond_t rfl (vb rfl c107) ?_
              refine wp_seq ?_
              refine wp_rs rfl ?_
              refine RQ.y rfl (Y.assign (v := .bool false) rfl) ?_
              refine RQ.nil ?_
              refine then_n ?_
              refine wp_ret ?_
              obtain rfl := Option.some.inj hm
              exact (blk_r (then_r (then_r (hit_r (blk_r (blk_r (then_r (then_r (hit_r (blk_r (then_r (ret1 rfl rfl rfl ⟨rfl, hv1, Gxs61, K, T⟩))))))))))))
          · replace hm := cT c98 hm
            refine RQ.y (wantT (dj := 59) rfl (vb rfl c98)) (Y.move (v := .map (some ws.heap.size)) s9_2) ?_
            refine RQ.y (wantT (dj := 59) rfl (vb rfl c98)) (Y.fieldAddr (off := 0) rfl (by kernel_rfl)) ?_
            refine RQ.y (wantT (dj := 59) rfl (vb rfl c98)) (Y.load (v := .int .i64 x66.agent) rfl (by kernel_rfl) (beC (blkCell B80 (i := 0) rfl))) ?_
            obtain ⟨_, kc108, hm⟩ := bnd hm
            replace kc108 := (ck_some kc108).2
            refine RQ.y (wantT (dj := 59) rfl (vb rfl c98)) (Y.look (zb := false) (a := x66.agent) mt_int64_bool rfl rfl kc108 (fun w' hb' => OwM.below Bz63 hb')) ?_
            refine RQ.y (wantT (dj := 59) rfl (vb rfl c98)) (Y.not (b' := (!(z63.look x66.agent false))) rfl rfl) ?_
            refine RQ.y rfl (Y.pick (b := true) (v := .bool (!(z63.look x66.agent false))) (vb rfl c98) rfl) ?_
            refine RQ.nil ?_
            intro w109 hb110
            have szw109 := hb110.size
            have Bz63 := OwM.below Bz63 hb110
            have B80 := blkT B80 hb110
            have B87 := blkT B87 hb110
            have hv1 := OwF.below hv1 hb110
            have Gxs61 := OwF.below Gxs61 hb110
            have K := KeepV.below K hb110
            have T := Tt T hb110
            refine then_n ?_
            rcases bcases (z63.look x66.agent false) with c111 | c111
            · replace hm := cF c111 hm
              refine cond_t rfl (vbn rfl c111 rfl) ?_
              refine wp_seq ?_
              refine wp_rl rfl ?_
              refine RL.y rfl (Y.move (v := .map (some ws.heap.size)) s9_2) ?_
              refine RL.y rfl (Y.fieldAddr (off := 0) rfl (by kernel_rfl)) ?_
              refine RL.y rfl (Y.load (v := .int .i64 x66.agent) rfl (by kernel_rfl) (eqC (blkCell B80 (i := 0) rfl))) ?_
              obtain ⟨_, kc112, hm⟩ := bnd hm
              replace kc112 := (ck_some kc112).2
              obtain ⟨_, m113, hm⟩ := bnd hm
              have hk114 := mustP_some m113
              refine RL.mapSet (a := x66.agent) (v := true) (enc := encVB) mt_int64_bool rfl rfl rfl rfl kc112 Bz63 hk114 (fun w115 B116 ho117 => ?_)
              have szw115 := ho117.size
              have B80 := B80.only_ ho117 (by intro hin; simp at hin; exact Eob78_ob5.symm hin)
              have B87 := B87.only_ ho117 (by intro hin; simp at hin; exact Eob85_ob5.symm hin)
              have hv1 := OwF.only hv1 ho117 Nop1_ob5
              have Gxs61 := OwF.only Gxs61 ho117 Nop3_ob5
              have K := KeepV.far K ho117 KZob5
              have T := T.trans (ho117.below (by intro b hb; simp at hb; subst hb; exact Bz63.1))
              refine RL.nil ?_
              refine then_n ?_
              refine wp_seq ?_
              refine wp_rl rfl ?_
              refine RL.y rfl (Y.move (v := .slice (some ⟨b28, 0, none⟩) d3.length cp3) s3_2) ?_
              refine RL.y rfl (Y.fieldAddr (off := 0) rfl (by kernel_rfl)) ?_
              refine RL.y rfl (Y.load (v := .int .i64 x66.agent) rfl (by kernel_rfl) (eqC (blkCell B80 (i := 0) rfl))) ?_
              obtain ⟨x118, hx120, hm⟩ := bnd hm
              obtain ⟨k119, hk121, hl122, hx120⟩ := getI_some hx120
              refine RL.y rfl (Y.indexAddr (m := k119) (sz := 1) rfl rfl hk121 (by have := OwF.lenEq Gxs61; omega) (by kernel_rfl)) ?_
              refine RL.storeF (k := k119) (a := false) fB rfl rfl rfl Gxs61 hl122 rfl (by kernel_rfl) (fun w123 G124 ho125 => ?_)
              have szw123 := ho125.size
              have B116 := OwM.only B116 ho125 (fun e => Nop3_ob5 (by simp at e; rw [e]; rfl))
              have B80 := Blk.only_ B80 ho125 (fun e => Nop3_ob78 (by simp at e; rw [e]; rfl))
              have B87 := Blk.only_ B87 ho125 (fun e => Nop3_ob85 (by simp at e; rw [e]; rfl))
              have hv1 := OwF.only hv1 ho125 (fun e => hD1_3 _ e rfl)
              have K := KeepV.only1 K ho125 rfl
              have T := T.trans (ho125.below (by intro b hb; simp at hb; subst hb; exact OwF.lo_ Gxs61 _ rfl))
              have G124 : OwF 4 encB 1 w123 w.heap.size (.slice (some ⟨b28, 0, none⟩) d3.length cp3) (setI xs61 x66.agent false) := by rw [setI_eq hk121]; exact G124
              have hx126 : (setI xs61 x66.agent false)[k119]? = some false := setI_at hk121 hl122
              have hl127 := lt_of_some hx126
              refine RL.nil ?_
              refine then_n ?_
              refine wp_rg (fun w' => Below w.heap.size w w' ∧ Blk w' w64.heap.size 81 #[.int .i64 x66.agent, .int .i64 x66.slot] ∧ Blk w' w79.heap.size 81 #[.int .i64 x41, .int .i64 i62]) [(0, true), (1, true), (2, true), (3, true), (4, true), (5, true), (7, true), (8, true), (9, true), (6, false), (10, false), (11, true), (12, true), (13, false)] (by kernel_rfl) (by kernel_rfl) (fun w128 hb129 szw128 => ?_)
              have B116 := OwM.below B116 hb129
              have B80 := blkT B80 hb129
              have B87 := blkT B87 hb129
              have hv1 := OwF.below hv1 hb129
              have G124 := OwF.below G124 hb129
              have K := KeepV.below K hb129
              have T := Tt T hb129
              refine ⟨⟨T, B80, B87⟩, ?_⟩
              refine RG.y rfl rfl (Y.move (v := .slice (some ⟨b28, 0, none⟩) d3.length cp3) s3_2) ?_
              refine RG.y rfl rfl (Y.fieldAddr (off := 0) rfl (by kernel_rfl)) ?_
              refine RG.y rfl rfl (Y.load (v := .int .i64 x66.agent) rfl (by kernel_rfl) (fun w' hS => (blkCell hS.2.1 (i := 0) rfl))) ?_
              refine RG.y rfl rfl (Y.move (v := .pointer (some ⟨ba0, oa0, none⟩)) s0_2) ?_
              refine RG.y rfl rfl (Y.loadN (cs := [.int .i64 x41, .int .i64 i62]) rfl (by kernel_rfl) (cells2 (fun w' hS => (blkCell hS.2.2 (i := 0) rfl)) (fun w' hS => (blkCell hS.2.2 (i := 1) rfl)))) ?_
              refine RG.y rfl rfl (Y.move (v := .slice (some ⟨b28, 0, none⟩) d3.length cp3) s3_2) ?_
              refine RG.y rfl rfl (Y.move (v := .pointer (some ⟨ba0, oa0, none⟩)) s0_2) ?_
              refine RG.y rfl rfl (Y.loadN (cs := [.int .i64 x66.agent, .int .i64 x66.slot]) rfl (by kernel_rfl) (cells2 (fun w' hS => (blkCell hS.2.1 (i := 0) rfl)) (fun w' hS => (blkCell hS.2.1 (i := 1) rfl)))) ?_
              refine RG.y rfl rfl (Y.move (v := .slice (some ⟨b28, 0, none⟩) d3.length cp3) s3_2) ?_
              refine RG.act rfl ?_
              obtain ⟨y130, e131, hm⟩ := bnd hm
              refine RL.call rfl (am3 rfl rfl rfl) (by kernel_rfl) ((c_m_impl_Net_role d0 (⟨x41, i62⟩ : DPort) (setI xs61 x66.agent false) _ e131 _ _ _ (ptArg netRd_ok hba0 hSa0 hca0 T) (OwF.arg fB G124)).mono ?_)
              rintro _ w132 ⟨rfl, hb133⟩
              refine ⟨_, rfl, ?_⟩
              have szw132 := hb133.size
              have B116 := OwM.below B116 hb133
              have B80 := blkT B80 hb133
              have B87 := blkT B87 hb133
              have hv1 := OwF.below hv1 hb133
              have G124 := OwF.below G124 hb133
              have K := KeepV.below K hb133
              have T := Tt T hb133
              refine RL.nil ⟨⟨T, B80, B87⟩, ?_⟩
              refine RG.act rfl ?_
              obtain ⟨y134, e135, hm⟩ := bnd hm
              refine RL.call rfl (am3 rfl rfl rfl) (by kernel_rfl) ((c_m_impl_Net_role d0 x66 (setI xs61 x66.agent false) _ e135 _ _ _ (ptArg netRd_ok hba0 hSa0 hca0 T) (OwF.arg fB G124)).mono ?_)
              rintro _ w136 ⟨rfl, hb137⟩
              refine ⟨_, rfl, ?_⟩
              have szw136 := hb137.size
              have B116 := OwM.below B116 hb137
              have B80 := blkT B80 hb137
              have B87 := blkT B87 hb137
              have hv1 := OwF.below hv1 hb137
              have G124 := OwF.below G124 hb137
              have K := KeepV.below K hb137
              have T := Tt T hb137
              refine RL.nil ⟨⟨T, B80, B87⟩, ?_⟩
              refine RG.y rfl rfl (Y.binI (v := .bool (y130 == y134)) rfl rfl rfl) ?_
              obtain ⟨x138, hx140, hm⟩ := bnd hm
              obtain ⟨k139, hk141, hl142, hx140⟩ := getI_some hx140
              refine RG.y rfl rfl (Y.indexAddr (m := k139) (sz := 1) rfl rfl hk141 (by have := OwF.lenEq G124; omega) (by kernel_rfl)) ?_
              refine RG.act rfl ?_
              refine RL.storeF (k := k139) (a := (y130 == y134)) fB rfl rfl rfl G124 hl142 rfl (by kernel_rfl) (fun w143 G144 ho145 => ?_)
              have szw143 := ho145.size
              have B116 := OwM.only B116 ho145 (fun e => Nop3_ob5 (by simp at e; rw [e]; rfl))
              have B80 := Blk.only_ B80 ho145 (fun e => Nop3_ob78 (by simp at e; rw [e]; rfl))
              have B87 := Blk.only_ B87 ho145 (fun e => Nop3_ob85 (by simp at e; rw [e]; rfl))
              have hv1 := OwF.only hv1 ho145 (fun e => hD1_3 _ e rfl)
              have K := KeepV.only1 K ho145 rfl
              have T := T.trans (ho145.below (by intro b hb; simp at hb; subst hb; exact OwF.lo_ G124 _ rfl))
              have G144 : OwF 4 encB 1 w143 w.heap.size (.slice (some ⟨b28, 0, none⟩) d3.length cp3) (setI (setI xs61 x66.agent false) x66.agent (y130 == y134)) := by rw [setI_eq hk141]; exact G144
              have hx146 : (setI (setI xs61 x66.agent false) x66.agent (y130 == y134))[k139]? = some (y130 == y134) := setI_at hk141 hl142
              have hl147 := lt_of_some hx146
              refine RL.nil ⟨⟨T, B80, B87⟩, ?_⟩
              refine RG.nil ?_
              refine then_n ?_
              refine wp_seq ?_
              refine wp_rbd (by kernel_rfl) (by kernel_rfl) ?_
              refine RQ.y rfl (Y.move (v := .pointer (some ⟨ba0, oa0, none⟩)) s0_2) ?_
              refine RQ.y rfl (Y.loadN (cs := [.int .i64 x41, .int .i64 i62]) rfl (by kernel_rfl) (cells2 (beC (blkCell B87 (i := 0) rfl)) (beC (blkCell B87 (i := 1) rfl)))) ?_
              refine RQ.y rfl (Y.move (v := .slice (some ⟨b28, 0, none⟩) d3.length cp3) s3_2) ?_
              obtain ⟨y148, e149, hm⟩ := bnd hm
              refine RQ.call rfl (am3 rfl rfl rfl) (by kernel_rfl) (v := .int .i64 y148) (bel (K := fun _ => True) fun w' hb' => (c_m_impl_Net_role d0 (⟨x41, i62⟩ : DPort) (setI (setI xs61 x66.agent false) x66.agent (y130 == y134)) _ e149 _ _ w' (ptArg netRd_ok hba0 hSa0 hca0 (Tt T hb')) (OwF.arg fB (OwF.below G144 hb')))) ?_
              refine RQ.y rfl (Y.move (v := .pointer (some ⟨ba0, oa0, none⟩)) s0_2) ?_
              refine RQ.y rfl (Y.loadN (cs := [.int .i64 x66.agent, .int .i64 x66.slot]) rfl (by kernel_rfl) (cells2 (beC (blkCell B80 (i := 0) rfl)) (beC (blkCell B80 (i := 1) rfl)))) ?_
              refine RQ.y rfl (Y.move (v := .slice (some ⟨b28, 0, none⟩) d3.length cp3) s3_2) ?_
              obtain ⟨y150, e151, hm⟩ := bnd hm
              refine RQ.call rfl (am3 rfl rfl rfl) (by kernel_rfl) (v := .int .i64 y150) (bel (K := fun _ => True) fun w' hb' => (c_m_impl_Net_role d0 x66 (setI (setI xs61 x66.agent false) x66.agent (y130 == y134)) _ e151 _ _ w' (ptArg netRd_ok hba0 hSa0 hca0 (Tt T hb')) (OwF.arg fB (OwF.below G144 hb')))) ?_
              refine RQ.y rfl (Y.binI (v := .bool (y148 == y150)) rfl rfl rfl) ?_
              refine RQ.nil ?_
              intro w152 hb153
              have szw152 := hb153.size
              have B116 := OwM.below B116 hb153
              have hv1 := OwF.below hv1 hb153
              have G144 := OwF.below G144 hb153
              have K := KeepV.below K hb153
              have T := Tt T hb153
              refine then_n ?_
              rcases bcases (y148 == y150) with c154 | c154
              · replace hm := cF c154 hm
                refine cond_f rfl (vb rfl c154) ?_
                refine wp_skip ?_
                refine blk_n (then_n ?_)
                refine wp_rs rfl ?_
                refine RQ.y rfl (Y.binI s41_2 rfl (binI_add (m := i62) (by omega))) ?_
                refine RQ.y rfl (Y.move (v := .int .i64 (i62 + 1)) rfl) ?_
                refine RQ.nil ?_
                exact (then_n ⟨g, _, Nat.lt_succ_self _, rfl, ⟨(setI (setI xs61 x66.agent false) x66.agent (y130 == y134)), (i62 + 1), (z63.put x66.agent true), s0_2, s1_2, s9_2, s11_2, s26_2, s27_2, s28_2, s39_2, s40_2, s3_2, G144, rfl, (by omega), B116, hv1, K, T, (by rw [← hrec2]; exact hm)⟩⟩)
              · replace hm := cT c154 hm
                refine cond_t rfl (vb rfl c154) ?_
                refine wp_seq ?_
                refine wp_rs rfl ?_
                refine RQ.y rfl (Y.assign (v := .bool false) rfl) ?_
                refine RQ.nil ?_
                refine then_n ?_
                refine wp_ret ?_
                obtain rfl := Option.some.inj hm
                exact (blk_r (then_r (then_r (hit_r (blk_r (blk_r (then_r (then_r (hit_r (blk_r (then_r (ret1 rfl rfl rfl ⟨rfl, hv1, G144, K, T⟩))))))))))))
            · replace hm := cT c111 hm
              refine cond_f rfl (vbn rfl c111 rfl) ?_
              refine wp_skip ?_
              refine then_n ?_
              refine wp_seq ?_
              refine wp_rbd (by kernel_rfl) (by kernel_rfl) ?_
              refine RQ.y rfl (Y.move (v := .pointer (some ⟨ba0, oa0, none⟩)) s0_2) ?_
              refine RQ.y rfl (Y.loadN (cs := [.int .i64 x41, .int .i64 i62]) rfl (by kernel_rfl) (cells2 (beC (blkCell B87 (i := 0) rfl)) (beC (blkCell B87 (i := 1) rfl)))) ?_
              refine RQ.y rfl (Y.move (v := .slice (some ⟨b28, 0, none⟩) d3.length cp3) s3_2) ?_
              obtain ⟨y155, e156, hm⟩ := bnd hm
              refine RQ.call rfl (am3 rfl rfl rfl) (by kernel_rfl) (v := .int .i64 y155) (bel (K := fun _ => True) fun w' hb' => (c_m_impl_Net_role d0 (⟨x41, i62⟩ : DPort) xs61 _ e156 _ _ w' (ptArg netRd_ok hba0 hSa0 hca0 (Tt T hb')) (OwF.arg fB (OwF.below Gxs61 hb')))) ?_
              refine RQ.y rfl (Y.move (v := .pointer (some ⟨ba0, oa0, none⟩)) s0_2) ?_
              refine RQ.y rfl (Y.loadN (cs := [.int .i64 x66.agent, .int .i64 x66.slot]) rfl (by kernel_rfl) (cells2 (beC (blkCell B80 (i := 0) rfl)) (beC (blkCell B80 (i := 1) rfl)))) ?_
              refine RQ.y rfl (Y.move (v := .slice (some ⟨b28, 0, none⟩) d3.length cp3) s3_2) ?_
              obtain ⟨y157, e158, hm⟩ := bnd hm
              refine RQ.call rfl (am3 rfl rfl rfl) (by kernel_rfl) (v := .int .i64 y157) (bel (K := fun _ => True) fun w' hb' => (c_m_impl_Net_role d0 x66 xs61 _ e158 _ _ w' (ptArg netRd_ok hba0 hSa0 hca0 (Tt T hb')) (OwF.arg fB (OwF.below Gxs61 hb')))) ?_
              refine RQ.y rfl (Y.binI (v := .bool (y155 == y157)) rfl rfl rfl) ?_
              refine RQ.nil ?_
              intro w159 hb160
              have szw159 := hb160.size
              have Bz63 := OwM.below Bz63 hb160
              have hv1 := OwF.below hv1 hb160
              have Gxs61 := OwF.below Gxs61 hb160
              have K := KeepV.below K hb160
              have T := Tt T hb160
              refine then_n ?_
              rcases bcases (y155 == y157) with c161 | c161
              · replace hm := cF c161 hm
                refine cond_f rfl (vb rfl c161) ?_
                refine wp_skip ?_
                refine blk_n (then_n ?_)
                refine wp_rs rfl ?_
                refine RQ.y rfl (Y.binI s41_2 rfl (binI_add (m := i62) (by omega))) ?_
                refine RQ.y rfl (Y.move (v := .int .i64 (i62 + 1)) rfl) ?_
                refine RQ.nil ?_
                exact (then_n ⟨g, _, Nat.lt_succ_self _, rfl, ⟨xs61, (i62 + 1), z63, s0_2, s1_2, s9_2, s11_2, s26_2, s27_2, s28_2, s39_2, s40_2, s3_2, Gxs61, rfl, (by omega), Bz63, hv1, K, T, (by rw [← hrec2]; exact hm)⟩⟩)
              · replace hm := cT c161 hm
                refine cond_t rfl (vb rfl c161) ?_
                refine wp_seq ?_
                refine wp_rs rfl ?_
                refine RQ.y rfl (Y.assign (v := .bool false) rfl) ?_
                refine RQ.nil ?_
                refine then_n ?_
                refine wp_ret ?_
                obtain rfl := Option.some.inj hm
                exact (blk_r (then_r (then_r (hit_r (blk_r (blk_r (then_r (then_r (hit_r (blk_r (then_r (ret1 rfl rfl rfl ⟨rfl, hv1, Gxs61, K, T⟩))))))))))))
def m_impl_Net_orient_A1 (d0 : DNet) (xs13 : List Bool) : Option ((List Bool) × Bool) :=
  ((m_impl_Net_isOriented d0 xs13).bind fun y15 => some (xs13, y15))
def m_impl_Net_orient_A2 (d0 : DNet) (rec1 : List Bool → Int → MapM Int Bool → Option ((List Bool) × Bool)) (xs19 : List Bool) (i20 : Int) (y49 : List Int) (z58 : MapM Int Bool) : Option ((List Bool) × Bool) :=
  ((m_impl_Net_spread d0 y49 false xs19).bind fun y60 => (bif y60.1 then ((ck (i20 + 1)).bind fun s79 => (rec1 y60.2 s79 z58)) else ((m_impl_Net_spread d0 y49 true y60.2).bind fun y70 => (bif y70.1 then ((ck (i20 + 1)).bind fun s78 => (rec1 y70.2 s78 z58)) else some ([], false)))))
def m_impl_Net_orient_B2 (y49 : List Int) (rec2 : Int → MapM Int Bool → Option ((List Bool) × Bool)) (K2 : MapM Int Bool → Option ((List Bool) × Bool)) (i80 : Int) (z81 : MapM Int Bool) : Option ((List Bool) × Bool) :=
  (bif (decide (i80 < (y49.length : Int))) then ((getI y49 i80).bind fun x84 => ((ck x84).bind fun _ => ((mustP (z81.n ≤ 4294967296)).bind fun _ => (rec2 (i80 + 1) (z81.put x84 true))))) else (K2 z81))
def m_impl_Net_orient_L2 (y49 : List Int) (K2 : MapM Int Bool → Option ((List Bool) × Bool)) : Nat → Int → MapM Int Bool → Option ((List Bool) × Bool)
  | 0, _, _ => none
  | g + 1, i80, z81 => m_impl_Net_orient_B2 y49 (m_impl_Net_orient_L2 y49 K2 g) K2 i80 z81
def m_impl_Net_orient_B1 (d0 : DNet) (rec1 : List Bool → Int → MapM Int Bool → Option ((List Bool) × Bool)) (K1 : List Bool → Option ((List Bool) × Bool)) (xs19 : List Bool) (i20 : Int) (z21 : MapM Int Bool) : Option ((List Bool) × Bool) :=
  (bif (decide (i20 < (d0.agents.length : Int))) then ((getI d0.agents i20).bind fun x24 => (bif (turns x24.kind) then ((ck i20).bind fun _ => (bif (z21.look i20 false) then (rec1 xs19 (i20 + 1) z21) else ((m_impl_Net_group d0 i20).bind fun y49 => (m_impl_Net_orient_L2 y49 (m_impl_Net_orient_A2 d0 rec1 xs19 i20 y49) (y49.length + 1) 0 z21)))) else (rec1 xs19 (i20 + 1) z21))) else (K1 xs19))
def m_impl_Net_orient_L1 (d0 : DNet) (K1 : List Bool → Option ((List Bool) × Bool)) : Nat → List Bool → Int → MapM Int Bool → Option ((List Bool) × Bool)
  | 0, _, _, _ => none
  | g + 1, xs19, i20, z21 => m_impl_Net_orient_B1 d0 (m_impl_Net_orient_L1 d0 K1 g) K1 xs19 i20 z21
def m_impl_Net_orient (d0 : DNet) : Option ((List Bool) × Bool) :=
  ((mustP (d0.agents.length ≤ 4294967296)).bind fun _ => (m_impl_Net_orient_L1 d0 (m_impl_Net_orient_A1 d0) (d0.agents.length + 1) (List.replicate d0.agents.length false) 0 (MapM.empty : MapM Int Bool)))
set_option maxHeartbeats 2000000 in
theorem c_m_impl_Net_orient (d0 : DNet) (r : (List Bool) × Bool) (hm : m_impl_Net_orient d0 = some r) (v0 : Value) (w : World) (hv0 : Pt netRd w v0 d0) :
    Calls Try.prog 39 #[v0] w fun e w' => (∃ (v0 : Value), e = .returned (.tuple #[v0, .bool r.2]) ∧ OwF 4 encB 1 w' w.heap.size v0 r.1) ∧ Below w.heap.size w w' := by
  obtain ⟨ba0, oa0, csa0, rfl, hba0, hRa0, hca0⟩ := hv0
  have hSa0 := hRa0
  obtain ⟨A1, n1, c1, rfl, ⟨h1, r1⟩⟩ := hRa0
  have e1 := h1.len; subst e1
  have q1 := len_le r1
  have T := Below.refl w.heap.size w
  unfold m_impl_Net_orient at hm
  refine enter 66 Try.func39 rfl rfl rfl ?_
  intro f hf
  have s0 : f 0 = .pointer (some ⟨ba0, oa0, none⟩) := hf 0 _ rfl
  refine wp_seq ?_
  refine wp_rs rfl ?_
  refine RQ.y rfl (Y.assign (v := .slice none 0 0) rfl) ?_
  refine RQ.y rfl (Y.assign (v := .bool false) rfl) ?_
  refine RQ.nil ?_
  refine then_n ?_
  refine wp_seq ?_
  refine wp_rl rfl ?_
  refine RL.y rfl (Y.move (v := .pointer (some ⟨ba0, oa0, none⟩)) s0) ?_
  refine RL.y rfl (Y.nilCheck rfl) ?_
  refine RL.y rfl (Y.fieldAddr (off := 0) rfl (by kernel_rfl)) ?_
  refine RL.y rfl (Y.load (v := .slice A1 d0.agents.length c1) rfl (by kernel_rfl) (eqC (cellT T (hca0 0 _ rfl)))) ?_
  refine RL.y rfl (Y.len (by kernel_rfl) rfl) ?_
  obtain ⟨_, m2, hm⟩ := bnd hm
  have hk3 := mustP_some m2
  refine RL.make (enc := encB) (z0 := false) (n := d0.agents.length) app_bool (by decide) rfl rfl rfl rfl hk3 (fun w4 G5 hb6 szw4 => ?_)
  replace G5 := OwF.mono G5 T.size
  have T := Tt T hb6
  refine RL.y rfl (Y.assign (v := .slice (some ⟨w.heap.size, 0, none⟩) d0.agents.length d0.agents.length) rfl) ?_
  refine RL.nil ?_
  refine then_n ?_
  refine wp_seq ?_
  refine wp_rl rfl ?_
  refine RL.makeMap (κ := Int) (β := Bool) 2 litI encVB rfl (fun w9 B10 hb11 szw9 => ?_)
  replace B10 := OwM.lower B10 T.size
  have No7_ob12 := OwF.far G5 (Nat.le_refl _)
  have G5 := OwF.below G5 hb11
  have T := Tt T hb11
  refine RL.y rfl (Y.assign (v := .map (some w4.heap.size)) rfl) ?_
  refine RL.nil ?_
  refine then_n ?_
  refine wp_seq ?_
  refine wp_seq ?_
  refine wp_rs rfl ?_
  refine RQ.y rfl (Y.move (v := .pointer (some ⟨ba0, oa0, none⟩)) s0) ?_
  refine RQ.y rfl (Y.nilCheck rfl) ?_
  refine RQ.y rfl (Y.fieldAddr (off := 0) rfl (by kernel_rfl)) ?_
  refine RQ.y rfl (Y.load (v := .slice A1 d0.agents.length c1) rfl (by kernel_rfl) (eqC (cellT T (hca0 0 _ rfl)))) ?_
  refine RQ.y rfl (Y.len (by kernel_rfl) rfl) ?_
  refine RQ.y rfl (Y.move (v := .int .i64 0) rfl) ?_
  refine RQ.nil ?_
  refine then_n ?_
  refine wp_block ?_
  obtain ⟨K1, hK1, hm⟩ : ∃ K, K = (m_impl_Net_orient_A1 d0) ∧ m_impl_Net_orient_L1 d0 K (d0.agents.length + 1) (List.replicate d0.agents.length false) 0 (MapM.empty : MapM Int Bool) = some r := ⟨_, rfl, hm⟩
  refine wp_loopX (fun g f w' => ∃ (xs19 : List Bool) (i20 : Int) (z21 : MapM Int Bool) (uxs19 : Value), f 0 = .pointer (some ⟨ba0, oa0, none⟩) ∧ f 5 = .map (some w4.heap.size) ∧ f 21 = .slice A1 d0.agents.length c1 ∧ f 22 = .int .i64 (d0.agents.length : Int) ∧ f 4 = uxs19 ∧ OwF 4 encB 1 w' w.heap.size uxs19 xs19 ∧ f 23 = .int .i64 i20 ∧ 0 ≤ i20 ∧ OwM Try.prog 2 litI encVB w' w.heap.size w4.heap.size z21 ∧ Value.ownBlock uxs19 ≠ some w4.heap.size ∧ Below w.heap.size w w' ∧ m_impl_Net_orient_L1 d0 K1 g xs19 i20 z21 = some r) 0 (fun f w' => ∃ (xs13 : List Bool) (uxs13 : Value), f 0 = .pointer (some ⟨ba0, oa0, none⟩) ∧ f 4 = uxs13 ∧ OwF 4 encB 1 w' w.heap.size uxs13 xs13 ∧ Value.ownBlock uxs13 ≠ some w4.heap.size ∧ Below w.heap.size w w' ∧ m_impl_Net_orient_A1 d0 xs13 = some r) (d0.agents.length + 1) ⟨(List.replicate d0.agents.length false), 0, (MapM.empty : MapM Int Bool), (.slice (some ⟨w.heap.size, 0, none⟩) d0.agents.length d0.agents.length), s0, rfl, rfl, rfl, rfl, G5, rfl, (by omega), B10, (ap_ne (ne_ap No7_ob12)), T, hm⟩ ?_ ?_
  · rintro f w14 ⟨xs13, uxs13, s0_1x, s4_1x, Guxs13, Noxs13_ob12, T, hm⟩
    unfold m_impl_Net_orient_A1 at hm
    refine blk_hit (then_n ?_)
    refine wp_seq ?_
    refine wp_rb rfl ?_
    refine RQ.y rfl (Y.move (v := uxs13) s4_1x) ?_
    refine RQ.y rfl (Y.move (v := .pointer (some ⟨ba0, oa0, none⟩)) s0_1x) ?_
    refine RQ.y rfl (Y.move (v := uxs13) s4_1x) ?_
    obtain ⟨y15, e16, hm⟩ := bnd hm
    refine RQ.call rfl (am2 rfl rfl) (by kernel_rfl) (v := .bool y15) (bel (K := fun _ => True) fun w' hb' => (c_m_impl_Net_isOriented d0 xs13 _ e16 _ _ w' (ptArg netRd_ok hba0 hSa0 hca0 (Tt T hb')) (OwF.arg fB (OwF.below Guxs13 hb')))) ?_
    refine RQ.y rfl (Y.assign (v := uxs13) rfl) ?_
    refine RQ.y rfl (Y.assign (v := .bool y15) rfl) ?_
    refine RQ.nil ?_
    intro w17 hb18
    have szw17 := hb18.size
    have Guxs13 := OwF.below Guxs13 hb18
    have T := Tt T hb18
    refine then_n ?_
    refine wp_ret ?_
    obtain rfl := Option.some.inj hm
    exact (ret2 rfl rfl rfl rfl ⟨⟨_, rfl, Guxs13⟩, T⟩)
  · rintro g f w22 ⟨xs19, i20, z21, uxs19, s0_1, s5_1, s21_1, s22_1, s4_1, Guxs19, s23_1, nn23_1, Bz21, Noxs19_ob12, T, hm⟩
    rcases g with _ | g
    · simp only [m_impl_Net_orient_L1] at hm; cases hm
    obtain ⟨rec1, hrec1, hm⟩ : ∃ z, z = m_impl_Net_orient_L1 d0 K1 g ∧ m_impl_Net_orient_B1 d0 z K1 xs19 i20 z21 = some r := ⟨_, rfl, hm⟩
    unfold m_impl_Net_orient_B1 at hm
    refine wp_seq ?_
    refine wp_rs rfl ?_
    refine RQ.y rfl (Y.binI (v := .bool (decide (i20 < (d0.agents.length : Int)))) s23_1 s22_1 rfl) ?_
    refine RQ.nil ?_
    refine then_n ?_
    refine wp_seq ?_
    rcases bcases (decide (i20 < (d0.agents.length : Int))) with c23 | c23
    · replace hm := cF c23 hm
      have pc23 := of_decide_eq_false c23
      refine cond_f rfl (vb rfl c23) ?_
      refine wp_exit ?_
      exact (then_x (then_x (hit_x ⟨_, rfl, ⟨xs19, (uxs19), s0_1, s4_1, Guxs19, (ap_ne (ne_ap Noxs19_ob12)), T, (by rw [hK1] at hm; exact hm)⟩⟩)))
    · replace hm := cT c23 hm
      have pc23 := of_decide_eq_true c23
      refine cond_t rfl (vb rfl c23) ?_
      refine wp_skip ?_
      refine then_n ?_
      refine wp_seq ?_
      refine wp_block ?_
      refine wp_seq ?_
      refine wp_rl rfl ?_
      refine RL.y rfl (Y.move (v := .int .i64 i20) s23_1) ?_
      obtain ⟨x24, hx27, hm⟩ := bnd hm
      obtain ⟨k25, hk28, hl29, hx27⟩ := getI_some hx27
      obtain ⟨b31, o32, rfl, hbb31⟩ := h1.addr (by omega)
      obtain ⟨cs26, hRcs26, hc30⟩ := h1.el hx27
      have hScs26 := hRcs26
      obtain ⟨A33, n33, c33, A34, n34, c34, rfl, ⟨h33, r33⟩, ⟨h34, r34⟩⟩ := hRcs26
      have e33 := h33.len; subst e33
      have q33 := len_le r33
      have e34 := h34.len; subst e34
      have q34 := len_le r34
      refine RL.y rfl (Y.indexAddr (m := k25) (sz := 5) s21_1 s23_1 hk28 hl29 (by kernel_rfl)) ?_
      refine RL.y rfl (Y.loadN (cs := [.int .i64 x24.kind, .int .i64 x24.level, .int .i64 x24.value, .slice A33 x24.data.length c33, .slice A34 x24.ports.length c34]) rfl (by kernel_rfl) (cells5 (eqC (cellT T (hc30 0 _ rfl))) (eqC (cellT T (hc30 1 _ rfl))) (eqC (cellT T (hc30 2 _ rfl))) (eqC (cellT T (hc30 3 _ rfl))) (eqC (cellT T (hc30 4 _ rfl))))) ?_
      refine RL.alloc (z := .agg #[.int .i64 0, .int .i64 0, .int .i64 0, .slice none 0 0, .slice none 0 0]) rfl (by kernel_rfl) (fun w35 B36 hb37 szw35 => ?_)
      replace B36 : Blk w35 w22.heap.size 122 #[.int .i64 0, .int .i64 0, .int .i64 0, .slice none 0 0, .slice none 0 0] := B36
      have GB36 : w.heap.size ≤ w22.heap.size := T.size
      have Eob38_ob12 := Nat.ne_of_lt Bz21.lt
      have Noxs19_ob38 := OwF.far Guxs19 (Nat.le_refl _)
      have Bz21 := OwM.below Bz21 hb37
      have Guxs19 := OwF.below Guxs19 hb37
      have T := Tt T hb37
      refine RL.y rfl (Y.assign (v := .int .i64 i20) rfl) ?_
      refine RL.store (v := .agg #[.int .i64 x24.kind, .int .i64 x24.level, .int .i64 x24.value, .slice A33 x24.data.length c33, .slice A34 x24.ports.length c34]) (cs' := #[.int .i64 x24.kind, .int .i64 x24.level, .int .i64 x24.value, .slice A33 x24.data.length c33, .slice A34 x24.ports.length c34]) rfl rfl rfl B36 (by kernel_rfl) (by rfl) (by rfl) (by rfl) (fun w39 B40 ho41 => ?_)
      have szw39 := ho41.size
      have Bz21 := Bz21.only ho41 (by intro hin; simp at hin; exact Eob38_ob12 hin)
      have Guxs19 := OwF.only Guxs19 ho41 Noxs19_ob38
      have T := T.trans (ho41.below (by first | (simp; done) | (simp; omega)))
      refine RL.nil ?_
      refine then_n ?_
      refine wp_seq ?_
      refine wp_seq ?_
      refine wp_rb rfl ?_
      refine RQ.y rfl (Y.fieldAddr (off := 0) rfl (by kernel_rfl)) ?_
      refine RQ.y rfl (Y.load (v := .int .i64 x24.kind) rfl (by kernel_rfl) (beC (blkCell B40 (i := 0) rfl))) ?_
      refine RQ.call rfl (am1 rfl) (by kernel_rfl) (v := .bool (turns x24.kind)) (bel (K := fun _ => True) fun w' hb' => (callB (impl_canReverse x24.kind w'))) ?_
      refine RQ.y rfl (Y.not (b' := (!(turns x24.kind))) rfl rfl) ?_
      refine RQ.y rfl (Y.move (v := .bool (!(turns x24.kind))) rfl) ?_
      rcases bcases (turns x24.kind) with c42 | c42
      · replace hm := cF c42 hm
        refine RQ.skip (wantN (dj := 32) rfl (vbn rfl c42 rfl) rfl) ?_
        refine RQ.skip (wantN (dj := 32) rfl (vbn rfl c42 rfl) rfl) ?_
        refine RQ.skip (wantN (dj := 32) rfl (vbn rfl c42 rfl) rfl) ?_
        refine RQ.y rfl (Y.pick (b := true) (v := .bool true) (vbn rfl c42 rfl) rfl) ?_
        refine RQ.nil ?_
        intro w43 hb44
        have szw43 := hb44.size
        have Bz21 := OwM.below Bz21 hb44
        have Guxs19 := OwF.below Guxs19 hb44
        have T := Tt T hb44
        refine then_n ?_
        refine cond_t rfl rfl ?_
        refine wp_exit ?_
        refine then_x (blk_hit (then_n ?_))
        refine wp_rs rfl ?_
        refine RQ.y rfl (Y.binI s23_1 rfl (binI_add (m := i20) (by omega))) ?_
        refine RQ.y rfl (Y.move (v := .int .i64 (i20 + 1)) rfl) ?_
        refine RQ.nil ?_
        exact (then_n ⟨g, _, Nat.lt_succ_self _, rfl, ⟨xs19, (i20 + 1), z21, (uxs19), s0_1, s5_1, s21_1, s22_1, s4_1, Guxs19, rfl, (by omega), Bz21, (ap_ne (ne_ap Noxs19_ob12)), T, (by rw [← hrec1]; exact hm)⟩⟩)
      · replace hm := cT c42 hm
        refine RQ.y (wantT (dj := 32) rfl (vbn rfl c42 rfl)) (Y.move (v := .map (some w4.heap.size)) s5_1) ?_
        refine RQ.y (wantT (dj := 32) rfl (vbn rfl c42 rfl)) (Y.move (v := .int .i64 i20) rfl) ?_
        obtain ⟨_, kc45, hm⟩ := bnd hm
        replace kc45 := (ck_some kc45).2
        refine RQ.y (wantT (dj := 32) rfl (vbn rfl c42 rfl)) (Y.look (zb := false) (a := i20) mt_int64_bool rfl rfl kc45 (fun w' hb' => OwM.below Bz21 hb')) ?_
        refine RQ.y rfl (Y.pick (b := false) (v := .bool (z21.look i20 false)) (vbn rfl c42 rfl) rfl) ?_
        refine RQ.nil ?_
        intro w46 hb47
        have szw46 := hb47.size
        have Bz21 := OwM.below Bz21 hb47
        have Guxs19 := OwF.below Guxs19 hb47
        have T := Tt T hb47
        refine then_n ?_
        rcases bcases (z21.look i20 false) with c48 | c48
        · replace hm := cF c48 hm
          refine cond_f rfl (vb rfl c48) ?_
          refine wp_skip ?_
          refine then_n ?_
          refine wp_seq ?_
          refine wp_rl rfl ?_
          refine RL.y rfl (Y.move (v := .pointer (some ⟨ba0, oa0, none⟩)) s0_1) ?_
          refine RL.y rfl (Y.move (v := .int .i64 i20) rfl) ?_
          obtain ⟨y49, e50, hm⟩ := bnd hm
          refine RL.call rfl (am2 rfl rfl) (by kernel_rfl) ((c_m_impl_Net_group d0 i20 _ e50 _ _ (ptArg netRd_ok hba0 hSa0 hca0 T)).mono ?_)
          rintro _ w54 ⟨⟨v51, rfl, G52⟩, hb55⟩
          refine ⟨_, rfl, ?_⟩
          have szw54 := hb55.size
          have T0w54 := T.size
          have Zo53_ob12 := ap_ne (Ap.new (OwF.flo G52) (one_hi Bz21.lt))
          have Zo53_oxs19 := Ap.dj (Ap.new (OwF.flo G52) (OwF.fhi Guxs19))
          have Bz21 := OwM.below Bz21 hb55
          have Guxs19 := OwF.below Guxs19 hb55
          have T := Tt T hb55
          replace G52 := OwF.mono G52 T0w54
          refine RL.y rfl (Y.assign (v := v51) rfl) ?_
          refine RL.nil ?_
          refine then_n ?_
          refine wp_seq ?_
          refine wp_seq ?_
          refine wp_rs rfl ?_
          refine RQ.y rfl (Y.move (v := v51) rfl) ?_
          obtain ⟨A56, c57, rfl⟩ := OwF.form G52
          have qbA56 := OwF.bound G52
          refine RQ.y rfl (Y.len (by kernel_rfl) rfl) ?_
          refine RQ.y rfl (Y.move (v := .int .i64 0) rfl) ?_
          refine RQ.nil ?_
          refine then_n ?_
          refine wp_block ?_
          obtain ⟨K2, hK2, hm⟩ : ∃ K, K = (m_impl_Net_orient_A2 d0 rec1 xs19 i20 y49) ∧ m_impl_Net_orient_L2 y49 K (y49.length + 1) 0 z21 = some r := ⟨_, rfl, hm⟩
          refine wp_loopX (fun g f w' => ∃ (i80 : Int) (z81 : MapM Int Bool), f 0 = .pointer (some ⟨ba0, oa0, none⟩) ∧ f 4 = uxs19 ∧ f 5 = .map (some w4.heap.size) ∧ f 8 = .slice A56 y49.length c57 ∧ f 21 = .slice (some ⟨b31, o32, none⟩) d0.agents.length c1 ∧ f 22 = .int .i64 (d0.agents.length : Int) ∧ f 23 = .int .i64 i20 ∧ f 40 = .slice A56 y49.length c57 ∧ f 41 = .int .i64 (y49.length : Int) ∧ f 42 = .int .i64 i80 ∧ 0 ≤ i80 ∧ OwM Try.prog 2 litI encVB w' w.heap.size w4.heap.size z81 ∧ OwF 4 encB 1 w' w.heap.size uxs19 xs19 ∧ OwF 2 encI 1 w' w.heap.size (.slice A56 y49.length c57) y49 ∧ Below w.heap.size w w' ∧ m_impl_Net_orient_L2 y49 K2 g i80 z81 = some r) 2 (fun f w' => ∃ (z58 : MapM Int Bool), f 0 = .pointer (some ⟨ba0, oa0, none⟩) ∧ f 4 = uxs19 ∧ f 5 = .map (some w4.heap.size) ∧ f 8 = .slice A56 y49.length c57 ∧ f 21 = .slice (some ⟨b31, o32, none⟩) d0.agents.length c1 ∧ f 22 = .int .i64 (d0.agents.length : Int) ∧ f 23 = .int .i64 i20 ∧ OwM Try.prog 2 litI encVB w' w.heap.size w4.heap.size z58 ∧ OwF 4 encB 1 w' w.heap.size uxs19 xs19 ∧ OwF 2 encI 1 w' w.heap.size (.slice A56 y49.length c57) y49 ∧ Below w.heap.size w w' ∧ m_impl_Net_orient_A2 d0 rec1 xs19 i20 y49 z58 = some r) (y49.length + 1) ⟨0, z21, s0_1, s4_1, s5_1, rfl, s21_1, s22_1, s23_1, rfl, rfl, rfl, (by omega), Bz21, Guxs19, G52, T, hm⟩ ?_ ?_
          · rintro f w59 ⟨z58, s0_2x, s4_2x, s5_2x, s8_2x, s21_2x, s22_2x, s23_2x, Bz58, Guxs19, G52, T, hm⟩
            unfold m_impl_Net_orient_A2 at hm
            refine blk_hit (then_n ?_)
            refine wp_seq ?_
            refine wp_rl rfl ?_
            refine RL.y rfl (Y.move (v := .pointer (some ⟨ba0, oa0, none⟩)) s0_2x) ?_
            refine RL.y rfl (Y.move (v := .slice A56 y49.length c57) s8_2x) ?_
            refine RL.y rfl (Y.move (v := uxs19) s4_2x) ?_
            obtain ⟨y60, e61, hm⟩ := bnd hm
            obtain ⟨A62, c63, rfl⟩ := OwF.form Guxs19
            have qbA62 := OwF.bound Guxs19
            refine RL.call rfl (am4 rfl rfl rfl rfl) (by kernel_rfl) ((c_m_impl_Net_spread d0 y49 false xs19 _ e61 _ _ _ w w59 T (ptArg netRd_ok hba0 hSa0 hca0 (Below.refl _ _)) G52 Guxs19 Zo53_oxs19).mono ?_)
            rintro _ w64 ⟨rfl, G67, G68, K65, hb66⟩
            refine ⟨_, rfl, ?_⟩
            have szw64 := K65.size
            have Bz58 := OwM.keepV Bz58 K65 Noxs19_ob12 Noxs19_ob12
            have T := hb66
            refine RL.y rfl (Y.not (b' := (!y60.1)) rfl rfl) ?_
            refine RL.y rfl (Y.move (v := .bool (!y60.1)) rfl) ?_
            rcases bcases y60.1 with c69 | c69
            · replace hm := cF c69 hm
              refine RL.y (wantT (dj := 54) rfl (vbn rfl c69 rfl)) (Y.move (v := .pointer (some ⟨ba0, oa0, none⟩)) s0_2x) ?_
              refine RL.y (wantT (dj := 54) rfl (vbn rfl c69 rfl)) (Y.move (v := .slice A56 y49.length c57) s8_2x) ?_
              refine RL.y (wantT (dj := 54) rfl (vbn rfl c69 rfl)) (Y.move (v := .slice A62 xs19.length c63) s4_2x) ?_
              obtain ⟨y70, e71, hm⟩ := bnd hm
              refine RL.call (wantT (dj := 54) rfl (vbn rfl c69 rfl)) (am4 rfl rfl rfl rfl) (by kernel_rfl) ((c_m_impl_Net_spread d0 y49 true y60.2 _ e71 _ _ _ w w64 T (ptArg netRd_ok hba0 hSa0 hca0 (Below.refl _ _)) G67 G68 Zo53_oxs19).mono ?_)
              rintro _ w72 ⟨rfl, G75, G76, K73, hb74⟩
              refine ⟨_, rfl, ?_⟩
              have szw72 := K73.size
              have Bz58 := OwM.keepV Bz58 K73 Noxs19_ob12 Noxs19_ob12
              have T := hb74
              refine RL.y (wantT (dj := 54) rfl (vbn rfl c69 rfl)) (Y.not (b' := (!y70.1)) rfl rfl) ?_
              refine RL.y rfl (Y.pick (b := true) (v := .bool (!y70.1)) (vbn rfl c69 rfl) rfl) ?_
              refine RL.nil ?_
              refine then_n ?_
              rcases bcases y70.1 with c77 | c77
              · replace hm := cF c77 hm
                refine cond_t rfl (vbn rfl c77 rfl) ?_
                refine wp_seq ?_
                refine wp_rs rfl ?_
                refine RQ.y rfl (Y.assign (v := .slice none 0 0) rfl) ?_
                refine RQ.y rfl (Y.assign (v := .bool false) rfl) ?_
                refine RQ.nil ?_
                refine then_n ?_
                refine wp_ret ?_
                obtain rfl := Option.some.inj hm
                exact (blk_r (then_r (then_r (hit_r (blk_r (then_r (ret2 rfl rfl rfl rfl ⟨⟨_, rfl, OwF.nil⟩, T⟩)))))))
              · replace hm := cT c77 hm
                refine cond_f rfl (vbn rfl c77 rfl) ?_
                refine wp_skip ?_
                refine blk_n (then_n ?_)
                refine wp_rs rfl ?_
                obtain ⟨s78, ks78, hm⟩ := bnd hm
                replace ks78 := ck_some ks78
                refine RQ.y rfl (Y.binI (v := .int .i64 s78) s23_2x rfl (by rw [binI_add ks78.2, ks78.1])) ?_
                refine RQ.y rfl (Y.move (v := .int .i64 s78) rfl) ?_
                refine RQ.nil ?_
                exact (then_n ⟨g, _, Nat.lt_succ_self _, rfl, ⟨y70.2, s78, z58, (.slice A62 xs19.length c63), s0_2x, s5_2x, s21_2x, s22_2x, s4_2x, G76, rfl, (by omega), Bz58, (ap_ne (ne_ap Noxs19_ob12)), T, (by rw [← hrec1]; exact hm)⟩⟩)
            · replace hm := cT c69 hm
              refine RL.skip (wantN (dj := 54) rfl (vbn rfl c69 rfl) rfl) ?_
              refine RL.skip (wantN (dj := 54) rfl (vbn rfl c69 rfl) rfl) ?_
              refine RL.skip (wantN (dj := 54) rfl (vbn rfl c69 rfl) rfl) ?_
              refine RL.skip (wantN (dj := 54) rfl (vbn rfl c69 rfl) rfl) ?_
              refine RL.skip (wantN (dj := 54) rfl (vbn rfl c69 rfl) rfl) ?_
              refine RL.y rfl (Y.pick (b := false) (v := .bool false) (vbn rfl c69 rfl) rfl) ?_
              refine RL.nil ?_
              refine then_n ?_
              refine cond_f rfl rfl ?_
              refine wp_skip ?_
              refine blk_n (then_n ?_)
              refine wp_rs rfl ?_
              obtain ⟨s79, ks79, hm⟩ := bnd hm
              replace ks79 := ck_some ks79
              refine RQ.y rfl (Y.binI (v := .int .i64 s79) s23_2x rfl (by rw [binI_add ks79.2, ks79.1])) ?_
              refine RQ.y rfl (Y.move (v := .int .i64 s79) rfl) ?_
              refine RQ.nil ?_
              exact (then_n ⟨g, _, Nat.lt_succ_self _, rfl, ⟨y60.2, s79, z58, (.slice A62 xs19.length c63), s0_2x, s5_2x, s21_2x, s22_2x, s4_2x, G68, rfl, (by omega), Bz58, (ap_ne (ne_ap Noxs19_ob12)), T, (by rw [← hrec1]; exact hm)⟩⟩)
          · rintro g f w82 ⟨i80, z81, s0_2, s4_2, s5_2, s8_2, s21_2, s22_2, s23_2, s40_2, s41_2, s42_2, nn42_2, Bz81, Guxs19, G52, T, hm⟩
            rcases g with _ | g
            · simp only [m_impl_Net_orient_L2] at hm; cases hm
            obtain ⟨rec2, hrec2, hm⟩ : ∃ z, z = m_impl_Net_orient_L2 y49 K2 g ∧ m_impl_Net_orient_B2 y49 z K2 i80 z81 = some r := ⟨_, rfl, hm⟩
            unfold m_impl_Net_orient_B2 at hm
            refine wp_seq ?_
            refine wp_rs rfl ?_
            refine RQ.y rfl (Y.binI (v := .bool (decide (i80 < (y49.length : Int)))) s42_2 s41_2 rfl) ?_
            refine RQ.nil ?_
            refine then_n ?_
            refine wp_seq ?_
            rcases bcases (decide (i80 < (y49.length : Int))) with c83 | c83
            · replace hm := cF c83 hm
              have pc83 := of_decide_eq_false c83
              refine cond_f rfl (vb rfl c83) ?_
              refine wp_exit ?_
              exact (then_x (then_x (hit_x ⟨_, rfl, ⟨z81, s0_2, s4_2, s5_2, s8_2, s21_2, s22_2, s23_2, Bz81, Guxs19, G52, T, (by rw [hK2] at hm; exact hm)⟩⟩)))
            · replace hm := cT c83 hm
              have pc83 := of_decide_eq_true c83
              refine cond_t rfl (vb rfl c83) ?_
              refine wp_skip ?_
              refine then_n ?_
              refine wp_seq ?_
              refine wp_block ?_
              refine wp_seq ?_
              refine wp_rs rfl ?_
              obtain ⟨x84, hx86, hm⟩ := bnd hm
              obtain ⟨k85, hk87, hl88, hx86⟩ := getI_some hx86
              obtain ⟨b89, rfl⟩ := OwF.addr0 G52 (by omega)
              refine RQ.y rfl (Y.indexAddr (m := k85) (sz := 1) s40_2 s42_2 hk87 hl88 (by kernel_rfl)) ?_
              refine RQ.y rfl (Y.load (v := .int .i64 x84) rfl (by kernel_rfl) (eqC (OwF.cell fI G52 hx86 (j := 0) rfl))) ?_
              refine RQ.y rfl (Y.assign (v := .int .i64 x84) rfl) ?_
              refine RQ.nil ?_
              refine then_n ?_
              refine wp_rl rfl ?_
              refine RL.y rfl (Y.move (v := .map (some w4.heap.size)) s5_2) ?_
              refine RL.y rfl (Y.move (v := .int .i64 x84) rfl) ?_
              obtain ⟨_, kc90, hm⟩ := bnd hm
              replace kc90 := (ck_some kc90).2
              obtain ⟨_, m91, hm⟩ := bnd hm
              have hk92 := mustP_some m91
              refine RL.mapSet (a := x84) (v := true) (enc := encVB) mt_int64_bool rfl rfl rfl rfl kc90 Bz81 hk92 (fun w93 B94 ho95 => ?_)
              have szw93 := ho95.size
              have Guxs19 := OwF.only Guxs19 ho95 Noxs19_ob12
              have G52 := OwF.only G52 ho95 Zo53_ob12
              have T := T.trans (ho95.below (by intro b hb; simp at hb; subst hb; exact Bz81.1))
              refine RL.nil ?_
              refine blk_n (then_n ?_)
              refine wp_rs rfl ?_
              refine RQ.y rfl (Y.binI s42_2 rfl (binI_add (m := i80) (by omega))) ?_
              refine RQ.y rfl (Y.move (v := .int .i64 (i80 + 1)) rfl) ?_
              refine RQ.nil ?_
              exact (then_n ⟨g, _, Nat.lt_succ_self _, rfl, ⟨(i80 + 1), (z81.put x84 true), s0_2, s4_2, s5_2, s8_2, s21_2, s22_2, s23_2, s40_2, s41_2, rfl, (by omega), B94, Guxs19, G52, T, (by rw [← hrec2]; exact hm)⟩⟩)
        · replace hm := cT c48 hm
          refine cond_t rfl (vb rfl c48) ?_
          refine wp_exit ?_
          refine then_x (blk_hit (then_n ?_))
          refine wp_rs rfl ?_
          refine RQ.y rfl (Y.binI s23_1 rfl (binI_add (m := i20) (by omega))) ?_
          refine RQ.y rfl (Y.move (v := .int .i64 (i20 + 1)) rfl) ?_
          refine RQ.nil ?_
          exact (then_n ⟨g, _, Nat.lt_succ_self _, rfl, ⟨xs19, (i20 + 1), z21, (uxs19), s0_1, s5_1, s21_1, s22_1, s4_1, Guxs19, rfl, (by omega), Bz21, (ap_ne (ne_ap Noxs19_ob12)), T, (by rw [← hrec1]; exact hm)⟩⟩)
def m_impl_OrientNet (d0 : DNet) : Option ((List Bool) × Int) :=
  ((m_impl_ValidNet d0).bind fun y6 => (bif y6 then ((m_impl_Net_orient d0).bind fun y11 => (bif y11.2 then some (y11.1, 0) else some ([], 5))) else some ([], 1)))
set_option maxHeartbeats 2000000 in
theorem c_m_impl_OrientNet (d0 : DNet) (r : (List Bool) × Int) (hm : m_impl_OrientNet d0 = some r) (v0 : Value) (w : World) (hv0 : St netRd w v0 d0) :
    Calls Try.prog 11 #[v0] w fun e w' => (∃ (v0 : Value), e = .returned (.tuple #[v0, .int .i64 r.2]) ∧ OwF 4 encB 1 w' w.heap.size v0 r.1) ∧ Below w.heap.size w w' := by
  obtain ⟨csa0, rfl, ⟨A1, n1, c1, rfl, ⟨h1, r1⟩⟩⟩ := hv0
  have e1 := h1.len; subst e1
  have q1 := len_le r1
  have T := Below.refl w.heap.size w
  unfold m_impl_OrientNet at hm
  refine enter 16 Try.func11 rfl rfl rfl ?_
  intro f hf
  have s0 : f 0 = .agg #[.slice A1 d0.agents.length c1] := hf 0 _ rfl
  refine wp_seq ?_
  refine wp_rl rfl ?_
  refine RL.box rfl s0 (fun w2 B3 hb4 szw2 => ?_)
  replace B3 : Blk w2 w.heap.size 31 #[.slice A1 d0.agents.length c1] := B3
  have GB3 : w.heap.size ≤ w.heap.size := T.size
  have T := Tt T hb4
  refine RL.y rfl (Y.assign (v := .slice none 0 0) rfl) ?_
  refine RL.y rfl (Y.assign (v := .int .i64 0) rfl) ?_
  refine RL.nil ?_
  refine then_n ?_
  refine wp_seq ?_
  refine wp_seq ?_
  refine wp_rb rfl ?_
  refine RQ.y rfl (Y.loadN (cs := [.slice A1 d0.agents.length c1]) rfl (by kernel_rfl) (cells1 (beC (blkCell B3 (i := 0) rfl)))) ?_
  obtain ⟨y6, e7, hm⟩ := bnd hm
  refine RQ.call rfl (am1 rfl) (by kernel_rfl) (v := .bool y6) (bel (K := fun _ => True) fun w' hb' => (c_m_impl_ValidNet d0 _ e7 _ w' (stArg (R := netRd) ⟨_, _, _, rfl, ⟨SlAt.now agentRd_ok h1 (Nat.le_refl _) (Tt T hb'), r1⟩⟩))) ?_
  refine RQ.y rfl (Y.not (b' := (!y6)) rfl rfl) ?_
  refine RQ.nil ?_
  intro w8 hb9
  have szw8 := hb9.size
  have B3 := blkT B3 hb9
  have T := Tt T hb9
  refine then_n ?_
  rcases bcases y6 with c10 | c10
  · replace hm := cF c10 hm
    refine cond_t rfl (vbn rfl c10 rfl) ?_
    refine wp_seq ?_
    refine wp_rs rfl ?_
    refine RQ.y rfl (Y.assign (v := .slice none 0 0) rfl) ?_
    refine RQ.y rfl (Y.assign (v := .int .i64 1) rfl) ?_
    refine RQ.nil ?_
    refine then_n ?_
    refine wp_ret ?_
    obtain rfl := Option.some.inj hm
    exact (then_r (ret2 rfl rfl rfl rfl ⟨⟨_, rfl, OwF.nil⟩, T⟩))
  · replace hm := cT c10 hm
    refine cond_f rfl (vbn rfl c10 rfl) ?_
    refine wp_skip ?_
    refine then_n ?_
    refine wp_seq ?_
    refine wp_rl rfl ?_
    obtain ⟨y11, e12, hm⟩ := bnd hm
    refine RL.call rfl (am1 rfl) (by kernel_rfl) ((c_m_impl_Net_orient d0 _ e12 _ _ (ptBox (R := netRd) B3 ⟨_, _, _, rfl, ⟨SlAt.now agentRd_ok h1 (Nat.le_refl _) T, r1⟩⟩)).mono ?_)
    rintro _ w16 ⟨⟨v13, rfl, G14⟩, hb17⟩
    refine ⟨_, rfl, ?_⟩
    have szw16 := hb17.size
    have T0w16 := T.size
    have Zo15_ob5 := ap_ne (Ap.new (OwF.flo G14) (one_hi B3.lt))
    have B3 := blkT B3 hb17
    have T := Tt T hb17
    replace G14 := OwF.mono G14 T0w16
    refine RL.y rfl (Y.move (v := .tuple #[v13, .bool y11.2]) rfl) ?_
    refine RL.y rfl (Y.extract (i := 0) rfl rfl) ?_
    refine RL.y rfl (Y.extract (i := 1) rfl rfl) ?_
    refine RL.y rfl (Y.assign (v := v13) rfl) ?_
    refine RL.y rfl (Y.assign (v := .bool y11.2) rfl) ?_
    refine RL.nil ?_
    refine then_n ?_
    refine wp_seq ?_
    refine wp_seq ?_
    refine wp_rs rfl ?_
    refine RQ.y rfl (Y.move (v := .bool y11.2) rfl) ?_
    refine RQ.y rfl (Y.not (b' := (!y11.2)) rfl rfl) ?_
    refine RQ.nil ?_
    refine then_n ?_
    rcases bcases y11.2 with c18 | c18
    · replace hm := cF c18 hm
      refine cond_t rfl (vbn rfl c18 rfl) ?_
      refine wp_seq ?_
      refine wp_rs rfl ?_
      refine RQ.y rfl (Y.assign (v := .slice none 0 0) rfl) ?_
      refine RQ.y rfl (Y.assign (v := .int .i64 5) rfl) ?_
      refine RQ.nil ?_
      refine then_n ?_
      refine wp_ret ?_
      obtain rfl := Option.some.inj hm
      exact (then_r (ret2 rfl rfl rfl rfl ⟨⟨_, rfl, OwF.nil⟩, T⟩))
    · replace hm := cT c18 hm
      refine cond_f rfl (vbn rfl c18 rfl) ?_
      refine wp_skip ?_
      refine then_n ?_
      refine wp_seq ?_
      refine wp_rs rfl ?_
      refine RQ.y rfl (Y.move (v := v13) rfl) ?_
      refine RQ.y rfl (Y.assign (v := v13) rfl) ?_
      refine RQ.y rfl (Y.assign (v := .int .i64 0) rfl) ?_
      refine RQ.nil ?_
      refine then_n ?_
      refine wp_ret ?_
      obtain rfl := Option.some.inj hm
      exact (ret2 rfl rfl rfl rfl ⟨⟨_, rfl, G14⟩, T⟩)
def m_impl_IsOrientable (d0 : DNet) : Option Bool :=
  ((m_impl_OrientNet d0).bind fun y6 => some (y6.2 == 0))
set_option maxHeartbeats 2000000 in
theorem c_m_impl_IsOrientable (d0 : DNet) (r : Bool) (hm : m_impl_IsOrientable d0 = some r) (v0 : Value) (w : World) (hv0 : St netRd w v0 d0) :
    Calls Try.prog 18 #[v0] w fun e w' => e = .returned (.bool r) ∧ Below w.heap.size w w' := by
  obtain ⟨csa0, rfl, ⟨A1, n1, c1, rfl, ⟨h1, r1⟩⟩⟩ := hv0
  have e1 := h1.len; subst e1
  have q1 := len_le r1
  have T := Below.refl w.heap.size w
  unfold m_impl_IsOrientable at hm
  refine enter 12 Try.func18 rfl rfl rfl ?_
  intro f hf
  have s0 : f 0 = .agg #[.slice A1 d0.agents.length c1] := hf 0 _ rfl
  refine wp_seq ?_
  refine wp_rl rfl ?_
  refine RL.box rfl s0 (fun w2 B3 hb4 szw2 => ?_)
  replace B3 : Blk w2 w.heap.size 31 #[.slice A1 d0.agents.length c1] := B3
  have GB3 : w.heap.size ≤ w.heap.size := T.size
  have T := Tt T hb4
  refine RL.y rfl (Y.assign (v := .bool false) rfl) ?_
  refine RL.nil ?_
  refine then_n ?_
  refine wp_seq ?_
  refine wp_rl rfl ?_
  refine RL.y rfl (Y.loadN (cs := [.slice A1 d0.agents.length c1]) rfl (by kernel_rfl) (cells1 (eqC (blkCell B3 (i := 0) rfl)))) ?_
  obtain ⟨y6, e7, hm⟩ := bnd hm
  refine RL.call rfl (am1 rfl) (by kernel_rfl) ((c_m_impl_OrientNet d0 _ e7 _ _ (stArg (R := netRd) ⟨_, _, _, rfl, ⟨SlAt.now agentRd_ok h1 (Nat.le_refl _) T, r1⟩⟩)).mono ?_)
  rintro _ w11 ⟨⟨v8, rfl, G9⟩, hb12⟩
  refine ⟨_, rfl, ?_⟩
  have szw11 := hb12.size
  have T0w11 := T.size
  have Zo10_ob5 := ap_ne (Ap.new (OwF.flo G9) (one_hi B3.lt))
  have B3 := blkT B3 hb12
  have T := Tt T hb12
  replace G9 := OwF.mono G9 T0w11
  refine RL.y rfl (Y.move (v := .tuple #[v8, .int .i64 y6.2]) rfl) ?_
  refine RL.y rfl (Y.extract (i := 0) rfl rfl) ?_
  refine RL.y rfl (Y.extract (i := 1) rfl rfl) ?_
  refine RL.y rfl (Y.assign (v := v8) rfl) ?_
  refine RL.y rfl (Y.assign (v := .int .i64 y6.2) rfl) ?_
  refine RL.nil ?_
  refine then_n ?_
  refine wp_seq ?_
  refine wp_rs rfl ?_
  refine RQ.y rfl (Y.move (v := .int .i64 y6.2) rfl) ?_
  refine RQ.y rfl (Y.binI (v := .bool (y6.2 == 0)) rfl rfl rfl) ?_
  refine RQ.y rfl (Y.assign (v := .bool (y6.2 == 0)) rfl) ?_
  refine RQ.nil ?_
  refine then_n ?_
  refine wp_ret ?_
  obtain rfl := Option.some.inj hm
  exact (ret1 rfl rfl rfl ⟨rfl, T⟩)
end
end Go.Proofs.Ytpbobilkejblgaa
