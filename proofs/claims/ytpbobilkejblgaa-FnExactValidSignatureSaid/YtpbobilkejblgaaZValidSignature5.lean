/- Lemmas of the proof of ValidSignature, part 5. No condition. -/
import Derived.Test.YtpbobilkejblgaaZValidSignature4
namespace Go.Proofs.Ytpbobilkejblgaa
section
open Go.RowKit
set_option linter.unusedVariables false
set_option linter.unusedSimpArgs false
abbrev emptyS : ByteArray := ByteArray.mk #[]
abbrev intS : ByteArray := ByteArray.mk #[73, 110, 116]
/-- The own form of a node of a type. -/
def tyForm (k : Int) (n : ByteArray) (len : Nat) : Bool :=
  if k = 1 then decide (n = emptyS) && decide (len = 0) else if k = 2 then upperD n && (!decide (n = intS) && decide (len = 0)) else if k = 3 then decide (n = emptyS) && decide (len = 2) else if k = 4 then decide (n = emptyS) && decide (len = 1) else false
mutual
def tyOk : DType → Bool
  | ⟨k, n, ks⟩ => tyForm k n ks.length && tyOkL ks
def tyOkL : List DType → Bool
  | [] => true
  | x :: xs => tyOk x && tyOkL xs
end
mutual
def tyDepth : DType → Nat
  | ⟨_, _, ks⟩ => tyDepthL ks + 1
def tyDepthL : List DType → Nat
  | [] => 0
  | x :: xs => if tyDepth x > tyDepthL xs then tyDepth x else tyDepthL xs
end
mutual
def tySize : DType → Nat
  | ⟨_, _, ks⟩ => 1 + tySizeL ks
def tySizeL : List DType → Nat
  | [] => 0
  | x :: xs => tySize x + tySizeL xs
end
theorem tyOk_eq (x : DType) : tyOk x = (tyForm x.kind x.name x.kids.length && tyOkL x.kids) := by
  obtain ⟨a, b, c⟩ := x
  rw [tyOk]
theorem tyOkL_eq : ∀ xs : List DType, tyOkL xs = xs.all tyOk
  | [] => by rw [tyOkL]; rfl
  | x :: xs => by rw [tyOkL, tyOkL_eq xs, List.all_cons]
theorem tyDepth_eq (x : DType) : tyDepth x = tyDepthL x.kids + 1 := by
  obtain ⟨a, b, c⟩ := x
  rw [tyDepth]
theorem tyDepthL_le : ∀ (xs : List DType) (m : Nat), tyDepthL xs ≤ m ↔ ∀ x ∈ xs, tyDepth x ≤ m
  | [], m => by rw [tyDepthL]; simp
  | x :: xs, m => by
    rw [tyDepthL]
    have ih := tyDepthL_le xs m
    simp only [List.mem_cons, forall_eq_or_imp]
    rw [← ih]
    split <;> omega
theorem tySize_eq (x : DType) : tySize x = 1 + tySizeL x.kids := by
  obtain ⟨a, b, c⟩ := x
  rw [tySize]
theorem tySizeL_eq : ∀ xs : List DType, tySizeL xs = (xs.map tySize).sum
  | [] => by rw [tySizeL]; rfl
  | x :: xs => by rw [tySizeL, tySizeL_eq xs, List.map_cons, List.sum_cons]
mutual
theorem tySize_le : ∀ x : DType, tySize x ≤ 1 + szType x
  | ⟨k, n, ks⟩ => by
    have := tySizeL_le ks
    rw [tySize, szType]
    omega
theorem tySizeL_le : ∀ xs : List DType, tySizeL xs ≤ xs.length + szTypeL xs
  | [] => by rw [tySizeL]; omega
  | x :: xs => by
    have h1 := tySize_le x
    have h2 := tySizeL_le xs
    rw [tySizeL, szTypeL, List.length_cons]
    omega
end
mutual
theorem tyDepth_le : ∀ x : DType, tyDepth x ≤ tySize x
  | ⟨k, n, ks⟩ => by
    have := tyDepthL_le2 ks
    rw [tyDepth, tySize]
    omega
theorem tyDepthL_le2 : ∀ xs : List DType, tyDepthL xs ≤ tySizeL xs
  | [] => by rw [tyDepthL]; omega
  | x :: xs => by
    have h1 := tyDepth_le x
    have h2 := tyDepthL_le2 xs
    rw [tyDepthL, tySizeL]
    split <;> omega
end
/-- What l02Nodes answers. -/
def nodesD (x : DType) (d : Int) : Int := if tyOk x = true ∧ (tyDepth x : Int) ≤ d then (tySize x : Int) else -1
theorem sum_le_mem {xs : List DType} {k : Nat} (hk : k < xs.length) : ((xs.take k).map tySize).sum + tySize xs[k] ≤ (xs.map tySize).sum := by
  have h : xs = xs.take k ++ xs[k] :: xs.drop (k + 1) := by rw [← List.drop_eq_getElem_cons hk, List.take_append_drop]
  have e := congrArg (fun l => (l.map tySize).sum) h
  simp only [List.map_append, List.sum_append, List.map_cons, List.sum_cons] at e
  omega
theorem take_snoc {α : Type} {ks : List α} {k : Nat} (hk : k < ks.length) : ks.take (k + 1) = ks.take k ++ [ks[k]] := by
  rw [List.take_add_one, List.getElem?_eq_getElem hk]; rfl
theorem iteC {α : Sort _} {p q : Prop} [Decidable p] [Decidable q] {a b : α} (h : p ↔ q) : (if p then a else b) = if q then a else b := by
  by_cases hp : p
  · rw [if_pos hp, if_pos (h.1 hp)]
  · rw [if_neg hp, if_neg (fun hq => hp (h.2 hq))]
theorem nodesI {L : Nat → Int → Int → Option Int} {ks : List DType} {self : DType → Int → Option Int} {d : Int}
    (h : ∀ g acc i, L (g + 1) acc i = bif decide (i < (ks.length : Int)) then (getI ks i).bind fun x => (ck (d - 1)).bind fun s => (self x s).bind fun y => bif decide (y < 0) then some (-1) else (ck (acc + y)).bind fun s2 => L g s2 (i + 1) else some acc)
    (hd : -9223372036854775808 ≤ d - 1 ∧ d - 1 ≤ 9223372036854775807) (hs : ∀ x ∈ ks, self x (d - 1) = some (nodesD x (d - 1))) (hb : (ks.map tySize).sum ≤ 4294967296) :
    L (ks.length + 1) 1 0 = some (if ks.all tyOk = true ∧ ((tyDepthL ks : Int) ≤ d - 1 ∨ ks = []) then 1 + ((ks.map tySize).sum : Int) else -1) := by
  have key : ∀ (m k g : Nat), k + m = ks.length → m < g → L g (1 + (((ks.take k).map tySize).sum : Int)) (k : Int) = some (if (∀ x ∈ ks.drop k, tyOk x = true ∧ (tyDepth x : Int) ≤ d - 1) then 1 + ((ks.map tySize).sum : Int) else -1) := by
    intro m
    induction m with
    | zero =>
      intro k g hk hg
      obtain ⟨g, rfl⟩ : ∃ g', g = g' + 1 := ⟨g - 1, by omega⟩
      obtain rfl : k = ks.length := by omega
      rw [h, dge, cond_false, List.take_length, List.drop_length, if_pos (by simp)]
    | succ m ih =>
      intro k g hk hg
      obtain ⟨g, rfl⟩ : ∃ g', g = g' + 1 := ⟨g - 1, by omega⟩
      have hl : k < ks.length := by omega
      have hm := List.getElem_mem hl
      have hle := sum_le_mem hl
      rw [h, dlt hl, cond_true, getI_lt hl, Option.bind_some, ck_ok hd, Option.bind_some, hs _ hm, Option.bind_some, List.drop_eq_getElem_cons hl]
      unfold nodesD
      by_cases hx : tyOk ks[k] = true ∧ (tyDepth ks[k] : Int) ≤ d - 1
      · rw [if_pos hx, decide_eq_false (by omega), cond_false, ck_ok (by omega), Option.bind_some]
        have e1 : (1 + (((ks.take k).map tySize).sum : Int) + (tySize ks[k] : Int)) = 1 + (((ks.take (k + 1)).map tySize).sum : Int) := by
          rw [take_snoc hl, List.map_append, List.sum_append]
          simp
          omega
        rw [e1, show ((k : Int) + 1) = ((k + 1 : Nat) : Int) by omega, ih (k + 1) g (by omega) (by omega)]
        congr 1
        apply iteC
        simp only [List.mem_cons, forall_eq_or_imp]
        exact ⟨fun h => ⟨hx, h⟩, fun h => h.2⟩
      · rw [if_neg hx, decide_eq_true (by omega), cond_true, if_neg (fun hall => hx (hall _ List.mem_cons_self))]
  have := key ks.length 0 (ks.length + 1) (by omega) (by omega)
  simp only [List.take_zero, List.map_nil, List.sum_nil, List.drop_zero, Int.natCast_zero, Int.add_zero] at this
  refine this.trans ?_
  congr 1
  apply iteC
  rw [List.all_eq_true]
  constructor
  · intro hall
    refine ⟨fun x hx => (hall x hx).1, ?_⟩
    by_cases hn : ks = []
    · exact .inr hn
    · refine .inl ?_
      obtain ⟨y, hy⟩ := List.exists_mem_of_ne_nil _ hn
      have h0 := (hall y hy).2
      have := (tyDepthL_le ks (d - 1).toNat).2 (fun x hx => by have := (hall x hx).2; omega)
      omega
  · rintro ⟨h1, h2⟩ x hx
    refine ⟨h1 x hx, ?_⟩
    rcases h2 with h2 | h2
    · have := (tyDepthL_le ks (tyDepthL ks)).1 (Nat.le_refl _) x hx
      omega
    · rw [h2] at hx; cases hx
theorem form_len {k : Int} {n : ByteArray} {len : Nat} (h : tyForm k n len = true) : k = 1 ∧ n = emptyS ∧ len = 0 ∨ k = 2 ∧ upperD n = true ∧ n ≠ intS ∧ len = 0 ∨ k = 3 ∧ n = emptyS ∧ len = 2 ∨ k = 4 ∧ n = emptyS ∧ len = 1 := by
  unfold tyForm at h
  split at h
  · rename_i e; simp at h; exact .inl ⟨e, h⟩
  · split at h
    · rename_i e; simp at h; exact .inr (.inl ⟨e, h⟩)
    · split at h
      · rename_i e; simp at h; exact .inr (.inr (.inl ⟨e, h⟩))
      · split at h
        · rename_i e; simp at h; exact .inr (.inr (.inr ⟨e, h⟩))
        · cases h
theorem nodesD_of {x : DType} {d : Int} (hd : 1 ≤ d) (hf : tyForm x.kind x.name x.kids.length = true) : nodesD x d = if x.kids.all tyOk = true ∧ ((tyDepthL x.kids : Int) ≤ d - 1 ∨ x.kids = []) then 1 + ((x.kids.map tySize).sum : Int) else -1 := by
  unfold nodesD
  rw [tySize_eq, tySizeL_eq, tyDepth_eq, tyOk_eq, tyOkL_eq, hf, Bool.true_and]
  have hc : ((((tyDepthL x.kids + 1 : Nat) : Int)) ≤ d) ↔ ((tyDepthL x.kids : Int) ≤ d - 1 ∨ x.kids = []) := by
    constructor
    · intro h; exact .inl (by omega)
    · rintro (h | h)
      · omega
      · rw [h, tyDepthL]; omega
  simp only [hc]
  split <;> simp
theorem p_sNodes : ∀ (gas : Nat) (x : DType) (d : Int), SizeOf.sizeOf x ≤ gas → -4294967296 ≤ d → d ≤ 4294967296 → tySize x ≤ 4294967296 → m_spec_l02Nodes gas x d = some (nodesD x d)
  | 0, x, d, h, _, _, _ => by have := x.pos; omega
  | gas + 1, x, d, hg, h0, h1, hb => by
    have ih := p_sNodes gas
    have e : m_spec_l02Nodes (gas + 1) x d = m_spec_l02Nodes_R (m_spec_l02Nodes gas) x d := rfl
    have hkb : (x.kids.map tySize).sum ≤ 4294967296 := by rw [tySize_eq, tySizeL_eq] at hb; omega
    have hs : ∀ y ∈ x.kids, m_spec_l02Nodes gas y (d - 1) = some (nodesD y (d - 1)) := fun y hy => by
      by_cases hd1 : d < -4294967295
      · -- the depth is out of reach
        exact (by
          have e2 : gas = 0 ∨ 0 < gas := by omega
          rcases e2 with rfl | hp
          · have := DType.kid_lt hy; have := y.pos; omega
          · obtain ⟨g, rfl⟩ : ∃ g', gas = g' + 1 := ⟨gas - 1, by omega⟩
            have e3 : m_spec_l02Nodes (g + 1) y (d - 1) = m_spec_l02Nodes_R (m_spec_l02Nodes g) y (d - 1) := rfl
            rw [e3]
            unfold m_spec_l02Nodes_R nodesD
            rw [decide_eq_true (by omega), cond_true, if_neg (fun hh => by omega)])
      · refine ih y (d - 1) (by have := DType.kid_lt hy; omega) (by omega) (by omega) ?_
        have := sum_mem (f := tySize) hy
        omega
    rw [e]
    unfold m_spec_l02Nodes_R
    by_cases hd : d < 1
    · rw [decide_eq_true hd, cond_true]
      unfold nodesD
      rw [if_neg (fun hh => by have := tyDepth_eq x; omega)]
    · rw [decide_eq_false hd, cond_false]
      have hbad : tyForm x.kind x.name x.kids.length = false → nodesD x d = -1 := fun hf => by
        unfold nodesD
        rw [tyOk_eq, hf, Bool.false_and, if_neg (by simp)]
      have hlen : ∀ m : Nat, ((x.kids.length : Int) != (m : Int)) = !decide (x.kids.length = m) := fun m => bne_nat
      have l0 : ((x.kids.length : Int) != 0) = !decide (x.kids.length = 0) := hlen 0
      have l2 : ((x.kids.length : Int) != 2) = !decide (x.kids.length = 2) := hlen 2
      have l1 : ((x.kids.length : Int) != 1) = !decide (x.kids.length = 1) := hlen 1
      have K8 := nodesI (L := m_spec_l02Nodes_L8 x d (m_spec_l02Nodes gas) m_spec_l02Nodes_A8) (fun g acc i => rfl) (by omega) hs hkb
      have K5 := nodesI (L := m_spec_l02Nodes_L5 x d (m_spec_l02Nodes gas) m_spec_l02Nodes_A5) (fun g acc i => rfl) (by omega) hs hkb
      have K4 := nodesI (L := m_spec_l02Nodes_L4 x d (m_spec_l02Nodes gas) m_spec_l02Nodes_A4) (fun g acc i => rfl) (by omega) hs hkb
      have K2 := nodesI (L := m_spec_l02Nodes_L2 x d (m_spec_l02Nodes gas) m_spec_l02Nodes_A2) (fun g acc i => rfl) (by omega) hs hkb
      rw [l0, l2, l1, nameEq, nameEq, p_sUpper, Option.bind_some, K8, K5, K4, K2]
      clear K8 K5 K4 K2
      by_cases k1 : x.kind = 1
      · rw [show (x.kind == 1) = true by simp [k1], show (x.kind != 2) = true by simp [k1], cond_true, cond_true]
        cases hf : tyForm x.kind x.name x.kids.length with
        | true =>
          rw [nodesD_of (by omega) hf]
          rw [k1] at hf
          simp only [tyForm, if_pos, Bool.and_eq_true] at hf
          rw [hf.1, hf.2]; rfl
        | false =>
          rw [hbad hf]
          rw [k1] at hf
          simp only [tyForm, if_pos] at hf
          revert hf
          cases decide (x.name = emptyS) <;> cases decide (x.kids.length = 0) <;> intro hf <;> first | rfl | cases hf
      rw [show (x.kind == 1) = false by simp [k1], cond_false]
      by_cases k2 : x.kind = 2
      · rw [show (x.kind == 2) = true by simp [k2], show (x.kind != 2) = false by simp [k2], cond_true, cond_false]
        cases hf : tyForm x.kind x.name x.kids.length with
        | true =>
          rw [nodesD_of (by omega) hf]
          rw [k2] at hf
          simp only [tyForm, if_neg (show ¬ (2 : Int) = 1 by decide), if_pos, Bool.and_eq_true, Bool.not_eq_true'] at hf
          rw [hf.1, hf.2.1, hf.2.2]; rfl
        | false =>
          rw [hbad hf]
          rw [k2] at hf
          simp only [tyForm, if_neg (show ¬ (2 : Int) = 1 by decide), if_pos] at hf
          revert hf
          cases upperD x.name <;> cases decide (x.name = intS) <;> cases decide (x.kids.length = 0) <;> intro hf <;> first | rfl | cases hf
      rw [show (x.kind == 2) = false by simp [k2], show (x.kind != 2) = true by simp [k2], cond_false, cond_true]
      by_cases k3 : x.kind = 3
      · rw [show (x.kind == 3) = true by simp [k3], cond_true]
        cases hf : tyForm x.kind x.name x.kids.length with
        | true =>
          rw [nodesD_of (by omega) hf]
          rw [k3] at hf
          simp only [tyForm, if_neg (show ¬ (3 : Int) = 1 by decide), if_neg (show ¬ (3 : Int) = 2 by decide), if_pos, Bool.and_eq_true] at hf
          rw [hf.1, hf.2]; rfl
        | false =>
          rw [hbad hf]
          rw [k3] at hf
          simp only [tyForm, if_neg (show ¬ (3 : Int) = 1 by decide), if_neg (show ¬ (3 : Int) = 2 by decide), if_pos] at hf
          revert hf
          cases decide (x.name = emptyS) <;> cases decide (x.kids.length = 2) <;> intro hf <;> first | rfl | cases hf
      rw [show (x.kind == 3) = false by simp [k3], cond_false]
      by_cases k4 : x.kind = 4
      · rw [show (x.kind == 4) = true by simp [k4], cond_true]
        cases hf : tyForm x.kind x.name x.kids.length with
        | true =>
          rw [nodesD_of (by omega) hf]
          rw [k4] at hf
          simp only [tyForm, if_neg (show ¬ (4 : Int) = 1 by decide), if_neg (show ¬ (4 : Int) = 2 by decide), if_neg (show ¬ (4 : Int) = 3 by decide), if_pos, Bool.and_eq_true] at hf
          rw [hf.1, hf.2]; rfl
        | false =>
          rw [hbad hf]
          rw [k4] at hf
          simp only [tyForm, if_neg (show ¬ (4 : Int) = 1 by decide), if_neg (show ¬ (4 : Int) = 2 by decide), if_neg (show ¬ (4 : Int) = 3 by decide), if_pos] at hf
          revert hf
          cases decide (x.name = emptyS) <;> cases decide (x.kids.length = 1) <;> intro hf <;> first | rfl | cases hf
      rw [show (x.kind == 4) = false by simp [k4], cond_false, hbad (by simp [tyForm, k1, k2, k3, k4])]
def validTy (x : DType) : Bool := tyOk x && (decide (tyDepth x ≤ 6) && decide (tySize x ≤ 16))
theorem p_sValidType (x : DType) (hb : szType x ≤ 1048576) : m_spec_ValidType x = some (validTy x) := by
  unfold m_spec_ValidType
  have h := tySize_le x
  rw [p_sNodes _ x 6 (Nat.le_refl _) (by decide) (by decide) (by omega), Option.bind_some]
  unfold nodesD validTy inR
  have h2 := tySize_eq x
  congr 1
  by_cases ho : tyOk x = true
  · rw [ho, Bool.true_and]
    by_cases hd : tyDepth x ≤ 6
    · rw [if_pos ⟨rfl, by omega⟩, decide_eq_true hd, Bool.true_and, decide_eq_true (show (1 : Int) ≤ (tySize x : Int) by omega), Bool.true_and]
      rw [decide_eq_decide]; omega
    · rw [if_neg (fun hh => by omega), decide_eq_false hd]; rfl
  · rw [if_neg (fun hh => ho hh.1)]
    rw [Bool.not_eq_true] at ho
    rw [ho]; rfl
theorem shapeI {L : Nat → Int → Int → Bool → Int → Option (Int × Int × Bool)} {ks : List DType} {self : DType → Option (Int × Int × Bool)} {K : Int → Int → Bool → Option (Int × Int × Bool)}
    (h : ∀ g a b c i, L (g + 1) a b c i = bif decide (i < (ks.length : Int)) then (getI ks i).bind fun x => (self x).bind fun y => bif y.2.2 then (ck (y.1 + 1)).bind fun s => (ck (b + y.2.1)).bind fun s2 => L g (if s > a then s else a) s2 c (i + 1) else some (0, 0, false) else K a b c)
    (hs : ∀ x ∈ ks, ∃ r, self x = some r ∧ r.2.2 = tyOk x ∧ (tyOk x = true → r.1 = tyDepth x ∧ r.2.1 = tySize x)) (hb : (ks.map tySize).sum ≤ 4294967296) :
    L (ks.length + 1) 1 1 false 0 = bif ks.all tyOk then K ((tyDepthL ks + 1 : Nat) : Int) (1 + ((ks.map tySize).sum : Int)) false else some (0, 0, false) := by
  have hsplit : ∀ k, k ≤ ks.length → True := fun _ _ => trivial
  have key : ∀ (m k g : Nat), k + m = ks.length → m < g → ∀ dep : Nat, (∀ M, dep ≤ M ↔ 1 ≤ M ∧ ∀ x ∈ ks.take k, tyDepth x + 1 ≤ M) → L g (dep : Int) (1 + (((ks.take k).map tySize).sum : Int)) false (k : Int) = bif (ks.drop k).all tyOk then K ((tyDepthL ks + 1 : Nat) : Int) (1 + ((ks.map tySize).sum : Int)) false else some (0, 0, false) := by
    intro m
    induction m with
    | zero =>
      intro k g hk hg dep hdep
      obtain ⟨g, rfl⟩ : ∃ g', g = g' + 1 := ⟨g - 1, by omega⟩
      obtain rfl : k = ks.length := by omega
      rw [h, dge, cond_false, List.take_length, List.drop_length]
      have e : dep = tyDepthL ks + 1 := by
        rw [List.take_length] at hdep
        have h1 := (hdep dep).1 (Nat.le_refl _)
        have h2 := (hdep (tyDepthL ks + 1)).2 ⟨by omega, fun x hx => by have := (tyDepthL_le ks (tyDepthL ks)).1 (Nat.le_refl _) x hx; omega⟩
        have h3 := (tyDepthL_le ks (dep - 1)).2 (fun x hx => by have := h1.2 x hx; omega)
        omega
      rw [e]; rfl
    | succ m ih =>
      intro k g hk hg dep hdep
      obtain ⟨g, rfl⟩ : ∃ g', g = g' + 1 := ⟨g - 1, by omega⟩
      have hl : k < ks.length := by omega
      have hm := List.getElem_mem hl
      have hle := sum_le_mem hl
      obtain ⟨r, hr, hr1, hr2⟩ := hs _ hm
      rw [h, dlt hl, cond_true, getI_lt hl, Option.bind_some, hr, Option.bind_some, hr1, List.drop_eq_getElem_cons hl, List.all_cons]
      cases hx : tyOk ks[k] with
      | false => rfl
      | true =>
        obtain ⟨e1, e2⟩ := hr2 hx
        have hdl := tyDepth_le ks[k]
        rw [cond_true, Bool.true_and, e1, e2, ck_ok (by omega), Option.bind_some, ck_ok (by omega), Option.bind_some]
        have e3 : (1 + (((ks.take k).map tySize).sum : Int) + (tySize ks[k] : Int)) = 1 + (((ks.take (k + 1)).map tySize).sum : Int) := by
          rw [take_snoc hl, List.map_append, List.sum_append]
          simp
          omega
        have e4 : (if (tyDepth ks[k] : Int) + 1 > (dep : Int) then (tyDepth ks[k] : Int) + 1 else (dep : Int)) = ((if tyDepth ks[k] + 1 > dep then tyDepth ks[k] + 1 else dep : Nat) : Int) := by split <;> split <;> omega
        rw [e3, e4, show ((k : Int) + 1) = ((k + 1 : Nat) : Int) by omega]
        refine ih (k + 1) g (by omega) (by omega) _ (fun M => ?_)
        have hd := hdep M
        rw [take_snoc hl]
        simp only [List.mem_append, List.mem_singleton]
        constructor
        · intro hM
          have hdM : dep ≤ M := by split at hM <;> omega
          refine ⟨(hd.1 hdM).1, fun x hx => ?_⟩
          rcases hx with hx | hx
          · exact (hd.1 hdM).2 x hx
          · subst hx; split at hM <;> omega
        · rintro ⟨hM, hall⟩
          have h1 := hd.2 ⟨hM, fun x hx => hall x (.inl hx)⟩
          have h2 := hall _ (.inr rfl)
          split <;> omega
  have := key ks.length 0 (ks.length + 1) (by omega) (by omega) 1 (fun M => by simp)
  simpa using this
theorem p_iShape : ∀ (gas : Nat) (x : DType), SizeOf.sizeOf x ≤ gas → tySize x ≤ 4294967296 → ∃ r, m_impl_typeShape gas x = some r ∧ r.2.2 = tyOk x ∧ (tyOk x = true → r.1 = tyDepth x ∧ r.2.1 = tySize x)
  | 0, x, h, _ => by have := x.pos; omega
  | gas + 1, x, hg, hb => by
    have ih := p_iShape gas
    have e : m_impl_typeShape (gas + 1) x = m_impl_typeShape_R (m_impl_typeShape gas) x := rfl
    have hkb : (x.kids.map tySize).sum ≤ 4294967296 := by rw [tySize_eq, tySizeL_eq] at hb; omega
    rw [e]
    unfold m_impl_typeShape_R
    rw [shapeI (L := m_impl_typeShape_L1 x (m_impl_typeShape gas) (m_impl_typeShape_A1 x)) (fun g a b c i => rfl) (fun y hy => ih y (by have := DType.kid_lt hy; omega) (by have := sum_mem (f := tySize) hy; omega)) hkb]
    rw [tyOk_eq, tyOkL_eq, tyDepth_eq, tySize_eq, tySizeL_eq]
    cases hk : x.kids.all tyOk with
    | false => exact ⟨_, rfl, by rw [Bool.and_false], by rw [Bool.and_false]; intro h; cases h⟩
    | true =>
      rw [cond_true, Bool.and_true]
      unfold m_impl_typeShape_A1
      have l0 : ((x.kids.length : Int) == 0) = decide (x.kids.length = 0) := by rw [Bool.eq_iff_iff]; simp
      have l2 : ((x.kids.length : Int) == 2) = decide (x.kids.length = 2) := by rw [Bool.eq_iff_iff]; simp; omega
      have l1 : ((x.kids.length : Int) == 1) = decide (x.kids.length = 1) := by rw [Bool.eq_iff_iff]; simp; omega
      rw [nameEq, nameEq, p_iUpper, Option.bind_some, l0, l1, l2]
      have fin : ∀ b : Bool, ∃ r, some ((((tyDepthL x.kids + 1 : Nat) : Int)), (1 + ((x.kids.map tySize).sum : Int)), b) = some r ∧ r.2.2 = b ∧ (b = true → r.1 = ((tyDepthL x.kids + 1 : Nat) : Int) ∧ r.2.1 = ((1 + (x.kids.map tySize).sum : Nat) : Int)) := fun b => ⟨_, rfl, rfl, fun _ => ⟨rfl, by simp⟩⟩
      by_cases k1 : x.kind = 1
      · rw [show (x.kind == 1) = true by simp [k1], cond_true]
        rw [show tyForm x.kind x.name x.kids.length = (decide (x.name = emptyS) && decide (x.kids.length = 0)) by simp only [tyForm, k1, if_pos]]
        cases decide (x.name = emptyS) <;> cases decide (x.kids.length = 0) <;> exact fin _
      rw [show (x.kind == 1) = false by simp [k1], cond_false]
      by_cases k2 : x.kind = 2
      · rw [show (x.kind == 2) = true by simp [k2], cond_true]
        rw [show tyForm x.kind x.name x.kids.length = (upperD x.name && (!decide (x.name = intS) && decide (x.kids.length = 0))) by simp only [tyForm, k2, if_neg (show ¬ (2 : Int) = 1 by decide), if_pos]]
        cases upperD x.name <;> cases decide (x.name = intS) <;> cases decide (x.kids.length = 0) <;> exact fin _
      rw [show (x.kind == 2) = false by simp [k2], cond_false]
      by_cases k3 : x.kind = 3
      · rw [show (x.kind == 3) = true by simp [k3], cond_true]
        rw [show tyForm x.kind x.name x.kids.length = (decide (x.name = emptyS) && decide (x.kids.length = 2)) by simp only [tyForm, k3, if_neg (show ¬ (3 : Int) = 1 by decide), if_neg (show ¬ (3 : Int) = 2 by decide), if_pos]]
        cases decide (x.name = emptyS) <;> cases decide (x.kids.length = 2) <;> exact fin _
      rw [show (x.kind == 3) = false by simp [k3], cond_false]
      by_cases k4 : x.kind = 4
      · rw [show (x.kind == 4) = true by simp [k4], cond_true]
        rw [show tyForm x.kind x.name x.kids.length = (decide (x.name = emptyS) && decide (x.kids.length = 1)) by simp only [tyForm, k4, if_neg (show ¬ (4 : Int) = 1 by decide), if_neg (show ¬ (4 : Int) = 2 by decide), if_neg (show ¬ (4 : Int) = 3 by decide), if_pos]]
        cases decide (x.name = emptyS) <;> cases decide (x.kids.length = 1) <;> exact fin _
      rw [show (x.kind == 4) = false by simp [k4], cond_false, show tyForm x.kind x.name x.kids.length = false by simp [tyForm, k1, k2, k3, k4]]
      exact fin _
theorem p_iValidType (x : DType) (hb : szType x ≤ 1048576) : m_impl_ValidType x = some (validTy x) := by
  unfold m_impl_ValidType validTy
  have h := tySize_le x
  obtain ⟨r, e, h1, h2⟩ := p_iShape _ x (Nat.le_refl _) (by omega)
  rw [e, Option.bind_some, h1]
  cases ho : tyOk x with
  | false => rfl
  | true =>
    obtain ⟨e1, e2⟩ := h2 ho
    rw [e1, e2, cond_true, Bool.true_and]
    rw [show decide ((tyDepth x : Int) ≤ 6) = decide (tyDepth x ≤ 6) from decide_eq_decide.2 (by omega), show decide ((tySize x : Int) ≤ 16) = decide (tySize x ≤ 16) from decide_eq_decide.2 (by omega)]
    cases decide (tyDepth x ≤ 6) <;> rfl
end
section
open Go.RowKit
set_option linter.unusedVariables false
set_option linter.unusedSimpArgs false
def foldN {σ : Type} (step : Nat → σ → Option σ) : Nat → Nat → σ → Option σ
  | 0, _, s => some s
  | m + 1, k, s => (step k s).bind (foldN step m (k + 1))
/-- A loop that carries a state and may stop. -/
theorem foldR {σ τ β : Type} {n : Nat} {L : Nat → τ → Int → Option β} {R : Nat → τ → σ → Prop} {step : Nat → σ → Option σ} {K : τ → Option β} {z : Option β}
    (h : ∀ g k t s, k < n → R k t s → match step k s with | none => L (g + 1) t (k : Int) = z | some s' => ∃ t', R (k + 1) t' s' ∧ L (g + 1) t (k : Int) = L g t' ((k : Int) + 1))
    (he : ∀ g t, L (g + 1) t (n : Int) = K t) (g : Nat) (t : τ) (s : σ) (hg : n < g) (hR : R 0 t s) :
    match foldN step n 0 s with | none => L g t 0 = z | some s' => ∃ t', R n t' s' ∧ L g t 0 = K t' := by
  have key : ∀ (m k g : Nat) (t : τ) (s : σ), k + m = n → m < g → R k t s → match foldN step m k s with | none => L g t (k : Int) = z | some s' => ∃ t', R n t' s' ∧ L g t (k : Int) = K t' := by
    intro m
    induction m with
    | zero =>
      intro k g t s hk hg hR
      obtain ⟨g, rfl⟩ : ∃ g', g = g' + 1 := ⟨g - 1, by omega⟩
      obtain rfl : k = n := by omega
      exact ⟨t, hR, he g t⟩
    | succ m ih =>
      intro k g t s hk hg hR
      obtain ⟨g, rfl⟩ : ∃ g', g = g' + 1 := ⟨g - 1, by omega⟩
      have h1 := h g k t s (by omega) hR
      unfold foldN
      cases hs : step k s with
      | none => rw [hs] at h1; exact h1
      | some s' =>
        rw [hs] at h1
        obtain ⟨t', hR', e⟩ := h1
        have h2 := ih (k + 1) g t' s' (by omega) (by omega) hR'
        rw [Option.bind_some]
        cases hf : foldN step m (k + 1) s' with
        | none => rw [hf] at h2; exact e.trans h2
        | some s2 => rw [hf] at h2; obtain ⟨t2, hR2, e2⟩ := h2; exact ⟨t2, hR2, e.trans e2⟩
  exact key n 0 g t s (by omega) hg hR
theorem foldN_step {σ : Type} {step : Nat → σ → Option σ} : ∀ {m k : Nat} {s s' : σ}, foldN step m k s = some s' → ∀ j, k ≤ j → j < k + m → ∃ t t', step j t = some t'
  | 0, k, s, s', h, j, h1, h2 => by omega
  | m + 1, k, s, s', h, j, h1, h2 => by
    unfold foldN at h
    cases hs : step k s with
    | none => rw [hs] at h; cases h
    | some s2 =>
      rw [hs, Option.bind_some] at h
      by_cases hj : j = k
      · exact ⟨s, s2, hj ▸ hs⟩
      · exact foldN_step h j (by omega) (by omega)
theorem DType.kid_lt2 {x y : DType} (h : y ∈ x.kids) : SizeOf.sizeOf y + 2 ≤ SizeOf.sizeOf x := by
  obtain ⟨k, n, ks⟩ := x
  have := List.sizeOf_lt_of_mem h
  simp only [DType.mk.sizeOf_spec]
  simp only at this
  omega
def hasD (ds : List DData) (n : ByteArray) : Bool := ds.any fun x => decide (x.name = n)
theorem p_sNamed (ds : List DData) (n : ByteArray) : m_spec_l02Named ds n = some (idxD ds fun x => decide (x.name = n)) := by
  unfold m_spec_l02Named
  exact idxK (L := m_spec_l02Named_L1 ds n m_spec_l02Named_A1) (d := ds)
    (fun g k hk => by simp -implicitDefEqProofs only [m_spec_l02Named_L1, m_spec_l02Named_B1, dlt hk, cond_true, getI_lt hk, Option.bind_some, nameEq])
    (fun g => by simp -implicitDefEqProofs only [m_spec_l02Named_L1, m_spec_l02Named_B1, dge, cond_false, m_spec_l02Named_A1]) _ (Nat.lt_succ_self _)
theorem p_iFind (ds : List DData) (n : ByteArray) : m_impl_findData ds n = some (idxD ds fun x => decide (x.name = n)) := by
  unfold m_impl_findData m_slices_IndexFunc_impl_Data_impl_Data
  rw [idxK (L := m_slices_IndexFunc_impl_Data_impl_Data_L1 ds (fun x0 => m_impl_findData_1 x0 n) m_slices_IndexFunc_impl_Data_impl_Data_A1) (d := ds) (p := fun x => decide (x.name = n))
    (fun g k hk => by simp -implicitDefEqProofs only [m_slices_IndexFunc_impl_Data_impl_Data_L1, m_slices_IndexFunc_impl_Data_impl_Data_B1, dlt hk, cond_true, getI_lt hk, Option.bind_some, m_impl_findData_1, nameEq])
    (fun g => by simp -implicitDefEqProofs only [m_slices_IndexFunc_impl_Data_impl_Data_L1, m_slices_IndexFunc_impl_Data_impl_Data_B1, dge, cond_false, m_slices_IndexFunc_impl_Data_impl_Data_A1]) _ (Nat.lt_succ_self _)]
  rfl
theorem p_contT {d : List DType} {f : DType → Option Bool} {p : DType → Bool} (h : ∀ x ∈ d, f x = some (p x)) : m_slices_ContainsFunc_impl_Type_impl_Type d f = some (d.any p) := by
  unfold m_slices_ContainsFunc_impl_Type_impl_Type m_slices_IndexFunc_impl_Type_impl_Type
  rw [idxK (L := m_slices_IndexFunc_impl_Type_impl_Type_L1 d f m_slices_IndexFunc_impl_Type_impl_Type_A1) (d := d) (p := p)
    (fun g k hk => by simp -implicitDefEqProofs only [m_slices_IndexFunc_impl_Type_impl_Type_L1, m_slices_IndexFunc_impl_Type_impl_Type_B1, dlt hk, cond_true, getI_lt hk, Option.bind_some, h _ (List.getElem_mem hk)])
    (fun g => by simp -implicitDefEqProofs only [m_slices_IndexFunc_impl_Type_impl_Type_L1, m_slices_IndexFunc_impl_Type_impl_Type_B1, dge, cond_false, m_slices_IndexFunc_impl_Type_impl_Type_A1]) _ (Nat.lt_succ_self _)]
  rw [Option.bind_some, idxD_ge]
theorem not_any_not {α : Type} (d : List α) (p : α → Bool) : (!(d.any fun x => !p x)) = d.all p := by
  rw [List.not_any_eq_all_not]
  simp
mutual
def knownD (ds : List DData) : DType → Bool
  | ⟨k, n, ks⟩ => (if k = 2 then hasD ds n else true) && knownL ds ks
def knownL (ds : List DData) : List DType → Bool
  | [] => true
  | x :: xs => knownD ds x && knownL ds xs
end
theorem knownL_eq (ds : List DData) : ∀ xs : List DType, knownL ds xs = xs.all (knownD ds)
  | [] => by rw [knownL]; rfl
  | x :: xs => by rw [knownL, knownL_eq ds xs, List.all_cons]
theorem knownD_eq (ds : List DData) (x : DType) : knownD ds x = ((if x.kind = 2 then hasD ds x.name else true) && x.kids.all (knownD ds)) := by
  obtain ⟨a, b, c⟩ := x
  rw [knownD, knownL_eq]
theorem p_sKnown (ds : List DData) : ∀ (gas : Nat) (x : DType), SizeOf.sizeOf x ≤ gas → tyOk x = true → m_spec_l02Known gas ds x = some (knownD ds x)
  | 0, x, h, _ => by have := x.pos; omega
  | gas + 1, x, hg, ho => by
    have ih := p_sKnown ds gas
    have e : m_spec_l02Known (gas + 1) ds x = m_spec_l02Known_R (m_spec_l02Known gas) ds x := rfl
    rw [e, knownD_eq]
    unfold m_spec_l02Known_R
    rw [tyOk_eq, tyOkL_eq, Bool.and_eq_true] at ho
    by_cases k2 : x.kind = 2
    · rw [show (x.kind == 2) = true by simp [k2], cond_true, p_sNamed, Option.bind_some, idxD_ge, if_pos k2]
      have hk : x.kids = [] := by
        rcases form_len ho.1 with h | h | h | h
        · omega
        · exact List.length_eq_zero_iff.1 h.2.2.2
        · omega
        · omega
      rw [hk, List.all_nil, Bool.and_true]; rfl
    · rw [show (x.kind == 2) = false by simp [k2], cond_false, if_neg k2, Bool.true_and]
      have hall := List.all_eq_true.1 ho.2
      have key := allK (L := m_spec_l02Known_L1 ds x (m_spec_l02Known gas) m_spec_l02Known_A1) (d := x.kids) (p := knownD ds) (K := some true) (z := some false)
        (fun g k hk => by
          have hm := List.getElem_mem hk
          simp -implicitDefEqProofs only [m_spec_l02Known_L1, m_spec_l02Known_B1, dlt hk, cond_true, getI_lt hk, Option.bind_some, ih _ (by have := DType.kid_lt hm; omega) (hall _ hm)])
        (fun g => by simp -implicitDefEqProofs only [m_spec_l02Known_L1, m_spec_l02Known_B1, dge, cond_false, m_spec_l02Known_A1]) _ (Nat.lt_succ_self _)
      rw [key]
      cases x.kids.all (knownD ds) <;> rfl
theorem p_iDecl (ds : List DData) : ∀ (gas : Nat) (x : DType), SizeOf.sizeOf x ≤ gas → m_impl_declared gas ds x = some (knownD ds x) := by
  intro gas
  induction gas using Nat.strongRecOn with
  | ind gas ih =>
    intro x hg
    have hp := x.pos
    obtain ⟨gas, rfl⟩ : ∃ g', gas = g' + 1 := ⟨gas - 1, by omega⟩
    have e : m_impl_declared (gas + 1) ds x = m_impl_declared_R (m_impl_declared gas) (m_impl_declared_1 gas) ds x := rfl
    have hk : ∀ y ∈ x.kids, m_impl_declared_1 gas y ds = some (!knownD ds y) := fun y hy => by
      have h1 := DType.kid_lt2 hy
      have h2 := y.pos
      obtain ⟨g, rfl⟩ : ∃ g', gas = g' + 1 := ⟨gas - 1, by omega⟩
      have e2 : m_impl_declared_1 (g + 1) y ds = m_impl_declared_1_R (m_impl_declared g) (m_impl_declared_1 g) y ds := rfl
      rw [e2]
      unfold m_impl_declared_1_R
      rw [ih g (by omega) y (by omega), Option.bind_some]
    rw [e, knownD_eq]
    unfold m_impl_declared_R
    rw [p_contT (p := fun y => !knownD ds y) hk, Option.bind_some, not_any_not]
    by_cases k2 : x.kind = 2
    · rw [show (x.kind == 2) = true by simp [k2], cond_true, p_iFind, Option.bind_some, idxD_lt, if_pos k2]
      unfold hasD
      cases ds.any fun y => decide (y.name = x.name) <;> rfl
    · rw [show (x.kind == 2) = false by simp [k2], cond_false, if_neg k2, Bool.true_and]
def conOk (ds : List DData) (c : DConstructor) : Bool := upperD c.name && (decide (c.fields.length ≤ 3) && c.fields.all fun t => validTy t && knownD ds t)
theorem szS_mem {xs : List DType} {t : DType} (hs : szTypeS xs ≤ 1048576) (ht : t ∈ xs) : szType t ≤ 1048576 := by
  rw [szTypeS_eq] at hs
  have := sum_mem (f := szType) ht
  omega
theorem validTy_ok {t : DType} (h : validTy t = true) : tyOk t = true := by unfold validTy at h; rw [Bool.and_eq_true] at h; exact h.1
theorem p_sCons (ds : List DData) (c : DConstructor) (hs : szTypeS c.fields ≤ 1048576) : m_spec_l02Cons ds c = some (conOk ds c) := by
  unfold m_spec_l02Cons conOk
  rw [p_sUpper, Option.bind_some]
  have key := allK (L := m_spec_l02Cons_L1 ds c m_spec_l02Cons_A1) (d := c.fields) (p := fun t => validTy t && knownD ds t) (K := some true) (z := some false)
    (fun g k hk => by
      have hm := List.getElem_mem hk
      simp -implicitDefEqProofs only [m_spec_l02Cons_L1, m_spec_l02Cons_B1, dlt hk, cond_true, getI_lt hk, Option.bind_some, p_sValidType _ (szS_mem hs hm)]
      cases hv : validTy c.fields[k] with
      | false => rfl
      | true => rw [cond_true, p_sKnown ds _ _ (Nat.le_refl _) (validTy_ok hv), Option.bind_some]; rfl)
    (fun g => by simp -implicitDefEqProofs only [m_spec_l02Cons_L1, m_spec_l02Cons_B1, dge, cond_false, m_spec_l02Cons_A1]) _ (Nat.lt_succ_self _)
  rw [key]
  rw [show decide ((c.fields.length : Int) > 3) = !decide (c.fields.length ≤ 3) by rw [← decide_not]; exact decide_eq_decide.2 (by omega)]
  cases upperD c.name <;> cases decide (c.fields.length ≤ 3) <;> cases (c.fields.all fun t => validTy t && knownD ds t) <;> rfl
theorem p_iCons (ds : List DData) (c : DConstructor) (hs : szTypeS c.fields ≤ 1048576) : m_impl_validConstructor ds c = some (conOk ds c) := by
  unfold m_impl_validConstructor conOk
  rw [p_iUpper, Option.bind_some]
  rw [p_contT (p := fun t => !(validTy t && knownD ds t)) (fun t ht => by
    show m_impl_validConstructor_1 t ds = _
    unfold m_impl_validConstructor_1
    rw [p_iValidType _ (szS_mem hs ht), Option.bind_some, p_iDecl ds _ _ (Nat.le_refl _), Option.bind_some]
    cases validTy t <;> rfl), Option.bind_some, not_any_not]
  rw [show decide ((c.fields.length : Int) > 3) = !decide (c.fields.length ≤ 3) by rw [← decide_not]; exact decide_eq_decide.2 (by omega)]
  cases upperD c.name <;> cases decide (c.fields.length ≤ 3) <;> cases (c.fields.all fun t => validTy t && knownD ds t) <;> rfl
def stepC (ds : List DData) (cs : List DConstructor) (k : Nat) (names : List ByteArray) : Option (List ByteArray) :=
  match cs[k]? with
  | none => none
  | some c => bif conOk ds c && !(names.any fun x => decide (x = c.name)) then some (names ++ [c.name]) else none
def okD (ds : List DData) (i : Nat) (d : DData) : Bool := upperD d.name && (!decide (d.name = intS) && (!((ds.take i).any fun x => decide (x.name = d.name)) && (decide (1 ≤ d.cons.length) && decide (d.cons.length ≤ 4))))
def stepD (ds : List DData) (i : Nat) (names : List ByteArray) : Option (List ByteArray) :=
  match ds[i]? with
  | none => none
  | some d => bif okD ds i d then foldN (stepC ds d.cons) d.cons.length 0 names else none
theorem stepC_at {ds : List DData} {cs : List DConstructor} {k : Nat} (hk : k < cs.length) (names : List ByteArray) : stepC ds cs k names = bif conOk ds cs[k] && !(names.any fun x => decide (x = cs[k].name)) then some (names ++ [cs[k].name]) else none := by
  unfold stepC; rw [List.getElem?_eq_getElem hk]
theorem stepD_at {ds : List DData} {i : Nat} (hi : i < ds.length) (names : List ByteArray) : stepD ds i names = bif okD ds i ds[i] then foldN (stepC ds ds[i].cons) ds[i].cons.length 0 names else none := by
  unfold stepD; rw [List.getElem?_eq_getElem hi]
def validDs (ds : List DData) : Bool := decide (ds.length ≤ 4) && (foldN (stepD ds) ds.length 0 []).isSome
theorem validDs_name {ds : List DData} (h : validDs ds = true) {n : ByteArray} (hn : hasD ds n = true) : upperD n = true ∧ n ≠ intS := by
  unfold validDs at h
  rw [Bool.and_eq_true, Option.isSome_iff_exists] at h
  obtain ⟨_, s, hf⟩ := h
  unfold hasD at hn
  rw [List.any_eq_true] at hn
  obtain ⟨x, hx, he⟩ := hn
  have he := of_decide_eq_true he
  obtain ⟨j, hj, rfl⟩ := List.getElem_of_mem hx
  obtain ⟨t, t', h1⟩ := foldN_step hf j (Nat.zero_le _) (by omega)
  unfold stepD at h1
  rw [List.getElem?_eq_getElem hj] at h1
  simp only at h1
  cases ho : okD ds j ds[j] with
  | false => rw [ho] at h1; cases h1
  | true =>
    unfold okD at ho
    simp only [Bool.and_eq_true, Bool.not_eq_true', decide_eq_false_iff_not] at ho
    rw [he] at ho
    exact ⟨ho.1, ho.2.1⟩
theorem szCon_fields {cs : List DConstructor} (hs : szConstructorS cs ≤ 1048576) {k : Nat} (hk : k < cs.length) : szTypeS cs[k].fields ≤ 1048576 := by
  have := sum_mem (f := szConstructor) (List.getElem_mem hk)
  have e : szConstructor cs[k] = cs[k].name.size + szTypeS cs[k].fields := rfl
  unfold szConstructorS at hs
  omega
theorem szDat_cons {ds : List DData} (hs : szDataS ds ≤ 1048576) {k : Nat} (hk : k < ds.length) : szConstructorS ds[k].cons ≤ 1048576 := by
  have := sum_mem (f := szData) (List.getElem_mem hk)
  have e : szData ds[k] = ds[k].name.size + szConstructorS ds[k].cons := rfl
  unfold szDataS at hs
  omega
theorem szCon_len {cs : List DConstructor} (hs : szConstructorS cs ≤ 1048576) : cs.length ≤ 1048576 := by unfold szConstructorS at hs; omega
theorem sNames {g : Nat} {x : DData} {names : List ByteArray} {k : Nat} {c : DConstructor} (hc : x.cons[k]? = some c) (K : Option Bool) (hg : names.length < g) :
    m_spec_l02Ok_L3 x names (k : Int) K g 0 = bif names.all (fun y => !decide (y = c.name)) then K else some false :=
  allK (L := m_spec_l02Ok_L3 x names (k : Int) K) (d := names) (p := fun y => !decide (y = c.name)) (K := K) (z := some false)
    (fun g j hj => by
      simp -implicitDefEqProofs only [m_spec_l02Ok_L3, m_spec_l02Ok_B3, dlt hj, cond_true, getI_lt hj, getI_nat hc, Option.bind_some, nameEq]
      cases decide (names[j] = c.name) <;> rfl)
    (fun g => by simp -implicitDefEqProofs only [m_spec_l02Ok_L3, m_spec_l02Ok_B3, dge, cond_false]) g hg
theorem p_sOk (ds : List DData) (hs : szDataS ds ≤ 1048576) : m_spec_l02Ok ds = some (validDs ds) := by
  unfold m_spec_l02Ok validDs
  rw [show decide ((ds.length : Int) > 4) = !decide (ds.length ≤ 4) by rw [← decide_not]; exact decide_eq_decide.2 (by omega)]
  rcases Nat.lt_or_ge 4 ds.length with hl4 | hl4
  · rw [decide_eq_false (show ¬ ds.length ≤ 4 by omega)]; rfl
  rw [decide_eq_true hl4, Bool.true_and]
  have key := foldR (n := ds.length) (L := m_spec_l02Ok_L1 ds m_spec_l02Ok_A1) (R := fun i t s => t = s ∧ s.length ≤ 4 * i) (step := stepD ds) (K := fun _ => some true) (z := some false)
    (fun g i t s hi hR => by
      obtain ⟨rfl, hsl⟩ := hR
      have e : m_spec_l02Ok_L1 ds m_spec_l02Ok_A1 (g + 1) t (i : Int) = m_spec_l02Ok_B1 ds (m_spec_l02Ok_L1 ds m_spec_l02Ok_A1 g) m_spec_l02Ok_A1 t (i : Int) := rfl
      have hc := szDat_cons hs hi
      have hlc := szCon_len hc
      rw [e]
      unfold m_spec_l02Ok_B1
      rw [stepD_at hi, dlt hi, cond_true, getI_lt hi, Option.bind_some, p_sUpper, Option.bind_some, nameEq, p_sNamed, Option.bind_some, idxD_take ds _ i hi (by simp)]
      rw [show decide ((ds[i].cons.length : Int) < 1) = !decide (1 ≤ ds[i].cons.length) by rw [← decide_not]; exact decide_eq_decide.2 (by omega)]
      rw [show decide ((ds[i].cons.length : Int) > 4) = !decide (ds[i].cons.length ≤ 4) by rw [← decide_not]; exact decide_eq_decide.2 (by omega)]
      unfold okD
      cases upperD ds[i].name with
      | false => rfl
      | true =>
      cases hint : decide (ds[i].name = intS) with
      | true => rfl
      | false =>
      cases (ds.take i).any fun x => decide (x.name = ds[i].name) with
      | true => rfl
      | false =>
      cases decide (1 ≤ ds[i].cons.length) with
      | false => rfl
      | true =>
      cases h4 : decide (ds[i].cons.length ≤ 4) with
      | false => rfl
      | true =>
      have h4 := of_decide_eq_true h4
      have k2 := foldR (n := ds[i].cons.length) (L := m_spec_l02Ok_L2 ds ds[i] (m_spec_l02Ok_A2 (m_spec_l02Ok_L1 ds m_spec_l02Ok_A1 g) (i : Int))) (R := fun k t s => t = s ∧ s.length ≤ 4 * i + k) (step := stepC ds ds[i].cons) (K := m_spec_l02Ok_A2 (m_spec_l02Ok_L1 ds m_spec_l02Ok_A1 g) (i : Int)) (z := some false)
        (fun g2 k t s hk hR => by
          obtain ⟨rfl, hsl2⟩ := hR
          have e2 : m_spec_l02Ok_L2 ds ds[i] (m_spec_l02Ok_A2 (m_spec_l02Ok_L1 ds m_spec_l02Ok_A1 g) (i : Int)) (g2 + 1) t (k : Int) = m_spec_l02Ok_B2 ds ds[i] (m_spec_l02Ok_L2 ds ds[i] (m_spec_l02Ok_A2 (m_spec_l02Ok_L1 ds m_spec_l02Ok_A1 g) (i : Int)) g2) (m_spec_l02Ok_A2 (m_spec_l02Ok_L1 ds m_spec_l02Ok_A1 g) (i : Int)) t (k : Int) := rfl
          rw [e2]
          unfold m_spec_l02Ok_B2
          have hck := List.getElem?_eq_getElem hk
          rw [stepC_at hk, dlt hk, cond_true, getI_lt hk, Option.bind_some, p_sCons ds _ (szCon_fields hc hk), Option.bind_some, sNames hck _ (Nat.lt_succ_self _), List.not_any_eq_all_not]
          cases conOk ds ds[i].cons[k] with
          | false => rfl
          | true =>
            cases t.all fun y => !decide (y = ds[i].cons[k].name) with
            | false => rfl
            | true =>
              refine ⟨t ++ [ds[i].cons[k].name], ⟨rfl, by simp; omega⟩, ?_⟩
              show m_spec_l02Ok_A3 _ _ _ _ = _
              unfold m_spec_l02Ok_A3
              rw [getI_lt hk, Option.bind_some, mustP_ok (by rw [List.length_singleton]; omega), Option.bind_some, ck_ok (by omega), Option.bind_some])
        (fun g2 t => by
          have e2 : m_spec_l02Ok_L2 ds ds[i] (m_spec_l02Ok_A2 (m_spec_l02Ok_L1 ds m_spec_l02Ok_A1 g) (i : Int)) (g2 + 1) t (ds[i].cons.length : Int) = m_spec_l02Ok_B2 ds ds[i] (m_spec_l02Ok_L2 ds ds[i] (m_spec_l02Ok_A2 (m_spec_l02Ok_L1 ds m_spec_l02Ok_A1 g) (i : Int)) g2) (m_spec_l02Ok_A2 (m_spec_l02Ok_L1 ds m_spec_l02Ok_A1 g) (i : Int)) t (ds[i].cons.length : Int) := rfl
          rw [e2]
          unfold m_spec_l02Ok_B2
          rw [dge, cond_false]) (ds[i].cons.length + 1) t t (Nat.lt_succ_self _) ⟨rfl, by omega⟩
      simp -implicitDefEqProofs only [cond_true, cond_false, Bool.not_true, Bool.not_false, Bool.and_self]
      cases hf : foldN (stepC ds ds[i].cons) ds[i].cons.length 0 t with
      | none => rw [hf] at k2; exact k2
      | some s' =>
        rw [hf] at k2
        obtain ⟨t', ⟨rfl, hl'⟩, e3⟩ := k2
        refine ⟨t', ⟨rfl, by omega⟩, e3.trans ?_⟩
        unfold m_spec_l02Ok_A2
        rw [ck_ok (by omega), Option.bind_some])
    (fun g t => by
      have e : m_spec_l02Ok_L1 ds m_spec_l02Ok_A1 (g + 1) t (ds.length : Int) = m_spec_l02Ok_B1 ds (m_spec_l02Ok_L1 ds m_spec_l02Ok_A1 g) m_spec_l02Ok_A1 t (ds.length : Int) := rfl
      rw [e]
      unfold m_spec_l02Ok_B1
      rw [dge, cond_false]; rfl) (ds.length + 1) [] [] (Nat.lt_succ_self _) ⟨rfl, by simp⟩
  rw [Bool.not_true, cond_false]
  cases hf : foldN (stepD ds) ds.length 0 [] with
  | none => rw [hf] at key; exact key
  | some s' => rw [hf] at key; obtain ⟨_, _, e⟩ := key; exact e
theorem look_put {z : MapM ByteArray Bool} {names : List ByteArray} (h : ∀ n, z.look n false = names.any fun x => decide (x = n)) (c : ByteArray) : ∀ n, (z.put c true).look n false = (names ++ [c]).any fun x => decide (x = n) := by
  intro n
  rw [List.any_append, ← h n]
  unfold MapM.put MapM.look
  simp only [List.any_cons, List.any_nil, Bool.or_false]
  by_cases e : n = c
  · rw [if_pos e, decide_eq_true e.symm]; simp
  · rw [if_neg e, decide_eq_false (fun e2 => e e2.symm)]; simp
theorem p_iOk (ds : List DData) (hs : szDataS ds ≤ 1048576) : m_impl_ValidDatas ds = some (validDs ds) := by
  unfold m_impl_ValidDatas validDs
  rw [show decide ((ds.length : Int) > 4) = !decide (ds.length ≤ 4) by rw [← decide_not]; exact decide_eq_decide.2 (by omega)]
  rcases Nat.lt_or_ge 4 ds.length with hl4 | hl4
  · rw [decide_eq_false (show ¬ ds.length ≤ 4 by omega)]; rfl
  rw [decide_eq_true hl4, Bool.true_and]
  have key := foldR (n := ds.length) (L := fun g t i => m_impl_ValidDatas_L1 ds m_impl_ValidDatas_A1 g i t) (R := fun i t s => (∀ n, t.look n false = s.any fun x => decide (x = n)) ∧ t.n = s.length ∧ s.length ≤ 4 * i) (step := stepD ds) (K := fun _ => some true) (z := some false)
    (fun g i t s hi hR => by
      obtain ⟨hlook, hn, hsl⟩ := hR
      have e : m_impl_ValidDatas_L1 ds m_impl_ValidDatas_A1 (g + 1) (i : Int) t = m_impl_ValidDatas_B1 ds (m_impl_ValidDatas_L1 ds m_impl_ValidDatas_A1 g) m_impl_ValidDatas_A1 (i : Int) t := rfl
      have hc := szDat_cons hs hi
      have hlc := szCon_len hc
      rw [e]
      unfold m_impl_ValidDatas_B1
      rw [stepD_at hi, dlt hi, cond_true, getI_lt hi, Option.bind_some, p_iUpper, Option.bind_some, nameEq, mustP_ok ⟨by omega, by simp; omega⟩, Option.bind_some, p_iFind, Option.bind_some, idxD_ge, Int.toNat_natCast]
      rw [show decide ((ds[i].cons.length : Int) < 1) = !decide (1 ≤ ds[i].cons.length) by rw [← decide_not]; exact decide_eq_decide.2 (by omega)]
      rw [show decide ((ds[i].cons.length : Int) > 4) = !decide (ds[i].cons.length ≤ 4) by rw [← decide_not]; exact decide_eq_decide.2 (by omega)]
      unfold okD
      cases upperD ds[i].name with
      | false => rfl
      | true =>
      cases hint : decide (ds[i].name = intS) with
      | true => rfl
      | false =>
      cases (ds.take i).any fun x => decide (x.name = ds[i].name) with
      | true => rfl
      | false =>
      cases decide (1 ≤ ds[i].cons.length) with
      | false => rfl
      | true =>
      cases h4 : decide (ds[i].cons.length ≤ 4) with
      | false => rfl
      | true =>
      have h4 := of_decide_eq_true h4
      have k2 := foldR (n := ds[i].cons.length) (L := fun g2 t k => m_impl_ValidDatas_L2 ds ds[i] (m_impl_ValidDatas_A2 (m_impl_ValidDatas_L1 ds m_impl_ValidDatas_A1 g) (i : Int)) g2 k t) (R := fun k t s => (∀ n, t.look n false = s.any fun x => decide (x = n)) ∧ t.n = s.length ∧ s.length ≤ 4 * i + k) (step := stepC ds ds[i].cons) (K := m_impl_ValidDatas_A2 (m_impl_ValidDatas_L1 ds m_impl_ValidDatas_A1 g) (i : Int)) (z := some false)
        (fun g2 k t s hk hR => by
          obtain ⟨hlook, hn, hsl2⟩ := hR
          have e2 : m_impl_ValidDatas_L2 ds ds[i] (m_impl_ValidDatas_A2 (m_impl_ValidDatas_L1 ds m_impl_ValidDatas_A1 g) (i : Int)) (g2 + 1) (k : Int) t = m_impl_ValidDatas_B2 ds ds[i] (m_impl_ValidDatas_L2 ds ds[i] (m_impl_ValidDatas_A2 (m_impl_ValidDatas_L1 ds m_impl_ValidDatas_A1 g) (i : Int)) g2) (m_impl_ValidDatas_A2 (m_impl_ValidDatas_L1 ds m_impl_ValidDatas_A1 g) (i : Int)) (k : Int) t := rfl
          rw [e2]
          unfold m_impl_ValidDatas_B2
          rw [stepC_at hk, dlt hk, cond_true, getI_lt hk, Option.bind_some, p_iCons ds _ (szCon_fields hc hk), Option.bind_some]
          cases ho : conOk ds ds[i].cons[k] with
          | false => rfl
          | true =>
            have hup : ds[i].cons[k].name.size ≤ maxLen := by
              unfold conOk at ho
              rw [Bool.and_eq_true] at ho
              have := upperD_size ho.1
              unfold maxLen; omega
            rw [cond_true, mustP_ok hup, Option.bind_some, hlook]
            cases hany : s.any fun x => decide (x = ds[i].cons[k].name) with
            | true => rfl
            | false =>
              rw [cond_false, Option.bind_some, mustP_ok (by omega), Option.bind_some]
              exact ⟨t.put ds[i].cons[k].name true, ⟨look_put hlook _, by show t.n + 1 = _; simp; omega, by simp; omega⟩, rfl⟩)
        (fun g2 t => by
          have e2 : m_impl_ValidDatas_L2 ds ds[i] (m_impl_ValidDatas_A2 (m_impl_ValidDatas_L1 ds m_impl_ValidDatas_A1 g) (i : Int)) (g2 + 1) (ds[i].cons.length : Int) t = m_impl_ValidDatas_B2 ds ds[i] (m_impl_ValidDatas_L2 ds ds[i] (m_impl_ValidDatas_A2 (m_impl_ValidDatas_L1 ds m_impl_ValidDatas_A1 g) (i : Int)) g2) (m_impl_ValidDatas_A2 (m_impl_ValidDatas_L1 ds m_impl_ValidDatas_A1 g) (i : Int)) (ds[i].cons.length : Int) t := rfl
          rw [e2]
          unfold m_impl_ValidDatas_B2
          rw [dge, cond_false]) (ds[i].cons.length + 1) t s (Nat.lt_succ_self _) ⟨hlook, hn, by omega⟩
      simp -implicitDefEqProofs only [cond_true, cond_false, Bool.not_true, Bool.not_false, Bool.and_self]
      cases hf : foldN (stepC ds ds[i].cons) ds[i].cons.length 0 s with
      | none => rw [hf] at k2; exact k2
      | some s' =>
        rw [hf] at k2
        obtain ⟨t', ⟨hlook', hn', hl'⟩, e3⟩ := k2
        refine ⟨t', ⟨hlook', hn', by omega⟩, e3.trans ?_⟩
        unfold m_impl_ValidDatas_A2
        rw [ck_ok (by omega), Option.bind_some])
    (fun g t => by
      have e : m_impl_ValidDatas_L1 ds m_impl_ValidDatas_A1 (g + 1) (ds.length : Int) t = m_impl_ValidDatas_B1 ds (m_impl_ValidDatas_L1 ds m_impl_ValidDatas_A1 g) m_impl_ValidDatas_A1 (ds.length : Int) t := rfl
      rw [e]
      unfold m_impl_ValidDatas_B1
      rw [dge, cond_false]; rfl) (ds.length + 1) MapM.empty [] (Nat.lt_succ_self _) ⟨fun n => rfl, rfl, by simp⟩
  rw [Bool.not_true, cond_false]
  cases hf : foldN (stepD ds) ds.length 0 [] with
  | none => rw [hf] at key; exact key
  | some s' => rw [hf] at key; obtain ⟨_, _, e⟩ := key; exact e
mutual
def simpleD (ds : List DData) : DType → Bool
  | ⟨k, n, ks⟩ => if k = 1 then decide (n = emptyS) && decide (ks.length = 0) else if k = 2 then decide (ks.length = 0) && hasD ds n else if k = 3 then decide (n = emptyS) && (decide (ks.length = 2) && simpleL ds ks) else false
def simpleL (ds : List DData) : List DType → Bool
  | [] => true
  | x :: xs => simpleD ds x && simpleL ds xs
end
theorem simpleL_eq (ds : List DData) : ∀ xs : List DType, simpleL ds xs = xs.all (simpleD ds)
  | [] => by rw [simpleL]; rfl
  | x :: xs => by rw [simpleL, simpleL_eq ds xs, List.all_cons]
theorem simpleD_eq (ds : List DData) (x : DType) : simpleD ds x = if x.kind = 1 then decide (x.name = emptyS) && decide (x.kids.length = 0) else if x.kind = 2 then decide (x.kids.length = 0) && hasD ds x.name else if x.kind = 3 then decide (x.name = emptyS) && (decide (x.kids.length = 2) && x.kids.all (simpleD ds)) else false := by
  obtain ⟨a, b, c⟩ := x
  rw [simpleD, simpleL_eq]
theorem two_kids {xs : List DType} (h : xs.length = 2) : ∃ a b, xs = [a, b] := by
  match xs, h with
  | [a, b], _ => exact ⟨a, b, rfl⟩
theorem p_sSimple (ds : List DData) : ∀ (gas : Nat) (x : DType), SizeOf.sizeOf x ≤ gas → m_spec_l20Simple gas ds x = some (simpleD ds x)
  | 0, x, h => by have := x.pos; omega
  | gas + 1, x, hg => by
    have ih := p_sSimple ds gas
    have e : m_spec_l20Simple (gas + 1) ds x = m_spec_l20Simple_R (m_spec_l20Simple gas) ds x := rfl
    have hk : ∀ y ∈ x.kids, m_spec_l20Simple gas ds y = some (simpleD ds y) := fun y hy => ih y (by have := DType.kid_lt hy; omega)
    have l0 : ((x.kids.length : Int) == 0) = decide (x.kids.length = 0) := by rw [Bool.eq_iff_iff]; simp
    have l2 : ((x.kids.length : Int) == 2) = decide (x.kids.length = 2) := by rw [Bool.eq_iff_iff]; simp; omega
    rw [e, simpleD_eq]
    unfold m_spec_l20Simple_R
    rw [l0, l2, nameEq, p_sNamed, Option.bind_some, idxD_ge]
    by_cases k1 : x.kind = 1
    · rw [show (x.kind == 1) = true by simp [k1], cond_true, if_pos k1]
      cases decide (x.name = emptyS) <;> rfl
    rw [show (x.kind == 1) = false by simp [k1], cond_false, if_neg k1]
    by_cases k2 : x.kind = 2
    · rw [show (x.kind == 2) = true by simp [k2], cond_true, if_pos k2]
      cases decide (x.kids.length = 0) <;> rfl
    rw [show (x.kind == 2) = false by simp [k2], cond_false, if_neg k2]
    by_cases k3 : x.kind = 3
    · rw [show (x.kind == 3) = true by simp [k3], cond_true, if_pos k3]
      cases decide (x.name = emptyS) with
      | false => rfl
      | true =>
        by_cases hl : x.kids.length = 2
        · rw [decide_eq_true hl, cond_true, cond_true]
          obtain ⟨a, b, hab⟩ := two_kids hl
          have ha := hk a (by rw [hab]; simp)
          have hb := hk b (by rw [hab]; simp)
          rw [hab]
          have e0 : getI [a, b] 0 = some a := rfl
          have e1 : getI [a, b] 1 = some b := rfl
          rw [e0, e1, Option.bind_some, ha, Option.bind_some, Option.bind_some, hb, Option.bind_some]
          simp only [List.all_cons, List.all_nil, Bool.and_true, Bool.true_and]
          cases simpleD ds a <;> rfl
        · rw [decide_eq_false hl]; rfl
    rw [show (x.kind == 3) = false by simp [k3], cond_false, if_neg k3]
theorem p_iSimple {ds : List DData} (hv : validDs ds = true) : ∀ (gas : Nat) (x : DType), SizeOf.sizeOf x ≤ gas → m_impl_isSimple gas ds x = some (simpleD ds x)
  | 0, x, h => by have := x.pos; omega
  | gas + 1, x, hg => by
    have ih := p_iSimple hv gas
    have e : m_impl_isSimple (gas + 1) ds x = m_impl_isSimple_R (m_impl_isSimple gas) ds x := rfl
    have hk : ∀ y ∈ x.kids, m_impl_isSimple gas ds y = some (simpleD ds y) := fun y hy => ih y (by have := DType.kid_lt hy; omega)
    have l0 : ((x.kids.length : Int) == 0) = decide (x.kids.length = 0) := by rw [Bool.eq_iff_iff]; simp
    have l2 : ((x.kids.length : Int) == 2) = decide (x.kids.length = 2) := by rw [Bool.eq_iff_iff]; simp; omega
    rw [e, simpleD_eq]
    unfold m_impl_isSimple_R
    rw [l0, l2, nameEq, nameEq, p_iFind, Option.bind_some, idxD_ge, p_iUpper, Option.bind_some]
    by_cases k1 : x.kind = 1
    · rw [show (x.kind == 1) = true by simp [k1], cond_true, if_pos k1]
      cases decide (x.name = emptyS) <;> rfl
    rw [show (x.kind == 1) = false by simp [k1], cond_false, if_neg k1]
    by_cases k2 : x.kind = 2
    · rw [show (x.kind == 2) = true by simp [k2], cond_true, if_pos k2]
      have hn := fun h => validDs_name hv (n := x.name) h
      change (bif decide (x.name = intS) then _ else _) = _
      cases hd : hasD ds x.name with
      | true =>
        obtain ⟨h1, h2⟩ := hn hd
        unfold hasD at hd
        rw [decide_eq_false h2, h1, hd]
        cases decide (x.kids.length = 0) <;> rfl
      | false =>
        unfold hasD at hd
        rw [hd]
        cases decide (x.name = intS) <;> cases upperD x.name <;> cases decide (x.kids.length = 0) <;> rfl
    rw [show (x.kind == 2) = false by simp [k2], cond_false, if_neg k2]
    by_cases k3 : x.kind = 3
    · rw [show (x.kind == 3) = true by simp [k3], cond_true, if_pos k3]
      cases decide (x.name = emptyS) with
      | false => rfl
      | true =>
        by_cases hl : x.kids.length = 2
        · rw [decide_eq_true hl, cond_true, cond_true]
          obtain ⟨a, b, hab⟩ := two_kids hl
          have ha := hk a (by rw [hab]; simp)
          have hb := hk b (by rw [hab]; simp)
          rw [hab]
          have e0 : getI [a, b] 0 = some a := rfl
          have e1 : getI [a, b] 1 = some b := rfl
          rw [e0, e1, Option.bind_some, ha, Option.bind_some, Option.bind_some, hb, Option.bind_some]
          simp only [List.all_cons, List.all_nil, Bool.and_true, Bool.true_and]
          cases simpleD ds a <;> rfl
        · rw [decide_eq_false hl]; rfl
    rw [show (x.kind == 3) = false by simp [k3], cond_false, if_neg k3]
def validSig (x : DSignature) : Bool := validDs x.datas && (decide (x.defs.length ≤ 24) && ((x.datas.all fun d => d.cons.all fun c => c.fields.all (simpleD x.datas)) && x.defs.all (simpleD x.datas)))
theorem szSig_parts {x : DSignature} (hs : szSignature x ≤ 1048576) : szDataS x.datas ≤ 1048576 ∧ szTypeS x.defs ≤ 1048576 := by unfold szSignature at hs; omega
theorem p_sSignature (x : DSignature) (hs : szSignature x ≤ 1048576) : m_spec_l20Signature x = some (validSig x) := by
  obtain ⟨hsd, hst⟩ := szSig_parts hs
  unfold m_spec_l20Signature validSig
  rw [p_sOk _ hsd, Option.bind_some]
  cases hv : validDs x.datas with
  | false => rfl
  | true =>
  have hl4 : x.datas.length ≤ 4 := by unfold validDs at hv; rw [Bool.and_eq_true] at hv; exact of_decide_eq_true hv.1
  rw [cond_true, Bool.true_and, show decide ((x.defs.length : Int) > 24) = !decide (x.defs.length ≤ 24) by rw [← decide_not]; exact decide_eq_decide.2 (by omega)]
  cases decide (x.defs.length ≤ 24) with
  | false => rfl
  | true =>
  simp only [Bool.not_true, cond_false, Bool.true_and]
  have kd : m_spec_l20Signature_A1 x = some (x.defs.all (simpleD x.datas)) := by
    unfold m_spec_l20Signature_A1
    have key := allK (L := m_spec_l20Signature_L2 x m_spec_l20Signature_A2) (d := x.defs) (p := simpleD x.datas) (K := some true) (z := some false)
      (fun g k hk => by simp -implicitDefEqProofs only [m_spec_l20Signature_L2, m_spec_l20Signature_B2, dlt hk, cond_true, getI_lt hk, Option.bind_some, p_sSimple x.datas _ _ (Nat.le_refl _)])
      (fun g => by simp -implicitDefEqProofs only [m_spec_l20Signature_L2, m_spec_l20Signature_B2, dge, cond_false, m_spec_l20Signature_A2]) _ (Nat.lt_succ_self _)
    rw [key]
    cases x.defs.all (simpleD x.datas) <;> rfl
  have key := allK (L := m_spec_l20Signature_L1 x (m_spec_l20Signature_A1 x)) (d := x.datas) (p := fun d => d.cons.all fun c => c.fields.all (simpleD x.datas)) (K := m_spec_l20Signature_A1 x) (z := some false)
    (fun g i hi => by
      have hc := szDat_cons hsd hi
      have hlc := szCon_len hc
      have e : m_spec_l20Signature_L1 x (m_spec_l20Signature_A1 x) (g + 1) (i : Int) = m_spec_l20Signature_B1 x (m_spec_l20Signature_L1 x (m_spec_l20Signature_A1 x) g) (m_spec_l20Signature_A1 x) (i : Int) := rfl
      rw [e]
      unfold m_spec_l20Signature_B1
      rw [dlt hi, cond_true, getI_lt hi, Option.getD_some]
      have k3 := allK (L := m_spec_l20Signature_L3 x (i : Int) (m_spec_l20Signature_A3 (m_spec_l20Signature_L1 x (m_spec_l20Signature_A1 x) g) (i : Int))) (d := x.datas[i].cons) (p := fun c => c.fields.all (simpleD x.datas)) (K := m_spec_l20Signature_A3 (m_spec_l20Signature_L1 x (m_spec_l20Signature_A1 x) g) (i : Int)) (z := some false)
        (fun g2 k hk => by
          have hft := szCon_fields hc hk
          have e2 : m_spec_l20Signature_L3 x (i : Int) (m_spec_l20Signature_A3 (m_spec_l20Signature_L1 x (m_spec_l20Signature_A1 x) g) (i : Int)) (g2 + 1) (k : Int) = m_spec_l20Signature_B3 x (i : Int) (m_spec_l20Signature_L3 x (i : Int) (m_spec_l20Signature_A3 (m_spec_l20Signature_L1 x (m_spec_l20Signature_A1 x) g) (i : Int)) g2) (m_spec_l20Signature_A3 (m_spec_l20Signature_L1 x (m_spec_l20Signature_A1 x) g) (i : Int)) (k : Int) := rfl
          rw [e2]
          unfold m_spec_l20Signature_B3
          rw [getI_lt hi, Option.bind_some, dlt hk, cond_true, Option.getD_some, getI_lt hk, Option.getD_some]
          have k4 := allK (L := m_spec_l20Signature_L4 x (i : Int) (k : Int) (m_spec_l20Signature_A4 (m_spec_l20Signature_L3 x (i : Int) (m_spec_l20Signature_A3 (m_spec_l20Signature_L1 x (m_spec_l20Signature_A1 x) g) (i : Int)) g2) (k : Int))) (d := x.datas[i].cons[k].fields) (p := simpleD x.datas) (K := m_spec_l20Signature_A4 (m_spec_l20Signature_L3 x (i : Int) (m_spec_l20Signature_A3 (m_spec_l20Signature_L1 x (m_spec_l20Signature_A1 x) g) (i : Int)) g2) (k : Int)) (z := some false)
            (fun g3 m hm => by simp -implicitDefEqProofs only [m_spec_l20Signature_L4, m_spec_l20Signature_B4, getI_lt hi, getI_lt hk, dlt hm, cond_true, getI_lt hm, Option.bind_some, p_sSimple x.datas _ _ (Nat.le_refl _)])
            (fun g3 => by simp -implicitDefEqProofs only [m_spec_l20Signature_L4, m_spec_l20Signature_B4, getI_lt hi, getI_lt hk, Option.bind_some, dge, cond_false]) (x.datas[i].cons[k].fields.length + 1) (Nat.lt_succ_self _)
          rw [k4]
          unfold m_spec_l20Signature_A4
          rw [ck_ok (by omega), Option.bind_some])
        (fun g2 => by
          have e2 : m_spec_l20Signature_L3 x (i : Int) (m_spec_l20Signature_A3 (m_spec_l20Signature_L1 x (m_spec_l20Signature_A1 x) g) (i : Int)) (g2 + 1) (x.datas[i].cons.length : Int) = m_spec_l20Signature_B3 x (i : Int) (m_spec_l20Signature_L3 x (i : Int) (m_spec_l20Signature_A3 (m_spec_l20Signature_L1 x (m_spec_l20Signature_A1 x) g) (i : Int)) g2) (m_spec_l20Signature_A3 (m_spec_l20Signature_L1 x (m_spec_l20Signature_A1 x) g) (i : Int)) (x.datas[i].cons.length : Int) := rfl
          rw [e2]
          unfold m_spec_l20Signature_B3
          rw [getI_lt hi, Option.bind_some, dge, cond_false]) (x.datas[i].cons.length + 1) (Nat.lt_succ_self _)
      rw [k3]
      unfold m_spec_l20Signature_A3
      rw [ck_ok (by omega), Option.bind_some])
    (fun g => by
      have e : m_spec_l20Signature_L1 x (m_spec_l20Signature_A1 x) (g + 1) (x.datas.length : Int) = m_spec_l20Signature_B1 x (m_spec_l20Signature_L1 x (m_spec_l20Signature_A1 x) g) (m_spec_l20Signature_A1 x) (x.datas.length : Int) := rfl
      rw [e]
      unfold m_spec_l20Signature_B1
      rw [dge, cond_false]) (x.datas.length + 1) (Nat.lt_succ_self _)
  rw [key, kd]
  cases (x.datas.all fun d => d.cons.all fun c => c.fields.all (simpleD x.datas)) <;> rfl
theorem p_sValidSignature (x : DSignature) (hs : szSignature x ≤ 1048576) : m_spec_ValidSignature x = some (validSig x) := by
  unfold m_spec_ValidSignature
  rw [p_sSignature x hs, Option.bind_some]
theorem p_iValidSignature (x : DSignature) (hs : szSignature x ≤ 1048576) : m_impl_ValidSignature x = some (validSig x) := by
  obtain ⟨hsd, hst⟩ := szSig_parts hs
  unfold m_impl_ValidSignature validSig
  rw [p_iOk _ hsd, Option.bind_some]
  cases hv : validDs x.datas with
  | false => rfl
  | true =>
  have hl4 : x.datas.length ≤ 4 := by unfold validDs at hv; rw [Bool.and_eq_true] at hv; exact of_decide_eq_true hv.1
  rw [cond_true, Bool.true_and, show decide ((x.defs.length : Int) > 24) = !decide (x.defs.length ≤ 24) by rw [← decide_not]; exact decide_eq_decide.2 (by omega)]
  cases decide (x.defs.length ≤ 24) with
  | false => rfl
  | true =>
  simp only [Bool.not_true, cond_false, Bool.true_and]
  have s1 : ∀ t, m_impl_ValidSignature_1 t x = some (!simpleD x.datas t) := fun t => by
    unfold m_impl_ValidSignature_1
    rw [p_iSimple hv _ _ (Nat.le_refl _), Option.bind_some]
  have s2 : ∀ t, m_impl_ValidSignature_2 t x = some (!simpleD x.datas t) := fun t => by
    unfold m_impl_ValidSignature_2
    rw [p_iSimple hv _ _ (Nat.le_refl _), Option.bind_some]
  have kd : m_impl_ValidSignature_A1 x = some (x.defs.all (simpleD x.datas)) := by
    unfold m_impl_ValidSignature_A1
    rw [p_contT (p := fun t => !simpleD x.datas t) (fun t _ => s2 t), Option.bind_some, not_any_not]
  have key := allK (L := m_impl_ValidSignature_L1 x (m_impl_ValidSignature_A1 x)) (d := x.datas) (p := fun d => d.cons.all fun c => c.fields.all (simpleD x.datas)) (K := m_impl_ValidSignature_A1 x) (z := some false)
    (fun g i hi => by
      have e : m_impl_ValidSignature_L1 x (m_impl_ValidSignature_A1 x) (g + 1) (i : Int) = m_impl_ValidSignature_B1 x (m_impl_ValidSignature_L1 x (m_impl_ValidSignature_A1 x) g) (m_impl_ValidSignature_A1 x) (i : Int) := rfl
      rw [e]
      unfold m_impl_ValidSignature_B1
      rw [dlt hi, cond_true, getI_lt hi, Option.bind_some]
      have k3 := allK (L := m_impl_ValidSignature_L2 x x.datas[i] (m_impl_ValidSignature_A2 (m_impl_ValidSignature_L1 x (m_impl_ValidSignature_A1 x) g) (i : Int))) (d := x.datas[i].cons) (p := fun c => c.fields.all (simpleD x.datas)) (K := m_impl_ValidSignature_A2 (m_impl_ValidSignature_L1 x (m_impl_ValidSignature_A1 x) g) (i : Int)) (z := some false)
        (fun g2 k hk => by
          simp -implicitDefEqProofs only [m_impl_ValidSignature_L2, m_impl_ValidSignature_B2, dlt hk, cond_true, getI_lt hk, Option.bind_some]
          rw [p_contT (p := fun t => !simpleD x.datas t) (fun t _ => s1 t), Option.bind_some, ← not_any_not]
          cases (x.datas[i].cons[k].fields.any fun t => !simpleD x.datas t) <;> rfl)
        (fun g2 => by simp -implicitDefEqProofs only [m_impl_ValidSignature_L2, m_impl_ValidSignature_B2, dge, cond_false]) (x.datas[i].cons.length + 1) (Nat.lt_succ_self _)
      rw [k3]
      unfold m_impl_ValidSignature_A2
      rw [ck_ok (by omega), Option.bind_some])
    (fun g => by
      have e : m_impl_ValidSignature_L1 x (m_impl_ValidSignature_A1 x) (g + 1) (x.datas.length : Int) = m_impl_ValidSignature_B1 x (m_impl_ValidSignature_L1 x (m_impl_ValidSignature_A1 x) g) (m_impl_ValidSignature_A1 x) (x.datas.length : Int) := rfl
      rw [e]
      unfold m_impl_ValidSignature_B1
      rw [dge, cond_false]) (x.datas.length + 1) (Nat.lt_succ_self _)
  rw [key, kd]
  cases (x.datas.all fun d => d.cons.all fun c => c.fields.all (simpleD x.datas)) <;> rfl
end
section
open Go.RowKit
set_option linter.unusedVariables false
theorem Blk.only {w w' : World} {g lo hi : Nat} {t : TypeId} {cs : Array Value} (h : Blk w g t cs) (ho : OnlyIn lo hi w w') (hg : g < lo ∨ hi ≤ g) : Blk w' g t cs := (ho.block g hg).trans h
end
section
open Go.RowKit
set_option linter.unusedVariables false
set_option linter.unusedSimpArgs false
theorem portsOf_kind {k f : Int} (h : 0 < portsOf k f) : 1 ≤ k ∧ k ≤ 12 := by
  unfold portsOf at h
  split at h
  · omega
  · split at h
    · omega
    · split at h
      · omega
      · split at h
        · omega
        · split at h <;> omega
structure Good (xs : List DAgent) : Prop where
  one : 1 ≤ xs.length
  len : xs.length ≤ 600
  ok : ∀ (i : Nat) (x : DAgent), xs[i]? = some x → agentOk x = true
  root : ∀ (i : Nat) (x : DAgent), xs[i]? = some x → (x.kind = 1 ↔ i = 0)
  ports : PortsOk xs
theorem good {d : DNet} (h : validNet d = true) : Good d.agents := by
  obtain ⟨⟨h1, h2, h3⟩, h4⟩ := validNet_iff.1 h
  exact ⟨h1, h2, fun i x hx => (h3 i x hx).1, fun i x hx => by have := (h3 i x hx).2; simpa using this, h4⟩
theorem agentOk_pos {x : DAgent} (h : agentOk x = true) : 0 < x.ports.length ∧ 1 ≤ x.kind ∧ x.kind ≤ 12 := by
  unfold agentOk at h
  simp only [Bool.and_eq_true, decide_eq_true_eq] at h
  have := portsOf_kind h.1.1.1
  omega
theorem Good.pos {xs : List DAgent} (G : Good xs) {i : Nat} {x : DAgent} (hx : xs[i]? = some x) : 0 < x.ports.length := (agentOk_pos (G.ok i x hx)).1
def before (p q : DPort) : Bool := decide (p.agent < q.agent) || (p.agent == q.agent && decide (p.slot < q.slot))
end
section
open Go.RowKit
set_option linter.unusedVariables false
theorem ownSg {e e' : TypeId} {w : World} {lo : Nat} {v u : Value} {d : DSignature} {bs cs : List Nat} (h : OwN e dataOw 2 w lo v d.datas bs) (h' : OwN e' typeOw 3 w lo u d.defs cs) (D : Ap bs cs) : OwT signatureOw w (.agg #[v, u]) d lo w.heap.size := by
  obtain ⟨A, n, c, l, rfl, h1, h2, h3, r⟩ := h.own1 dataOw_ok
  obtain ⟨A', n', c', l', rfl, h1', h2', h3', r'⟩ := h'.own1 typeOw_ok
  refine ⟨[.slice A n c, .slice A' n' c'], l ++ l', rfl, ⟨A, n, c, A', n', c', l, l', rfl, ⟨h1, r⟩, ⟨h1', r'⟩, rfl⟩, List.nodup_append.2 ⟨h2, h2', fun a ha b hb e => D a (h3 a ha) (e ▸ h3' b hb)⟩, fun b hb => ?_⟩
  rcases List.mem_append.1 hb with hb | hb
  · exact ⟨h.lo_ b (h3 b hb), h.hi b (h3 b hb)⟩
  · exact ⟨h'.lo_ b (h3' b hb), h'.hi b (h3' b hb)⟩
theorem szSignature_v (v : Value) (x : DSignature) (left : Int) (w : World) {B : Nat} (h : RdT signatureRd w B v x) (hB : B ≤ w.heap.size) (h0 : 0 ≤ left) (h1 : left ≤ 1048576) (ho : OkSig x := by assumption) :
    Calls Try.prog 29 #[v, .int .i64 left] w fun e w' => e = .returned (.int .i64 (szL left (szSignature x))) ∧ Below w.heap.size w w' :=
  c_m_laws_szSignature x left _ (p_szSignature x left ho h0 h1) v w (h.more signatureRd_ok hB)
theorem toSignature_v (v : Value) (x : DSignature) (w : World) {B : Nat} (h : RdT signatureRd w B v x) (hB : B ≤ w.heap.size) (hs : szSignature x ≤ 1048576) :
    Calls Try.prog 31 #[v] w fun e w' => Ret1 (fun v' => OwT signatureOw w' v' x w.heap.size w'.heap.size) e ∧ Below w.heap.size w w' :=
  (c_m_laws_toSignature x _ (p_toSignature x hs) v w (h.more signatureRd_ok hB)).mono fun e w' ⟨⟨v0, bs0, v1, bs1, he, h1, h2, D⟩, hb⟩ => ⟨⟨_, he, ownSg h1 h2 D⟩, hb⟩
theorem eqSignature_v (v u : Value) (x y : DSignature) (w : World) {B B' : Nat} (h : RdT signatureRd w B v x) (h' : RdT signatureRd w B' u y) (hB : B ≤ w.heap.size) (hB' : B' ≤ w.heap.size) :
    Calls Try.prog 33 #[v, u] w fun e w' => e = .returned (.bool (decide (x = y))) ∧ Below w.heap.size w w' :=
  c_m_laws_eqSignature x y _ (p_eqSignature x y) v u w (h.more signatureRd_ok hB) (h'.more signatureRd_ok hB')
theorem specValidSignature_v (v : Value) (x : DSignature) (w : World) {B : Nat} (h : RdT signatureRd w B v x) (hB : B ≤ w.heap.size) (hs : szSignature x ≤ 1048576) :
    Calls Try.prog 30 #[v] w fun e w' => e = .returned (.bool (validSig x)) ∧ Below w.heap.size w w' :=
  c_m_spec_ValidSignature x _ (p_sValidSignature x hs) v w (h.more signatureRd_ok hB)
theorem implValidSignature_v (v : Value) (x : DSignature) (w : World) {B : Nat} (h : RdT signatureRd w B v x) (hB : B ≤ w.heap.size) (hs : szSignature x ≤ 1048576) :
    Calls Try.prog 32 #[v] w fun e w' => e = .returned (.bool (validSig x)) ∧ Below w.heap.size w w' :=
  c_m_impl_ValidSignature x _ (p_iValidSignature x hs) v w (h.more signatureRd_ok hB)
end
section
open Go.RowKit
set_option linter.unusedVariables false
set_option linter.unusedSimpArgs false
set_option maxRecDepth 100000
set_option maxHeartbeats 8000000 in
theorem walk_ValidSignature (w : World) (v0 : Value) (sg : DSignature) (R0 : RdT signatureRd w w.heap.size v0 sg) (ho0 : OkSig sg) :
    Calls Try.prog 7 #[v0] w fun e w' => e = .returned (.bool true) ∧ Below w.heap.size w w' := by
  obtain ⟨a0A0, a0n0, a0c0, a0A1, a0n1, a0c1, rfl⟩ : ∃ a0A0 a0n0 a0c0 a0A1 a0n1 a0c1, v0 = .agg #[.slice a0A0 a0n0 a0c0, .slice a0A1 a0n1 a0c1] := by obtain ⟨cs, rfl, ⟨A0, n0, c0, A1, n1, c1, rfl, _⟩⟩ := R0; exact ⟨A0, n0, c0, A1, n1, c1, rfl⟩
  by_cases d0 : (szSignature sg : Int) ≤ 1048576
  case neg =>
    have T := Below.refl w.heap.size w
    have T : Below w.heap.size w (w.alloc (.cells #[.slice a0A0 a0n0 a0c0, .slice a0A1 a0n1 a0c1] 60)) := T.alloc (by first | exact Nat.le_refl _ | (simp; done) | (simp; omega)) _
    have B0 : Blk (w.alloc (.cells #[.slice a0A0 a0n0 a0c0, .slice a0A1 a0n1 a0c1] 60)) (w.heap.size) 60 #[.slice a0A0 a0n0 a0c0, .slice a0A1 a0n1 a0c1] := by have := Blk.new w 60 #[.slice a0A0 a0n0 a0c0, .slice a0A1 a0n1 a0c1]; simpa using this
    have zb0 : (w.alloc (.cells #[.slice a0A0 a0n0 a0c0, .slice a0A1 a0n1 a0c1] 60)).heap.size = w.heap.size + 1 := by simp
    go_enter Try.func7, Try.ntmps7
    go_wp2_with fail
    refine (szSignature_v _ sg (1048576) _ (R0.below signatureRd_ok T) T.size (by omega) (by omega)).mono ?_
    rw [szL_neg (by omega)]
    rintro e w1 ⟨rfl, b1⟩
    have z1 := b1.size
    have B0 := B0.below b1 (by omega)
    have T := T.trans (b1.mono (by omega))
    have gB0 := B0.cell
    go_wp2_with fail
    go_ret
    exact ⟨rfl, T⟩
  have s0 : szSignature sg ≤ 1048576 := by omega
  have T := Below.refl w.heap.size w
  have T : Below w.heap.size w (w.alloc (.cells #[.slice a0A0 a0n0 a0c0, .slice a0A1 a0n1 a0c1] 60)) := T.alloc (by first | exact Nat.le_refl _ | (simp; done) | (simp; omega)) _
  have B0 : Blk (w.alloc (.cells #[.slice a0A0 a0n0 a0c0, .slice a0A1 a0n1 a0c1] 60)) (w.heap.size) 60 #[.slice a0A0 a0n0 a0c0, .slice a0A1 a0n1 a0c1] := by have := Blk.new w 60 #[.slice a0A0 a0n0 a0c0, .slice a0A1 a0n1 a0c1]; simpa using this
  have zb0 : (w.alloc (.cells #[.slice a0A0 a0n0 a0c0, .slice a0A1 a0n1 a0c1] 60)).heap.size = w.heap.size + 1 := by simp
  go_enter Try.func7, Try.ntmps7
  go_wp2_with fail
  refine (szSignature_v _ sg (1048576) _ (R0.below signatureRd_ok T) T.size (by omega) (by omega)).mono ?_
  rw [szL_pos (by omega)]
  rintro e w1 ⟨rfl, b1⟩
  have z1 := b1.size
  have B0 := B0.below b1 (by omega)
  have T := T.trans (b1.mono (by omega))
  have gB0 := B0.cell
  go_wp2_with fail
  refine (toSignature_v _ sg _ (R0.below signatureRd_ok T) T.size s0).mono ?_
  rintro e w2 ⟨⟨t1, rfl, p2⟩, b2⟩
  have z2 := b2.size
  have B0 := B0.below b2 (by omega)
  have T := T.trans (b2.mono (by omega))
  clear gB0
  have gB0 := B0.cell
  go_wp2_with fail
  refine (specValidSignature_v _ sg _ (p2.reads (signatureOw_reads (w2).heap.size) (by omega)) (Nat.le_refl _) s0).mono ?_
  rintro e w3 ⟨rfl, b3⟩
  have z3 := b3.size
  have B0 := B0.below b3 (by omega)
  have p2 := p2.below signatureOw_ok b3 (by omega)
  have T := T.trans (b3.mono (by omega))
  clear gB0
  have gB0 := B0.cell
  clear p2
  go_wp2_with fail
  refine (toSignature_v _ sg _ (R0.below signatureRd_ok T) T.size s0).mono ?_
  rintro e w4 ⟨⟨t4, rfl, p5⟩, b4⟩
  have z4 := b4.size
  have B0 := B0.below b4 (by omega)
  have T := T.trans (b4.mono (by omega))
  clear gB0
  have gB0 := B0.cell
  obtain ⟨l7A0, l7n0, l7c0, l7A1, l7n1, l7c1, rfl⟩ : ∃ l7A0 l7n0 l7c0 l7A1 l7n1 l7c1, t4 = .agg #[.slice l7A0 l7n0 l7c0, .slice l7A1 l7n1 l7c1] := by obtain ⟨cs, bs, rfl, ⟨A0, n0, c0, A1, n1, c1, b0, b1, rfl, _⟩, _⟩ := p5; exact ⟨A0, n0, c0, A1, n1, c1, rfl⟩
  have b5 : Below w4.heap.size w4 (w4.alloc (.cells #[.slice l7A0 l7n0 l7c0, .slice l7A1 l7n1 l7c1] 66)) := (Below.refl _ _).alloc (Nat.le_refl _) _
  have z5 : (w4.alloc (.cells #[.slice l7A0 l7n0 l7c0, .slice l7A1 l7n1 l7c1] 66)).heap.size = w4.heap.size + 1 := World.size_alloc _ _
  have B0 := B0.below b5 (by omega)
  have p5 := p5.below signatureOw_ok b5 (by omega)
  have T := T.trans (b5.mono (by omega))
  have X6 : Blk (w4.alloc (.cells #[.slice l7A0 l7n0 l7c0, .slice l7A1 l7n1 l7c1] 66)) w4.heap.size 66 #[.slice l7A0 l7n0 l7c0, .slice l7A1 l7n1 l7c1] := Blk.new _ _ _
  clear gB0
  have gB0 := B0.cell
  have gX6 := X6.cell
  go_wp2_with fail
  refine (implValidSignature_v _ sg _ (p5.reads (signatureOw_reads ((w4.alloc (.cells #[.slice l7A0 l7n0 l7c0, .slice l7A1 l7n1 l7c1] 66))).heap.size) (by omega)) (Nat.le_refl _) s0).mono ?_
  rintro e w6 ⟨rfl, b6⟩
  have z6 := b6.size
  have B0 := B0.below b6 (by omega)
  have X6 := X6.below b6 (by omega)
  have p5 := p5.below signatureOw_ok b6 (by omega)
  have T := T.trans (b6.mono (by omega))
  clear gB0
  clear gX6
  have gB0 := B0.cell
  have gX6 := X6.cell
  go_wp2_with fail
  have T := T.drew
  have B0 := B0.drew
  have X6 := X6.drew
  have p5 := p5.keep signatureOw_ok (w' := w6.drew) (fun _ _ _ => rfl)
  have zd7 : w6.drew.heap.size = w6.heap.size := rfl
  go_region_held3 (fun w' => w'.cell? ⟨w4.heap.size, 0, none⟩ = some (.slice l7A0 l7n0 l7c0) ∧ w'.cell? ⟨w4.heap.size, 1, none⟩ = some (.slice l7A1 l7n1 l7c1) ∧ w'.cell? ⟨w.heap.size, 0, none⟩ = some (.slice a0A0 a0n0 a0c0) ∧ w'.cell? ⟨w.heap.size, 1, none⟩ = some (.slice a0A1 a0n1 a0c1)) (exact ⟨gX6 0, gX6 1, gB0 0, gB0 1⟩) (first
    | (go_at_call 31; refine (toSignature_v _ sg _ (R0.below signatureRd_ok T) T.size s0).mono ?_; rintro e w8 ⟨⟨t9, rfl, p10⟩, b8⟩; have z8 := b8.size; have B0 := B0.below b8 (by omega); have X6 := X6.below b8 (by omega); have p5 := p5.below signatureOw_ok b8 (by omega); have T := T.trans (b8.mono (by omega)); clear gB0; clear gX6; have gB0 := B0.cell; have gX6 := X6.cell)
    | (go_at_call 33; refine (eqSignature_v _ _ _ _ _ (p5.reads (signatureOw_reads (w8).heap.size) (by omega)) (p10.reads (signatureOw_reads (w8).heap.size) (by omega)) (Nat.le_refl _) (Nat.le_refl _)).mono ?_; rintro e w9 ⟨rfl, b9⟩; have z9 := b9.size; have B0 := B0.below b9 (by omega); have X6 := X6.below b9 (by omega); have p5 := p5.below signatureOw_ok b9 (by omega); have p10 := p10.below signatureOw_ok b9 (by omega); have T := T.trans (b9.mono (by omega)); clear gB0; clear gX6; have gB0 := B0.cell; have gX6 := X6.cell))
  go_wp2_with fail
  go_ret
  exact ⟨rfl, T⟩
end
section
open Go.RowKit Go.ChangeShapes Go.WideShapes Go.Deep Go.WideMaps
set_option linter.unusedVariables false
def Opens {α : Type} (P : Program) (t : TypeId) (R : Rd α) : Prop := ∀ (H : Type) (enc : TypeId × Value → H) (W : World) (fuel : Nat) (cs : List Value) (x : DataW H × List MemPlace),
  DataW.trod enc P W 0 (fun _ => true) true fuel t cs = some x → ∃ d, R W W.heap.size cs d
theorem opens_int {P : Program} {t : TypeId} (ht : P.underlying t = some (.int .i64)) : Opens P t intRd := fun H enc W fuel cs x h => by
  obtain ⟨n, hc, _, _⟩ := DataW.trod_int ht h
  exact ⟨n, hc⟩
theorem spot_none {w : World} {a : Addr} {v : Value} (h : w.cell? a = some v) : a.spot = none := by
  unfold World.cell? at h
  split at h
  · cases hs : a.spot with
    | none => rfl
    | some s => simp [hs] at h
  · simp at h
theorem opens_slice {α : Type} {P : Program} {t e : TypeId} {R : Rd α} {sz : Nat} (ht : P.underlying t = some (.slice e)) (hsz : P.cellsOf e = sz) (hpos : 0 < sz) (ok : RdOk R sz) (he : Opens P e R) : Opens P t (slRd R sz) := fun H enc W fuel cs x h => by
  rcases open_slice ht h with ⟨rfl, rfl⟩ | ⟨a, len, cap, m, n, D, Pl, rfl, hb, hl, hm, hmm, hx, hel⟩
  · exact ⟨[], none, 0, 0, rfl, SlAt.none_, Nat.le_refl _, Nat.zero_le _⟩
  · have hmc : len ≤ m := by rw [hmm]; simp; omega
    have hel' : ∀ i, i < len → ∃ p : List Value × α, R W W.heap.size p.1 p.2 ∧ ∀ j, j < sz → W.cell? (a.add (i * sz + j)) = p.1[j]? := fun i hi => by
      obtain ⟨cs', hc, htr⟩ := hel i (by omega)
      obtain ⟨d, hd⟩ := he H enc W n cs' (D i, Pl i) htr
      obtain ⟨_, hlen, hat⟩ := World.cells?_some hc
      exact ⟨(cs', d), hd, fun j hj => by
        have := hat j (by rw [hsz]; exact hj)
        rw [hsz, Go.Deep.add_add] at this
        exact this⟩
    rcases Nat.eq_zero_or_pos len with h0 | h0
    · subst h0
      exact ⟨[], some a, 0, cap, rfl, SlAt.none_, Nat.zero_le _, hm⟩
    · have hne : Nonempty (List Value × α) := let ⟨p, _⟩ := hel' 0 h0; ⟨p⟩
      have hf : ∃ f : Nat → List Value × α, ∀ i, i < len → R W W.heap.size (f i).1 (f i).2 ∧ ∀ j, j < sz → W.cell? (a.add (i * sz + j)) = (f i).1[j]? := by
        classical
        refine ⟨fun i => if hi : i < len then Classical.choose (hel' i hi) else Classical.choice hne, fun i hi => ?_⟩
        simp only [dif_pos hi]
        exact Classical.choose_spec (hel' i hi)
      obtain ⟨f, hf⟩ := hf
      have hc0 : ∃ v, W.cell? a = some v := by
        obtain ⟨hR, hc⟩ := hf 0 h0
        have hlR := ok.len hR
        have h1 := hc 0 hpos
        have h2 : a.add (0 * sz + 0) = a := by simp [Addr.add]
        rw [h2, List.getElem?_eq_getElem (by omega)] at h1
        exact ⟨_, h1⟩
      obtain ⟨v0, hv0⟩ := hc0
      have hsp := spot_none hv0
      have hbl := World.block_lt_of_cell? _ _ hv0
      have ea : a = ⟨a.block, a.off, none⟩ := by cases a; simp_all
      refine ⟨(List.range len).map fun i => (f i).2, some a, len, cap, rfl, ⟨by simp, fun _ => ⟨a.block, a.off, by rw [← ea], hbl, fun i x hx => ?_⟩⟩, hl, hm⟩
      have hi : i < len := by simpa using lt_of_some hx
      have hx' : (f i).2 = x := by simpa [hi] using hx
      subst hx'
      obtain ⟨hR, hc⟩ := hf i hi
      refine ⟨_, hR, fun j v hj => ?_⟩
      have hj' : j < sz := by have := lt_of_some hj; rw [ok.len hR] at this; exact this
      have h1 := hc j hj'
      rw [hj] at h1
      have e2 : a.add (i * sz + j) = ⟨a.block, a.off + i * sz + j, none⟩ := by
        rw [ea]; simp only [Addr.add_lit]; congr 1; omega
      rw [← e2]
      exact h1
/-- An argument's value as its cells. -/
theorem opens_arg {α : Type} {P : Program} {t : TypeId} {R : Rd α} (h : Opens P t R) {H : Type} {enc : TypeId × Value → H} {W : World} {v : Value} {d : DataW H} {ps : List MemPlace} (ht : DataW.Trod enc P W 0 (fun _ => true) true t v d ps) : ∃ x, R W W.heap.size v.cells.toList x := by
  obtain ⟨fuel, hf⟩ := ht
  exact h H enc W fuel _ _ hf
end
section
open Go.RowKit Go.ChangeShapes Go.WideShapes Go.Deep Go.WideMaps
set_option linter.unusedVariables false
set_option linter.unusedSimpArgs false
theorem trod_fields {P : Program} {t : TypeId} {fs : Array Field} {H : Type} {enc : TypeId × Value → H} {W : World} {fuel : Nat} {cs : List Value} {x : DataW H × List MemPlace} (ht : P.underlying t = some (.struct fs)) (h : DataW.trod enc P W 0 (fun _ => true) true fuel t cs = some x) :
    cs.length = P.cellsOf t ∧ ∃ n, ∀ (i : Nat) (f : Field), fs[i]? = some f → ∃ y, DataW.trod enc P W 0 (fun _ => true) true n f.type ((cs.drop f.offset).take (P.cellsOf f.type)) = some y := by
  obtain ⟨xs, n, _, _, hl, hlen, hf⟩ := DataW.trod_struct ht h
  refine ⟨hl, n, fun i f hi => ?_⟩
  have hlt : i < fs.size := (Array.getElem?_eq_some_iff.1 hi).1
  exact ⟨xs[i], by rw [hf i f hi]; exact List.getElem?_eq_getElem (by omega)⟩
/-- A struct argument. -/
theorem open_st {α : Type} {P : Program} {t : TypeId} {fs : Array Field} {R : Rd α} (h : Opens P t R) (ht : P.underlying t = some (.struct fs)) {r : Reach} {b0 : Nat} {H : Type} {enc : TypeId × Value → H} {W : World} {v : Value} {d : DataW H} {ps : List MemPlace}
    (hv : Value.okWide P W r b0 t v) (hd : DataW.Trod enc P W 0 (fun _ => true) true t v d ps) : ∃ x, RdT R W W.heap.size v x := by
  obtain ⟨cs, rfl, _⟩ := okWide_struct ht hv
  obtain ⟨x, hx⟩ := opens_arg h hd
  exact ⟨x, cs.toList, by simp, by simpa [Value.cells] using hx⟩
theorem len2 {α : Type} {l : List α} (h : l.length = 2) : ∃ a0 a1, l = [a0, a1] := by
  match l, h with
  | [a0, a1], _ => exact ⟨a0, a1, rfl⟩
end
section
open Go.RowKit Go.ChangeShapes Go.WideShapes Go.Deep Go.WideMaps
set_option linter.unusedVariables false
set_option linter.unusedSimpArgs false
/-- Opened, up to a fuel. -/
def OpensL {α : Type} (m : Nat) (P : Program) (t : TypeId) (R : Rd α) : Prop := ∀ (H : Type) (enc : TypeId × Value → H) (W : World) (fuel : Nat) (cs : List Value) (x : DataW H × List MemPlace), fuel ≤ m →
  DataW.trod enc P W 0 (fun _ => true) true fuel t cs = some x → ∃ d, R W W.heap.size cs d
theorem opensL_all {α : Type} {P : Program} {t : TypeId} {R : Rd α} (h : ∀ m, OpensL m P t R) : Opens P t R := fun H enc W fuel cs x hx => h fuel H enc W fuel cs x (Nat.le_refl _) hx
/-- Elements of a slice, whose own elements lie deeper. -/
theorem opensL_slice {α : Type} {m : Nat} {P : Program} {t e : TypeId} {R : Rd α} {sz : Nat} (ht : P.underlying t = some (.slice e)) (hsz : P.cellsOf e = sz) (hpos : 0 < sz) (ok : RdOk R sz) (he : OpensL m P e R) : OpensL m P t (slRd R sz) := fun H enc W fuel cs x hf h => by
  rcases DataW.trod_slice ht h with ⟨rfl, rfl⟩ | ⟨a, len, cap, elems, rest, n, hfn, rfl, hx, hb, hl, hm, hlen, hel, _, _⟩
  · exact ⟨[], none, 0, 0, rfl, SlAt.none_, Nat.le_refl _, Nat.zero_le _⟩
  · have hel' : ∀ i, i < len → ∃ p : List Value × α, R W W.heap.size p.1 p.2 ∧ ∀ j, j < sz → W.cell? (a.add (i * sz + j)) = p.1[j]? := fun i hi => by
      have key := hel i hi
      rw [List.getElem?_eq_getElem (by omega)] at key
      obtain ⟨cs', hc, htr⟩ := Option.bind_eq_some_iff.1 key
      obtain ⟨d, hd⟩ := he H enc W n cs' _ (by omega) htr
      obtain ⟨_, hlen, hat⟩ := World.cells?_some hc
      exact ⟨(cs', d), hd, fun j hj => by
        have := hat j (by rw [hsz]; exact hj)
        rw [hsz, Go.Deep.add_add] at this
        exact this⟩
    rcases Nat.eq_zero_or_pos len with h0 | h0
    · subst h0
      exact ⟨[], some a, 0, cap, rfl, SlAt.none_, Nat.zero_le _, hm⟩
    · have hne : Nonempty (List Value × α) := let ⟨p, _⟩ := hel' 0 h0; ⟨p⟩
      have hf : ∃ f : Nat → List Value × α, ∀ i, i < len → R W W.heap.size (f i).1 (f i).2 ∧ ∀ j, j < sz → W.cell? (a.add (i * sz + j)) = (f i).1[j]? := by
        classical
        refine ⟨fun i => if hi : i < len then Classical.choose (hel' i hi) else Classical.choice hne, fun i hi => ?_⟩
        simp only [dif_pos hi]
        exact Classical.choose_spec (hel' i hi)
      obtain ⟨f, hf⟩ := hf
      have hc0 : ∃ v, W.cell? a = some v := by
        obtain ⟨hR, hc⟩ := hf 0 h0
        have hlR := ok.len hR
        have h1 := hc 0 hpos
        have h2 : a.add (0 * sz + 0) = a := by simp [Addr.add]
        rw [h2, List.getElem?_eq_getElem (by omega)] at h1
        exact ⟨_, h1⟩
      obtain ⟨v0, hv0⟩ := hc0
      have hsp := spot_none hv0
      have hbl := World.block_lt_of_cell? _ _ hv0
      have ea : a = ⟨a.block, a.off, none⟩ := by cases a; simp_all
      refine ⟨(List.range len).map fun i => (f i).2, some a, len, cap, rfl, ⟨by simp, fun _ => ⟨a.block, a.off, by rw [← ea], hbl, fun i x hx => ?_⟩⟩, hl, hm⟩
      have hi : i < len := by simpa using lt_of_some hx
      have hx' : (f i).2 = x := by simpa [hi] using hx
      subst hx'
      obtain ⟨hR, hc⟩ := hf i hi
      refine ⟨_, hR, fun j v hj => ?_⟩
      have hj' : j < sz := by have := lt_of_some hj; rw [ok.len hR] at this; exact this
      have h1 := hc j hj'
      rw [hj] at h1
      have e2 : a.add (i * sz + j) = ⟨a.block, a.off + i * sz + j, none⟩ := by
        rw [ea]; simp only [Addr.add_lit]; congr 1; omega
      rw [← e2]
      exact h1
/-- Fields, with less fuel. -/
theorem trodL_fields {P : Program} {t : TypeId} {fs : Array Field} {H : Type} {enc : TypeId × Value → H} {W : World} {fuel : Nat} {cs : List Value} {x : DataW H × List MemPlace} (ht : P.underlying t = some (.struct fs)) (h : DataW.trod enc P W 0 (fun _ => true) true fuel t cs = some x) :
    cs.length = P.cellsOf t ∧ ∃ n, fuel = n + 1 ∧ ∀ (i : Nat) (f : Field), fs[i]? = some f → ∃ y, DataW.trod enc P W 0 (fun _ => true) true n f.type ((cs.drop f.offset).take (P.cellsOf f.type)) = some y := by
  obtain ⟨xs, n, hn, _, hl, hlen, hf⟩ := DataW.trod_struct ht h
  refine ⟨hl, n, hn, fun i f hi => ?_⟩
  have hlt : i < fs.size := (Array.getElem?_eq_some_iff.1 hi).1
  exact ⟨xs[i], by rw [hf i f hi]; exact List.getElem?_eq_getElem (by omega)⟩
theorem opens_strM {P : Program} {t : TypeId} (ht : P.underlying t = some .string) {H : Type} {enc : TypeId × Value → H} {W : World} {fuel : Nat} {cs : List Value} {x : DataW H × List MemPlace} (h : DataW.trod enc P W 0 (fun _ => true) true fuel t cs = some x) : ∃ s : ByteArray, cs = [.string s] ∧ s.size ≤ maxLen := by
  obtain ⟨n, hc, h1, h2⟩ := DataW.trod_string ht h
  exact ⟨n, hc, by first | exact h1 | exact h2⟩
theorem SlAt.split {α : Type} {R : Rd α} {Q : α → Prop} {sz : Nat} {w : World} {B n : Nat} {A : Option Addr} {xs : List α} (h : SlAt (fun w B cs x => R w B cs x ∧ Q x) sz w B A n xs) : SlAt R sz w B A n xs ∧ ∀ x ∈ xs, Q x := by
  refine ⟨⟨h.1, fun hn => ?_⟩, fun x hx => ?_⟩
  · obtain ⟨b, off, e, hb, hs⟩ := h.2 hn
    exact ⟨b, off, e, hb, fun i x hx => by
      obtain ⟨cs, hR, hv⟩ := hs i x hx
      exact ⟨cs, hR.1, hv⟩⟩
  · obtain ⟨i, hi, rfl⟩ := List.getElem_of_mem hx
    have hn : 0 < n := by have := h.1; omega
    obtain ⟨b, off, e, hb, hs⟩ := h.2 hn
    obtain ⟨cs, hR, hv⟩ := hs i _ (List.getElem?_eq_getElem hi)
    exact hR.2
/-- A type that reads, and whose names and rows are not too long. -/
def tyRd : Rd DType := fun w B cs x => typeRd w B cs x ∧ OkTy x
theorem tyRd_ok : RdOk tyRd 3 := ⟨fun h => typeRd_ok.len h.1, fun hk h => ⟨typeRd_ok.keep hk h.1, h.2⟩, fun hB h => ⟨typeRd_ok.more hB h.1, h.2⟩⟩
theorem len3 {α : Type} {l : List α} (h : l.length = 3) : ∃ a0 a1 a2, l = [a0, a1, a2] := by
  match l, h with
  | [a0, a1, a2], _ => exact ⟨a0, a1, a2, rfl⟩
theorem opens_TypeL : ∀ m, OpensL m Try.prog 155 tyRd := fun m => by
  induction m with
  | zero =>
    intro H enc W fuel cs x hf h
    obtain rfl : fuel = 0 := by omega
    simp [DataW.trod] at h
  | succ m ih =>
    intro H enc W fuel cs x hfu h
    obtain ⟨hl, n, hfn, hf⟩ := trodL_fields Try.underlying155 h
    replace hl : cs.length = 3 := hl.trans (by kernel_rfl)
    obtain ⟨a0, a1, a2, rfl⟩ := len3 hl
    obtain ⟨y0, h0⟩ : ∃ y, DataW.trod enc Try.prog W 0 (fun _ => true) true n 2 (([a0, a1, a2].drop 0).take (Try.prog.cellsOf 2)) = some y := hf 0 _ rfl
    have k0 : Try.prog.cellsOf 2 = 1 := by kernel_rfl
    rw [k0] at h0; simp only [List.drop_zero, List.drop_succ_cons, List.take_succ_cons, List.take_zero] at h0
    obtain ⟨d0, e0⟩ := opens_int Try.underlying2 H enc W _ _ _ h0
    unfold intRd at e0; simp only [List.cons.injEq, and_true] at e0
    obtain ⟨y1, h1⟩ : ∃ y, DataW.trod enc Try.prog W 0 (fun _ => true) true n 9 (([a0, a1, a2].drop 1).take (Try.prog.cellsOf 9)) = some y := hf 1 _ rfl
    have k1 : Try.prog.cellsOf 9 = 1 := by kernel_rfl
    rw [k1] at h1; simp only [List.drop_zero, List.drop_succ_cons, List.take_succ_cons, List.take_zero] at h1
    obtain ⟨d1, e1, m1⟩ := opens_strM Try.underlying9 h1
    simp only [List.cons.injEq, and_true] at e1
    obtain ⟨y2, h2⟩ : ∃ y, DataW.trod enc Try.prog W 0 (fun _ => true) true n 58 (([a0, a1, a2].drop 2).take (Try.prog.cellsOf 58)) = some y := hf 2 _ rfl
    have k2 : Try.prog.cellsOf 58 = 1 := by kernel_rfl
    rw [k2] at h2; simp only [List.drop_zero, List.drop_succ_cons, List.take_succ_cons, List.take_zero] at h2
    obtain ⟨d2, A2, n2, c2, e2, g2, r2⟩ := opensL_slice Try.underlying58 (by kernel_rfl) (by decide) tyRd_ok ih H enc W n _ _ (by omega) h2
    simp only [List.cons.injEq, and_true] at e2
    subst e0; subst e1; subst e2
    obtain ⟨g3, g4⟩ := SlAt.split g2
    have hn := g3.len
    exact ⟨⟨d0, d1, d2⟩, typeRd_in ⟨A2, n2, c2, rfl, g3, r2⟩, OkTy.mk (x := ⟨d0, d1, d2⟩) m1 (show d2.length ≤ maxLen by have := r2.1; have := r2.2; omega) g4⟩
theorem opens_Type : Opens Try.prog 155 tyRd := opensL_all opens_TypeL
end
section
open Go.RowKit Go.ChangeShapes Go.WideShapes Go.Deep Go.WideMaps
set_option linter.unusedVariables false
set_option linter.unusedSimpArgs false
/-- Reads, and its names and rows are not too long. -/
def constructorRd' : Rd DConstructor := fun w B cs x => constructorRd w B cs x ∧ OkCon x
theorem constructorRd'_ok : RdOk constructorRd' 2 := ⟨fun h => constructorRd_ok.len h.1, fun hk h => ⟨constructorRd_ok.keep hk h.1, h.2⟩, fun hB h => ⟨constructorRd_ok.more hB h.1, h.2⟩⟩
theorem opens_Constructor : Opens Try.prog 199 constructorRd' := fun H enc W fuel cs x h => by
  obtain ⟨hl, n, hf⟩ := trod_fields Try.underlying199 h
  replace hl : cs.length = 2 := hl.trans (by kernel_rfl)
  obtain ⟨a0, a1, rfl⟩ := len2 hl
  obtain ⟨y1, h1⟩ : ∃ y, DataW.trod enc Try.prog W 0 (fun _ => true) true n 9 (([a0, a1].drop 0).take (Try.prog.cellsOf 9)) = some y := hf 0 _ rfl
  have k1 : Try.prog.cellsOf 9 = 1 := by kernel_rfl
  rw [k1] at h1; simp only [List.drop_zero, List.drop_succ_cons, List.take_succ_cons, List.take_zero] at h1
  obtain ⟨d1, e1, m1⟩ := opens_strM Try.underlying9 h1
  simp only [List.cons.injEq, and_true] at e1
  obtain ⟨y2, h2⟩ : ∃ y, DataW.trod enc Try.prog W 0 (fun _ => true) true n 58 (([a0, a1].drop 1).take (Try.prog.cellsOf 58)) = some y := hf 1 _ rfl
  have k2 : Try.prog.cellsOf 58 = 1 := by kernel_rfl
  rw [k2] at h2; simp only [List.drop_zero, List.drop_succ_cons, List.take_succ_cons, List.take_zero] at h2
  obtain ⟨d2, A2, n2, c2, e2, g2, r2⟩ := opens_slice Try.underlying58 (by kernel_rfl) (by decide) tyRd_ok opens_Type H enc W _ _ _ h2
  simp only [List.cons.injEq, and_true] at e2
  subst e1; subst e2
  obtain ⟨g3, g4⟩ := SlAt.split g2
  have hn := g3.len
  exact ⟨⟨d1, d2⟩, ⟨A2, n2, c2, rfl, g3, r2⟩, m1, (show d2.length ≤ maxLen by have := r2.1; have := r2.2; omega), g4⟩
/-- Reads, and its names and rows are not too long. -/
def dataRd' : Rd DData := fun w B cs x => dataRd w B cs x ∧ OkDat x
theorem dataRd'_ok : RdOk dataRd' 2 := ⟨fun h => dataRd_ok.len h.1, fun hk h => ⟨dataRd_ok.keep hk h.1, h.2⟩, fun hB h => ⟨dataRd_ok.more hB h.1, h.2⟩⟩
theorem opens_Data : Opens Try.prog 152 dataRd' := fun H enc W fuel cs x h => by
  obtain ⟨hl, n, hf⟩ := trod_fields Try.underlying152 h
  replace hl : cs.length = 2 := hl.trans (by kernel_rfl)
  obtain ⟨a0, a1, rfl⟩ := len2 hl
  obtain ⟨y1, h1⟩ : ∃ y, DataW.trod enc Try.prog W 0 (fun _ => true) true n 9 (([a0, a1].drop 0).take (Try.prog.cellsOf 9)) = some y := hf 0 _ rfl
  have k1 : Try.prog.cellsOf 9 = 1 := by kernel_rfl
  rw [k1] at h1; simp only [List.drop_zero, List.drop_succ_cons, List.take_succ_cons, List.take_zero] at h1
  obtain ⟨d1, e1, m1⟩ := opens_strM Try.underlying9 h1
  simp only [List.cons.injEq, and_true] at e1
  obtain ⟨y2, h2⟩ : ∃ y, DataW.trod enc Try.prog W 0 (fun _ => true) true n 150 (([a0, a1].drop 1).take (Try.prog.cellsOf 150)) = some y := hf 1 _ rfl
  have k2 : Try.prog.cellsOf 150 = 1 := by kernel_rfl
  rw [k2] at h2; simp only [List.drop_zero, List.drop_succ_cons, List.take_succ_cons, List.take_zero] at h2
  obtain ⟨d2, A2, n2, c2, e2, g2, r2⟩ := opens_slice Try.underlying150 (by kernel_rfl) (by decide) constructorRd'_ok opens_Constructor H enc W _ _ _ h2
  simp only [List.cons.injEq, and_true] at e2
  subst e1; subst e2
  obtain ⟨g3, g4⟩ := SlAt.split g2
  have hn := g3.len
  exact ⟨⟨d1, d2⟩, ⟨A2, n2, c2, rfl, g3, r2⟩, m1, (show d2.length ≤ maxLen by have := r2.1; have := r2.2; omega), g4⟩
def sgRd : Rd DSignature := fun w B cs x => signatureRd w B cs x ∧ OkSig x
theorem sg_split {w : World} {B : Nat} {v : Value} {x : DSignature} (h : RdT sgRd w B v x) : RdT signatureRd w B v x ∧ OkSig x := by
  obtain ⟨cs, e, h1, h2⟩ := h
  exact ⟨⟨cs, e, h1⟩, h2⟩
theorem opens_Signature : Opens Try.prog 60 sgRd := fun H enc W fuel cs x h => by
  obtain ⟨hl, m, hf⟩ := trod_fields Try.underlying60 h
  replace hl : cs.length = 2 := hl.trans (by kernel_rfl)
  obtain ⟨a0, a1, rfl⟩ := len2 hl
  obtain ⟨y0, h0⟩ : ∃ y, DataW.trod enc Try.prog W 0 (fun _ => true) true m 57 (([a0, a1].drop 0).take (Try.prog.cellsOf 57)) = some y := hf 0 _ rfl
  have k0 : Try.prog.cellsOf 57 = 1 := by kernel_rfl
  rw [k0] at h0; simp only [List.drop_zero, List.drop_succ_cons, List.take_succ_cons, List.take_zero] at h0
  obtain ⟨d0, A0, n0, c0, e0, g0, r0⟩ := opens_slice Try.underlying57 (by kernel_rfl) (by decide) dataRd'_ok opens_Data H enc W _ _ _ h0
  simp only [List.cons.injEq, and_true] at e0
  obtain ⟨y1, h1⟩ : ∃ y, DataW.trod enc Try.prog W 0 (fun _ => true) true m 58 (([a0, a1].drop 1).take (Try.prog.cellsOf 58)) = some y := hf 1 _ rfl
  have k1 : Try.prog.cellsOf 58 = 1 := by kernel_rfl
  rw [k1] at h1; simp only [List.drop_zero, List.drop_succ_cons, List.take_succ_cons, List.take_zero] at h1
  obtain ⟨d1, A1, n1, c1, e1, g1, r1⟩ := opens_slice Try.underlying58 (by kernel_rfl) (by decide) tyRd_ok opens_Type H enc W _ _ _ h1
  simp only [List.cons.injEq, and_true] at e1
  subst e0; subst e1
  obtain ⟨g3, g4⟩ := SlAt.split g1
  obtain ⟨g5, g6⟩ := SlAt.split g0
  have hn := g3.len
  have hm := g5.len
  exact ⟨⟨d0, d1⟩, ⟨A0, n0, c0, A1, n1, c1, rfl, ⟨g5, r0⟩, ⟨g3, r1⟩⟩, ⟨by have := r0.1; have := r0.2; simp only; omega, g6⟩, by have := r1.1; have := r1.2; simp only; omega, g4⟩
end
section
open Go.ChangeShapes Go.WideShapes Go.ChangeAt Go.RowKit Go.WideElems
set_option linter.unusedVariables false
theorem own : ownKnob Try.prog.godebug = none := by kernel_rfl
theorem laid : laidOutB Try.prog = true := by kernel_rfl
section
variable {H : Type} {enc : TypeId × Value → H}
theorem trodAll_stays {W W' : World} {sp : Nat → Bool} (hb : Below W.heap.size W W') : ∀ (ts : List TypeId) (vs : List Value) (ds : List (DataW H)) (ps : List MemPlace),
    (∀ t ∈ ts, Try.prog.readableRec t = true ∧ t < Try.prog.types.size) → DataW.TrodAll enc Try.prog W 0 (fun _ => true) true ts vs ds ps →
    (∀ x ∈ ps, x.block < W.heap.size) → (∀ x ∈ ps, sp x.block = true) → DataW.TrodAll enc Try.prog W' 0 sp true ts vs ds ps
  | [], [], [], ps, _, h, _, _ => h
  | t :: ts, v :: vs, d :: ds, ps, hts, h, hlt, hsp => by
    obtain ⟨p, q, h1, h2, rfl⟩ := h
    have ht := hts t (by simp)
    exact ⟨p, q, Trod_stays laid ht.1 ht.2 h1 (fun x hx => hb.same (hlt x (by simp [hx]))) (fun x hx => hsp x (by simp [hx])),
      trodAll_stays hb ts vs ds q (fun t' h' => hts t' (by simp [h'])) h2 (fun x hx => hlt x (by simp [hx])) (fun x hx => hsp x (by simp [hx])), rfl⟩
  | [], _ :: _, _, _, _, h, _, _ => h.elim
  | [], [], _ :: _, _, _, h, _, _ => h.elim
  | _ :: _, [], _, _, _, h, _, _ => h.elim
  | _ :: _, _ :: _, [], _, _, h, _, _ => h.elim
theorem post_law {f : Func} {s : ChangeSpec} {W W' : World} {args : Array Value} {ds : List (DataW H)} {before : List MemPlace}
    (hv : s.vars = []) (hr1 : f.resultTypes = #[4])
    (hp0 : (f.params.toList.all fun t => Try.prog.readableRec t && decide (t < Try.prog.types.size)) = true)
    (hres : (s.fn H (ds ++ [])).results = [.lit (.bool true)]) (hargs : (s.fn H (ds ++ [])).args = ds) (hvars : (s.fn H (ds ++ [])).vars = [])
    (hW : DataW.Whole enc Try.prog f.params.toList s.vars false W args.toList ds [] before)
    (hb : Below W.heap.size W W') :
    s.post enc Try.prog f false true false false W args (.bool true) W' := by
  have hp : ∀ t ∈ f.params.toList, Try.prog.readableRec t = true ∧ t < Try.prog.types.size := fun t ht => by simpa using List.all_eq_true.1 hp0 t ht
  have hlt : ∀ p ∈ before, p.block < W.heap.size := fun p hp => hW.lt p hp
  have hold : ∀ p ∈ before, (fun b => decide (b < W.heap.size)) p.block = true := fun p hp => by simpa using hlt p hp
  have hWh := hW
  obtain ⟨p, q, hA, hV, rfl, hfz, _⟩ := hWh
  rw [hv] at hV
  obtain rfl : q = [] := hV
  rw [List.append_nil] at hlt hold
  have hA' : ∀ sp : Nat → Bool, (∀ x ∈ p, sp x.block = true) → DataW.TrodAll enc Try.prog W' 0 sp true f.params.toList args.toList ds p := fun sp hsp =>
    trodAll_stays hb _ _ _ _ hp hA hlt hsp
  rw [List.append_nil] at hW
  refine ⟨ds, [], p, [], p, [], hW, ?_, ?_, ?_, World.keptBut_mono (fun x hx => ⟨hx, ?_⟩) (hb.frame (· ∈ p)), fun h => by cases h⟩
  · rw [hres, hr1]
    exact trodAll_cons_mk (shut_bool Try.underlying4 _) trodAll_mk0
  · rw [hargs]
    exact hA' _ hold
  · rw [hvars, hv]
    rfl
  · simp [hx]
end
end
end Go.Proofs.Ytpbobilkejblgaa
