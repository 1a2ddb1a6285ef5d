/- Lemmas of the proof of DropGarbage, part 4. No condition. -/
import Derived.Test.YtebioddcnldjkaaZDropGarbage3
namespace Go.Proofs.Ytebioddcnldjkaa
section
open Go.RowKit
set_option linter.unusedVariables false
set_option linter.unusedSimpArgs false
/-- The block of a slice's row. -/
def fb (v : Value) : List Nat := v.ownBlock.toList
/-- Two lists of blocks lie apart. -/
def Ap (l m : List Nat) : Prop := ∀ b ∈ l, b ∉ m
section
variable {l m x l' l2 : List Nat} {k g : Nat} {v u v' : Value}
theorem mem_fb {b : Nat} : b ∈ fb v ↔ v.ownBlock = some b := by simp [fb]
theorem Ap.symm (h : Ap l m) : Ap m l := fun b h1 h2 => h b h2 h1
theorem Ap.nil : Ap [] m := fun b h => by simp at h
theorem Ap.new (h1 : ∀ b ∈ l, k ≤ b) (h2 : ∀ b ∈ x, b < k) : Ap l x := fun b h h' => by have := h1 b h; have := h2 b h'; omega
theorem Ap.one (h : Ap l [g]) : g ∉ l := fun hg => h g hg (by simp)
theorem Ap.far (h : ∀ b ∈ l, b < g) : Ap l [g] := fun b hb h' => by simp at h'; subst h'; exact absurd (h b hb) (Nat.lt_irrefl _)
theorem Ap.farL (h : ∀ b ∈ l, b < g) : Ap [g] l := (Ap.far h).symm
theorem Ap.app (hn : ∀ b ∈ l', b ∈ l ∨ b ∈ l2 ∨ k ≤ b) (h1 : Ap l x) (h2 : Ap l2 x) (hi : ∀ b ∈ x, b < k) : Ap l' x := fun b hb h' => by
  rcases hn b hb with h3 | h3 | h3
  · exact h1 b h3 h'
  · exact h2 b h3 h'
  · have := hi b h'; omega
theorem Ap.cons (h1 : Ap [g] x) (h2 : Ap l x) : Ap (g :: l) x := fun b hb h' => by
  rcases List.mem_cons.1 hb with rfl | hb
  · exact h1 b (by simp) h'
  · exact h2 b hb h'
theorem Ap.append (h1 : Ap l x) (h2 : Ap m x) : Ap (l ++ m) x := fun b hb h' => by
  rcases List.mem_append.1 hb with hb | hb
  · exact h1 b hb h'
  · exact h2 b hb h'
theorem Dj.ap (h : Dj v u) : Ap (fb v) (fb u) := fun b h1 h2 => h b (mem_fb.1 h1) (mem_fb.1 h2)
theorem Ap.dj (h : Ap (fb v) (fb u)) : Dj v u := fun b h1 h2 => h b (mem_fb.2 h1) (mem_fb.2 h2)
theorem ne_ap (h : v.ownBlock ≠ some g) : Ap (fb v) [g] := fun b h1 h2 => by simp at h2; subst h2; exact h (mem_fb.1 h1)
theorem ap_ne (h : Ap (fb v) [g]) : v.ownBlock ≠ some g := fun h1 => h g (mem_fb.2 h1) (by simp)
end
/-- Elements one behind the other, with what they own. -/
def Parts {α : Type} (O : Ow α) (w : World) : List Value → List α → List Nat → Prop
  | cells, [], ib => cells = [] ∧ ib = []
  | cells, x :: xs, ib => ∃ cs rest b1 b2, cells = cs ++ rest ∧ O w cs x b1 ∧ ib = b1 ++ b2 ∧ Parts O w rest xs b2
/-- A slice of the call's own: its row from block lo on, its elements' blocks (no two alike, none the row's), all among bs. -/
def OwN {α : Type} (e : TypeId) (O : Ow α) (sz : Nat) (w : World) (lo : Nat) (v : Value) (xs : List α) (bs : List Nat) : Prop :=
  ∃ cells ib, w.ownsRow lo e sz v xs.length cells ∧ Parts O w cells xs ib ∧ ib.Nodup ∧ (∀ b ∈ ib, b ∈ bs) ∧ (∀ b, v.ownBlock = some b → b ∈ bs ∧ b ∉ ib) ∧ (∀ b ∈ bs, lo ≤ b ∧ b < w.heap.size)
/-- What an element's cells are: one value each. -/
def OneC {α : Type} (O : Ow α) : Prop := ∀ {w cs x bs}, O w cs x bs → ∀ u ∈ cs, u.oneCell' = true
theorem agentOw_one : OneC agentOw := fun ⟨A1, n1, c1, A2, n2, c2, b1, b2, e, _⟩ u hu => by rw [e] at hu; simp at hu; rcases hu with rfl | rfl | rfl | rfl | rfl <;> rfl
section
variable {α : Type} {O : Ow α} {R : Rd α} {sz : Nat} {w w' : World} {lo lo' : Nat} {v : Value} {xs ys : List α} {x : α} {bs : List Nat} {e : TypeId}
theorem Parts.keep (ok : OwOk O sz) : ∀ {xs : List α} {cells : List Value} {ib : List Nat}, (∀ b ∈ ib, w'.heap[b]? = w.heap[b]?) → Parts O w cells xs ib → Parts O w' cells xs ib
  | [], _, _, _, h => h
  | x :: xs, _, _, hb, ⟨cs, rest, b1, b2, e1, hO, e2, hr⟩ => by
    subst e1 e2
    exact ⟨cs, rest, b1, b2, rfl, ok.keep (fun b h => hb b (by simp [h])) hO, rfl, Parts.keep ok (fun b h => hb b (by simp [h])) hr⟩
theorem Parts.append : ∀ {xs ys : List α} {c1 c2 : List Value} {i1 i2 : List Nat}, Parts O w c1 xs i1 → Parts O w c2 ys i2 → Parts O w (c1 ++ c2) (xs ++ ys) (i1 ++ i2)
  | [], _, _, _, _, _, ⟨e1, e2⟩, h2 => by subst e1 e2; exact h2
  | x :: xs, _, _, _, _, _, ⟨cs, rest, b1, b2, e1, hO, e2, hr⟩, h2 => by
    subst e1 e2
    exact ⟨cs, _, b1, _, by rw [List.append_assoc], hO, by rw [List.append_assoc], Parts.append hr h2⟩
theorem Parts.one {cs : List Value} {b : List Nat} (h : O w cs x b) : Parts O w cs [x] b := ⟨cs, [], b, [], by simp, h, by simp, rfl, rfl⟩
theorem Parts.one_ (one : OneC O) : ∀ {xs : List α} {cells : List Value} {ib : List Nat}, Parts O w cells xs ib → ∀ u ∈ cells, u.oneCell' = true
  | [], _, _, ⟨e, _⟩, u, hu => by rw [e] at hu; simp at hu
  | x :: xs, _, _, ⟨cs, rest, b1, b2, e1, hO, e2, hr⟩, u, hu => by
    subst e1
    rcases List.mem_append.1 hu with h | h
    · exact one hO u h
    · exact Parts.one_ one hr u h
theorem Parts.len (ok : OwOk O sz) : ∀ {xs : List α} {cells : List Value} {ib : List Nat}, Parts O w cells xs ib → cells.length = xs.length * sz
  | [], _, _, ⟨e, _⟩ => by rw [e]; simp
  | x :: xs, _, _, ⟨cs, rest, b1, b2, e1, hO, e2, hr⟩ => by
    subst e1
    rw [List.length_append, ok.len hO, Parts.len ok hr, List.length_cons, Nat.add_mul]; omega
theorem Parts.elAt (ok : OwOk O sz) {g : Nat} {cur : Array Value} (hb : Blk w g e cur) : ∀ {xs : List α} {cells : List Value} {ib : List Nat} (o : Nat), (∀ (j : Nat) (u : Value), cells[j]? = some u → cur[o + j]? = some u) → Parts O w cells xs ib → ElAt O sz w g o xs ib
  | [], _, _, o, _, ⟨_, e⟩ => e
  | x :: xs, _, _, o, hc, ⟨cs, rest, b1, b2, e1, hO, e2, hr⟩ => by
    subst e1 e2
    have hl := ok.len hO
    refine ⟨cs, b1, b2, hO, hb.csAt (fun j u hj => hc j u ?_), rfl, Parts.elAt ok hb (o + sz) (fun j u hj => ?_) hr⟩
    · rw [List.getElem?_append_left (lt_of_some hj)]; exact hj
    · have := hc (sz + j) u (by rw [List.getElem?_append_right (by omega), hl, show sz + j - sz = j by omega]; exact hj)
      rwa [show o + (sz + j) = o + sz + j by omega] at this
/-- One element of many. -/
theorem Parts.split (ok : OwOk O sz) : ∀ {xs : List α} {cells : List Value} {ib : List Nat} {k : Nat} {x : α}, Parts O w cells xs ib → xs[k]? = some x →
    ∃ c1 cs c2 i1 b1 i2, cells = c1 ++ cs ++ c2 ∧ c1.length = k * sz ∧ O w cs x b1 ∧ ib = i1 ++ (b1 ++ i2) ∧ ∀ w' cs' x' b1', (∀ b ∈ i1 ++ i2, w'.heap[b]? = w.heap[b]?) → O w' cs' x' b1' → Parts O w' (c1 ++ cs' ++ c2) (xs.set k x') (i1 ++ (b1' ++ i2))
  | [], _, _, _, _, _, h => by simp at h
  | y :: ys, _, _, 0, x, ⟨cs, rest, b1, b2, e1, hO, e2, hr⟩, h => by
    have : y = x := by simpa using h
    subst this
    subst e1 e2
    exact ⟨[], cs, rest, [], b1, b2, by simp, by simp, hO, by simp, fun w' cs' x' b1' hb hO' => ⟨cs', rest, b1', b2, by simp, hO', by simp, Parts.keep ok (fun b h => hb b (by simp [h])) hr⟩⟩
  | y :: ys, _, _, k + 1, x, ⟨cs, rest, b1, b2, e1, hO, e2, hr⟩, h => by
    subst e1 e2
    obtain ⟨c1, cs2, c2, i1, b3, i2, f1, f2, f3, f4, f5⟩ := Parts.split ok hr (by simpa using h)
    subst f1 f4
    refine ⟨cs ++ c1, cs2, c2, b1 ++ i1, b3, i2, by simp, by rw [List.length_append, ok.len hO, f2, Nat.add_mul]; omega, f3, by simp, fun w' cs' x' b1' hb hO' => ?_⟩
    refine ⟨cs, _, b1, _, by simp [List.append_assoc], ok.keep (fun b h => hb b (by simp [h])) hO, by simp [List.append_assoc], f5 w' cs' x' b1' (fun b h => hb b (by simp at h ⊢; rcases h with h | h <;> simp [h])) hO'⟩
theorem OwN.keep (ok : OwOk O sz) (h : OwN e O sz w lo v xs bs) (hk : ∀ b ∈ bs, w'.heap[b]? = w.heap[b]?) (hs : w.heap.size ≤ w'.heap.size) : OwN e O sz w' lo v xs bs := by
  obtain ⟨cells, ib, h1, h2, h3, h4, h5, h6⟩ := h
  refine ⟨cells, ib, ?_, h2.keep ok (fun b hb => hk b (h4 b hb)), h3, h4, h5, fun b hb => by have := h6 b hb; omega⟩
  refine ⟨h1.1, ?_⟩
  rcases h1.2 with h | ⟨g, cap, cur, hv, hg, hh, r⟩
  · exact .inl h
  · exact .inr ⟨g, cap, cur, hv, hg, (hk g (h5 g (by rw [hv]; rfl)).1).trans hh, r⟩
theorem OwN.hi (h : OwN e O sz w lo v xs bs) : ∀ b ∈ bs, b < w.heap.size := by obtain ⟨cells, ib, h1, h2, h3, h4, h5, h6⟩ := h; exact fun b hb => (h6 b hb).2
theorem OwN.lo_ (h : OwN e O sz w lo v xs bs) : ∀ b ∈ bs, lo ≤ b := by obtain ⟨cells, ib, h1, h2, h3, h4, h5, h6⟩ := h; exact fun b hb => (h6 b hb).1
theorem OwN.row (h : OwN e O sz w lo v xs bs) {b : Nat} (hb : v.ownBlock = some b) : b ∈ bs := by obtain ⟨cells, ib, h1, h2, h3, h4, h5, h6⟩ := h; exact (h5 b hb).1
theorem OwN.below (ok : OwOk O sz) (h : OwN e O sz w lo v xs bs) (hb : Below w.heap.size w w') : OwN e O sz w' lo v xs bs := h.keep ok (fun b hin => hb.block b (h.hi b hin)) hb.size
theorem OwN.only {b : Nat} (ok : OwOk O sz) (h : OwN e O sz w lo v xs bs) (ho : Only [b] w w') (hn : b ∉ bs) : OwN e O sz w' lo v xs bs := h.keep ok (fun k hk => ho.block k (by intro hin; simp at hin; subst hin; exact hn hk)) (Nat.le_of_eq ho.size.symm)
theorem OwN.grown {row : Option Nat} (ok : OwOk O sz) (h : OwN e O sz w lo v xs bs) (hg : w.grownBy w' row) (hn : Ap bs row.toList) : OwN e O sz w' lo v xs bs := h.keep ok (fun k hk => hg.block k (h.hi k hk) (fun e => hn k hk (by simp [← e]))) hg.size
theorem OwN.mono (h : OwN e O sz w lo v xs bs) (hl : lo' ≤ lo) : OwN e O sz w lo' v xs bs := by
  obtain ⟨cells, ib, h1, h2, h3, h4, h5, h6⟩ := h
  refine ⟨cells, ib, ?_, h2, h3, h4, h5, fun b hb => by have := h6 b hb; omega⟩
  refine ⟨h1.1, ?_⟩
  rcases h1.2 with h | ⟨g, cap, cur, hv, hg, r⟩
  · exact .inl h
  · exact .inr ⟨g, cap, cur, hv, by omega, r⟩
theorem OwN.nil : OwN e O sz w lo (.slice none 0 0) ([] : List α) [] := ⟨[], [], ⟨by simp, .inl ⟨rfl, rfl⟩⟩, ⟨rfl, rfl⟩, List.nodup_nil, fun b hb => by simp at hb, fun b hb => by simp [Value.ownBlock] at hb, fun b hb => by simp at hb⟩
theorem OwN.form (h : OwN e O sz w lo v xs bs) : ∃ A c, v = .slice A xs.length c := by
  obtain ⟨cells, ib, h1, _⟩ := h
  rcases h1.2 with ⟨rfl, h0⟩ | ⟨g, cap, cur, hv, _⟩
  · exact ⟨none, 0, by rw [h0]⟩
  · exact ⟨_, _, hv⟩
theorem OwN.bound (h : OwN e O sz w lo v xs bs) : xs.length ≤ 9223372036854775807 := by
  obtain ⟨cells, ib, h1, _⟩ := h
  rcases h1.2 with ⟨_, h0⟩ | ⟨g, cap, cur, hv, hg, hh, h1, h2, _⟩
  · omega
  · unfold maxLen at h2; omega
theorem OwN.addr0 {A : Option Addr} {n c : Nat} (h : OwN e O sz w lo (.slice A n c) xs bs) (hn : 0 < n) : ∃ b, A = some ⟨b, 0, none⟩ := by
  obtain ⟨cells, ib, h1, _⟩ := h
  rcases h1.2 with ⟨h0, _⟩ | ⟨g, cap, cur, hv, _⟩
  · injection h0 with h1 h2; omega
  · injection hv with h1; exact ⟨g, h1⟩
theorem OwN.own1 (ok : OwOk O sz) (h : OwN e O sz w lo v xs bs) : ∃ A n c l, v = .slice A n c ∧ OwAt O sz w A n xs l ∧ l.Nodup ∧ (∀ b ∈ l, b ∈ bs) ∧ n ≤ c ∧ c ≤ maxLen := by
  obtain ⟨cells, ib, h1, h2, h3, h4, h5, h6⟩ := h
  rcases h1.2 with ⟨rfl, h0⟩ | ⟨g, cap, cur, rfl, hg, hh, k1, k2, k3, k4⟩
  · have : xs = [] := List.eq_nil_of_length_eq_zero h0
    subst this
    exact ⟨none, 0, 0, [], rfl, ⟨rfl, .inl ⟨rfl, rfl⟩⟩, List.nodup_nil, fun b hb => by simp at hb, Nat.le_refl _, Nat.zero_le _⟩
  · obtain ⟨hg1, hg2⟩ := h5 g rfl
    refine ⟨some ⟨g, 0, none⟩, _, cap, g :: ib, rfl, ⟨rfl, .inr ⟨g, 0, ib, rfl, rfl, ?_⟩⟩, List.nodup_cons.2 ⟨hg2, h3⟩, fun b hb => by
      rcases List.mem_cons.1 hb with rfl | hb
      · exact hg1
      · exact h4 b hb, k1, k2⟩
    refine h2.elAt (e := e) ok (cur := cur) hh 0 (fun j u hj => ?_)
    rw [← k4, List.getElem?_take] at hj
    split at hj
    · simpa using hj
    · cases hj
theorem OwN.own (ok : OwOk O sz) (h : OwN e O sz w lo v xs bs) : OwS O sz w v xs lo w.heap.size := by
  obtain ⟨A, n, c, l, e1, h1, h2, h3, r⟩ := h.own1 ok
  exact ⟨A, n, c, l, e1, h1, h2, fun b hb => ⟨h.lo_ b (h3 b hb), h.hi b (h3 b hb)⟩, r⟩
theorem OwN.rdS (ok : OwOk O sz) (hR : Gives O R w.heap.size) (h : OwN e O sz w lo v xs bs) : RdS R sz w w.heap.size v xs := (h.own ok).reads hR (Nat.le_refl _)
theorem OwN.arg (ok : OwOk O sz) (hR : Gives O R w.heap.size) (h : OwN e O sz w lo v xs bs) : Sl R sz w v xs := h.rdS ok hR
theorem OwN.sl {A : Option Addr} {n c : Nat} (ok : OwOk O sz) (hR : Gives O R w.heap.size) (h : OwN e O sz w lo (.slice A n c) xs bs) : SlAt R sz w w.heap.size A n xs ∧ n ≤ c ∧ c ≤ maxLen := by
  obtain ⟨A', n', c', he, h1, h2⟩ := h.rdS ok hR
  injection he with e1 e2 e3
  subst e1 e2 e3
  exact ⟨h1, h2⟩
/-- An element's cells. -/
theorem OwN.rd {b n c k : Nat} (ok : OwOk O sz) (hR : Gives O R w.heap.size) (h : OwN e O sz w lo (.slice (some ⟨b, 0, none⟩) n c) xs bs) (hx : xs[k]? = some x) : ∃ cs, R w w.heap.size cs x ∧ ∀ j v, cs[j]? = some v → w.cell? ⟨b, 0 + k * sz + j, none⟩ = some v := (h.sl ok hR).1.el hx
theorem OwN.lit1 {g : Nat} {cells : Array Value} {b1 l : List Nat} (B : Blk w g e cells) (hg : lo ≤ g) (hO : O w cells.toList x b1) (ok : OwOk O sz) (nd : b1.Nodup) (hs : ∀ b ∈ b1, b ∈ l) (hl : ∀ b ∈ l, lo ≤ b ∧ b < g) : OwN e O sz w lo (.slice (some ⟨g, 0, none⟩) 1 1) [x] (g :: l) := by
  have hc : cells.size = 1 * sz := by rw [← Array.length_toList, ok.len hO]; omega
  have hgl := B.lt
  refine ⟨cells.toList, b1, ⟨by simpa using hc, .inr ⟨g, 1, cells, rfl, hg, B, Nat.le_refl _, by unfold maxLen; omega, hc, ?_⟩⟩, Parts.one hO, nd, fun b hb => by simp [hs b hb], fun b hb => ?_, fun b hb => ?_⟩
  · rw [List.take_of_length_le]; simp [hc]
  · simp [Value.ownBlock] at hb; subst hb
    exact ⟨by simp, fun h => by have := hl _ (hs _ h); omega⟩
  · rcases List.mem_cons.1 hb with rfl | hb
    · exact ⟨hg, hgl⟩
    · have := hl b hb; omega
theorem nodup2 {l1 l2 m1 m2 : List Nat} (h1 : l1.Nodup) (h2 : l2.Nodup) (s1 : ∀ b ∈ l1, b ∈ m1) (s2 : ∀ b ∈ l2, b ∈ m2) (D : Ap m1 m2) : (l1 ++ l2).Nodup := List.nodup_append.2 ⟨h1, h2, fun a ha b hb e => by subst e; exact D a (s1 a ha) (s2 a hb)⟩
theorem sub2 {l1 l2 m1 m2 : List Nat} (s1 : ∀ b ∈ l1, b ∈ m1) (s2 : ∀ b ∈ l2, b ∈ m2) : ∀ b ∈ l1 ++ l2, b ∈ m1 ++ m2 := fun b hb => by
  rcases List.mem_append.1 hb with h | h
  · simp [s1 b h]
  · simp [s2 b h]
theorem all2 {p : Nat → Prop} {l1 l2 : List Nat} (s1 : ∀ b ∈ l1, p b) (s2 : ∀ b ∈ l2, p b) : ∀ b ∈ l1 ++ l2, p b := fun b hb => by
  rcases List.mem_append.1 hb with h | h
  · exact s1 b h
  · exact s2 b h
end
theorem setI_at {α : Type} {xs : List α} {i : Int} {k : Nat} {x : α} (hi : i = (k : Int)) (hk : k < xs.length) : (setI xs i x)[k]? = some x := by
  subst hi
  rw [setI_nat, List.getElem?_set_self hk]
theorem SlAt.nilOf {α : Type} {R : Rd α} {sz B n : Nat} {w : World} {A : Option Addr} {xs : List α} (h : SlAt R sz w B A n xs) (c : A.isNone = true) : xs = [] := by
  cases A with
  | some a => cases c
  | none =>
    rcases Nat.eq_zero_or_pos n with h0 | h0
    · exact List.eq_nil_of_length_eq_zero (by rw [← h.len]; exact h0)
    · obtain ⟨b, o, e, _⟩ := h.2 h0
      cases e
section
variable {P : Program} {C : World → Prop} {f : Nat → Value} {d : Option Tmp} {ty : TypeId} {pos : String} {af : Array Edge} {g : Option (Nat × Bool)} {x y : Operand} {t t' : TypeId} {A : Option Addr} {n c : Nat}
theorem Y.eqNil {e : TypeId} (hx : ev f x = .slice A n c) (hy : ev f y = .slice none 0 0) (ht : P.underlying t = some (.slice e)) : Y P C f ⟨d, .binOp .eql t x y t', ty, pos, af, g⟩ (.bool A.isNone) := fun w _ => by
  simp only [execOp, hx, hy, Sem.run_bind, eqGuard, Result.andThen_ok]
  simp [binOp, run_equal_slice_nil w t e A n c ht]
end
section
variable {α : Type} {R : Rd α} {O : Ow α} {enc : α → List Value} {sz : Nat} {w w' : World} {lo lo' : Nat} {v : Value} {xs ys : List α} {e : TypeId}
theorem OwF.own2 {A : Option Addr} {n c : Nat} (F : FlatT R O enc sz) (h : OwF e enc sz w lo (.slice A n c) xs) : ∃ l, OwAt O sz w A n xs l ∧ l.Nodup ∧ (∀ b ∈ l, b ∈ fb (.slice A n c)) ∧ n ≤ c ∧ c ≤ maxLen := by
  rcases h.2 with ⟨hv, h0⟩ | ⟨g, cap, cur, hv, hg, hh, h1, h2, h3, h4⟩
  · injection hv with e1 e2 e3
    subst e1 e2 e3
    have : xs = [] := List.eq_nil_of_length_eq_zero h0
    subst this
    exact ⟨[], ⟨rfl, .inl ⟨rfl, rfl⟩⟩, List.nodup_nil, fun b hb => by simp at hb, Nat.le_refl _, Nat.zero_le _⟩
  · injection hv with e1 e2 e3
    subst e1 e2 e3
    obtain ⟨A', n', c', l, he, hA, hn, hl, hc1, hc2⟩ := h.own F
    injection he with e1 e2 e3
    subst e1 e2 e3
    by_cases hx : xs = []
    · subst hx; exact ⟨[], ⟨rfl, .inl ⟨rfl, rfl⟩⟩, List.nodup_nil, fun b hb => by simp at hb, hc1, hc2⟩
    · rcases hA.2 with ⟨h5, _⟩ | ⟨b, o, b2, h5, h6, h7⟩
      · exact absurd h5 hx
      · injection h5 with h5
        injection h5 with h5
        subst h5
        have hflat : ∀ (l : List α) (o : Nat) (k : List Nat), ElAt O sz w g o l k → k = [] → True := fun _ _ _ _ _ => trivial
        refine ⟨[g], ⟨hA.1, .inr ⟨g, 0, [], rfl, rfl, ?_⟩⟩, by simp, fun b hb => by simpa [fb, Value.ownBlock] using hb, hc1, hc2⟩
        have hblk : Blk w g e cur := hh
        have key : ∀ (l : List α) (o : Nat), (∀ j u, (l.flatMap enc)[j]? = some u → cur[o + j]? = some u) → ElAt O sz w g o l [] := by
          intro l
          induction l with
          | nil => intro o _; rfl
          | cons x l ih =>
            intro o hl
            refine ⟨enc x, [], [], F.ow, hblk.csAt (fun j u hj => hl j u ?_), rfl, ih (o + sz) (fun j u hj => ?_)⟩
            · simp only [List.flatMap_cons]
              rw [List.getElem?_append_left (lt_of_some hj)]; exact hj
            · have := hl (sz + j) u (by
                simp only [List.flatMap_cons]
                rw [List.getElem?_append_right (by rw [F.len]; omega), F.len, show sz + j - sz = j by omega]; exact hj)
              rwa [show o + (sz + j) = o + sz + j by omega] at this
        refine key xs 0 (fun j u hj => ?_)
        rw [← h4, List.getElem?_take] at hj
        split at hj
        · simpa using hj
        · cases hj
theorem OwF.fhi (h : OwF e enc sz w lo v xs) : ∀ b ∈ fb v, b < w.heap.size := fun b hb => h.hi b (mem_fb.1 hb)
theorem OwF.flo (h : OwF e enc sz w lo v xs) : ∀ b ∈ fb v, lo ≤ b := fun b hb => h.lo_ b (mem_fb.1 hb)
theorem OwF.fboth (h : OwF e enc sz w lo v xs) {g : Nat} (hg : w.heap.size ≤ g) : ∀ b ∈ fb v, lo ≤ b ∧ b < g := fun b hb => ⟨h.flo b hb, Nat.lt_of_lt_of_le (h.fhi b hb) hg⟩
theorem one_hi {g : Nat} (h : g < w.heap.size) : ∀ b ∈ [g], b < w.heap.size := fun b hb => by simp at hb; subst hb; exact h
variable {O' : Ow α} {bs : List Nat} {u : Value}
/-- Another slice of the call's own, while the row of v grows or is written. -/
theorem OwN.dj (h : OwN e O' sz w lo v xs bs) (A : Ap bs (fb u)) : Dj u v := fun b h1 h2 => A b (h.row h2) (mem_fb.2 h1)
theorem OwN.neB {g : Nat} (h : OwN e O' sz w lo v xs bs) (A : Ap bs [g]) : v.ownBlock ≠ some g := fun h1 => A g (h.row h1) (by simp)
theorem OwN.both (h : OwN e O' sz w lo v xs bs) {g : Nat} (hg : w.heap.size ≤ g) : ∀ b ∈ bs, lo ≤ b ∧ b < g := fun b hb => ⟨h.lo_ b hb, Nat.lt_of_lt_of_le (h.hi b hb) hg⟩
end
section
variable {P : Program} {ops : Array Oper} {f : Nat → Value} {rest : List Oper} {Q : (Nat → Value) → World → Prop} {w : World} {d : Option Tmp} {ty : TypeId} {pos : String} {af : Array Edge} {g : Option (Nat × Bool)} {x y : Operand} {t e : TypeId} {z : Value} {sz bb : Nat}
theorem RL.appendN {α : Type} {O : Ow α} {v vy : Value} {xs ys : List α} {lo : Nat} {bs bs2 : List Nat} (ok : OwOk O sz) (one : OneC O) (hp : 0 < sz) (A : AppT P t e z sz bb) (hg : wantF f ops ⟨d, .call ⟨.builtin .append, #[x, y], #[t, t]⟩, ty, pos, af, g⟩ = true)
    (hx : ev f x = v) (hy : ev f y = vy) (hv : OwN e O sz w lo v xs bs) (hr : OwN e O sz w lo vy ys bs2) (D : Ap bs bs2) (hlo : lo ≤ w.heap.size) (hk : xs.length + ys.length ≤ 4294967296)
    (h : ∀ v' w1 bs', OwN e O sz w1 lo v' (xs ++ ys) bs' → w.grownBy w1 v.ownBlock → Below lo w w1 → (∀ b ∈ bs', b ∈ bs ∨ b ∈ bs2 ∨ w.heap.size ≤ b) → RL P ops Q rest (upo f d v') w1) : RL P ops Q (⟨d, .call ⟨.builtin .append, #[x, y], #[t, t]⟩, ty, pos, af, g⟩ :: rest) f w := by
  have hrun : ∀ v' w1, (Builtin.append_ #[t, t] ty #[v, vy]).run P w = .ok v' w1 → (execOp (ev f) ⟨d, .call ⟨.builtin .append, #[x, y], #[t, t]⟩, ty, pos, af, g⟩).run P w = .ok (.value v') w1 := fun v' w1 h0 => by
    simp [execOp, resolve, invoke, builtin, hx, hy, h0]
  have hv0 := hv
  obtain ⟨cells, ib, h1, h2, h3, h4, h5, h6⟩ := hv
  obtain ⟨cells2, ib2, k1, k2, k3, k4, k5, k6⟩ := hr
  have hdis : (ib ++ ib2).Nodup := List.nodup_append.2 ⟨h3, k3, fun a ha b hb e => by subst e; exact D a (h4 a ha) (k4 a hb)⟩
  rcases k1.2 with ⟨rfl, h0⟩ | ⟨g2, cap2, cur2, rfl, hg2, hh2, m1, m2, m3, m4⟩
  · have : ys = [] := List.eq_nil_of_length_eq_zero h0
    subst this
    refine .inl ⟨hg, ?_⟩
    rw [hrun v w (append_none A h1 ty)]
    exact h v w bs (by simpa using hv0) ⟨rfl, rfl, rfl, Nat.le_refl _, fun _ _ _ => rfl⟩ (Below.refl _ _) (fun b hb => .inl hb)
  · have hblk : Blk w g2 e cur2 := hh2
    have hcells : ∀ j u, cells2[j]? = some u → w.cell? ((⟨g2, 0, none⟩ : Addr).add j) = some u := fun j u hj => by
      rw [Addr.add_eq, Nat.zero_add, hblk.cell]
      rw [← m4, List.getElem?_take] at hj
      split at hj
      · simpa using hj
      · cases hj
    obtain ⟨v', w1, r1, r2, r3, r4⟩ := append_own2 A hp h1 hlo ⟨g2, 0, none⟩ ys.length cap2 cells2 (k2.len ok) hcells (k2.one_ one) hk ty
    refine .inl ⟨hg, ?_⟩
    rw [hrun v' w1 r1]
    have hkeep : ∀ b ∈ ib ++ ib2, b < w.heap.size ∧ some b ≠ v.ownBlock := fun b hb => by
      rcases List.mem_append.1 hb with hb | hb
      · exact ⟨(h6 b (h4 b hb)).2, fun e => (h5 b e.symm).2 hb⟩
      · exact ⟨(k6 b (k4 b hb)).2, fun e => D b (h5 b e.symm).1 (k4 b hb)⟩
    refine h v' w1 (fb v' ++ (ib ++ ib2)) ⟨cells ++ cells2, ib ++ ib2, ?_, ?_, hdis, fun b hb => by simp at hb ⊢; exact .inr hb, fun b hb => ⟨by simp [mem_fb.2 hb], fun hin => ?_⟩, fun b hb => ?_⟩ r3 ?_ ?_
    · rw [List.length_append]; exact r2
    · exact (h2.keep ok (fun b hb => r3.block b (hkeep b (by simp [hb])).1 (hkeep b (by simp [hb])).2)).append (k2.keep ok (fun b hb => r3.block b (hkeep b (by simp [hb])).1 (hkeep b (by simp [hb])).2))
    · rcases r4 b hb with h7 | h7
      · exact (hkeep b hin).2 h7.symm
      · have := (hkeep b hin).1; omega
    · rcases List.mem_append.1 hb with h7 | h7
      · exact ⟨(r2.lt b (mem_fb.1 h7)).1, (r2.lt b (mem_fb.1 h7)).2⟩
      · have h8 := (hkeep b h7).1
        have := r3.size
        rcases List.mem_append.1 h7 with h7 | h7
        · exact ⟨(h6 b (h4 b h7)).1, by omega⟩
        · exact ⟨(k6 b (k4 b h7)).1, by omega⟩
    · exact (Below.refl lo w).grown r3 hlo (fun b hb => (h6 b (h5 b hb).1).1)
    · intro b hb
      rcases List.mem_append.1 hb with h7 | h7
      · rcases r4 b (mem_fb.1 h7) with h8 | h8
        · exact .inl (h5 b h8).1
        · exact .inr (.inr h8)
      · rcases List.mem_append.1 h7 with h7 | h7
        · exact .inl (h4 b h7)
        · exact .inr (.inl (k4 b h7))
/-- A store of one cell of an element of plain cells. -/
theorem RL.storeFj {α : Type} {R : Rd α} {O : Ow α} {enc : α → List Value} {v : Value} {xs : List α} {lo k n c b j : Nat} {a a' : α} (F : FlatT R O enc sz) (hg : wantF f ops ⟨d, .store t x y, ty, pos, af, g⟩ = true) (hx : ev f x = .pointer (some ⟨b, 0 + k * sz + j, none⟩)) (hy : ev f y = v)
    (hv : OwF e enc sz w lo (.slice (some ⟨b, 0, none⟩) n c) xs) (hk : xs[k]? = some a) (hj : j < sz) (he : (enc a).set j v = enc a') (h1 : v.oneCell' = true) (hc : v.cells = #[v]) (hs : (P.info? t).map (·.size) = some 1)
    (h : ∀ w1, OwF e enc sz w1 lo (.slice (some ⟨b, 0, none⟩) n c) (xs.set k a') → Only [b] w w1 → RL P ops Q rest (upo f d undef) w1) : RL P ops Q (⟨d, .store t x y, ty, pos, af, g⟩ :: rest) f w := by
  refine .inl ⟨hg, ?_⟩
  cases hi : P.info? t with
  | none => rw [hi] at hs; cases hs
  | some inf =>
    rw [hi] at hs
    simp only [Option.map_some, Option.some.injEq] at hs
    obtain ⟨hl, hv2⟩ := hv
    rcases hv2 with ⟨h0, _⟩ | ⟨b', cap, cur, hv, hlo, hh, h1', h2, h3, h4⟩
    · cases h0
    · injection hv with e1 e2 e3
      injection e1 with e1
      injection e1 with e1
      subst e1 e2 e3
      have hkl := lt_of_some hk
      have hkc : k * sz + sz ≤ xs.length * sz := by
        have := Nat.mul_le_mul_right sz (show k + 1 ≤ xs.length from hkl)
        rw [Nat.add_mul] at this; omega
      have hcc : xs.length * sz ≤ cur.size := by rw [h3]; exact Nat.mul_le_mul_right _ h1'
      have hst := run_storeCells_at (P := P) b (k * sz + j) e [v] 0 cur w hh (by simp; omega) (fun u hu => by simp at hu; subst hu; exact h1)
      have hr : (execOp (ev f) ⟨d, .store t x y, ty, pos, af, g⟩).run P w = .ok .skip (w.setRow b (cur.toList.take (k * sz + j) ++ [v] ++ cur.toList.drop (k * sz + j + 1)).toArray) := by
        simp only [Nat.add_zero] at hst
        simp [execOp, hx, hy, Instr.storeAt, Instr.sureAddr, storeVar, sizeOf, typeInfo, hi, hc, hs, hst]
      rw [hr]
      refine h _ ⟨?_, .inr ⟨b, c, _, by rw [List.length_set], hlo, setRow_heap w b cur _ e _ hh, by rw [List.length_set]; exact h1', h2, ?_, ?_⟩⟩ (setRow_only _ _ _)
      · rw [F.flen]
      · simp only [List.size_toArray, List.length_append, List.length_take, List.length_drop, Array.length_toList, List.length_cons, List.length_nil]
        rw [← h3]; omega
      · rw [F.fset hkl, List.length_set, ← h4, ← he]
        have hsp := splice_take (A := cur.toList) (E := [v]) (p := k * sz + j) (L := xs.length * sz) (by simp; omega) (by simpa using hcc)
        simp only [List.length_cons, List.length_nil, Nat.zero_add] at hsp
        show List.take (xs.length * sz) (cur.toList.take (k * sz + j) ++ [v] ++ cur.toList.drop (k * sz + j + 1)) = _
        rw [hsp]
        have hel : (enc a).length = sz := F.len a
        -- the element's cells
        have hget : ((cur.toList.take (xs.length * sz)).drop (k * sz)).take sz = enc a := by
          rw [h4]
          apply List.ext_getElem?
          intro i
          rw [List.getElem?_take]
          split
          · rename_i hi
            rw [List.getElem?_drop]
            have hu := List.getElem?_eq_getElem (show i < (enc a).length by omega)
            rw [hu]
            exact F.fget hk hu
          · rw [List.getElem?_eq_none (by omega)]
        have hL : (cur.toList.take (xs.length * sz)).length = xs.length * sz := by rw [List.length_take]; simp; omega
        generalize cur.toList.take (xs.length * sz) = M at *
        have e7 : M.take (k * sz + j) = M.take (k * sz) ++ (enc a).take j := by
          rw [← hget, List.take_take, Nat.min_eq_left (by omega), List.take_add]
        have e8 : M.drop (k * sz + j + 1) = (enc a).drop (j + 1) ++ M.drop (k * sz + sz) := by
          rw [← hget, List.drop_take]
          have e9 : M.drop (k * sz + j + 1) = (M.drop (k * sz)).drop (j + 1) := by rw [List.drop_drop, Nat.add_assoc]
          have e10 : M.drop (k * sz + sz) = ((M.drop (k * sz)).drop (j + 1)).drop (sz - (j + 1)) := by rw [List.drop_drop, List.drop_drop]; congr 1; omega
          rw [e9, e10, List.take_append_drop]
        rw [e7, e8, List.set_eq_take_append_cons_drop, if_pos (by omega)]
        simp [List.append_assoc]
end
end
section
open Go.RowKit
set_option linter.unusedVariables false
set_option linter.unusedSimpArgs false
set_option maxRecDepth 100000
def m_spec_l00Own (d0 : List Int) : Option (List Int) :=
  ((mustP (([] : List Int).length + d0.length ≤ 4294967296)).bind fun _ => some (([] : List Int) ++ d0))
set_option maxHeartbeats 2000000 in
theorem c_m_spec_l00Own (d0 : List Int) (r : List Int) (hm : m_spec_l00Own d0 = some r) (v0 : Value) (w : World) (hv0 : Sl intRd 1 w v0 d0) :
    Calls Try.prog 74 #[v0] w fun e w' => (∃ (v0 : Value), e = .returned (v0) ∧ OwF 2 encI 1 w' w.heap.size v0 r) ∧ Below w.heap.size w w' := by
  obtain ⟨Aa0, na0, ca0, rfl, ha0, ra0⟩ := hv0
  have ea0 := ha0.len; subst ea0
  have qa0 := len_le ra0
  have T := Below.refl w.heap.size w
  unfold m_spec_l00Own at hm
  refine enter 6 Try.func74 rfl rfl rfl ?_
  intro f hf
  have s0 : f 0 = .slice Aa0 d0.length ca0 := hf 0 _ rfl
  refine wp_seq ?_
  refine wp_rs rfl ?_
  refine RQ.y rfl (Y.assign (v := .slice none 0 0) rfl) ?_
  refine RQ.nil ?_
  refine then_n ?_
  refine wp_seq ?_
  refine wp_rl rfl ?_
  refine RL.bslice (e := 2) (cells := #[]) rfl pm0 (by kernel_rfl) (fun w1 B2 hb3 szw1 => ?_)
  have ZB2 : w.heap.size ≤ w.heap.size := T.size
  have T := Tt T hb3
  have G5 := OwF.lit (enc := encI) (sz := 1) (xs := ([] : List Int)) B2 ZB2 rfl rfl rfl rfl
  refine RL.y rfl (Y.move (v := .slice Aa0 d0.length ca0) s0) ?_
  obtain ⟨_, m7, hm⟩ := bnd hm
  have hk8 := mustP_some m7
  refine RL.append fI app_int64 rfl rfl rfl G5 (slArg intRd_ok ha0 ra0 T) T.size hk8 (fun v9 w10 G11 hgr12 hbl13 hnb14 => ?_)
  have szw10 := hbl13.size
  have T := T.trans hbl13
  refine RL.y rfl (Y.assign (v := v9) rfl) ?_
  refine RL.nil ?_
  refine then_n ?_
  refine wp_ret ?_
  obtain rfl := Option.some.inj hm
  exact (ret1 rfl rfl rfl ⟨⟨_, rfl, G11⟩, T⟩)
def m_spec_l11OwnAgent (d0 : DAgent) : Option DAgent :=
  ((m_spec_l00Own d0.data).bind fun y9 => ((mustP (([] : List DPort).length + d0.ports.length ≤ 4294967296)).bind fun _ => some (⟨d0.kind, d0.level, d0.value, y9, (([] : List DPort) ++ d0.ports)⟩ : DAgent)))
set_option maxHeartbeats 2000000 in
theorem c_m_spec_l11OwnAgent (d0 : DAgent) (r : DAgent) (hm : m_spec_l11OwnAgent d0 = some r) (v0 : Value) (w : World) (hv0 : Pt agentRd w v0 d0) :
    Calls Try.prog 82 #[v0] w fun e w' => (∃ (v0 : Value) (v1 : Value), e = .returned (.agg #[.int .i64 r.kind, .int .i64 r.level, .int .i64 r.value, v0, v1]) ∧ OwF 2 encI 1 w' w.heap.size v0 r.data ∧ OwF 28 encPort 2 w' w.heap.size v1 r.ports ∧ Dj v0 v1) ∧ Below w.heap.size w w' := by
  obtain ⟨ba0, oa0, csa0, rfl, hba0, hRa0, hca0⟩ := hv0
  have hSa0 := hRa0
  obtain ⟨A1, n1, c1, A2, n2, c2, rfl, ⟨h1, r1⟩, ⟨h2, r2⟩⟩ := hRa0
  have e1 := h1.len; subst e1
  have q1 := len_le r1
  have e2 := h2.len; subst e2
  have q2 := len_le r2
  have T := Below.refl w.heap.size w
  unfold m_spec_l11OwnAgent at hm
  refine enter 27 Try.func82 rfl rfl rfl ?_
  intro f hf
  have s0 : f 0 = .pointer (some ⟨ba0, oa0, none⟩) := hf 0 _ rfl
  refine wp_seq ?_
  refine wp_rl rfl ?_
  refine RL.alloc (z := .agg #[.int .i64 0, .int .i64 0, .int .i64 0, .slice none 0 0, .slice none 0 0]) rfl (by kernel_rfl) (fun w3 B4 hb5 szw3 => ?_)
  replace B4 : Blk w3 w.heap.size 81 #[.int .i64 0, .int .i64 0, .int .i64 0, .slice none 0 0, .slice none 0 0] := B4
  have GB4 : w.heap.size ≤ w.heap.size := T.size
  have T := Tt T hb5
  refine RL.nil ?_
  refine then_n ?_
  refine wp_seq ?_
  refine wp_rgt (fun w' => Below w.heap.size w w') (.q 0 (.q 1 (.q 2 (.q 3 (.q 4 (.q 5 (.q 6 (.q 7 (.q 8 (.q 9 (.q 10 (.q 11 (.q 12 (.q 13 (.q 14 (.q 15 (.q 18 (.q 19 (.q 20 (.q 21 (.two 16 (.a 17 (.a 22 (.q 23 (.a 24 .nil)))) 17 (.a 16 (.a 22 (.q 23 (.a 24 .nil))))))))))))))))))))))))) (by kernel_rfl) (by kernel_rfl) (fun w7 hb8 szw7 => ?_)
  have B4 := blkT B4 hb8
  have T := Tt T hb8
  refine ⟨T, ?_⟩
  refine RT.y rfl rfl (Y.move (v := .pointer (some ⟨ba0, oa0, none⟩)) s0) ?_
  refine RT.y rfl rfl (Y.nilCheck rfl) ?_
  refine RT.y rfl rfl (Y.fieldAddr (off := 0) rfl (by kernel_rfl)) ?_
  refine RT.y rfl rfl (Y.load (v := .int .i64 d0.kind) rfl (by kernel_rfl) (fun w' hS => (cellT hS (hca0 0 _ rfl)))) ?_
  refine RT.y rfl rfl (Y.move (v := .pointer (some ⟨ba0, oa0, none⟩)) s0) ?_
  refine RT.y rfl rfl (Y.nilCheck rfl) ?_
  refine RT.y rfl rfl (Y.fieldAddr (off := 1) rfl (by kernel_rfl)) ?_
  refine RT.y rfl rfl (Y.load (v := .int .i64 d0.level) rfl (by kernel_rfl) (fun w' hS => (cellT hS (hca0 1 _ rfl)))) ?_
  refine RT.y rfl rfl (Y.move (v := .pointer (some ⟨ba0, oa0, none⟩)) s0) ?_
  refine RT.y rfl rfl (Y.nilCheck rfl) ?_
  refine RT.y rfl rfl (Y.fieldAddr (off := 2) rfl (by kernel_rfl)) ?_
  refine RT.y rfl rfl (Y.load (v := .int .i64 d0.value) rfl (by kernel_rfl) (fun w' hS => (cellT hS (hca0 2 _ rfl)))) ?_
  refine RT.y rfl rfl (Y.move (v := .pointer (some ⟨ba0, oa0, none⟩)) s0) ?_
  refine RT.y rfl rfl (Y.nilCheck rfl) ?_
  refine RT.y rfl rfl (Y.fieldAddr (off := 3) rfl (by kernel_rfl)) ?_
  refine RT.y rfl rfl (Y.load (v := .slice A1 d0.data.length c1) rfl (by kernel_rfl) (fun w' hS => (cellT hS (hca0 3 _ rfl)))) ?_
  refine RT.y rfl rfl (Y.move (v := .pointer (some ⟨ba0, oa0, none⟩)) s0) ?_
  refine RT.y rfl rfl (Y.nilCheck rfl) ?_
  refine RT.y rfl rfl (Y.fieldAddr (off := 4) rfl (by kernel_rfl)) ?_
  refine RT.y rfl rfl (Y.load (v := .slice A2 d0.ports.length c2) rfl (by kernel_rfl) (fun w' hS => (cellT hS (hca0 4 _ rfl)))) ?_
  refine RT.both rfl rfl ?_ ?_
  · obtain ⟨y9, e10, hm⟩ := bnd hm
    refine RL.call rfl (am1 rfl) (by kernel_rfl) ((c_m_spec_l00Own d0.data _ e10 _ _ (slArg intRd_ok h1 r1 T)).mono ?_)
    rintro _ w14 ⟨⟨v11, rfl, G12⟩, hb15⟩
    refine ⟨_, rfl, ?_⟩
    have szw14 := hb15.size
    have T0w14 := T.size
    have Zo13_ob6 := ap_ne (Ap.new (OwF.flo G12) (one_hi B4.lt))
    have B4 := blkT B4 hb15
    have T := Tt T hb15
    replace G12 := OwF.mono G12 T0w14
    refine RL.nil ⟨T, ?_⟩
    refine RT.act rfl ?_
    refine RL.bslice (e := 28) (cells := #[]) rfl pm0 (by kernel_rfl) (fun w16 B17 hb18 szw16 => ?_)
    have ZB17 : w.heap.size ≤ w14.heap.size := T.size
    have No19_ob6 := litNe (n := 0) (c := 0) B4.lt
    have Do19_o13 := Dj.new (v := .slice (some ⟨w14.heap.size, 0, none⟩) 0 0) litGe (OwF.hi G12)
    have B4 := blkT B4 hb18
    have G12 := OwF.below G12 hb18
    have T := Tt T hb18
    have G20 := OwF.lit (enc := encPort) (sz := 2) (xs := ([] : List DPort)) B17 ZB17 rfl rfl rfl rfl
    refine RL.nil ⟨T, ?_⟩
    refine RT.act rfl ?_
    obtain ⟨_, m22, hm⟩ := bnd hm
    have hk23 := mustP_some m22
    refine RL.append fPort app_impl_Port rfl rfl rfl G20 (slArg portRd_ok h2 r2 T) T.size hk23 (fun v24 w25 G26 hgr27 hbl28 hnb29 => ?_)
    have szw25 := hbl28.size
    have No30_ob6 := ne_app hnb29 No19_ob6 B4.lt
    have Do30_o13 := Dj.app Do19_o13 hnb29 (OwF.hi G12)
    have B4 := Blk.kept B4 hgr27 No19_ob6
    have G12 := OwF.keptD G12 hgr27 (Dj.symm Do19_o13)
    have T := T.trans hbl28
    refine RL.nil ⟨T, ?_⟩
    obtain ⟨A31, c32, rfl⟩ := OwF.form G12
    have qbA31 := OwF.bound G12
    obtain ⟨A33, c34, rfl⟩ := OwF.form G26
    have qbA33 := OwF.bound G26
    refine RT.y rfl rfl (Y.build5 (cells := #[.int .i64 d0.kind, .int .i64 d0.level, .int .i64 d0.value, .slice A31 y9.length c32, .slice A33 ((([] : List DPort) ++ d0.ports).length) c34]) rfl rfl rfl rfl rfl (by kernel_rfl) (by kernel_rfl)) ?_
    refine RT.act rfl ?_
    refine RL.store (v := .agg #[.int .i64 d0.kind, .int .i64 d0.level, .int .i64 d0.value, .slice A31 y9.length c32, .slice A33 ((([] : List DPort) ++ d0.ports).length) c34]) (cs' := #[.int .i64 d0.kind, .int .i64 d0.level, .int .i64 d0.value, .slice A31 y9.length c32, .slice A33 ((([] : List DPort) ++ d0.ports).length) c34]) rfl rfl rfl B4 (by kernel_rfl) (by rfl) (by rfl) (by rfl) (fun w35 B36 ho37 => ?_)
    have szw35 := ho37.size
    have G12 := OwF.only G12 ho37 Zo13_ob6
    have G26 := OwF.only G26 ho37 No30_ob6
    have T := T.trans (ho37.below (by first | (simp; done) | (simp; omega)))
    refine RL.nil ⟨T, ?_⟩
    refine RT.nil_ ?_
    refine then_n ?_
    refine wp_ret ?_
    obtain rfl := Option.some.inj hm
    exact (retc (cs := [.int .i64 d0.kind, .int .i64 d0.level, .int .i64 d0.value, .slice A31 y9.length c32, .slice A33 ((([] : List DPort) ++ d0.ports).length) c34]) rfl rfl rfl (by kernel_rfl) (blkCells B36) ⟨⟨_, _, rfl, G12, G26, (Ap.dj (Ap.symm (Dj.ap Do30_o13)))⟩, T⟩)
  · refine RL.bslice (e := 28) (cells := #[]) rfl pm0 (by kernel_rfl) (fun w38 B39 hb40 szw38 => ?_)
    have ZB39 : w.heap.size ≤ w7.heap.size := T.size
    have No41_ob6 := litNe (n := 0) (c := 0) B4.lt
    have B4 := blkT B4 hb40
    have T := Tt T hb40
    have G42 := OwF.lit (enc := encPort) (sz := 2) (xs := ([] : List DPort)) B39 ZB39 rfl rfl rfl rfl
    refine RL.nil ⟨T, ?_⟩
    refine RT.act rfl ?_
    obtain ⟨y44, e45, hm⟩ := bnd hm
    refine RL.call rfl (am1 rfl) (by kernel_rfl) ((c_m_spec_l00Own d0.data _ e45 _ _ (slArg intRd_ok h1 r1 T)).mono ?_)
    rintro _ w49 ⟨⟨v46, rfl, G47⟩, hb50⟩
    refine ⟨_, rfl, ?_⟩
    have szw49 := hb50.size
    have T0w49 := T.size
    have Zo48_ob6 := ap_ne (Ap.new (OwF.flo G47) (one_hi B4.lt))
    have Zo48_o41 := Ap.dj (Ap.new (OwF.flo G47) (OwF.fhi G42))
    have B4 := blkT B4 hb50
    have G42 := OwF.below G42 hb50
    have T := Tt T hb50
    replace G47 := OwF.mono G47 T0w49
    refine RL.nil ⟨T, ?_⟩
    refine RT.act rfl ?_
    obtain ⟨_, m51, hm⟩ := bnd hm
    have hk52 := mustP_some m51
    refine RL.append fPort app_impl_Port rfl rfl rfl G42 (slArg portRd_ok h2 r2 T) T.size hk52 (fun v53 w54 G55 hgr56 hbl57 hnb58 => ?_)
    have szw54 := hbl57.size
    have No59_ob6 := ne_app hnb58 No41_ob6 B4.lt
    have Do59_o48 := Dj.app (Dj.symm Zo48_o41) hnb58 (OwF.hi G47)
    have B4 := Blk.kept B4 hgr56 No41_ob6
    have G47 := OwF.keptD G47 hgr56 Zo48_o41
    have T := T.trans hbl57
    refine RL.nil ⟨T, ?_⟩
    obtain ⟨A60, c61, rfl⟩ := OwF.form G47
    have qbA60 := OwF.bound G47
    obtain ⟨A62, c63, rfl⟩ := OwF.form G55
    have qbA62 := OwF.bound G55
    refine RT.y rfl rfl (Y.build5 (cells := #[.int .i64 d0.kind, .int .i64 d0.level, .int .i64 d0.value, .slice A60 y44.length c61, .slice A62 ((([] : List DPort) ++ d0.ports).length) c63]) rfl rfl rfl rfl rfl (by kernel_rfl) (by kernel_rfl)) ?_
    refine RT.act rfl ?_
    refine RL.store (v := .agg #[.int .i64 d0.kind, .int .i64 d0.level, .int .i64 d0.value, .slice A60 y44.length c61, .slice A62 ((([] : List DPort) ++ d0.ports).length) c63]) (cs' := #[.int .i64 d0.kind, .int .i64 d0.level, .int .i64 d0.value, .slice A60 y44.length c61, .slice A62 ((([] : List DPort) ++ d0.ports).length) c63]) rfl rfl rfl B4 (by kernel_rfl) (by rfl) (by rfl) (by rfl) (fun w64 B65 ho66 => ?_)
    have szw64 := ho66.size
    have G47 := OwF.only G47 ho66 Zo48_ob6
    have G55 := OwF.only G55 ho66 No59_ob6
    have T := T.trans (ho66.below (by first | (simp; done) | (simp; omega)))
    refine RL.nil ⟨T, ?_⟩
    refine RT.nil_ ?_
    refine then_n ?_
    refine wp_ret ?_
    obtain rfl := Option.some.inj hm
    exact (retc (cs := [.int .i64 d0.kind, .int .i64 d0.level, .int .i64 d0.value, .slice A60 y44.length c61, .slice A62 ((([] : List DPort) ++ d0.ports).length) c63]) rfl rfl rfl (by kernel_rfl) (blkCells B65) ⟨⟨_, _, rfl, G47, G55, (Ap.dj (Ap.symm (Dj.ap Do59_o48)))⟩, T⟩)
def m_slices_Clone_int64_int64 (d0 : List Int) : Option (List Int) :=
  ((mustP (([] : List Int).length + d0.length ≤ 4294967296)).bind fun _ => some (([] : List Int) ++ d0))
set_option maxHeartbeats 2000000 in
theorem c_m_slices_Clone_int64_int64 (d0 : List Int) (r : List Int) (hm : m_slices_Clone_int64_int64 d0 = some r) (v0 : Value) (w : World) (hv0 : Sl intRd 1 w v0 d0) :
    Calls Try.prog 126 #[v0] w fun e w' => (∃ (v0 : Value), e = .returned (v0) ∧ OwF 2 encI 1 w' w.heap.size v0 r) ∧ Below w.heap.size w w' := by
  obtain ⟨Aa0, na0, ca0, rfl, ha0, ra0⟩ := hv0
  have ea0 := ha0.len; subst ea0
  have qa0 := len_le ra0
  have T := Below.refl w.heap.size w
  unfold m_slices_Clone_int64_int64 at hm
  refine enter 8 Try.func126 rfl rfl rfl ?_
  intro f hf
  have s0 : f 0 = .slice Aa0 d0.length ca0 := hf 0 _ rfl
  refine wp_seq ?_
  refine wp_rs rfl ?_
  refine RQ.y rfl (Y.assign (v := .slice none 0 0) rfl) ?_
  refine RQ.nil ?_
  refine then_n ?_
  refine wp_seq ?_
  refine wp_seq ?_
  refine wp_rs rfl ?_
  refine RQ.y rfl (Y.move (v := .slice Aa0 d0.length ca0) s0) ?_
  refine RQ.y rfl (Y.eqNil (e := 2) rfl rfl (by kernel_rfl)) ?_
  refine RQ.nil ?_
  refine then_n ?_
  rcases bcases Aa0.isNone with c1 | c1
  · refine cond_f rfl (vb rfl c1) ?_
    refine wp_skip ?_
    refine then_n ?_
    refine wp_seq ?_
    refine wp_rl rfl ?_
    refine RL.bslice (e := 2) (cells := #[]) rfl pm0 (by kernel_rfl) (fun w2 B3 hb4 szw2 => ?_)
    have ZB3 : w.heap.size ≤ w.heap.size := T.size
    have T := Tt T hb4
    have G6 := OwF.lit (enc := encI) (sz := 1) (xs := ([] : List Int)) B3 ZB3 rfl rfl rfl rfl
    refine RL.y rfl (Y.move (v := .slice Aa0 d0.length ca0) s0) ?_
    obtain ⟨_, m8, hm⟩ := bnd hm
    have hk9 := mustP_some m8
    refine RL.append fI app_int64 rfl rfl rfl G6 (slArg intRd_ok ha0 ra0 T) T.size hk9 (fun v10 w11 G12 hgr13 hbl14 hnb15 => ?_)
    have szw11 := hbl14.size
    have T := T.trans hbl14
    refine RL.y rfl (Y.assign (v := v10) rfl) ?_
    refine RL.nil ?_
    refine then_n ?_
    refine wp_ret ?_
    obtain rfl := Option.some.inj hm
    exact (ret1 rfl rfl rfl ⟨⟨_, rfl, G12⟩, T⟩)
  · have hd17 := SlAt.nilOf ha0 c1
    replace hm : some ([]) = some r := by rw [hd17] at hm; simpa [mustP] using hm
    refine cond_t rfl (vb rfl c1) ?_
    refine wp_seq ?_
    refine wp_rs rfl ?_
    refine RQ.y rfl (Y.assign (v := .slice none 0 0) rfl) ?_
    refine RQ.nil ?_
    refine then_n ?_
    refine wp_ret ?_
    obtain rfl := Option.some.inj hm
    exact (then_r (ret1 rfl rfl rfl ⟨⟨_, rfl, OwF.nil⟩, T⟩))
def m_slices_Clone_impl_Port_impl_Port (d0 : List DPort) : Option (List DPort) :=
  ((mustP (([] : List DPort).length + d0.length ≤ 4294967296)).bind fun _ => some (([] : List DPort) ++ d0))
set_option maxHeartbeats 2000000 in
theorem c_m_slices_Clone_impl_Port_impl_Port (d0 : List DPort) (r : List DPort) (hm : m_slices_Clone_impl_Port_impl_Port d0 = some r) (v0 : Value) (w : World) (hv0 : Sl portRd 2 w v0 d0) :
    Calls Try.prog 127 #[v0] w fun e w' => (∃ (v0 : Value), e = .returned (v0) ∧ OwF 28 encPort 2 w' w.heap.size v0 r) ∧ Below w.heap.size w w' := by
  obtain ⟨Aa0, na0, ca0, rfl, ha0, ra0⟩ := hv0
  have ea0 := ha0.len; subst ea0
  have qa0 := len_le ra0
  have T := Below.refl w.heap.size w
  unfold m_slices_Clone_impl_Port_impl_Port at hm
  refine enter 8 Try.func127 rfl rfl rfl ?_
  intro f hf
  have s0 : f 0 = .slice Aa0 d0.length ca0 := hf 0 _ rfl
  refine wp_seq ?_
  refine wp_rs rfl ?_
  refine RQ.y rfl (Y.assign (v := .slice none 0 0) rfl) ?_
  refine RQ.nil ?_
  refine then_n ?_
  refine wp_seq ?_
  refine wp_seq ?_
  refine wp_rs rfl ?_
  refine RQ.y rfl (Y.move (v := .slice Aa0 d0.length ca0) s0) ?_
  refine RQ.y rfl (Y.eqNil (e := 28) rfl rfl (by kernel_rfl)) ?_
  refine RQ.nil ?_
  refine then_n ?_
  rcases bcases Aa0.isNone with c1 | c1
  · refine cond_f rfl (vb rfl c1) ?_
    refine wp_skip ?_
    refine then_n ?_
    refine wp_seq ?_
    refine wp_rl rfl ?_
    refine RL.bslice (e := 28) (cells := #[]) rfl pm0 (by kernel_rfl) (fun w2 B3 hb4 szw2 => ?_)
    have ZB3 : w.heap.size ≤ w.heap.size := T.size
    have T := Tt T hb4
    have G6 := OwF.lit (enc := encPort) (sz := 2) (xs := ([] : List DPort)) B3 ZB3 rfl rfl rfl rfl
    refine RL.y rfl (Y.move (v := .slice Aa0 d0.length ca0) s0) ?_
    obtain ⟨_, m8, hm⟩ := bnd hm
    have hk9 := mustP_some m8
    refine RL.append fPort app_impl_Port rfl rfl rfl G6 (slArg portRd_ok ha0 ra0 T) T.size hk9 (fun v10 w11 G12 hgr13 hbl14 hnb15 => ?_)
    have szw11 := hbl14.size
    have T := T.trans hbl14
    refine RL.y rfl (Y.assign (v := v10) rfl) ?_
    refine RL.nil ?_
    refine then_n ?_
    refine wp_ret ?_
    obtain rfl := Option.some.inj hm
    exact (ret1 rfl rfl rfl ⟨⟨_, rfl, G12⟩, T⟩)
  · have hd17 := SlAt.nilOf ha0 c1
    replace hm : some ([]) = some r := by rw [hd17] at hm; simpa [mustP] using hm
    refine cond_t rfl (vb rfl c1) ?_
    refine wp_seq ?_
    refine wp_rs rfl ?_
    refine RQ.y rfl (Y.assign (v := .slice none 0 0) rfl) ?_
    refine RQ.nil ?_
    refine then_n ?_
    refine wp_ret ?_
    obtain rfl := Option.some.inj hm
    exact (then_r (ret1 rfl rfl rfl ⟨⟨_, rfl, OwF.nil⟩, T⟩))
def m_impl_copyAgent (d0 : DAgent) : Option DAgent :=
  ((m_slices_Clone_int64_int64 d0.data).bind fun y13 => ((m_slices_Clone_impl_Port_impl_Port d0.ports).bind fun y20 => some (⟨d0.kind, d0.level, d0.value, y13, y20⟩ : DAgent)))
set_option maxHeartbeats 2000000 in
theorem c_m_impl_copyAgent (d0 : DAgent) (r : DAgent) (hm : m_impl_copyAgent d0 = some r) (v0 : Value) (w : World) (hv0 : St agentRd w v0 d0) :
    Calls Try.prog 107 #[v0] w fun e w' => (∃ (v0 : Value) (v1 : Value), e = .returned (.agg #[.int .i64 r.kind, .int .i64 r.level, .int .i64 r.value, v0, v1]) ∧ OwF 2 encI 1 w' w.heap.size v0 r.data ∧ OwF 28 encPort 2 w' w.heap.size v1 r.ports ∧ Dj v0 v1) ∧ Below w.heap.size w w' := by
  obtain ⟨csa0, rfl, ⟨A1, n1, c1, A2, n2, c2, rfl, ⟨h1, r1⟩, ⟨h2, r2⟩⟩⟩ := hv0
  have e1 := h1.len; subst e1
  have q1 := len_le r1
  have e2 := h2.len; subst e2
  have q2 := len_le r2
  have T := Below.refl w.heap.size w
  unfold m_impl_copyAgent at hm
  refine enter 12 Try.func107 rfl rfl rfl ?_
  intro f hf
  have s0 : f 0 = .agg #[.int .i64 d0.kind, .int .i64 d0.level, .int .i64 d0.value, .slice A1 d0.data.length c1, .slice A2 d0.ports.length c2] := hf 0 _ rfl
  refine wp_seq ?_
  refine wp_rl rfl ?_
  refine RL.box rfl s0 (fun w3 B4 hb5 szw3 => ?_)
  replace B4 : Blk w3 w.heap.size 81 #[.int .i64 d0.kind, .int .i64 d0.level, .int .i64 d0.value, .slice A1 d0.data.length c1, .slice A2 d0.ports.length c2] := B4
  have GB4 : w.heap.size ≤ w.heap.size := T.size
  have T := Tt T hb5
  refine RL.alloc (z := .agg #[.int .i64 0, .int .i64 0, .int .i64 0, .slice none 0 0, .slice none 0 0]) rfl (by kernel_rfl) (fun w7 B8 hb9 szw7 => ?_)
  replace B8 : Blk w7 w3.heap.size 81 #[.int .i64 0, .int .i64 0, .int .i64 0, .slice none 0 0, .slice none 0 0] := B8
  have GB8 : w.heap.size ≤ w3.heap.size := T.size
  have Eob10_ob6 := Nat.ne_of_lt B4.lt
  have B4 := blkT B4 hb9
  have T := Tt T hb9
  refine RL.nil ?_
  refine then_n ?_
  refine wp_seq ?_
  refine wp_rgt (fun w' => Below w.heap.size w w') (.q 0 (.q 3 (.two 1 (.two 2 (.a 4 (.q 6 (.a 5 (.a 7 (.q 8 (.a 9 .nil)))))) 4 (.a 2 (.q 6 (.a 5 (.a 7 (.q 8 (.a 9 .nil))))))) 4 (.a 1 (.a 2 (.q 6 (.a 5 (.a 7 (.q 8 (.a 9 .nil)))))))))) (by kernel_rfl) (by kernel_rfl) (fun w11 hb12 szw11 => ?_)
  have B4 := blkT B4 hb12
  have B8 := blkT B8 hb12
  have T := Tt T hb12
  refine ⟨T, ?_⟩
  refine RT.y rfl rfl (Y.fieldAddr (off := 3) rfl (by kernel_rfl)) ?_
  refine RT.y rfl rfl (Y.fieldAddr (off := 4) rfl (by kernel_rfl)) ?_
  refine RT.both rfl rfl ?_ ?_
  · refine RL.y rfl (Y.load (v := .slice A1 d0.data.length c1) rfl (by kernel_rfl) (eqC (blkCell B4 (i := 3) rfl))) ?_
    refine RL.nil ⟨T, ?_⟩
    refine RT.both rfl rfl ?_ ?_
    · obtain ⟨y13, e14, hm⟩ := bnd hm
      refine RL.call rfl (am1 rfl) (by kernel_rfl) ((c_m_slices_Clone_int64_int64 d0.data _ e14 _ _ (slArg intRd_ok h1 r1 T)).mono ?_)
      rintro _ w18 ⟨⟨v15, rfl, G16⟩, hb19⟩
      refine ⟨_, rfl, ?_⟩
      have szw18 := hb19.size
      have T0w18 := T.size
      have Zo17_ob6 := ap_ne (Ap.new (OwF.flo G16) (one_hi B4.lt))
      have Zo17_ob10 := ap_ne (Ap.new (OwF.flo G16) (one_hi B8.lt))
      have B4 := blkT B4 hb19
      have B8 := blkT B8 hb19
      have T := Tt T hb19
      replace G16 := OwF.mono G16 T0w18
      refine RL.nil ⟨T, ?_⟩
      refine RT.act rfl ?_
      refine RL.y rfl (Y.load (v := .slice A2 d0.ports.length c2) rfl (by kernel_rfl) (eqC (blkCell B4 (i := 4) rfl))) ?_
      refine RL.nil ⟨T, ?_⟩
      refine RT.y rfl rfl (Y.fieldAddr (off := 3) rfl (by kernel_rfl)) ?_
      refine RT.act rfl ?_
      obtain ⟨y20, e21, hm⟩ := bnd hm
      refine RL.call rfl (am1 rfl) (by kernel_rfl) ((c_m_slices_Clone_impl_Port_impl_Port d0.ports _ e21 _ _ (slArg portRd_ok h2 r2 T)).mono ?_)
      rintro _ w25 ⟨⟨v22, rfl, G23⟩, hb26⟩
      refine ⟨_, rfl, ?_⟩
      have szw25 := hb26.size
      have T0w25 := T.size
      have Zo24_ob6 := ap_ne (Ap.new (OwF.flo G23) (one_hi B4.lt))
      have Zo24_ob10 := ap_ne (Ap.new (OwF.flo G23) (one_hi B8.lt))
      have Zo24_o17 := Ap.dj (Ap.new (OwF.flo G23) (OwF.fhi G16))
      have B4 := blkT B4 hb26
      have B8 := blkT B8 hb26
      have G16 := OwF.below G16 hb26
      have T := Tt T hb26
      replace G23 := OwF.mono G23 T0w25
      refine RL.nil ⟨T, ?_⟩
      refine RT.act rfl ?_
      obtain ⟨A27, c28, rfl⟩ := OwF.form G16
      have qbA27 := OwF.bound G16
      refine RL.store (v := .slice A27 y13.length c28) (cs' := #[.int .i64 d0.kind, .int .i64 d0.level, .int .i64 d0.value, .slice A27 y13.length c28, .slice A2 d0.ports.length c2]) rfl rfl rfl B4 (by kernel_rfl) (by rfl) (by rfl) (by rfl) (fun w29 B30 ho31 => ?_)
      have szw29 := ho31.size
      have B8 := B8.only_ ho31 (by intro hin; simp at hin; exact Eob10_ob6.symm hin)
      have G16 := OwF.only G16 ho31 Zo17_ob6
      have G23 := OwF.only G23 ho31 Zo24_ob6
      have T := T.trans (ho31.below (by first | (simp; done) | (simp; omega)))
      refine RL.nil ⟨T, ?_⟩
      refine RT.y rfl rfl (Y.fieldAddr (off := 4) rfl (by kernel_rfl)) ?_
      refine RT.act rfl ?_
      obtain ⟨A32, c33, rfl⟩ := OwF.form G23
      have qbA32 := OwF.bound G23
      refine RL.store (v := .slice A32 y20.length c33) (cs' := #[.int .i64 d0.kind, .int .i64 d0.level, .int .i64 d0.value, .slice A27 y13.length c28, .slice A32 y20.length c33]) rfl rfl rfl B30 (by kernel_rfl) (by rfl) (by rfl) (by rfl) (fun w34 B35 ho36 => ?_)
      have szw34 := ho36.size
      have B8 := B8.only_ ho36 (by intro hin; simp at hin; exact Eob10_ob6.symm hin)
      have G16 := OwF.only G16 ho36 Zo17_ob6
      have G23 := OwF.only G23 ho36 Zo24_ob6
      have T := T.trans (ho36.below (by first | (simp; done) | (simp; omega)))
      refine RL.nil ⟨T, ?_⟩
      refine RT.nil_ ?_
      refine then_n ?_
      refine wp_seq ?_
      refine wp_rl rfl ?_
      refine RL.y rfl (Y.loadN (cs := [.int .i64 d0.kind, .int .i64 d0.level, .int .i64 d0.value, .slice A27 y13.length c28, .slice A32 y20.length c33]) rfl (by kernel_rfl) (cells5 (eqC (blkCell B35 (i := 0) rfl)) (eqC (blkCell B35 (i := 1) rfl)) (eqC (blkCell B35 (i := 2) rfl)) (eqC (blkCell B35 (i := 3) rfl)) (eqC (blkCell B35 (i := 4) rfl)))) ?_
      refine RL.store (v := .agg #[.int .i64 d0.kind, .int .i64 d0.level, .int .i64 d0.value, .slice A27 y13.length c28, .slice A32 y20.length c33]) (cs' := #[.int .i64 d0.kind, .int .i64 d0.level, .int .i64 d0.value, .slice A27 y13.length c28, .slice A32 y20.length c33]) rfl rfl rfl B8 (by kernel_rfl) (by rfl) (by rfl) (by rfl) (fun w37 B38 ho39 => ?_)
      have szw37 := ho39.size
      have B35 := B35.only_ ho39 (by intro hin; simp at hin; exact Eob10_ob6 hin)
      have G16 := OwF.only G16 ho39 Zo17_ob10
      have G23 := OwF.only G23 ho39 Zo24_ob10
      have T := T.trans (ho39.below (by first | (simp; done) | (simp; omega)))
      refine RL.nil ?_
      refine then_n ?_
      refine wp_ret ?_
      obtain rfl := Option.some.inj hm
      exact (retc (cs := [.int .i64 d0.kind, .int .i64 d0.level, .int .i64 d0.value, .slice A27 y13.length c28, .slice A32 y20.length c33]) rfl rfl rfl (by kernel_rfl) (blkCells B38) ⟨⟨_, _, rfl, G16, G23, (Ap.dj (Ap.symm (Dj.ap Zo24_o17)))⟩, T⟩)
    · refine RL.y rfl (Y.load (v := .slice A2 d0.ports.length c2) rfl (by kernel_rfl) (eqC (blkCell B4 (i := 4) rfl))) ?_
      refine RL.nil ⟨T, ?_⟩
      refine RT.act rfl ?_
      obtain ⟨y40, e41, hm⟩ := bnd hm
      refine RL.call rfl (am1 rfl) (by kernel_rfl) ((c_m_slices_Clone_int64_int64 d0.data _ e41 _ _ (slArg intRd_ok h1 r1 T)).mono ?_)
      rintro _ w45 ⟨⟨v42, rfl, G43⟩, hb46⟩
      refine ⟨_, rfl, ?_⟩
      have szw45 := hb46.size
      have T0w45 := T.size
      have Zo44_ob6 := ap_ne (Ap.new (OwF.flo G43) (one_hi B4.lt))
      have Zo44_ob10 := ap_ne (Ap.new (OwF.flo G43) (one_hi B8.lt))
      have B4 := blkT B4 hb46
      have B8 := blkT B8 hb46
      have T := Tt T hb46
      replace G43 := OwF.mono G43 T0w45
      refine RL.nil ⟨T, ?_⟩
      refine RT.y rfl rfl (Y.fieldAddr (off := 3) rfl (by kernel_rfl)) ?_
      refine RT.act rfl ?_
      obtain ⟨y47, e48, hm⟩ := bnd hm
      refine RL.call rfl (am1 rfl) (by kernel_rfl) ((c_m_slices_Clone_impl_Port_impl_Port d0.ports _ e48 _ _ (slArg portRd_ok h2 r2 T)).mono ?_)
      rintro _ w52 ⟨⟨v49, rfl, G50⟩, hb53⟩
      refine ⟨_, rfl, ?_⟩
      have szw52 := hb53.size
      have T0w52 := T.size
      have Zo51_ob6 := ap_ne (Ap.new (OwF.flo G50) (one_hi B4.lt))
      have Zo51_ob10 := ap_ne (Ap.new (OwF.flo G50) (one_hi B8.lt))
      have Zo51_o44 := Ap.dj (Ap.new (OwF.flo G50) (OwF.fhi G43))
      have B4 := blkT B4 hb53
      have B8 := blkT B8 hb53
      have G43 := OwF.below G43 hb53
      have T := Tt T hb53
      replace G50 := OwF.mono G50 T0w52
      refine RL.nil ⟨T, ?_⟩
      refine RT.act rfl ?_
      obtain ⟨A54, c55, rfl⟩ := OwF.form G43
      have qbA54 := OwF.bound G43
      refine RL.store (v := .slice A54 y40.length c55) (cs' := #[.int .i64 d0.kind, .int .i64 d0.level, .int .i64 d0.value, .slice A54 y40.length c55, .slice A2 d0.ports.length c2]) rfl rfl rfl B4 (by kernel_rfl) (by rfl) (by rfl) (by rfl) (fun w56 B57 ho58 => ?_)
      have szw56 := ho58.size
      have B8 := B8.only_ ho58 (by intro hin; simp at hin; exact Eob10_ob6.symm hin)
      have G43 := OwF.only G43 ho58 Zo44_ob6
      have G50 := OwF.only G50 ho58 Zo51_ob6
      have T := T.trans (ho58.below (by first | (simp; done) | (simp; omega)))
      refine RL.nil ⟨T, ?_⟩
      refine RT.y rfl rfl (Y.fieldAddr (off := 4) rfl (by kernel_rfl)) ?_
      refine RT.act rfl ?_
      obtain ⟨A59, c60, rfl⟩ := OwF.form G50
      have qbA59 := OwF.bound G50
      refine RL.store (v := .slice A59 y47.length c60) (cs' := #[.int .i64 d0.kind, .int .i64 d0.level, .int .i64 d0.value, .slice A54 y40.length c55, .slice A59 y47.length c60]) rfl rfl rfl B57 (by kernel_rfl) (by rfl) (by rfl) (by rfl) (fun w61 B62 ho63 => ?_)
      have szw61 := ho63.size
      have B8 := B8.only_ ho63 (by intro hin; simp at hin; exact Eob10_ob6.symm hin)
      have G43 := OwF.only G43 ho63 Zo44_ob6
      have G50 := OwF.only G50 ho63 Zo51_ob6
      have T := T.trans (ho63.below (by first | (simp; done) | (simp; omega)))
      refine RL.nil ⟨T, ?_⟩
      refine RT.nil_ ?_
      refine then_n ?_
      refine wp_seq ?_
      refine wp_rl rfl ?_
      refine RL.y rfl (Y.loadN (cs := [.int .i64 d0.kind, .int .i64 d0.level, .int .i64 d0.value, .slice A54 y40.length c55, .slice A59 y47.length c60]) rfl (by kernel_rfl) (cells5 (eqC (blkCell B62 (i := 0) rfl)) (eqC (blkCell B62 (i := 1) rfl)) (eqC (blkCell B62 (i := 2) rfl)) (eqC (blkCell B62 (i := 3) rfl)) (eqC (blkCell B62 (i := 4) rfl)))) ?_
      refine RL.store (v := .agg #[.int .i64 d0.kind, .int .i64 d0.level, .int .i64 d0.value, .slice A54 y40.length c55, .slice A59 y47.length c60]) (cs' := #[.int .i64 d0.kind, .int .i64 d0.level, .int .i64 d0.value, .slice A54 y40.length c55, .slice A59 y47.length c60]) rfl rfl rfl B8 (by kernel_rfl) (by rfl) (by rfl) (by rfl) (fun w64 B65 ho66 => ?_)
      have szw64 := ho66.size
      have B62 := B62.only_ ho66 (by intro hin; simp at hin; exact Eob10_ob6 hin)
      have G43 := OwF.only G43 ho66 Zo44_ob10
      have G50 := OwF.only G50 ho66 Zo51_ob10
      have T := T.trans (ho66.below (by first | (simp; done) | (simp; omega)))
      refine RL.nil ?_
      refine then_n ?_
      refine wp_ret ?_
      obtain rfl := Option.some.inj hm
      exact (retc (cs := [.int .i64 d0.kind, .int .i64 d0.level, .int .i64 d0.value, .slice A54 y40.length c55, .slice A59 y47.length c60]) rfl rfl rfl (by kernel_rfl) (blkCells B65) ⟨⟨_, _, rfl, G43, G50, (Ap.dj (Ap.symm (Dj.ap Zo51_o44)))⟩, T⟩)
  · refine RL.y rfl (Y.load (v := .slice A2 d0.ports.length c2) rfl (by kernel_rfl) (eqC (blkCell B4 (i := 4) rfl))) ?_
    refine RL.nil ⟨T, ?_⟩
    refine RT.act rfl ?_
    refine RL.y rfl (Y.load (v := .slice A1 d0.data.length c1) rfl (by kernel_rfl) (eqC (blkCell B4 (i := 3) rfl))) ?_
    refine RL.nil ⟨T, ?_⟩
    refine RT.act rfl ?_
    obtain ⟨y67, e68, hm⟩ := bnd hm
    refine RL.call rfl (am1 rfl) (by kernel_rfl) ((c_m_slices_Clone_int64_int64 d0.data _ e68 _ _ (slArg intRd_ok h1 r1 T)).mono ?_)
    rintro _ w72 ⟨⟨v69, rfl, G70⟩, hb73⟩
    refine ⟨_, rfl, ?_⟩
    have szw72 := hb73.size
    have T0w72 := T.size
    have Zo71_ob6 := ap_ne (Ap.new (OwF.flo G70) (one_hi B4.lt))
    have Zo71_ob10 := ap_ne (Ap.new (OwF.flo G70) (one_hi B8.lt))
    have B4 := blkT B4 hb73
    have B8 := blkT B8 hb73
    have T := Tt T hb73
    replace G70 := OwF.mono G70 T0w72
    refine RL.nil ⟨T, ?_⟩
    refine RT.y rfl rfl (Y.fieldAddr (off := 3) rfl (by kernel_rfl)) ?_
    refine RT.act rfl ?_
    obtain ⟨y74, e75, hm⟩ := bnd hm
    refine RL.call rfl (am1 rfl) (by kernel_rfl) ((c_m_slices_Clone_impl_Port_impl_Port d0.ports _ e75 _ _ (slArg portRd_ok h2 r2 T)).mono ?_)
    rintro _ w79 ⟨⟨v76, rfl, G77⟩, hb80⟩
    refine ⟨_, rfl, ?_⟩
    have szw79 := hb80.size
    have T0w79 := T.size
    have Zo78_ob6 := ap_ne (Ap.new (OwF.flo G77) (one_hi B4.lt))
    have Zo78_ob10 := ap_ne (Ap.new (OwF.flo G77) (one_hi B8.lt))
    have Zo78_o71 := Ap.dj (Ap.new (OwF.flo G77) (OwF.fhi G70))
    have B4 := blkT B4 hb80
    have B8 := blkT B8 hb80
    have G70 := OwF.below G70 hb80
    have T := Tt T hb80
    replace G77 := OwF.mono G77 T0w79
    refine RL.nil ⟨T, ?_⟩
    refine RT.act rfl ?_
    obtain ⟨A81, c82, rfl⟩ := OwF.form G70
    have qbA81 := OwF.bound G70
    refine RL.store (v := .slice A81 y67.length c82) (cs' := #[.int .i64 d0.kind, .int .i64 d0.level, .int .i64 d0.value, .slice A81 y67.length c82, .slice A2 d0.ports.length c2]) rfl rfl rfl B4 (by kernel_rfl) (by rfl) (by rfl) (by rfl) (fun w83 B84 ho85 => ?_)
    have szw83 := ho85.size
    have B8 := B8.only_ ho85 (by intro hin; simp at hin; exact Eob10_ob6.symm hin)
    have G70 := OwF.only G70 ho85 Zo71_ob6
    have G77 := OwF.only G77 ho85 Zo78_ob6
    have T := T.trans (ho85.below (by first | (simp; done) | (simp; omega)))
    refine RL.nil ⟨T, ?_⟩
    refine RT.y rfl rfl (Y.fieldAddr (off := 4) rfl (by kernel_rfl)) ?_
    refine RT.act rfl ?_
    obtain ⟨A86, c87, rfl⟩ := OwF.form G77
    have qbA86 := OwF.bound G77
    refine RL.store (v := .slice A86 y74.length c87) (cs' := #[.int .i64 d0.kind, .int .i64 d0.level, .int .i64 d0.value, .slice A81 y67.length c82, .slice A86 y74.length c87]) rfl rfl rfl B84 (by kernel_rfl) (by rfl) (by rfl) (by rfl) (fun w88 B89 ho90 => ?_)
    have szw88 := ho90.size
    have B8 := B8.only_ ho90 (by intro hin; simp at hin; exact Eob10_ob6.symm hin)
    have G70 := OwF.only G70 ho90 Zo71_ob6
    have G77 := OwF.only G77 ho90 Zo78_ob6
    have T := T.trans (ho90.below (by first | (simp; done) | (simp; omega)))
    refine RL.nil ⟨T, ?_⟩
    refine RT.nil_ ?_
    refine then_n ?_
    refine wp_seq ?_
    refine wp_rl rfl ?_
    refine RL.y rfl (Y.loadN (cs := [.int .i64 d0.kind, .int .i64 d0.level, .int .i64 d0.value, .slice A81 y67.length c82, .slice A86 y74.length c87]) rfl (by kernel_rfl) (cells5 (eqC (blkCell B89 (i := 0) rfl)) (eqC (blkCell B89 (i := 1) rfl)) (eqC (blkCell B89 (i := 2) rfl)) (eqC (blkCell B89 (i := 3) rfl)) (eqC (blkCell B89 (i := 4) rfl)))) ?_
    refine RL.store (v := .agg #[.int .i64 d0.kind, .int .i64 d0.level, .int .i64 d0.value, .slice A81 y67.length c82, .slice A86 y74.length c87]) (cs' := #[.int .i64 d0.kind, .int .i64 d0.level, .int .i64 d0.value, .slice A81 y67.length c82, .slice A86 y74.length c87]) rfl rfl rfl B8 (by kernel_rfl) (by rfl) (by rfl) (by rfl) (fun w91 B92 ho93 => ?_)
    have szw91 := ho93.size
    have B89 := B89.only_ ho93 (by intro hin; simp at hin; exact Eob10_ob6 hin)
    have G70 := OwF.only G70 ho93 Zo71_ob10
    have G77 := OwF.only G77 ho93 Zo78_ob10
    have T := T.trans (ho93.below (by first | (simp; done) | (simp; omega)))
    refine RL.nil ?_
    refine then_n ?_
    refine wp_ret ?_
    obtain rfl := Option.some.inj hm
    exact (retc (cs := [.int .i64 d0.kind, .int .i64 d0.level, .int .i64 d0.value, .slice A81 y67.length c82, .slice A86 y74.length c87]) rfl rfl rfl (by kernel_rfl) (blkCells B92) ⟨⟨_, _, rfl, G70, G77, (Ap.dj (Ap.symm (Dj.ap Zo78_o71)))⟩, T⟩)
end
section
open Go.RowKit
set_option linter.unusedVariables false
set_option linter.unusedSimpArgs false
theorem small_sz {xs : List DAgent} (hs : Small xs) {i : Nat} {x : DAgent} (hx : xs[i]? = some x) : x.data.length ≤ 1048576 ∧ x.ports.length ≤ 1048576 :=
  ⟨hs.data (List.mem_of_getElem? hx), hs.ports (List.mem_of_getElem? hx)⟩
theorem p_ownAgent {x : DAgent} (h : x.data.length ≤ 1048576 ∧ x.ports.length ≤ 1048576) : m_spec_l11OwnAgent x = some x := by
  unfold m_spec_l11OwnAgent m_spec_l00Own
  rw [mustP_ok (by simp; omega), Option.bind_some, Option.bind_some, mustP_ok (by simp; omega), Option.bind_some]
  rfl
theorem flat_id {α : Type} : ∀ l : List α, l.flatMap (fun x => [x]) = l
  | [] => rfl
  | a :: l => by rw [List.flatMap_cons, flat_id l]; rfl
theorem p_copyAgent {x : DAgent} (h : x.data.length ≤ 1048576 ∧ x.ports.length ≤ 1048576) : m_impl_copyAgent x = some x := by
  unfold m_impl_copyAgent m_slices_Clone_int64_int64 m_slices_Clone_impl_Port_impl_Port
  rw [mustP_ok (by simp; omega), Option.bind_some, Option.bind_some, mustP_ok (by simp; omega), Option.bind_some, Option.bind_some]
  rfl
/-- In the middle of the loop. -/
def midL {α : Type} (f : α → α) (xs : List α) (k : Nat) : List α := (xs.take k).map f ++ xs.drop k
section
variable {α : Type} {f : α → α} {xs : List α} {k : Nat}
theorem midL_len (hk : k ≤ xs.length) : (midL f xs k).length = xs.length := by unfold midL; rw [List.length_append, List.length_map, List.length_take, List.length_drop]; omega
theorem midL_zero : midL f xs 0 = xs := by simp [midL]
theorem midL_end : midL f xs xs.length = xs.map f := by simp [midL]
theorem midL_get {x : α} (hx : xs[k]? = some x) : (midL f xs k)[k]? = some x := by
  have hk := lt_of_some hx
  unfold midL
  rw [List.getElem?_append_right (by simp; omega)]
  simp
  rw [Nat.min_eq_left (by omega)]
  simpa using hx
theorem midL_step {x : α} (hx : xs[k]? = some x) : (midL f xs k).set k (f x) = midL f xs (k + 1) := by
  have hk := lt_of_some hx
  unfold midL
  have hl : ((xs.take k).map f).length = k := by simp; omega
  rw [List.set_append_right _ _ (by omega), hl, Nat.sub_self, drop_some hx, List.set_cons_zero, take_succ_some hx, List.map_append, List.append_assoc]
  rfl
end
end
section
open Go.RowKit
set_option linter.unusedVariables false
set_option linter.unusedSimpArgs false
set_option maxRecDepth 100000
def m_impl_Net_renumber_A2 (z16 : DNet) : Option DNet :=
  some z16
def m_impl_Net_renumber_A3 (rec2 : Int → DNet → Option DNet) (i23 : Int) (z24 : DNet) (z68 : DAgent) : Option DNet :=
  ((mustP (z24.agents.length + ([z68]).length ≤ 4294967296)).bind fun _ => ((ck (i23 + 1)).bind fun s116 => (rec2 s116 (⟨(z24.agents ++ [z68])⟩ : DNet))))
def m_impl_Net_renumber_B3 (z10 : MapM Int Int) (y47 : DAgent) (rec3 : Int → DAgent → Option DNet) (K3 : DAgent → Option DNet) (i117 : Int) (z118 : DAgent) : Option DNet :=
  (bif (decide (i117 < (y47.ports.length : Int))) then ((getI z118.ports i117).bind fun x125 => ((ck x125.agent).bind fun _ => ((getI z118.ports i117).bind fun x132 => (rec3 (i117 + 1) (⟨z118.kind, z118.level, z118.value, z118.data, (setI z118.ports i117 (⟨(z10.look x125.agent 0), x132.slot⟩ : DPort))⟩ : DAgent))))) else (K3 z118))
def m_impl_Net_renumber_L3 (z10 : MapM Int Int) (y47 : DAgent) (K3 : DAgent → Option DNet) : Nat → Int → DAgent → Option DNet
  | 0, _, _ => none
  | g + 1, i117, z118 => m_impl_Net_renumber_B3 z10 y47 (m_impl_Net_renumber_L3 z10 y47 K3 g) K3 i117 z118
def m_impl_Net_renumber_B2 (d0 : DNet) (d1 : List Int) (z10 : MapM Int Int) (rec2 : Int → DNet → Option DNet) (K2 : DNet → Option DNet) (i23 : Int) (z24 : DNet) : Option DNet :=
  (bif (decide (i23 < (d1.length : Int))) then ((getI d1 i23).bind fun x27 => ((getI d0.agents x27).bind fun x36 => ((m_impl_copyAgent x36).bind fun y47 => (m_impl_Net_renumber_L3 z10 y47 (m_impl_Net_renumber_A3 rec2 i23 z24) (y47.ports.length + 1) 0 y47)))) else (K2 z24))
def m_impl_Net_renumber_L2 (d0 : DNet) (d1 : List Int) (z10 : MapM Int Int) (K2 : DNet → Option DNet) : Nat → Int → DNet → Option DNet
  | 0, _, _ => none
  | g + 1, i23, z24 => m_impl_Net_renumber_B2 d0 d1 z10 (m_impl_Net_renumber_L2 d0 d1 z10 K2 g) K2 i23 z24
def m_impl_Net_renumber_A1 (d0 : DNet) (d1 : List Int) (z10 : MapM Int Int) : Option DNet :=
  (m_impl_Net_renumber_L2 d0 d1 z10 m_impl_Net_renumber_A2 (d1.length + 1) 0 (⟨[]⟩ : DNet))
def m_impl_Net_renumber_B1 (d1 : List Int) (rec1 : Int → MapM Int Int → Option DNet) (K1 : MapM Int Int → Option DNet) (i144 : Int) (z145 : MapM Int Int) : Option DNet :=
  (bif (decide (i144 < (d1.length : Int))) then ((getI d1 i144).bind fun x148 => ((ck x148).bind fun _ => ((mustP (z145.n ≤ 4294967296)).bind fun _ => (rec1 (i144 + 1) (z145.put x148 i144))))) else (K1 z145))
def m_impl_Net_renumber_L1 (d1 : List Int) (K1 : MapM Int Int → Option DNet) : Nat → Int → MapM Int Int → Option DNet
  | 0, _, _ => none
  | g + 1, i144, z145 => m_impl_Net_renumber_B1 d1 (m_impl_Net_renumber_L1 d1 K1 g) K1 i144 z145
def m_impl_Net_renumber (d0 : DNet) (d1 : List Int) : Option DNet :=
  (m_impl_Net_renumber_L1 d1 (m_impl_Net_renumber_A1 d0 d1) (d1.length + 1) 0 (MapM.empty : MapM Int Int))
set_option maxHeartbeats 2000000 in
theorem c_m_impl_Net_renumber (d0 : DNet) (d1 : List Int) (r : DNet) (hm : m_impl_Net_renumber d0 d1 = some r) (v0 : Value) (v1 : Value) (w : World) (hv0 : Pt netRd w v0 d0) (hv1 : Sl intRd 1 w v1 d1) :
    Calls Try.prog 83 #[v0, v1] w fun e w' => (∃ (v0 : Value) (bs0 : List Nat), e = .returned (.agg #[v0]) ∧ OwN 81 agentOw 5 w' w.heap.size v0 r.agents bs0) ∧ Below w.heap.size w w' := by
  obtain ⟨ba0, oa0, csa0, rfl, hba0, hRa0, hca0⟩ := hv0
  have hSa0 := hRa0
  obtain ⟨A1, n1, c1, rfl, ⟨h1, r1⟩⟩ := hRa0
  have e1 := h1.len; subst e1
  have q1 := len_le r1
  obtain ⟨Aa1, na1, ca1, rfl, ha1, ra1⟩ := hv1
  have ea1 := ha1.len; subst ea1
  have qa1 := len_le ra1
  have T := Below.refl w.heap.size w
  unfold m_impl_Net_renumber at hm
  refine enter 67 Try.func83 rfl rfl rfl ?_
  intro f hf
  have s0 : f 0 = .pointer (some ⟨ba0, oa0, none⟩) := hf 0 _ rfl
  have s1 : f 1 = .slice Aa1 d1.length ca1 := hf 1 _ rfl
  refine wp_seq ?_
  refine wp_rl rfl ?_
  refine RL.alloc (z := .agg #[.slice none 0 0]) rfl (by kernel_rfl) (fun w2 B3 hb4 szw2 => ?_)
  replace B3 : Blk w2 w.heap.size 33 #[.slice none 0 0] := B3
  have GB3 : w.heap.size ≤ w.heap.size := T.size
  have T := Tt T hb4
  refine RL.nil ?_
  refine then_n ?_
  refine wp_seq ?_
  refine wp_rl rfl ?_
  refine RL.makeMap (κ := Int) (β := Int) 2 litI encVI rfl (fun w6 B7 hb8 szw6 => ?_)
  replace B7 := OwM.lower B7 T.size
  have Eob9_ob5 := Nat.ne_of_lt B3.lt
  have B3 := blkT B3 hb8
  have T := Tt T hb8
  refine RL.y rfl (Y.assign (v := .map (some w2.heap.size)) rfl) ?_
  refine RL.nil ?_
  refine then_n ?_
  refine wp_seq ?_
  refine wp_seq ?_
  refine wp_rs rfl ?_
  refine RQ.y rfl (Y.move (v := .slice Aa1 d1.length ca1) s1) ?_
  refine RQ.y rfl (Y.len (by kernel_rfl) rfl) ?_
  refine RQ.y rfl (Y.move (v := .int .i64 0) rfl) ?_
  refine RQ.nil ?_
  refine then_n ?_
  refine wp_block ?_
  obtain ⟨K1, hK1, hm⟩ : ∃ K, K = (m_impl_Net_renumber_A1 d0 d1) ∧ m_impl_Net_renumber_L1 d1 K (d1.length + 1) 0 (MapM.empty : MapM Int Int) = some r := ⟨_, rfl, hm⟩
  refine wp_loopX (fun g f w' => ∃ (i144 : Int) (z145 : MapM Int Int), f 0 = .pointer (some ⟨ba0, oa0, none⟩) ∧ f 1 = .slice Aa1 d1.length ca1 ∧ f 4 = .pointer (some ⟨w.heap.size, 0, none⟩) ∧ f 5 = .map (some w2.heap.size) ∧ f 14 = .slice Aa1 d1.length ca1 ∧ f 15 = .int .i64 (d1.length : Int) ∧ f 16 = .int .i64 i144 ∧ 0 ≤ i144 ∧ OwM Try.prog 2 litI encVI w' w.heap.size w2.heap.size z145 ∧ Blk w' w.heap.size 33 #[.slice none 0 0] ∧ Below w.heap.size w w' ∧ m_impl_Net_renumber_L1 d1 K1 g i144 z145 = some r) 0 (fun f w' => ∃ (z10 : MapM Int Int), f 0 = .pointer (some ⟨ba0, oa0, none⟩) ∧ f 1 = .slice Aa1 d1.length ca1 ∧ f 4 = .pointer (some ⟨w.heap.size, 0, none⟩) ∧ f 5 = .map (some w2.heap.size) ∧ OwM Try.prog 2 litI encVI w' w.heap.size w2.heap.size z10 ∧ Blk w' w.heap.size 33 #[.slice none 0 0] ∧ Below w.heap.size w w' ∧ m_impl_Net_renumber_A1 d0 d1 z10 = some r) (d1.length + 1) ⟨0, (MapM.empty : MapM Int Int), s0, s1, rfl, rfl, rfl, rfl, rfl, (by omega), B7, B3, T, hm⟩ ?_ ?_
  · rintro f w11 ⟨z10, s0_1x, s1_1x, s4_1x, s5_1x, Bz10, B3, T, hm⟩
    unfold m_impl_Net_renumber_A1 at hm
    refine blk_hit (then_n ?_)
    refine wp_seq ?_
    refine wp_rl rfl ?_
    refine RL.alloc (z := .agg #[.slice none 0 0]) rfl (by kernel_rfl) (fun w12 B13 hb14 szw12 => ?_)
    replace B13 : Blk w12 w11.heap.size 33 #[.slice none 0 0] := B13
    have GB13 : w.heap.size ≤ w11.heap.size := T.size
    have Eob15_ob5 := Nat.ne_of_lt B3.lt
    have Eob15_ob9 := Nat.ne_of_lt Bz10.lt
    have B3 := blkT B3 hb14
    have Bz10 := OwM.below Bz10 hb14
    have T := Tt T hb14
    refine RL.nil ?_
    refine then_n ?_
    refine wp_seq ?_
    refine wp_seq ?_
    refine wp_rs rfl ?_
    refine RQ.y rfl (Y.move (v := .slice Aa1 d1.length ca1) s1_1x) ?_
    refine RQ.y rfl (Y.len (by kernel_rfl) rfl) ?_
    refine RQ.y rfl (Y.move (v := .int .i64 0) rfl) ?_
    refine RQ.nil ?_
    refine then_n ?_
    refine wp_block ?_
    obtain ⟨K2, hK2, hm⟩ : ∃ K, K = m_impl_Net_renumber_A2 ∧ m_impl_Net_renumber_L2 d0 d1 z10 K (d1.length + 1) 0 (⟨[]⟩ : DNet) = some r := ⟨_, rfl, hm⟩
    refine wp_loopX (fun g f w' => ∃ (i23 : Int) (z24 : DNet) (uz24_0 : Value) (bsz24_0 : List Nat), f 0 = .pointer (some ⟨ba0, oa0, none⟩) ∧ f 4 = .pointer (some ⟨w.heap.size, 0, none⟩) ∧ f 5 = .map (some w2.heap.size) ∧ f 8 = .pointer (some ⟨w11.heap.size, 0, none⟩) ∧ f 25 = .slice Aa1 d1.length ca1 ∧ f 26 = .int .i64 (d1.length : Int) ∧ f 27 = .int .i64 i23 ∧ 0 ≤ i23 ∧ Blk w' w11.heap.size 33 #[uz24_0] ∧ OwN 81 agentOw 5 w' w.heap.size uz24_0 z24.agents bsz24_0 ∧ Ap bsz24_0 [w.heap.size] ∧ Ap bsz24_0 [w2.heap.size] ∧ Ap bsz24_0 [w11.heap.size] ∧ Blk w' w.heap.size 33 #[.slice none 0 0] ∧ OwM Try.prog 2 litI encVI w' w.heap.size w2.heap.size z10 ∧ Below w.heap.size w w' ∧ m_impl_Net_renumber_L2 d0 d1 z10 K2 g i23 z24 = some r) 2 (fun f w' => ∃ (z16 : DNet) (uz16_0 : Value) (bsz16_0 : List Nat), f 4 = .pointer (some ⟨w.heap.size, 0, none⟩) ∧ f 8 = .pointer (some ⟨w11.heap.size, 0, none⟩) ∧ Blk w' w11.heap.size 33 #[uz16_0] ∧ OwN 81 agentOw 5 w' w.heap.size uz16_0 z16.agents bsz16_0 ∧ Ap bsz16_0 [w.heap.size] ∧ Ap bsz16_0 [w2.heap.size] ∧ Ap bsz16_0 [w11.heap.size] ∧ Blk w' w.heap.size 33 #[.slice none 0 0] ∧ OwM Try.prog 2 litI encVI w' w.heap.size w2.heap.size z10 ∧ Below w.heap.size w w' ∧ m_impl_Net_renumber_A2 z16 = some r) (d1.length + 1) ⟨0, (⟨[]⟩ : DNet), (.slice none 0 0), [], s0_1x, s4_1x, s5_1x, rfl, rfl, rfl, rfl, (by omega), B13, OwN.nil, Ap.nil, Ap.nil, Ap.nil, B3, Bz10, T, hm⟩ ?_ ?_
    · rintro f w17 ⟨z16, uz16_0, bsz16_0, s4_2x, s8_2x, Bz16, Guz16_0, Noz16_0_ob5, Noz16_0_ob9, Noz16_0_ob15, B3, Bz10, T, hm⟩
      unfold m_impl_Net_renumber_A2 at hm
      refine blk_hit (then_n ?_)
      refine wp_seq ?_
      refine wp_rl rfl ?_
      refine RL.y rfl (Y.loadN (cs := [uz16_0]) s8_2x (by kernel_rfl) (cells1 (eqC (blkCell Bz16 (i := 0) rfl)))) ?_
      obtain ⟨A18, c19, rfl⟩ := OwN.form Guz16_0
      have qbA18 := OwN.bound Guz16_0
      refine RL.store (v := .agg #[.slice A18 z16.agents.length c19]) (cs' := #[.slice A18 z16.agents.length c19]) rfl s4_2x rfl B3 (by kernel_rfl) (by rfl) (by rfl) (by rfl) (fun w20 B21 ho22 => ?_)
      have szw20 := ho22.size
      have Bz10 := Bz10.only ho22 (by intro hin; simp at hin; exact Eob9_ob5.symm hin)
      have Bz16 := Bz16.only_ ho22 (by intro hin; simp at hin; exact Eob15_ob5.symm hin)
      have Guz16_0 := OwN.only agentOw_ok Guz16_0 ho22 (Ap.one Noz16_0_ob5)
      have T := T.trans (ho22.below (by first | (simp; done) | (simp; omega)))
      refine RL.nil ?_
      refine then_n ?_
      refine wp_ret ?_
      obtain rfl := Option.some.inj hm
      exact (retc (cs := [.slice A18 z16.agents.length c19]) rfl rfl s4_2x (by kernel_rfl) (blkCells B21) ⟨⟨_, _, rfl, Guz16_0⟩, T⟩)
    · rintro g f w25 ⟨i23, z24, uz24_0, bsz24_0, s0_2, s4_2, s5_2, s8_2, s25_2, s26_2, s27_2, nn27_2, Bz24, Guz24_0, Noz24_0_ob5, Noz24_0_ob9, Noz24_0_ob15, B3, Bz10, T, hm⟩
      rcases g with _ | g
      · simp only [m_impl_Net_renumber_L2] at hm; cases hm
      obtain ⟨rec2, hrec2, hm⟩ : ∃ z, z = m_impl_Net_renumber_L2 d0 d1 z10 K2 g ∧ m_impl_Net_renumber_B2 d0 d1 z10 z K2 i23 z24 = some r := ⟨_, rfl, hm⟩
      unfold m_impl_Net_renumber_B2 at hm
      refine wp_seq ?_
      refine wp_rs rfl ?_
      refine RQ.y rfl (Y.binI (v := .bool (decide (i23 < (d1.length : Int)))) s27_2 s26_2 rfl) ?_
      refine RQ.nil ?_
      refine then_n ?_
      refine wp_seq ?_
      rcases bcases (decide (i23 < (d1.length : Int))) with c26 | c26
      · replace hm := cF c26 hm
        have pc26 := of_decide_eq_false c26
        refine cond_f rfl (vb rfl c26) ?_
        refine wp_exit ?_
        exact (then_x (then_x (hit_x ⟨_, rfl, ⟨z24, (uz24_0), bsz24_0, s4_2, s8_2, Bz24, Guz24_0, Noz24_0_ob5, Noz24_0_ob9, Noz24_0_ob15, B3, Bz10, T, (by rw [hK2] at hm; exact hm)⟩⟩)))
      · replace hm := cT c26 hm
        have pc26 := of_decide_eq_true c26
        refine cond_t rfl (vb rfl c26) ?_
        refine wp_skip ?_
        refine then_n ?_
        refine wp_seq ?_
        refine wp_block ?_
        refine wp_seq ?_
        refine wp_rs rfl ?_
        obtain ⟨x27, hx30, hm⟩ := bnd hm
        obtain ⟨k28, hk31, hl32, hx30⟩ := getI_some hx30
        obtain ⟨b34, o35, rfl, hbb34⟩ := ha1.addr (by omega)
        obtain ⟨cs29, hRcs29, hc33⟩ := ha1.el hx30
        have hScs29 := hRcs29
        obtain rfl := hRcs29
        refine RQ.y rfl (Y.indexAddr (m := k28) (sz := 1) s25_2 s27_2 hk31 hl32 (by kernel_rfl)) ?_
        refine RQ.y rfl (Y.load (v := .int .i64 x27) rfl (by kernel_rfl) (eqC (cellT T (hc33 0 _ rfl)))) ?_
        refine RQ.y rfl (Y.assign (v := .int .i64 x27) rfl) ?_
        refine RQ.nil ?_
        refine then_n ?_
        refine wp_seq ?_
        refine wp_rl rfl ?_
        refine RL.y rfl (Y.move (v := .pointer (some ⟨ba0, oa0, none⟩)) s0_2) ?_
        refine RL.y rfl (Y.nilCheck rfl) ?_
        refine RL.y rfl (Y.fieldAddr (off := 0) rfl (by kernel_rfl)) ?_
        refine RL.y rfl (Y.load (v := .slice A1 d0.agents.length c1) rfl (by kernel_rfl) (eqC (cellT T (hca0 0 _ rfl)))) ?_
        refine RL.y rfl (Y.move (v := .int .i64 x27) rfl) ?_
        obtain ⟨x36, hx39, hm⟩ := bnd hm
        obtain ⟨k37, hk40, hl41, hx39⟩ := getI_some hx39
        obtain ⟨b43, o44, rfl, hbb43⟩ := h1.addr (by omega)
        obtain ⟨cs38, hRcs38, hc42⟩ := h1.el hx39
        have hScs38 := hRcs38
        obtain ⟨A45, n45, c45, A46, n46, c46, rfl, ⟨h45, r45⟩, ⟨h46, r46⟩⟩ := hRcs38
        have e45 := h45.len; subst e45
        have q45 := len_le r45
        have e46 := h46.len; subst e46
        have q46 := len_le r46
        refine RL.y rfl (Y.indexAddr (m := k37) (sz := 5) rfl rfl hk40 hl41 (by kernel_rfl)) ?_
        refine RL.y rfl (Y.loadN (cs := [.int .i64 x36.kind, .int .i64 x36.level, .int .i64 x36.value, .slice A45 x36.data.length c45, .slice A46 x36.ports.length c46]) rfl (by kernel_rfl) (cells5 (eqC (cellT T (hc42 0 _ rfl))) (eqC (cellT T (hc42 1 _ rfl))) (eqC (cellT T (hc42 2 _ rfl))) (eqC (cellT T (hc42 3 _ rfl))) (eqC (cellT T (hc42 4 _ rfl))))) ?_
        obtain ⟨y47, e48, hm⟩ := bnd hm
        refine RL.call rfl (am1 rfl) (by kernel_rfl) ((c_m_impl_copyAgent x36 _ e48 _ _ (stArg (R := agentRd) ⟨_, _, _, _, _, _, rfl, ⟨SlAt.now intRd_ok h45 (Nat.le_refl _) T, r45⟩, ⟨SlAt.now portRd_ok h46 (Nat.le_refl _) T, r46⟩⟩)).mono ?_)
        rintro _ w55 ⟨⟨v49, v52, rfl, G50, G53, Ro51_o54⟩, hb56⟩
        refine ⟨_, rfl, ?_⟩
        have szw55 := hb56.size
        have T0w55 := T.size
        have Zo51_ob5 := ap_ne (Ap.new (OwF.flo G50) (one_hi B3.lt))
        have Zo51_ob9 := ap_ne (Ap.new (OwF.flo G50) (one_hi Bz10.lt))
        have Zo51_ob15 := ap_ne (Ap.new (OwF.flo G50) (one_hi Bz24.lt))
        have Zo51_oz24_0 : Ap (fb v49) bsz24_0 := (Ap.new (OwF.flo G50) (OwN.hi Guz24_0))
        have Zo54_ob5 := ap_ne (Ap.new (OwF.flo G53) (one_hi B3.lt))
        have Zo54_ob9 := ap_ne (Ap.new (OwF.flo G53) (one_hi Bz10.lt))
        have Zo54_ob15 := ap_ne (Ap.new (OwF.flo G53) (one_hi Bz24.lt))
        have Zo54_oz24_0 : Ap (fb v52) bsz24_0 := (Ap.new (OwF.flo G53) (OwN.hi Guz24_0))
        have B3 := blkT B3 hb56
        have Bz10 := OwM.below Bz10 hb56
        have Bz24 := blkT Bz24 hb56
        have Guz24_0 := OwN.below agentOw_ok Guz24_0 hb56
        have T := Tt T hb56
        replace G50 := OwF.mono G50 T0w55
        replace G53 := OwF.mono G53 T0w55
        refine RL.alloc (z := .agg #[.int .i64 0, .int .i64 0, .int .i64 0, .slice none 0 0, .slice none 0 0]) rfl (by kernel_rfl) (fun w57 B58 hb59 szw57 => ?_)
        replace B58 : Blk w57 w55.heap.size 81 #[.int .i64 0, .int .i64 0, .int .i64 0, .slice none 0 0, .slice none 0 0] := B58
        have GB58 : w.heap.size ≤ w55.heap.size := T.size
        have Eob60_ob5 := Nat.ne_of_lt B3.lt
        have Eob60_ob9 := Nat.ne_of_lt Bz10.lt
        have Eob60_ob15 := Nat.ne_of_lt Bz24.lt
        have Noz24_0_ob60 := Ap.far (OwN.hi Guz24_0)
        have No51_ob60 := OwF.far G50 (Nat.le_refl _)
        have No54_ob60 := OwF.far G53 (Nat.le_refl _)
        have B3 := blkT B3 hb59
        have Bz10 := OwM.below Bz10 hb59
        have Bz24 := blkT Bz24 hb59
        have Guz24_0 := OwN.below agentOw_ok Guz24_0 hb59
        have G50 := OwF.below G50 hb59
        have G53 := OwF.below G53 hb59
        have T := Tt T hb59
        obtain ⟨A61, c62, rfl⟩ := OwF.form G50
        have qbA61 := OwF.bound G50
        obtain ⟨A63, c64, rfl⟩ := OwF.form G53
        have qbA63 := OwF.bound G53
        refine RL.store (v := .agg #[.int .i64 y47.kind, .int .i64 y47.level, .int .i64 y47.value, .slice A61 y47.data.length c62, .slice A63 y47.ports.length c64]) (cs' := #[.int .i64 y47.kind, .int .i64 y47.level, .int .i64 y47.value, .slice A61 y47.data.length c62, .slice A63 y47.ports.length c64]) rfl rfl rfl B58 (by kernel_rfl) (by rfl) (by rfl) (by rfl) (fun w65 B66 ho67 => ?_)
        have szw65 := ho67.size
        have B3 := B3.only_ ho67 (by intro hin; simp at hin; exact Eob60_ob5 hin)
        have Bz10 := Bz10.only ho67 (by intro hin; simp at hin; exact Eob60_ob9 hin)
        have Bz24 := Bz24.only_ ho67 (by intro hin; simp at hin; exact Eob60_ob15 hin)
        have Guz24_0 := OwN.only agentOw_ok Guz24_0 ho67 (Ap.one Noz24_0_ob60)
        have G50 := OwF.only G50 ho67 No51_ob60
        have G53 := OwF.only G53 ho67 No54_ob60
        have T := T.trans (ho67.below (by first | (simp; done) | (simp; omega)))
        refine RL.nil ?_
        refine then_n ?_
        refine wp_seq ?_
        refine wp_seq ?_
        refine wp_rs rfl ?_
        refine RQ.y rfl (Y.fieldAddr (off := 4) rfl (by kernel_rfl)) ?_
        refine RQ.y rfl (Y.load (v := .slice A63 y47.ports.length c64) rfl (by kernel_rfl) (eqC (blkCell B66 (i := 4) rfl))) ?_
        refine RQ.y rfl (Y.len (by kernel_rfl) rfl) ?_
        refine RQ.y rfl (Y.move (v := .int .i64 0) rfl) ?_
        refine RQ.nil ?_
        refine then_n ?_
        refine wp_block ?_
        obtain ⟨K3, hK3, hm⟩ : ∃ K, K = (m_impl_Net_renumber_A3 rec2 i23 z24) ∧ m_impl_Net_renumber_L3 z10 y47 K (y47.ports.length + 1) 0 y47 = some r := ⟨_, rfl, hm⟩
        refine wp_loopX (fun g f w' => ∃ (i117 : Int) (z118 : DAgent) (uz118_0 : Value) (uz118_1 : Value), f 0 = .pointer (some ⟨ba0, oa0, none⟩) ∧ f 4 = .pointer (some ⟨w.heap.size, 0, none⟩) ∧ f 5 = .map (some w2.heap.size) ∧ f 8 = .pointer (some ⟨w11.heap.size, 0, none⟩) ∧ f 11 = .pointer (some ⟨w55.heap.size, 0, none⟩) ∧ f 25 = .slice (some ⟨b34, o35, none⟩) d1.length ca1 ∧ f 26 = .int .i64 (d1.length : Int) ∧ f 27 = .int .i64 i23 ∧ f 41 = .int .i64 (y47.ports.length : Int) ∧ f 42 = .int .i64 i117 ∧ 0 ≤ i117 ∧ Blk w' w55.heap.size 81 #[.int .i64 z118.kind, .int .i64 z118.level, .int .i64 z118.value, uz118_0, uz118_1] ∧ OwF 2 encI 1 w' w.heap.size uz118_0 z118.data ∧ OwF 28 encPort 2 w' w.heap.size uz118_1 z118.ports ∧ Ap (fb uz118_0) bsz24_0 ∧ Value.ownBlock uz118_0 ≠ some w.heap.size ∧ Value.ownBlock uz118_0 ≠ some w2.heap.size ∧ Value.ownBlock uz118_0 ≠ some w11.heap.size ∧ Value.ownBlock uz118_0 ≠ some w55.heap.size ∧ Dj uz118_1 uz118_0 ∧ Ap (fb uz118_1) bsz24_0 ∧ Value.ownBlock uz118_1 ≠ some w.heap.size ∧ Value.ownBlock uz118_1 ≠ some w2.heap.size ∧ Value.ownBlock uz118_1 ≠ some w11.heap.size ∧ Value.ownBlock uz118_1 ≠ some w55.heap.size ∧ Blk w' w.heap.size 33 #[.slice none 0 0] ∧ OwM Try.prog 2 litI encVI w' w.heap.size w2.heap.size z10 ∧ Blk w' w11.heap.size 33 #[uz24_0] ∧ OwN 81 agentOw 5 w' w.heap.size uz24_0 z24.agents bsz24_0 ∧ Below w.heap.size w w' ∧ m_impl_Net_renumber_L3 z10 y47 K3 g i117 z118 = some r) 4 (fun f w' => ∃ (z68 : DAgent) (uz68_0 : Value) (uz68_1 : Value), f 0 = .pointer (some ⟨ba0, oa0, none⟩) ∧ f 4 = .pointer (some ⟨w.heap.size, 0, none⟩) ∧ f 5 = .map (some w2.heap.size) ∧ f 8 = .pointer (some ⟨w11.heap.size, 0, none⟩) ∧ f 11 = .pointer (some ⟨w55.heap.size, 0, none⟩) ∧ f 25 = .slice (some ⟨b34, o35, none⟩) d1.length ca1 ∧ f 26 = .int .i64 (d1.length : Int) ∧ f 27 = .int .i64 i23 ∧ Blk w' w55.heap.size 81 #[.int .i64 z68.kind, .int .i64 z68.level, .int .i64 z68.value, uz68_0, uz68_1] ∧ OwF 2 encI 1 w' w.heap.size uz68_0 z68.data ∧ OwF 28 encPort 2 w' w.heap.size uz68_1 z68.ports ∧ Ap (fb uz68_0) bsz24_0 ∧ Value.ownBlock uz68_0 ≠ some w.heap.size ∧ Value.ownBlock uz68_0 ≠ some w2.heap.size ∧ Value.ownBlock uz68_0 ≠ some w11.heap.size ∧ Value.ownBlock uz68_0 ≠ some w55.heap.size ∧ Dj uz68_1 uz68_0 ∧ Ap (fb uz68_1) bsz24_0 ∧ Value.ownBlock uz68_1 ≠ some w.heap.size ∧ Value.ownBlock uz68_1 ≠ some w2.heap.size ∧ Value.ownBlock uz68_1 ≠ some w11.heap.size ∧ Value.ownBlock uz68_1 ≠ some w55.heap.size ∧ Blk w' w.heap.size 33 #[.slice none 0 0] ∧ OwM Try.prog 2 litI encVI w' w.heap.size w2.heap.size z10 ∧ Blk w' w11.heap.size 33 #[uz24_0] ∧ OwN 81 agentOw 5 w' w.heap.size uz24_0 z24.agents bsz24_0 ∧ Below w.heap.size w w' ∧ m_impl_Net_renumber_A3 rec2 i23 z24 z68 = some r) (y47.ports.length + 1) ⟨0, y47, (.slice A61 y47.data.length c62), (.slice A63 y47.ports.length c64), s0_2, s4_2, s5_2, s8_2, rfl, s25_2, s26_2, s27_2, rfl, rfl, (by omega), B66, G50, G53, Zo51_oz24_0, (ap_ne (ne_ap Zo51_ob5)), (ap_ne (ne_ap Zo51_ob9)), (ap_ne (ne_ap Zo51_ob15)), (ap_ne (ne_ap No51_ob60)), (Ap.dj (Ap.symm (Dj.ap Ro51_o54))), Zo54_oz24_0, (ap_ne (ne_ap Zo54_ob5)), (ap_ne (ne_ap Zo54_ob9)), (ap_ne (ne_ap Zo54_ob15)), (ap_ne (ne_ap No54_ob60)), B3, Bz10, Bz24, Guz24_0, T, hm⟩ ?_ ?_
        · rintro f w69 ⟨z68, uz68_0, uz68_1, s0_3x, s4_3x, s5_3x, s8_3x, s11_3x, s25_3x, s26_3x, s27_3x, Bz68, Guz68_0, Guz68_1, Doz68_0_oz24_0, Noz68_0_ob5, Noz68_0_ob9, Noz68_0_ob15, Noz68_0_ob60, Doz68_1_oz68_0, Doz68_1_oz24_0, Noz68_1_ob5, Noz68_1_ob9, Noz68_1_ob15, Noz68_1_ob60, B3, Bz10, Bz24, Guz24_0, T, hm⟩
          unfold m_impl_Net_renumber_A3 at hm
          refine blk_hit (then_n ?_)
          refine wp_rl rfl ?_
          refine RL.y rfl (Y.fieldAddr (off := 0) s8_3x (by kernel_rfl)) ?_
          refine RL.y rfl (Y.load (v := uz24_0) rfl (by kernel_rfl) (eqC (blkCell Bz24 (i := 0) rfl))) ?_
          refine RL.y rfl (Y.loadN (cs := [.int .i64 z68.kind, .int .i64 z68.level, .int .i64 z68.value, uz68_0, uz68_1]) s11_3x (by kernel_rfl) (cells5 (eqC (blkCell Bz68 (i := 0) rfl)) (eqC (blkCell Bz68 (i := 1) rfl)) (eqC (blkCell Bz68 (i := 2) rfl)) (eqC (blkCell Bz68 (i := 3) rfl)) (eqC (blkCell Bz68 (i := 4) rfl)))) ?_
          obtain ⟨A74, c75, rfl⟩ := OwF.form Guz68_0
          have qbA74 := OwF.bound Guz68_0
          obtain ⟨A76, c77, rfl⟩ := OwF.form Guz68_1
          have qbA76 := OwF.bound Guz68_1
          refine RL.bslice (e := 81) (cells := #[.int .i64 z68.kind, .int .i64 z68.level, .int .i64 z68.value, .slice A74 z68.data.length c75, .slice A76 z68.ports.length c77]) rfl (pm1 rfl) (by kernel_rfl) (fun w70 B71 hb72 szw70 => ?_)
          have ZB71 : w.heap.size ≤ w69.heap.size := T.size
          have q78 := OwF.fboth Guz68_0 (Nat.le_refl _)
          have q79 := OwF.fboth Guz68_1 (Nat.le_refl _)
          have z80 := Ap.cons (Ap.farL (one_hi B3.lt)) (Ap.append (ne_ap Noz68_0_ob5) (ne_ap Noz68_1_ob5))
          have z81 := Ap.cons (Ap.farL (one_hi Bz10.lt)) (Ap.append (ne_ap Noz68_0_ob9) (ne_ap Noz68_1_ob9))
          have z82 := Ap.cons (Ap.farL (one_hi Bz24.lt)) (Ap.append (ne_ap Noz68_0_ob15) (ne_ap Noz68_1_ob15))
          have z83 := Ap.cons (Ap.farL (one_hi Bz68.lt)) (Ap.append (ne_ap Noz68_0_ob60) (ne_ap Noz68_1_ob60))
          have z84 := Ap.cons (Ap.farL (OwN.hi Guz24_0)) (Ap.append Doz68_0_oz24_0 Doz68_1_oz24_0)
          have B3 := blkT B3 hb72
          have Bz10 := OwM.below Bz10 hb72
          have Bz24 := blkT Bz24 hb72
          have Bz68 := blkT Bz68 hb72
          have Guz24_0 := OwN.below agentOw_ok Guz24_0 hb72
          have Guz68_0 := OwF.below Guz68_0 hb72
          have Guz68_1 := OwF.below Guz68_1 hb72
          have T := Tt T hb72
          obtain ⟨l86, a85, nd87, sb88, r89⟩ := OwF.own2 fI Guz68_0
          obtain ⟨l91, a90, nd92, sb93, r94⟩ := OwF.own2 fPort Guz68_1
          have G95 : OwN 81 agentOw 5 w70 w.heap.size (.slice (some ⟨w69.heap.size, 0, none⟩) 1 1) [z68] (w69.heap.size :: ((fb (.slice A74 z68.data.length c75)) ++ (fb (.slice A76 z68.ports.length c77)))) := OwN.lit1 (b1 := (l86 ++ l91)) B71 ZB71 ⟨_, _, _, _, _, _, l86, l91, rfl, ⟨a85, r89⟩, ⟨a90, r94⟩, rfl⟩ agentOw_ok (nodup2 nd87 nd92 sb88 sb93 (Ap.symm (Dj.ap Doz68_1_oz68_0))) (sub2 sb88 sb93) (all2 q78 q79)
          obtain ⟨_, m97, hm⟩ := bnd hm
          have hk98 := mustP_some m97
          refine RL.appendN agentOw_ok agentOw_one (by decide) app_impl_Agent rfl rfl rfl Guz24_0 G95 (Ap.symm z84) T.size hk98 (fun v99 w100 bs101 G102 hgr103 hbl104 hnb105 => ?_)
          have szw100 := hbl104.size
          have z107 := Ap.app hnb105 Noz24_0_ob5 z80 (one_hi B3.lt)
          have z108 := Ap.app hnb105 Noz24_0_ob9 z81 (one_hi Bz10.lt)
          have z109 := Ap.app hnb105 Noz24_0_ob15 z82 (one_hi Bz24.lt)
          have z110 := Ap.app hnb105 Noz24_0_ob60 z83 (one_hi Bz68.lt)
          have B3 := Blk.kept B3 hgr103 (OwN.neB Guz24_0 Noz24_0_ob5)
          have Bz10 := OwM.grown Bz10 hgr103 (OwN.neB Guz24_0 Noz24_0_ob9)
          have Bz24 := Blk.kept Bz24 hgr103 (OwN.neB Guz24_0 Noz24_0_ob15)
          have Bz68 := Blk.kept Bz68 hgr103 (OwN.neB Guz24_0 Noz24_0_ob60)
          have T := T.trans hbl104
          refine RL.y rfl (Y.fieldAddr (off := 0) s8_3x (by kernel_rfl)) ?_
          obtain ⟨A111, c112, rfl⟩ := OwN.form G102
          have qbA111 := OwN.bound G102
          refine RL.store (v := .slice A111 ((z24.agents ++ [z68]).length) c112) (cs' := #[.slice A111 ((z24.agents ++ [z68]).length) c112]) rfl rfl rfl Bz24 (by kernel_rfl) (by rfl) (by rfl) (by rfl) (fun w113 B114 ho115 => ?_)
          have szw113 := ho115.size
          have B3 := B3.only_ ho115 (by intro hin; simp at hin; exact Eob15_ob5 hin)
          have Bz10 := Bz10.only ho115 (by intro hin; simp at hin; exact Eob15_ob9 hin)
          have Bz68 := Bz68.only_ ho115 (by intro hin; simp at hin; exact Eob60_ob15.symm hin)
          have G102 := OwN.only agentOw_ok G102 ho115 (Ap.one z109)
          have T := T.trans (ho115.below (by first | (simp; done) | (simp; omega)))
          refine RL.nil ?_
          refine blk_n (then_n ?_)
          refine wp_rs rfl ?_
          obtain ⟨s116, ks116, hm⟩ := bnd hm
          replace ks116 := ck_some ks116
          refine RQ.y rfl (Y.binI (v := .int .i64 s116) s27_3x rfl (by rw [binI_add ks116.2, ks116.1])) ?_
          refine RQ.y rfl (Y.move (v := .int .i64 s116) rfl) ?_
          refine RQ.nil ?_
          exact (then_n ⟨g, _, Nat.lt_succ_self _, rfl, ⟨s116, (⟨(z24.agents ++ [z68])⟩ : DNet), (.slice A111 ((z24.agents ++ [z68]).length) c112), bs101, s0_3x, s4_3x, s5_3x, s8_3x, s25_3x, s26_3x, rfl, (by omega), B114, G102, z107, z108, z109, B3, Bz10, T, (by rw [← hrec2]; exact hm)⟩⟩)
        · rintro g f w119 ⟨i117, z118, uz118_0, uz118_1, s0_3, s4_3, s5_3, s8_3, s11_3, s25_3, s26_3, s27_3, s41_3, s42_3, nn42_3, Bz118, Guz118_0, Guz118_1, Doz118_0_oz24_0, Noz118_0_ob5, Noz118_0_ob9, Noz118_0_ob15, Noz118_0_ob60, Doz118_1_oz118_0, Doz118_1_oz24_0, Noz118_1_ob5, Noz118_1_ob9, Noz118_1_ob15, Noz118_1_ob60, B3, Bz10, Bz24, Guz24_0, T, hm⟩
          rcases g with _ | g
          · simp only [m_impl_Net_renumber_L3] at hm; cases hm
          obtain ⟨rec3, hrec3, hm⟩ : ∃ z, z = m_impl_Net_renumber_L3 z10 y47 K3 g ∧ m_impl_Net_renumber_B3 z10 y47 z K3 i117 z118 = some r := ⟨_, rfl, hm⟩
          unfold m_impl_Net_renumber_B3 at hm
          refine wp_seq ?_
          refine wp_rs rfl ?_
          refine RQ.y rfl (Y.binI (v := .bool (decide (i117 < (y47.ports.length : Int)))) s42_3 s41_3 rfl) ?_
          refine RQ.nil ?_
          refine then_n ?_
          refine wp_seq ?_
          rcases bcases (decide (i117 < (y47.ports.length : Int))) with c120 | c120
          · replace hm := cF c120 hm
            have pc120 := of_decide_eq_false c120
            refine cond_f rfl (vb rfl c120) ?_
            refine wp_exit ?_
            exact (then_x (then_x (hit_x ⟨_, rfl, ⟨z118, (uz118_0), (uz118_1), s0_3, s4_3, s5_3, s8_3, s11_3, s25_3, s26_3, s27_3, Bz118, Guz118_0, Guz118_1, Doz118_0_oz24_0, (ap_ne (ne_ap Noz118_0_ob5)), (ap_ne (ne_ap Noz118_0_ob9)), (ap_ne (ne_ap Noz118_0_ob15)), (ap_ne (ne_ap Noz118_0_ob60)), (Ap.dj (Dj.ap Doz118_1_oz118_0)), Doz118_1_oz24_0, (ap_ne (ne_ap Noz118_1_ob5)), (ap_ne (ne_ap Noz118_1_ob9)), (ap_ne (ne_ap Noz118_1_ob15)), (ap_ne (ne_ap Noz118_1_ob60)), B3, Bz10, Bz24, Guz24_0, T, (by rw [hK3] at hm; exact hm)⟩⟩)))
          · replace hm := cT c120 hm
            have pc120 := of_decide_eq_true c120
            refine cond_t rfl (vb rfl c120) ?_
            refine wp_skip ?_
            refine then_n ?_
            refine wp_seq ?_
            refine wp_block ?_
            refine wp_seq ?_
            refine wp_rs rfl ?_
            refine RQ.y rfl (Y.move (v := .int .i64 i117) s42_3) ?_
            refine RQ.y rfl (Y.assign (v := .int .i64 i117) rfl) ?_
            refine RQ.nil ?_
            refine then_n ?_
            refine wp_rg (fun w' => Below w.heap.size w w' ∧ OwM Try.prog 2 litI encVI w' w.heap.size w2.heap.size z10 ∧ Blk w' w55.heap.size 81 #[.int .i64 z118.kind, .int .i64 z118.level, .int .i64 z118.value, uz118_0, uz118_1]) [(0, true), (1, true), (2, true), (3, true), (4, true), (5, true), (6, true), (7, true), (8, true), (9, false), (10, true), (11, true), (12, true), (13, false)] (by kernel_rfl) (by kernel_rfl) (fun w121 hb122 szw121 => ?_)
            have B3 := blkT B3 hb122
            have Bz10 := OwM.below Bz10 hb122
            have Bz24 := blkT Bz24 hb122
            have Bz118 := blkT Bz118 hb122
            have Guz24_0 := OwN.below agentOw_ok Guz24_0 hb122
            have Guz118_0 := OwF.below Guz118_0 hb122
            have Guz118_1 := OwF.below Guz118_1 hb122
            have T := Tt T hb122
            refine ⟨⟨T, Bz10, Bz118⟩, ?_⟩
            refine RG.y rfl rfl (Y.fieldAddr (off := 4) s11_3 (by kernel_rfl)) ?_
            refine RG.y rfl rfl (Y.load (v := uz118_1) rfl (by kernel_rfl) (fun w' hS => (blkCell hS.2.2 (i := 4) rfl))) ?_
            refine RG.y rfl rfl (Y.move (v := .int .i64 i117) rfl) ?_
            refine RG.y rfl rfl (Y.move (v := .map (some w2.heap.size)) s5_3) ?_
            refine RG.y rfl rfl (Y.fieldAddr (off := 4) s11_3 (by kernel_rfl)) ?_
            refine RG.y rfl rfl (Y.load (v := uz118_1) rfl (by kernel_rfl) (fun w' hS => (blkCell hS.2.2 (i := 4) rfl))) ?_
            refine RG.y rfl rfl (Y.move (v := .int .i64 i117) rfl) ?_
            obtain ⟨A123, c124, rfl⟩ := OwF.form Guz118_1
            have qbA123 := OwF.bound Guz118_1
            obtain ⟨x125, hx127, hm⟩ := bnd hm
            obtain ⟨k126, hk128, hl129, hx127⟩ := getI_some hx127
            obtain ⟨b130, rfl⟩ := OwF.addr0 Guz118_1 (by omega)
            refine RG.y rfl rfl (Y.indexAddr (m := k126) (sz := 2) rfl rfl hk128 hl129 (by kernel_rfl)) ?_
            refine RG.y rfl rfl (Y.fieldAddr (off := 0) rfl (by kernel_rfl)) ?_
            refine RG.act rfl ?_
            refine RL.y rfl (Y.load (v := .int .i64 x125.agent) rfl (by kernel_rfl) (eqC (OwF.cell fPort Guz118_1 hx127 (j := 0) rfl))) ?_
            refine RL.nil ⟨⟨T, Bz10, Bz118⟩, ?_⟩
            obtain ⟨_, kc131, hm⟩ := bnd hm
            replace kc131 := (ck_some kc131).2
            refine RG.y rfl rfl (Y.look (zb := 0) (a := x125.agent) mt_int64_int64 rfl rfl kc131 (fun w' hS => hS.2.1)) ?_
            obtain ⟨x132, hx134, hm⟩ := bnd hm
            obtain ⟨k133, hk135, hl136, hx134⟩ := getI_some hx134
            refine RG.y rfl rfl (Y.indexAddr (m := k133) (sz := 2) rfl rfl hk135 hl136 (by kernel_rfl)) ?_
            refine RG.y rfl rfl (Y.fieldAddr (off := 0) rfl (by kernel_rfl)) ?_
            refine RG.act rfl ?_
            refine RL.storeFj (k := k133) (j := 0) (a := x132) (a' := (⟨(z10.look x125.agent 0), x132.slot⟩ : DPort)) fPort rfl rfl rfl Guz118_1 hx134 (by decide) rfl rfl rfl (by kernel_rfl) (fun w137 G138 ho139 => ?_)
            have szw137 := ho139.size
            have B3 := Blk.only_ B3 ho139 (fun e => Noz118_1_ob5 (by simp at e; rw [e]; rfl))
            have Bz10 := OwM.only Bz10 ho139 (fun e => Noz118_1_ob9 (by simp at e; rw [e]; rfl))
            have Bz24 := Blk.only_ Bz24 ho139 (fun e => Noz118_1_ob15 (by simp at e; rw [e]; rfl))
            have Bz118 := Blk.only_ Bz118 ho139 (fun e => Noz118_1_ob60 (by simp at e; rw [e]; rfl))
            have Guz24_0 := OwN.only agentOw_ok Guz24_0 ho139 ((show Ap bsz24_0 [b130] from (Ap.symm Doz118_1_oz24_0)).one)
            have Guz118_0 := OwF.only Guz118_0 ho139 (fun e => (Dj.symm Doz118_1_oz118_0) _ e rfl)
            have T := T.trans (ho139.below (by intro b hb; simp at hb; subst hb; exact OwF.lo_ Guz118_1 _ rfl))
            have G138 : OwF 28 encPort 2 w137 w.heap.size (.slice (some ⟨b130, 0, none⟩) z118.ports.length c124) (setI z118.ports i117 (⟨(z10.look x125.agent 0), x132.slot⟩ : DPort)) := by rw [hk135, setI_nat]; exact G138
            have hx140 : (setI z118.ports i117 (⟨(z10.look x125.agent 0), x132.slot⟩ : DPort))[k133]? = some (⟨(z10.look x125.agent 0), x132.slot⟩ : DPort) := setI_at hk135 hl136
            have hl141 := lt_of_some hx140
            refine RL.nil ⟨⟨T, Bz10, Bz118⟩, ?_⟩
            refine RG.nil ?_
            refine blk_n (then_n ?_)
            refine wp_rs rfl ?_
            refine RQ.y rfl (Y.binI s42_3 rfl (binI_add (m := i117) (by omega))) ?_
            refine RQ.y rfl (Y.move (v := .int .i64 (i117 + 1)) rfl) ?_
            refine RQ.nil ?_
            exact (then_n ⟨g, _, Nat.lt_succ_self _, rfl, ⟨(i117 + 1), (⟨z118.kind, z118.level, z118.value, z118.data, (setI z118.ports i117 (⟨(z10.look x125.agent 0), x132.slot⟩ : DPort))⟩ : DAgent), (uz118_0), (.slice (some ⟨b130, 0, none⟩) z118.ports.length c124), s0_3, s4_3, s5_3, s8_3, s11_3, s25_3, s26_3, s27_3, s41_3, rfl, (by omega), Bz118, Guz118_0, G138, Doz118_0_oz24_0, (ap_ne (ne_ap Noz118_0_ob5)), (ap_ne (ne_ap Noz118_0_ob9)), (ap_ne (ne_ap Noz118_0_ob15)), (ap_ne (ne_ap Noz118_0_ob60)), (Ap.dj (Dj.ap Doz118_1_oz118_0)), Doz118_1_oz24_0, (ap_ne (ne_ap Noz118_1_ob5)), (ap_ne (ne_ap Noz118_1_ob9)), (ap_ne (ne_ap Noz118_1_ob15)), (ap_ne (ne_ap Noz118_1_ob60)), B3, Bz10, Bz24, Guz24_0, T, (by rw [← hrec3]; exact hm)⟩⟩)
  · rintro g f w146 ⟨i144, z145, s0_1, s1_1, s4_1, s5_1, s14_1, s15_1, s16_1, nn16_1, Bz145, B3, T, hm⟩
    rcases g with _ | g
    · simp only [m_impl_Net_renumber_L1] at hm; cases hm
    obtain ⟨rec1, hrec1, hm⟩ : ∃ z, z = m_impl_Net_renumber_L1 d1 K1 g ∧ m_impl_Net_renumber_B1 d1 z K1 i144 z145 = some r := ⟨_, rfl, hm⟩
    unfold m_impl_Net_renumber_B1 at hm
    refine wp_seq ?_
    refine wp_rs rfl ?_
    refine RQ.y rfl (Y.binI (v := .bool (decide (i144 < (d1.length : Int)))) s16_1 s15_1 rfl) ?_
    refine RQ.nil ?_
    refine then_n ?_
    refine wp_seq ?_
    rcases bcases (decide (i144 < (d1.length : Int))) with c147 | c147
    · replace hm := cF c147 hm
      have pc147 := of_decide_eq_false c147
      refine cond_f rfl (vb rfl c147) ?_
      refine wp_exit ?_
      exact (then_x (then_x (hit_x ⟨_, rfl, ⟨z145, s0_1, s1_1, s4_1, s5_1, Bz145, B3, T, (by rw [hK1] at hm; exact hm)⟩⟩)))
    · replace hm := cT c147 hm
      have pc147 := of_decide_eq_true c147
      refine cond_t rfl (vb rfl c147) ?_
      refine wp_skip ?_
      refine then_n ?_
      refine wp_seq ?_
      refine wp_block ?_
      refine wp_seq ?_
      refine wp_rs rfl ?_
      refine RQ.y rfl (Y.move (v := .int .i64 i144) s16_1) ?_
      obtain ⟨x148, hx151, hm⟩ := bnd hm
      obtain ⟨k149, hk152, hl153, hx151⟩ := getI_some hx151
      obtain ⟨b155, o156, rfl, hbb155⟩ := ha1.addr (by omega)
      obtain ⟨cs150, hRcs150, hc154⟩ := ha1.el hx151
      have hScs150 := hRcs150
      obtain rfl := hRcs150
      refine RQ.y rfl (Y.indexAddr (m := k149) (sz := 1) s14_1 s16_1 hk152 hl153 (by kernel_rfl)) ?_
      refine RQ.y rfl (Y.load (v := .int .i64 x148) rfl (by kernel_rfl) (eqC (cellT T (hc154 0 _ rfl)))) ?_
      refine RQ.y rfl (Y.assign (v := .int .i64 i144) rfl) ?_
      refine RQ.y rfl (Y.assign (v := .int .i64 x148) rfl) ?_
      refine RQ.nil ?_
      refine then_n ?_
      refine wp_rl rfl ?_
      refine RL.y rfl (Y.move (v := .map (some w2.heap.size)) s5_1) ?_
      refine RL.y rfl (Y.move (v := .int .i64 x148) rfl) ?_
      refine RL.y rfl (Y.move (v := .int .i64 i144) rfl) ?_
      obtain ⟨_, kc157, hm⟩ := bnd hm
      replace kc157 := (ck_some kc157).2
      obtain ⟨_, m158, hm⟩ := bnd hm
      have hk159 := mustP_some m158
      refine RL.mapSet (a := x148) (v := i144) (enc := encVI) mt_int64_int64 rfl rfl rfl rfl kc157 Bz145 hk159 (fun w160 B161 ho162 => ?_)
      have szw160 := ho162.size
      have B3 := B3.only_ ho162 (by intro hin; simp at hin; exact Eob9_ob5 hin)
      have T := T.trans (ho162.below (by intro b hb; simp at hb; subst hb; exact Bz145.1))
      refine RL.nil ?_
      refine blk_n (then_n ?_)
      refine wp_rs rfl ?_
      refine RQ.y rfl (Y.binI s16_1 rfl (binI_add (m := i144) (by omega))) ?_
      refine RQ.y rfl (Y.move (v := .int .i64 (i144 + 1)) rfl) ?_
      refine RQ.nil ?_
      exact (then_n ⟨g, _, Nat.lt_succ_self _, rfl, ⟨(i144 + 1), (z145.put x148 i144), s0_1, s1_1, s4_1, s5_1, s14_1, s15_1, rfl, (by omega), B161, B3, T, (by rw [← hrec1]; exact hm)⟩⟩)
end
section
open Go.RowKit
set_option linter.unusedVariables false
set_option linter.unusedSimpArgs false
def renP (l : List Int) (p : DPort) : DPort := ⟨posOf l p.agent, p.slot⟩
def renA (l : List Int) (x : DAgent) : DAgent := ⟨x.kind, x.level, x.value, x.data, x.ports.map (renP l)⟩
def renL (xs : List DAgent) (l : List Int) : List DAgent := l.map fun a => renA l (agentAt xs a)
/-- The agents of l lead to agents of l alone. -/
def Shut (xs : List DAgent) (l : List Int) : Prop := ∀ a ∈ l, ∀ p ∈ (agentAt xs a).ports, p.agent ∈ l
theorem getI_setI {s : List Int} {a b v : Int} (h0 : 0 ≤ a) (h1 : a < s.length) (hb : 0 ≤ b) : getI (setI s a v) b = if b = a then some v else getI s b := by
  obtain ⟨i, rfl⟩ := Int.eq_ofNat_of_zero_le h0
  obtain ⟨j, rfl⟩ := Int.eq_ofNat_of_zero_le hb
  rw [setI_nat]
  unfold getI
  rw [if_pos hb, Int.toNat_natCast, List.getElem?_set]
  by_cases h : i = j
  · subst h; simp; omega
  · rw [if_neg h, if_neg (by omega : ¬ ((j : Int) = (i : Int)))]
    simp
theorem p_iRenumber {xs : List DAgent} (hs : Small xs) (h6 : xs.length ≤ 600) {l : List Int} (h : GL xs.length l) (hsh : Shut xs l) : m_impl_Net_renumber ⟨xs⟩ l = some ⟨renL xs l⟩ := by
  have hlen := h.len
  unfold m_impl_Net_renumber
  have k1 := traj (L := fun g (q : Int × MapM Int Int) => m_impl_Net_renumber_L1 l (m_impl_Net_renumber_A1 ⟨xs⟩ l) g q.1 q.2) (st := fun k => ((k : Int), placeOf l k)) (n := l.length) (r := m_impl_Net_renumber_A1 ⟨xs⟩ l (placeOf l l.length))
    (fun g k hk => by
      obtain ⟨a0, a1⟩ := h.inr _ (List.getElem_mem hk)
      have hpn := placeOf_n l k
      simp -implicitDefEqProofs only [m_impl_Net_renumber_L1, m_impl_Net_renumber_B1, dlt hk, cond_true, getI_lt hk, Option.bind_some]
      rw [ck_ok (by omega), Option.bind_some, mustP_ok (by omega), Option.bind_some]
      have e : placeOf l (k + 1) = (placeOf l k).put l[k] (k : Int) := by
        show (placeOf l k).put (l[k]?.getD 0) (k : Int) = _
        rw [List.getElem?_eq_getElem hk]; rfl
      rw [e]; simp only [Int.natCast_add, Int.cast_ofNat_Int])
    (fun g => by simp -implicitDefEqProofs only [m_impl_Net_renumber_L1, m_impl_Net_renumber_B1, dge, cond_false]) (l.length + 1) (Nat.lt_succ_self _)
  refine k1.trans ?_
  unfold m_impl_Net_renumber_A1
  have key := (appL (L := fun g acc i => m_impl_Net_renumber_L2 ⟨xs⟩ l (placeOf l l.length) m_impl_Net_renumber_A2 g i ⟨acc⟩) (d := l) (f := fun a => [renA l (agentAt xs a)]) (B := 1) (M := 4294967296) (K := fun acc => some (⟨acc⟩ : DNet))
    (fun x _ => by simp)
    (fun g k a acc ha hM => by
      have hk := lt_of_some ha
      have ham := List.mem_of_getElem? ha
      obtain ⟨a0, a1⟩ := h.inr a ham
      obtain ⟨i, rfl⟩ := Int.eq_ofNat_of_zero_le a0
      have hx := List.getElem?_eq_getElem (show i < xs.length by omega)
      have hsa := hsh _ ham
      rw [agentAt_nat hx] at hsa hM ⊢
      have hsz := small_sz hs hx
      simp -implicitDefEqProofs only [m_impl_Net_renumber_L2, m_impl_Net_renumber_B2, dlt hk, cond_true, getI_nat ha, getI_nat hx, Option.bind_some, p_copyAgent hsz]
      generalize xs[i] = x at *
      have inner := traj (L := fun g' (s : Int × List DPort) => m_impl_Net_renumber_L3 (placeOf l l.length) x (m_impl_Net_renumber_A3 (m_impl_Net_renumber_L2 ⟨xs⟩ l (placeOf l l.length) m_impl_Net_renumber_A2 g) (k : Int) ⟨acc⟩) g' s.1 ⟨x.kind, x.level, x.value, x.data, s.2⟩)
        (st := fun j => ((j : Int), midL (renP l) x.ports j)) (n := x.ports.length) (r := m_impl_Net_renumber_L2 ⟨xs⟩ l (placeOf l l.length) m_impl_Net_renumber_A2 g ((k : Int) + 1) ⟨acc ++ [renA l x]⟩)
        (fun g' j hj => by
          have hp := List.getElem?_eq_getElem hj
          have hm := midL_get (f := renP l) hp
          have hst := midL_step (f := renP l) hp
          have hpa := hsa _ (List.getElem_mem hj)
          have hn := placeOf_pos h.nd hpa
          obtain ⟨b0, b1⟩ := h.inr _ hpa
          simp -implicitDefEqProofs only [m_impl_Net_renumber_L3, m_impl_Net_renumber_B3, dlt hj, cond_true, getI_nat hm, Option.bind_some]
          rw [ck_ok (by omega), Option.bind_some, hn]
          have hq : (⟨posOf l x.ports[j].agent, x.ports[j].slot⟩ : DPort) = renP l x.ports[j] := rfl
          rw [setI_nat, hq, hst]
          simp only [Int.natCast_add, Int.cast_ofNat_Int])
        (fun g' => by
          simp -implicitDefEqProofs only [m_impl_Net_renumber_L3, m_impl_Net_renumber_B3, dge, cond_false, m_impl_Net_renumber_A3]
          rw [mustP_ok (by simpa using hM), Option.bind_some, ck_ok (by omega), Option.bind_some, midL_end]
          rfl) (x.ports.length + 1) (Nat.lt_succ_self _)
      simpa [midL_zero] using inner)
    (fun g acc => by simp -implicitDefEqProofs only [m_impl_Net_renumber_L2, m_impl_Net_renumber_B2, dge, cond_false, m_impl_Net_renumber_A2])
    [] (l.length + 1) (by omega) (by simp; omega)).1
  have e : l.flatMap (fun a => [renA l (agentAt xs a)]) = renL xs l := by
    unfold renL
    rw [← flat_id (l.map _), List.flatMap_map]
  rw [e] at key
  simpa using key
theorem sum_le (f : Nat → Nat) : ∀ (n : Nat) (l : List Nat), l.Nodup → (∀ x ∈ l, x < n) → (l.map f).sum ≤ ((List.range n).map f).sum
  | 0, l, _, h => by
    cases l with
    | nil => simp
    | cons x l => have := h x (by simp); omega
  | n + 1, l, hn, h => by
    rw [List.range_succ, List.map_append, List.sum_append]
    by_cases hm : n ∈ l
    · have h1 := sum_le f n (l.erase n) (hn.erase n) (fun x hx => by
        have h2 := (hn.mem_erase_iff).1 hx
        have := h x h2.2
        have := h2.1
        omega)
      have h2 := ((List.perm_cons_erase hm).map f).sum_nat
      rw [h2, List.map_cons, List.sum_cons]
      simp
      omega
    · have := sum_le f n l hn (fun x hx => by
        have h1 := h x hx
        have : x ≠ n := fun e => hm (by rw [← e]; exact hx)
        omega)
      simp
      omega
theorem renL_sz {xs : List DAgent} {l : List Int} (h : GL xs.length l) : szAgentS (renL xs l) ≤ szAgentS xs := by
  have hlen := h.len
  have h1 := sum_le (fun i => szAgent (agentAt xs (i : Int))) xs.length (l.map Int.toNat) (by
    rw [List.nodup_iff_pairwise_ne, List.pairwise_map]
    refine (List.nodup_iff_pairwise_ne.1 h.nd).imp_of_mem ?_
    intro a b ha hb hab e
    have := h.inr a ha; have := h.inr b hb
    exact hab (by omega)) (fun x hx => by
    obtain ⟨a, ha, rfl⟩ := List.mem_map.1 hx
    have := h.inr a ha
    omega)
  have e1 : (l.map Int.toNat).map (fun i : Nat => szAgent (agentAt xs (i : Int))) = (renL xs l).map szAgent := by
    unfold renL
    rw [List.map_map, List.map_map]
    apply List.map_congr_left
    intro a ha
    have := h.inr a ha
    simp only [Function.comp]
    rw [Int.toNat_of_nonneg this.1]
    simp [renA, szAgent]
  have e2 : (List.range xs.length).map (fun i : Nat => szAgent (agentAt xs (i : Int))) = xs.map szAgent := by
    apply List.ext_getElem?
    intro i
    by_cases hi : i < xs.length
    · have hx := List.getElem?_eq_getElem hi
      rw [List.getElem?_map, List.getElem?_map, List.getElem?_range hi, hx]
      simp [agentAt_nat hx]
    · rw [List.getElem?_eq_none (by simp; omega), List.getElem?_eq_none (by simp; omega)]
  rw [e1, e2] at h1
  have e3 : (renL xs l).length = l.length := by simp [renL]
  unfold szAgentS
  omega
end
section
open Go.RowKit Go.Shelf
set_option linter.unusedVariables false
set_option linter.unusedSimpArgs false
def layI_ren : Go.Shelf.Ren := ⟨fun | 53 => 54 | 64 => 81 | 63 => 80 | 78 => 105 | 79 => 106 | 70 => 96 | 71 => 97 | 72 => 98 | 73 => 99 | 74 => 100 | 75 => 101 | 59 => 102 | 76 => 103 | 77 => 104 | 88 => 120 | 89 => 121 | 90 => 122 | 91 => 123 | 92 => 124 | 68 => 125 | 96 => 135 | n => n, fun | 22 => 41 | 23 => 2 | 3 => 3 | 51 => 114 | 0 => 0 | 67 => 136 | 69 => 138 | 4 => 4 | 61 => 128 | 60 => 127 | 44 => 133 | 5 => 5 | 9 => 9 | 75 => 145 | 79 => 149 | 83 => 154 | 84 => 155 | n => n, fun | n => n⟩
theorem layI : Go.Proofs.SlLaysN.n53 Try.prog layI_ren := {
  mixed := by kernel_rfl
  f53 := ⟨Try.f54.name, by decide, Try.func54.trans (congrArg some (by kernel_rfl))⟩
  f59 := ⟨Try.f102.name, by decide, Try.func102.trans (congrArg some (by kernel_rfl))⟩
  f63 := ⟨Try.f80.name, by decide, Try.func80.trans (congrArg some (by kernel_rfl))⟩
  f64 := Try.func81.trans (congrArg some (by kernel_rfl))
  f68 := ⟨Try.f125.name, by decide, Try.func125.trans (congrArg some (by kernel_rfl))⟩
  f70 := ⟨Try.f96.name, by decide, Try.func96.trans (congrArg some (by kernel_rfl))⟩
  f71 := ⟨Try.f97.name, by decide, Try.func97.trans (congrArg some (by kernel_rfl))⟩
  f72 := ⟨Try.f98.name, by decide, Try.func98.trans (congrArg some (by kernel_rfl))⟩
  f73 := ⟨Try.f99.name, by decide, Try.func99.trans (congrArg some (by kernel_rfl))⟩
  f74 := ⟨Try.f100.name, by decide, Try.func100.trans (congrArg some (by kernel_rfl))⟩
  f75 := ⟨Try.f101.name, by decide, Try.func101.trans (congrArg some (by kernel_rfl))⟩
  f76 := ⟨Try.f103.name, by decide, Try.func103.trans (congrArg some (by kernel_rfl))⟩
  f77 := ⟨Try.f104.name, by decide, Try.func104.trans (congrArg some (by kernel_rfl))⟩
  f78 := Try.func105.trans (congrArg some (by kernel_rfl))
  f79 := Try.func106.trans (congrArg some (by kernel_rfl))
  f88 := ⟨Try.f120.name, by decide, Try.func120.trans (congrArg some (by kernel_rfl))⟩
  f89 := Try.func121.trans (congrArg some (by kernel_rfl))
  f90 := Try.func122.trans (congrArg some (by kernel_rfl))
  f91 := ⟨Try.f123.name, by decide, Try.func123.trans (congrArg some (by kernel_rfl))⟩
  f92 := ⟨Try.f124.name, by decide, Try.func124.trans (congrArg some (by kernel_rfl))⟩
  f96 := ⟨Try.f135.name, by decide, Try.func135.trans (congrArg some (by kernel_rfl))⟩
  t0 := Try.underlying0
  a0 := Try.isAgg0
  z0 := Try.sizeOf0
  v0 := Try.zeroValue0
  t3 := Try.underlying3
  a3 := Try.isAgg3
  z3 := Try.sizeOf3
  v3 := Try.zeroValue3
  t4 := Try.underlying4
  a4 := Try.isAgg4
  z4 := Try.sizeOf4
  v4 := Try.zeroValue4
  t5 := Try.underlying5
  a5 := Try.isAgg5
  z5 := Try.sizeOf5
  v5 := Try.zeroValue5
  t9 := Try.underlying9
  a9 := Try.isAgg9
  z9 := Try.sizeOf9
  v9 := Try.zeroValue9
  t22 := Try.underlying41
  a22 := Try.isAgg41
  z22 := Try.sizeOf41
  v22 := Try.zeroValue41
  t23 := Try.underlying2
  a23 := Try.isAgg2
  z23 := Try.sizeOf2
  v23 := Try.zeroValue2
  t44 := Try.underlying133
  a44 := Try.isAgg133
  z44 := Try.sizeOf133
  v44 := Try.zeroValue133
  t51 := Try.underlying114
  a51 := Try.isAgg114
  z51 := Try.sizeOf114
  v51 := Try.zeroValue114
  t60 := Try.underlying127
  a60 := Try.isAgg127
  z60 := Try.sizeOf127
  v60 := Try.zeroValue127
  t61 := Try.underlying128
  a61 := Try.isAgg128
  z61 := Try.sizeOf128
  v61 := Try.zeroValue128
  t67 := Try.underlying136
  a67 := Try.isAgg136
  z67 := Try.sizeOf136
  v67 := Try.zeroValue136
  t69 := Try.underlying138
  a69 := Try.isAgg138
  z69 := Try.sizeOf138
  v69 := Try.zeroValue138
  t75 := Try.underlying145
  a75 := Try.isAgg145
  z75 := Try.sizeOf145
  v75 := Try.zeroValue145
  t79 := Try.underlying149
  a79 := Try.isAgg149
  z79 := Try.sizeOf149
  v79 := Try.zeroValue149
  t83 := Try.underlying154
  a83 := Try.isAgg154
  z83 := Try.sizeOf154
  v83 := Try.zeroValue154
  t84 := Try.underlying155
  a84 := Try.isAgg155
  z84 := Try.sizeOf155
  v84 := Try.zeroValue155 }
theorem flatMap_encI (xs : List Int) : xs.flatMap encI = xs.map (Value.int .i64) := by
  induction xs with
  | nil => rfl
  | cons x xs ih => simp [encI, ih]
theorem sort_own {w : World} {lo : Nat} {v : Value} {xs : List Int} (h : OwF 2 encI 1 w lo v xs) (hlo : lo ≤ w.heap.size) (hk : xs.length ≤ 4294967296) :
    Calls Try.prog 54 #[v] w fun e w' => e = .returned (.tuple #[]) ∧ OwF 2 encI 1 w' lo v (srt xs) ∧ w.grownBy w' v.ownBlock ∧ Below lo w w' := by
  obtain ⟨hl, h0 | ⟨g, cap, cur, rfl, hg, hb, hn, hcap, hsz, htk⟩⟩ := h
  · obtain ⟨rfl, hn⟩ := h0
    have hx : xs = [] := List.eq_nil_of_length_eq_zero hn
    subst hx
    refine (AnyG.slices_Sort_int_none layI none 0 w).mono ?_
    rintro e w' ⟨rfl, rfl⟩
    exact ⟨rfl, by rw [show srt [] = [] from List.eq_nil_of_length_eq_zero (srt_len [])]; exact OwF.nil, World.grownBy.refl _ _, Below.refl _ _⟩
  · rw [flatMap_encI, Nat.mul_one] at htk
    have hgs : g < w.heap.size := (Array.getElem?_eq_some_iff.1 hb).1
    have hs : (srt xs).length = xs.length := srt_len xs
    refine (AnyG.slices_Sort_int layI g 0 cap xs w (Go.holds_of_blockI hb htk) hgs (by omega)).mono ?_
    rintro e w' ⟨rfl, n, os, rfl⟩
    have hgr : w.grownBy (Sort.grow (Sort.putRow (Value.int .i64) (Sort.ahead w n) g 0 (srt xs).toArray) os) (some g) := Go.grownBy_sortedI _
    have ho := Go.ownsRow_sortedI (n := n) (os := os) (ss := xs) (ts := srt xs) hs hg hb hn hcap hsz
    refine ⟨rfl, ?_, hgr, ?_⟩
    · unfold OwF; rw [flatMap_encI, hs]; exact ho
    · exact (Below.refl lo w).grown hgr hlo (by intro b hb; cases hb; exact hg)
end
section
open Go.RowKit
set_option linter.unusedVariables false
set_option linter.unusedSimpArgs false
set_option maxRecDepth 100000
def m_spec_l12Sorted_A1 (xs8 : List Int) : Option (List Int) :=
  some xs8
def m_spec_l12Sorted_A2 (rec1 : List Int → Int → Option (List Int)) (i11 : Int) (xs16 : List Int) : Option (List Int) :=
  ((ck (i11 + 1)).bind fun s18 => (rec1 xs16 s18))
def m_spec_l12Sorted_B2 (rec2 : List Int → Int → Option (List Int)) (K2 : List Int → Option (List Int)) (xs19 : List Int) (i20 : Int) : Option (List Int) :=
  (bif (decide (i20 > 0)) then ((ck (i20 - 1)).bind fun s25 => ((getI xs19 s25).bind fun x28 => ((getI xs19 i20).bind fun x34 => (bif (decide (x28 > x34)) then ((getI xs19 i20).bind fun x42 => ((ck (i20 - 1)).bind fun s47 => ((getI xs19 s47).bind fun x48 => ((getI xs19 i20).bind fun x53 => ((ck (i20 - 1)).bind fun s63 => ((getI (setI xs19 i20 x48) s63).bind fun x64 => ((ck (i20 - 1)).bind fun s74 => (rec2 (setI (setI xs19 i20 x48) s63 x42) s74)))))))) else (K2 xs19))))) else (K2 xs19))
def m_spec_l12Sorted_L2 (K2 : List Int → Option (List Int)) : Nat → List Int → Int → Option (List Int)
  | 0, _, _ => none
  | g + 1, xs19, i20 => m_spec_l12Sorted_B2 (m_spec_l12Sorted_L2 K2 g) K2 xs19 i20
def m_spec_l12Sorted_B1 (rec1 : List Int → Int → Option (List Int)) (K1 : List Int → Option (List Int)) (xs10 : List Int) (i11 : Int) : Option (List Int) :=
  (bif (decide (i11 < (xs10.length : Int))) then (m_spec_l12Sorted_L2 (m_spec_l12Sorted_A2 rec1 i11) (i11.toNat + 2) xs10 i11) else (K1 xs10))
def m_spec_l12Sorted_L1 (K1 : List Int → Option (List Int)) : Nat → List Int → Int → Option (List Int)
  | 0, _, _ => none
  | g + 1, xs10, i11 => m_spec_l12Sorted_B1 (m_spec_l12Sorted_L1 K1 g) K1 xs10 i11
def m_spec_l12Sorted (d0 : List Int) : Option (List Int) :=
  ((m_spec_l00Own d0).bind fun y1 => (m_spec_l12Sorted_L1 m_spec_l12Sorted_A1 (y1.length + 1) y1 1))
set_option maxHeartbeats 2000000 in
theorem c_m_spec_l12Sorted (d0 : List Int) (r : List Int) (hm : m_spec_l12Sorted d0 = some r) (v0 : Value) (w : World) (hv0 : Sl intRd 1 w v0 d0) :
    Calls Try.prog 46 #[v0] w fun e w' => (∃ (v0 : Value), e = .returned (v0) ∧ OwF 2 encI 1 w' w.heap.size v0 r) ∧ Below w.heap.size w w' := by
  obtain ⟨Aa0, na0, ca0, rfl, ha0, ra0⟩ := hv0
  have ea0 := ha0.len; subst ea0
  have qa0 := len_le ra0
  have T := Below.refl w.heap.size w
  unfold m_spec_l12Sorted at hm
  refine enter 50 Try.func46 rfl rfl rfl ?_
  intro f hf
  have s0 : f 0 = .slice Aa0 d0.length ca0 := hf 0 _ rfl
  refine wp_seq ?_
  refine wp_rs rfl ?_
  refine RQ.y rfl (Y.assign (v := .slice none 0 0) rfl) ?_
  refine RQ.nil ?_
  refine then_n ?_
  refine wp_seq ?_
  refine wp_rl rfl ?_
  refine RL.y rfl (Y.move (v := .slice Aa0 d0.length ca0) s0) ?_
  obtain ⟨y1, e2, hm⟩ := bnd hm
  refine RL.call rfl (am1 rfl) (by kernel_rfl) ((c_m_spec_l00Own d0 _ e2 _ _ (slArg intRd_ok ha0 ra0 T)).mono ?_)
  rintro _ w6 ⟨⟨v3, rfl, G4⟩, hb7⟩
  refine ⟨_, rfl, ?_⟩
  have szw6 := hb7.size
  have T0w6 := T.size
  have T := Tt T hb7
  replace G4 := OwF.mono G4 T0w6
  refine RL.y rfl (Y.assign (v := v3) rfl) ?_
  refine RL.nil ?_
  refine then_n ?_
  refine wp_seq ?_
  refine wp_seq ?_
  refine wp_rs rfl ?_
  refine RQ.y rfl (Y.assign (v := .int .i64 1) rfl) ?_
  refine RQ.nil ?_
  refine then_n ?_
  refine wp_block ?_
  obtain ⟨K1, hK1, hm⟩ : ∃ K, K = m_spec_l12Sorted_A1 ∧ m_spec_l12Sorted_L1 K (y1.length + 1) y1 1 = some r := ⟨_, rfl, hm⟩
  refine wp_loopX (fun g f w' => ∃ (xs10 : List Int) (i11 : Int) (uxs10 : Value), f 3 = uxs10 ∧ OwF 2 encI 1 w' w.heap.size uxs10 xs10 ∧ f 4 = .int .i64 i11 ∧ 0 ≤ i11 ∧ Below w.heap.size w w' ∧ m_spec_l12Sorted_L1 K1 g xs10 i11 = some r) 0 (fun f w' => ∃ (xs8 : List Int) (uxs8 : Value), f 3 = uxs8 ∧ OwF 2 encI 1 w' w.heap.size uxs8 xs8 ∧ Below w.heap.size w w' ∧ m_spec_l12Sorted_A1 xs8 = some r) (y1.length + 1) ⟨y1, 1, (v3), rfl, G4, rfl, (by omega), T, hm⟩ ?_ ?_
  · rintro f w9 ⟨xs8, uxs8, s3_1x, Guxs8, T, hm⟩
    unfold m_spec_l12Sorted_A1 at hm
    refine blk_hit (then_n ?_)
    refine wp_seq ?_
    refine wp_rs rfl ?_
    refine RQ.y rfl (Y.move (v := uxs8) s3_1x) ?_
    refine RQ.y rfl (Y.assign (v := uxs8) rfl) ?_
    refine RQ.nil ?_
    refine then_n ?_
    refine wp_ret ?_
    obtain rfl := Option.some.inj hm
    exact (ret1 rfl rfl rfl ⟨⟨_, rfl, Guxs8⟩, T⟩)
  · rintro g f w12 ⟨xs10, i11, uxs10, s3_1, Guxs10, s4_1, nn4_1, T, hm⟩
    rcases g with _ | g
    · simp only [m_spec_l12Sorted_L1] at hm; cases hm
    obtain ⟨rec1, hrec1, hm⟩ : ∃ z, z = m_spec_l12Sorted_L1 K1 g ∧ m_spec_l12Sorted_B1 z K1 xs10 i11 = some r := ⟨_, rfl, hm⟩
    unfold m_spec_l12Sorted_B1 at hm
    refine wp_seq ?_
    refine wp_seq ?_
    refine wp_rs rfl ?_
    refine RQ.y rfl (Y.move (v := .int .i64 i11) s4_1) ?_
    refine RQ.y rfl (Y.move (v := uxs10) s3_1) ?_
    obtain ⟨A13, c14, rfl⟩ := OwF.form Guxs10
    have qbA13 := OwF.bound Guxs10
    refine RQ.y rfl (Y.len (by kernel_rfl) rfl) ?_
    refine RQ.y rfl (Y.binI (v := .bool (decide (i11 < (xs10.length : Int)))) rfl rfl rfl) ?_
    refine RQ.nil ?_
    refine then_n ?_
    rcases bcases (decide (i11 < (xs10.length : Int))) with c15 | c15
    · replace hm := cF c15 hm
      have pc15 := of_decide_eq_false c15
      refine cond_f rfl (vb rfl c15) ?_
      refine wp_exit ?_
      exact (then_x (then_x (hit_x ⟨_, rfl, ⟨xs10, (.slice A13 xs10.length c14), s3_1, Guxs10, T, (by rw [hK1] at hm; exact hm)⟩⟩)))
    · replace hm := cT c15 hm
      have pc15 := of_decide_eq_true c15
      refine cond_t rfl (vb rfl c15) ?_
      refine wp_skip ?_
      refine then_n ?_
      refine wp_seq ?_
      refine wp_block ?_
      refine wp_seq ?_
      refine wp_rs rfl ?_
      refine RQ.y rfl (Y.move (v := .int .i64 i11) s4_1) ?_
      refine RQ.y rfl (Y.assign (v := .int .i64 i11) rfl) ?_
      refine RQ.nil ?_
      refine then_n ?_
      refine wp_block ?_
      obtain ⟨K2, hK2, hm⟩ : ∃ K, K = (m_spec_l12Sorted_A2 rec1 i11) ∧ m_spec_l12Sorted_L2 K (i11.toNat + 2) xs10 i11 = some r := ⟨_, rfl, hm⟩
      refine wp_loopX (fun g f w' => ∃ (xs19 : List Int) (i20 : Int) (uxs19 : Value), f 4 = .int .i64 i11 ∧ f 3 = uxs19 ∧ OwF 2 encI 1 w' w.heap.size uxs19 xs19 ∧ f 5 = .int .i64 i20 ∧ Below w.heap.size w w' ∧ m_spec_l12Sorted_L2 K2 g xs19 i20 = some r) 2 (fun f w' => ∃ (xs16 : List Int) (uxs16 : Value), f 4 = .int .i64 i11 ∧ f 3 = uxs16 ∧ OwF 2 encI 1 w' w.heap.size uxs16 xs16 ∧ Below w.heap.size w w' ∧ m_spec_l12Sorted_A2 rec1 i11 xs16 = some r) (i11.toNat + 2) ⟨xs10, i11, (.slice A13 xs10.length c14), s4_1, s3_1, Guxs10, rfl, T, hm⟩ ?_ ?_
      · rintro f w17 ⟨xs16, uxs16, s4_2x, s3_2x, Guxs16, T, hm⟩
        unfold m_spec_l12Sorted_A2 at hm
        refine blk_hit (blk_n (then_n ?_))
        refine wp_rs rfl ?_
        refine RQ.y rfl (Y.move (v := .int .i64 i11) s4_2x) ?_
        obtain ⟨s18, ks18, hm⟩ := bnd hm
        replace ks18 := ck_some ks18
        refine RQ.y rfl (Y.binI (v := .int .i64 s18) rfl rfl (by rw [binI_add ks18.2, ks18.1])) ?_
        refine RQ.y rfl (Y.assign (v := .int .i64 s18) rfl) ?_
        refine RQ.nil ?_
        exact (then_n ⟨g, _, Nat.lt_succ_self _, rfl, ⟨xs16, s18, (uxs16), s3_2x, Guxs16, rfl, (by omega), T, (by rw [← hrec1]; exact hm)⟩⟩)
      · rintro g f w21 ⟨xs19, i20, uxs19, s4_2, s3_2, Guxs19, s5_2, T, hm⟩
        rcases g with _ | g
        · simp only [m_spec_l12Sorted_L2] at hm; cases hm
        obtain ⟨rec2, hrec2, hm⟩ : ∃ z, z = m_spec_l12Sorted_L2 K2 g ∧ m_spec_l12Sorted_B2 z K2 xs19 i20 = some r := ⟨_, rfl, hm⟩
        unfold m_spec_l12Sorted_B2 at hm
        refine wp_seq ?_
        refine wp_seq ?_
        refine wp_rbd (by kernel_rfl) (by kernel_rfl) ?_
        refine RQ.y rfl (Y.move (v := .int .i64 i20) s5_2) ?_
        refine RQ.y rfl (Y.binI (v := .bool (decide (i20 > 0))) rfl rfl rfl) ?_
        refine RQ.y rfl (Y.move (v := .bool (decide (i20 > 0))) rfl) ?_
        rcases bcases (decide (i20 > 0)) with c22 | c22
        · replace hm := cF c22 hm
          have pc22 := of_decide_eq_false c22
          refine RQ.skip (wantN (dj := 18) rfl (vb rfl c22) rfl) ?_
          refine RQ.skip (wantN (dj := 18) rfl (vb rfl c22) rfl) ?_
          refine RQ.skip (wantN (dj := 18) rfl (vb rfl c22) rfl) ?_
          refine RQ.skip (wantN (dj := 18) rfl (vb rfl c22) rfl) ?_
          refine RQ.skip (wantN (dj := 18) rfl (vb rfl c22) rfl) ?_
          refine RQ.skip (wantN (dj := 18) rfl (vb rfl c22) rfl) ?_
          refine RQ.skip (wantN (dj := 18) rfl (vb rfl c22) rfl) ?_
          refine RQ.skip (wantN (dj := 18) rfl (vb rfl c22) rfl) ?_
          refine RQ.skip (wantN (dj := 18) rfl (vb rfl c22) rfl) ?_
          refine RQ.skip (wantN (dj := 18) rfl (vb rfl c22) rfl) ?_
          refine RQ.y rfl (Y.pick (b := false) (v := .bool false) (vb rfl c22) rfl) ?_
          refine RQ.nil ?_
          intro w23 hb24
          have szw23 := hb24.size
          have Guxs19 := OwF.below Guxs19 hb24
          have T := Tt T hb24
          refine then_n ?_
          refine cond_f rfl rfl ?_
          refine wp_exit ?_
          exact (then_x (then_x (hit_x ⟨_, rfl, ⟨xs19, (uxs19), s4_2, s3_2, Guxs19, T, (by rw [hK2] at hm; exact hm)⟩⟩)))
        · replace hm := cT c22 hm
          have pc22 := of_decide_eq_true c22
          refine RQ.y (wantT (dj := 18) rfl (vb rfl c22)) (Y.move (v := uxs19) s3_2) ?_
          refine RQ.y (wantT (dj := 18) rfl (vb rfl c22)) (Y.move (v := .int .i64 i20) s5_2) ?_
          obtain ⟨s25, ks25, hm⟩ := bnd hm
          replace ks25 := ck_some ks25
          refine RQ.y (wantT (dj := 18) rfl (vb rfl c22)) (Y.binI (v := .int .i64 s25) rfl rfl (by rw [binI_sub ks25.2, ks25.1])) ?_
          obtain ⟨A26, c27, rfl⟩ := OwF.form Guxs19
          have qbA26 := OwF.bound Guxs19
          obtain ⟨x28, hx30, hm⟩ := bnd hm
          obtain ⟨k29, hk31, hl32, hx30⟩ := getI_some hx30
          obtain ⟨b33, rfl⟩ := OwF.addr0 Guxs19 (by omega)
          refine RQ.y (wantT (dj := 18) rfl (vb rfl c22)) (Y.indexAddr (m := k29) (sz := 1) rfl rfl hk31 hl32 (by kernel_rfl)) ?_
          refine RQ.y (wantT (dj := 18) rfl (vb rfl c22)) (Y.load (v := .int .i64 x28) rfl (by kernel_rfl) (beC (OwF.cell fI Guxs19 hx30 (j := 0) rfl))) ?_
          refine RQ.y (wantT (dj := 18) rfl (vb rfl c22)) (Y.move (v := .slice (some ⟨b33, 0, none⟩) xs19.length c27) s3_2) ?_
          refine RQ.y (wantT (dj := 18) rfl (vb rfl c22)) (Y.move (v := .int .i64 i20) s5_2) ?_
          obtain ⟨x34, hx36, hm⟩ := bnd hm
          obtain ⟨k35, hk37, hl38, hx36⟩ := getI_some hx36
          refine RQ.y (wantT (dj := 18) rfl (vb rfl c22)) (Y.indexAddr (m := k35) (sz := 1) rfl rfl hk37 hl38 (by kernel_rfl)) ?_
          refine RQ.y (wantT (dj := 18) rfl (vb rfl c22)) (Y.load (v := .int .i64 x34) rfl (by kernel_rfl) (beC (OwF.cell fI Guxs19 hx36 (j := 0) rfl))) ?_
          refine RQ.y (wantT (dj := 18) rfl (vb rfl c22)) (Y.binI (v := .bool (decide (x28 > x34))) rfl rfl rfl) ?_
          refine RQ.y rfl (Y.pick (b := true) (v := .bool (decide (x28 > x34))) (vb rfl c22) rfl) ?_
          refine RQ.nil ?_
          intro w39 hb40
          have szw39 := hb40.size
          have Guxs19 := OwF.below Guxs19 hb40
          have T := Tt T hb40
          refine then_n ?_
          rcases bcases (decide (x28 > x34)) with c41 | c41
          · replace hm := cF c41 hm
            have pc41 := of_decide_eq_false c41
            refine cond_f rfl (vb rfl c41) ?_
            refine wp_exit ?_
            exact (then_x (then_x (hit_x ⟨_, rfl, ⟨xs19, (.slice (some ⟨b33, 0, none⟩) xs19.length c27), s4_2, s3_2, Guxs19, T, (by rw [hK2] at hm; exact hm)⟩⟩)))
          · replace hm := cT c41 hm
            have pc41 := of_decide_eq_true c41
            refine cond_t rfl (vb rfl c41) ?_
            refine wp_skip ?_
            refine then_n ?_
            refine wp_seq ?_
            refine wp_block ?_
            refine wp_seq ?_
            refine wp_rs rfl ?_
            refine RQ.y rfl (Y.move (v := .slice (some ⟨b33, 0, none⟩) xs19.length c27) s3_2) ?_
            refine RQ.y rfl (Y.move (v := .int .i64 i20) s5_2) ?_
            obtain ⟨x42, hx44, hm⟩ := bnd hm
            obtain ⟨k43, hk45, hl46, hx44⟩ := getI_some hx44
            refine RQ.y rfl (Y.indexAddr (m := k43) (sz := 1) rfl rfl hk45 hl46 (by kernel_rfl)) ?_
            refine RQ.y rfl (Y.load (v := .int .i64 x42) rfl (by kernel_rfl) (eqC (OwF.cell fI Guxs19 hx44 (j := 0) rfl))) ?_
            refine RQ.y rfl (Y.assign (v := .int .i64 x42) rfl) ?_
            refine RQ.nil ?_
            refine then_n ?_
            refine wp_seq ?_
            refine wp_rl rfl ?_
            refine RL.y rfl (Y.move (v := .slice (some ⟨b33, 0, none⟩) xs19.length c27) s3_2) ?_
            refine RL.y rfl (Y.move (v := .int .i64 i20) s5_2) ?_
            refine RL.y rfl (Y.move (v := .slice (some ⟨b33, 0, none⟩) xs19.length c27) s3_2) ?_
            refine RL.y rfl (Y.move (v := .int .i64 i20) s5_2) ?_
            obtain ⟨s47, ks47, hm⟩ := bnd hm
            replace ks47 := ck_some ks47
            refine RL.y rfl (Y.binI (v := .int .i64 s47) rfl rfl (by rw [binI_sub ks47.2, ks47.1])) ?_
            obtain ⟨x48, hx50, hm⟩ := bnd hm
            obtain ⟨k49, hk51, hl52, hx50⟩ := getI_some hx50
            refine RL.y rfl (Y.indexAddr (m := k49) (sz := 1) rfl rfl hk51 hl52 (by kernel_rfl)) ?_
            refine RL.y rfl (Y.load (v := .int .i64 x48) rfl (by kernel_rfl) (eqC (OwF.cell fI Guxs19 hx50 (j := 0) rfl))) ?_
            obtain ⟨x53, hx55, hm⟩ := bnd hm
            obtain ⟨k54, hk56, hl57, hx55⟩ := getI_some hx55
            refine RL.y rfl (Y.indexAddr (m := k54) (sz := 1) rfl rfl hk56 hl57 (by kernel_rfl)) ?_
            refine RL.storeF (k := k54) (a := x48) fI rfl rfl rfl Guxs19 hl57 rfl (by kernel_rfl) (fun w58 G59 ho60 => ?_)
            have szw58 := ho60.size
            have T := T.trans (ho60.below (by intro b hb; simp at hb; subst hb; exact OwF.lo_ Guxs19 _ rfl))
            have G59 : OwF 2 encI 1 w58 w.heap.size (.slice (some ⟨b33, 0, none⟩) xs19.length c27) (setI xs19 i20 x48) := by rw [hk56, setI_nat]; exact G59
            have hx61 : (setI xs19 i20 x48)[k54]? = some x48 := setI_at hk56 hl57
            have hl62 := lt_of_some hx61
            refine RL.nil ?_
            refine then_n ?_
            refine wp_rl rfl ?_
            refine RL.y rfl (Y.move (v := .slice (some ⟨b33, 0, none⟩) xs19.length c27) s3_2) ?_
            refine RL.y rfl (Y.move (v := .int .i64 i20) s5_2) ?_
            obtain ⟨s63, ks63, hm⟩ := bnd hm
            replace ks63 := ck_some ks63
            refine RL.y rfl (Y.binI (v := .int .i64 s63) rfl rfl (by rw [binI_sub ks63.2, ks63.1])) ?_
            refine RL.y rfl (Y.move (v := .int .i64 x42) rfl) ?_
            obtain ⟨x64, hx66, hm⟩ := bnd hm
            obtain ⟨k65, hk67, hl68, hx66⟩ := getI_some hx66
            refine RL.y rfl (Y.indexAddr (m := k65) (sz := 1) rfl rfl hk67 (by simpa [setI] using hl68) (by kernel_rfl)) ?_
            refine RL.storeF (k := k65) (a := x42) fI rfl rfl rfl G59 hl68 rfl (by kernel_rfl) (fun w69 G70 ho71 => ?_)
            have szw69 := ho71.size
            have T := T.trans (ho71.below (by intro b hb; simp at hb; subst hb; exact OwF.lo_ G59 _ rfl))
            have G70 : OwF 2 encI 1 w69 w.heap.size (.slice (some ⟨b33, 0, none⟩) xs19.length c27) (setI (setI xs19 i20 x48) s63 x42) := by rw [hk67, setI_nat]; exact G70
            have hx72 : (setI (setI xs19 i20 x48) s63 x42)[k65]? = some x42 := setI_at hk67 hl68
            have hl73 := lt_of_some hx72
            refine RL.nil ?_
            refine blk_n (then_n ?_)
            refine wp_rs rfl ?_
            refine RQ.y rfl (Y.move (v := .int .i64 i20) s5_2) ?_
            obtain ⟨s74, ks74, hm⟩ := bnd hm
            replace ks74 := ck_some ks74
            refine RQ.y rfl (Y.binI (v := .int .i64 s74) rfl rfl (by rw [binI_sub ks74.2, ks74.1])) ?_
            refine RQ.y rfl (Y.assign (v := .int .i64 s74) rfl) ?_
            refine RQ.nil ?_
            exact (then_n ⟨g, _, Nat.lt_succ_self _, rfl, ⟨(setI (setI xs19 i20 x48) s63 x42), s74, (.slice (some ⟨b33, 0, none⟩) xs19.length c27), s4_2, s3_2, G70, rfl, T, (by rw [← hrec2]; exact hm)⟩⟩)
def m_impl_Net_liveAgents (d0 : DNet) : Option (List Int) :=
  ((m_impl_Net_traverse d0 0).bind fun y2 => ((mustP (y2.length ≤ 4294967296)).bind fun _ => some (srt y2)))
set_option maxHeartbeats 2000000 in
theorem c_m_impl_Net_liveAgents (d0 : DNet) (r : List Int) (hm : m_impl_Net_liveAgents d0 = some r) (v0 : Value) (w : World) (hv0 : Pt netRd w v0 d0) :
    Calls Try.prog 47 #[v0] w fun e w' => (∃ (v0 : Value), e = .returned (v0) ∧ OwF 2 encI 1 w' w.heap.size v0 r) ∧ Below w.heap.size w w' := by
  obtain ⟨ba0, oa0, csa0, rfl, hba0, hRa0, hca0⟩ := hv0
  have hSa0 := hRa0
  obtain ⟨A1, n1, c1, rfl, ⟨h1, r1⟩⟩ := hRa0
  have e1 := h1.len; subst e1
  have q1 := len_le r1
  have T := Below.refl w.heap.size w
  unfold m_impl_Net_liveAgents at hm
  refine enter 9 Try.func47 rfl rfl rfl ?_
  intro f hf
  have s0 : f 0 = .pointer (some ⟨ba0, oa0, none⟩) := hf 0 _ rfl
  refine wp_seq ?_
  refine wp_rs rfl ?_
  refine RQ.y rfl (Y.assign (v := .slice none 0 0) rfl) ?_
  refine RQ.nil ?_
  refine then_n ?_
  refine wp_seq ?_
  refine wp_rl rfl ?_
  refine RL.y rfl (Y.move (v := .pointer (some ⟨ba0, oa0, none⟩)) s0) ?_
  obtain ⟨y2, e3, hm⟩ := bnd hm
  refine RL.call rfl (am2 rfl rfl) (by kernel_rfl) ((c_m_impl_Net_traverse d0 0 _ e3 _ _ (ptArg netRd_ok hba0 hSa0 hca0 T)).mono ?_)
  rintro _ w7 ⟨⟨v4, rfl, G5⟩, hb8⟩
  refine ⟨_, rfl, ?_⟩
  have szw7 := hb8.size
  have T0w7 := T.size
  have T := Tt T hb8
  replace G5 := OwF.mono G5 T0w7
  refine RL.y rfl (Y.assign (v := v4) rfl) ?_
  refine RL.nil ?_
  refine then_n ?_
  refine wp_seq ?_
  refine wp_rl rfl ?_
  refine RL.y rfl (Y.move (v := v4) rfl) ?_
  obtain ⟨_, m9, hm⟩ := bnd hm
  have hk10 := mustP_some m9
  refine RL.call rfl (am1 rfl) (by kernel_rfl) ((sort_own G5 T.size hk10).mono ?_)
  rintro _ w11 ⟨rfl, G12, hgr13, hbl14⟩
  refine ⟨_, rfl, ?_⟩
  have szw11 := hbl14.size
  have T := T.trans hbl14
  refine RL.nil ?_
  refine then_n ?_
  refine wp_seq ?_
  refine wp_rs rfl ?_
  refine RQ.y rfl (Y.move (v := v4) rfl) ?_
  refine RQ.y rfl (Y.assign (v := v4) rfl) ?_
  refine RQ.nil ?_
  refine then_n ?_
  refine wp_ret ?_
  obtain rfl := Option.some.inj hm
  exact (ret1 rfl rfl rfl ⟨⟨_, rfl, G12⟩, T⟩)
def m_spec_l12Live_A2 (z39 : DNet) : Option DNet :=
  some z39
def m_spec_l12Live_A3 (rec2 : Int → DNet → Option DNet) (i46 : Int) (z47 : DNet) (z92 : DAgent) : Option DNet :=
  ((mustP (z47.agents.length + ([z92]).length ≤ 4294967296)).bind fun _ => ((ck (i46 + 1)).bind fun s142 => (rec2 s142 (⟨(z47.agents ++ [z92])⟩ : DNet))))
def m_spec_l12Live_B3 (xs30 : List Int) (rec3 : Int → DAgent → Option DNet) (K3 : DAgent → Option DNet) (i143 : Int) (z144 : DAgent) : Option DNet :=
  (bif (decide (i143 < (z144.ports.length : Int))) then ((getI z144.ports i143).bind fun x151 => ((getI xs30 x151.agent).bind fun x159 => ((getI z144.ports i143).bind fun x165 => (rec3 (i143 + 1) (⟨z144.kind, z144.level, z144.value, z144.data, (setI z144.ports i143 (⟨x159, x165.slot⟩ : DPort))⟩ : DAgent))))) else (K3 z144))
def m_spec_l12Live_L3 (xs30 : List Int) (K3 : DAgent → Option DNet) : Nat → Int → DAgent → Option DNet
  | 0, _, _ => none
  | g + 1, i143, z144 => m_spec_l12Live_B3 xs30 (m_spec_l12Live_L3 xs30 K3 g) K3 i143 z144
def m_spec_l12Live_B2 (d0 : DNet) (y16 : List Int) (xs30 : List Int) (rec2 : Int → DNet → Option DNet) (K2 : DNet → Option DNet) (i46 : Int) (z47 : DNet) : Option DNet :=
  (bif (decide (i46 < (y16.length : Int))) then ((getI y16 i46).bind fun x54 => ((getI d0.agents x54).bind fun x60 => ((m_spec_l11OwnAgent x60).bind fun y71 => (m_spec_l12Live_L3 xs30 (m_spec_l12Live_A3 rec2 i46 z47) (y71.ports.length + 1) 0 y71)))) else (K2 z47))
def m_spec_l12Live_L2 (d0 : DNet) (y16 : List Int) (xs30 : List Int) (K2 : DNet → Option DNet) : Nat → Int → DNet → Option DNet
  | 0, _, _ => none
  | g + 1, i46, z47 => m_spec_l12Live_B2 d0 y16 xs30 (m_spec_l12Live_L2 d0 y16 xs30 K2 g) K2 i46 z47
def m_spec_l12Live_A1 (d0 : DNet) (y16 : List Int) (xs30 : List Int) : Option DNet :=
  (m_spec_l12Live_L2 d0 y16 xs30 m_spec_l12Live_A2 (y16.length + 1) 0 (⟨[]⟩ : DNet))
def m_spec_l12Live_B1 (y16 : List Int) (rec1 : List Int → Int → Option DNet) (K1 : List Int → Option DNet) (xs282 : List Int) (i283 : Int) : Option DNet :=
  (bif (decide (i283 < (y16.length : Int))) then ((getI y16 i283).bind fun x288 => ((getI xs282 x288).bind fun x296 => (rec1 (setI xs282 x288 i283) (i283 + 1)))) else (K1 xs282))
def m_spec_l12Live_L1 (y16 : List Int) (K1 : List Int → Option DNet) : Nat → List Int → Int → Option DNet
  | 0, _, _ => none
  | g + 1, xs282, i283 => m_spec_l12Live_B1 y16 (m_spec_l12Live_L1 y16 K1 g) K1 xs282 i283
def m_spec_l12Live (d0 : DNet) : Option DNet :=
  ((m_spec_l12Traverse d0 0).bind fun y6 => ((m_spec_l12Sorted y6.1).bind fun y16 => ((mustP (d0.agents.length ≤ 4294967296)).bind fun _ => (m_spec_l12Live_L1 y16 (m_spec_l12Live_A1 d0 y16) (y16.length + 1) (List.replicate d0.agents.length 0) 0))))
set_option maxHeartbeats 2000000 in
theorem c_m_spec_l12Live (d0 : DNet) (r : DNet) (hm : m_spec_l12Live d0 = some r) (v0 : Value) (w : World) (hv0 : Pt netRd w v0 d0) :
    Calls Try.prog 56 #[v0] w fun e w' => (∃ (v0 : Value) (bs0 : List Nat), e = .returned (.agg #[v0]) ∧ OwN 81 agentOw 5 w' w.heap.size v0 r.agents bs0) ∧ Below w.heap.size w w' := by
  obtain ⟨ba0, oa0, csa0, rfl, hba0, hRa0, hca0⟩ := hv0
  have hSa0 := hRa0
  obtain ⟨A1, n1, c1, rfl, ⟨h1, r1⟩⟩ := hRa0
  have e1 := h1.len; subst e1
  have q1 := len_le r1
  have T := Below.refl w.heap.size w
  unfold m_spec_l12Live at hm
  refine enter 83 Try.func56 rfl rfl rfl ?_
  intro f hf
  have s0 : f 0 = .pointer (some ⟨ba0, oa0, none⟩) := hf 0 _ rfl
  refine wp_seq ?_
  refine wp_rl rfl ?_
  refine RL.alloc (z := .agg #[.slice none 0 0]) rfl (by kernel_rfl) (fun w2 B3 hb4 szw2 => ?_)
  replace B3 : Blk w2 w.heap.size 33 #[.slice none 0 0] := B3
  have GB3 : w.heap.size ≤ w.heap.size := T.size
  have T := Tt T hb4
  refine RL.nil ?_
  refine then_n ?_
  refine wp_seq ?_
  refine wp_rl rfl ?_
  refine RL.y rfl (Y.move (v := .pointer (some ⟨ba0, oa0, none⟩)) s0) ?_
  obtain ⟨y6, e7, hm⟩ := bnd hm
  refine RL.call rfl (am2 rfl rfl) (by kernel_rfl) ((c_m_spec_l12Traverse d0 0 _ e7 _ _ (ptArg netRd_ok hba0 hSa0 hca0 T)).mono ?_)
  rintro _ w14 ⟨⟨v8, v11, rfl, G9, G12, Ro10_o13⟩, hb15⟩
  refine ⟨_, rfl, ?_⟩
  have szw14 := hb15.size
  have T0w14 := T.size
  have Zo10_ob5 := ap_ne (Ap.new (OwF.flo G9) (one_hi B3.lt))
  have Zo13_ob5 := ap_ne (Ap.new (OwF.flo G12) (one_hi B3.lt))
  have B3 := blkT B3 hb15
  have T := Tt T hb15
  replace G9 := OwF.mono G9 T0w14
  replace G12 := OwF.mono G12 T0w14
  refine RL.y rfl (Y.move (v := .tuple #[v8, v11]) rfl) ?_
  refine RL.y rfl (Y.extract (i := 0) rfl rfl) ?_
  refine RL.y rfl (Y.extract (i := 1) rfl rfl) ?_
  refine RL.y rfl (Y.assign (v := v8) rfl) ?_
  refine RL.y rfl (Y.assign (v := v11) rfl) ?_
  refine RL.nil ?_
  refine then_n ?_
  refine wp_seq ?_
  refine wp_rl rfl ?_
  refine RL.y rfl (Y.move (v := v8) rfl) ?_
  obtain ⟨y16, e17, hm⟩ := bnd hm
  refine RL.call rfl (am1 rfl) (by kernel_rfl) ((c_m_spec_l12Sorted y6.1 _ e17 _ _ (OwF.arg fI G9)).mono ?_)
  rintro _ w21 ⟨⟨v18, rfl, G19⟩, hb22⟩
  refine ⟨_, rfl, ?_⟩
  have szw21 := hb22.size
  have T0w21 := T.size
  have Zo20_ob5 := ap_ne (Ap.new (OwF.flo G19) (one_hi B3.lt))
  have Zo20_o10 := Ap.dj (Ap.new (OwF.flo G19) (OwF.fhi G9))
  have B3 := blkT B3 hb22
  have G9 := OwF.below G9 hb22
  have T := Tt T hb22
  replace G19 := OwF.mono G19 T0w21
  refine RL.y rfl (Y.assign (v := v18) rfl) ?_
  refine RL.nil ?_
  refine then_n ?_
  refine wp_seq ?_
  refine wp_rl rfl ?_
  refine RL.y rfl (Y.move (v := .pointer (some ⟨ba0, oa0, none⟩)) s0) ?_
  refine RL.y rfl (Y.nilCheck rfl) ?_
  refine RL.y rfl (Y.fieldAddr (off := 0) rfl (by kernel_rfl)) ?_
  refine RL.y rfl (Y.load (v := .slice A1 d0.agents.length c1) rfl (by kernel_rfl) (eqC (cellT T (hca0 0 _ rfl)))) ?_
  refine RL.y rfl (Y.len (by kernel_rfl) rfl) ?_
  obtain ⟨_, m23, hm⟩ := bnd hm
  have hk24 := mustP_some m23
  refine RL.make (enc := encI) (z0 := 0) (n := d0.agents.length) app_int64 (by decide) rfl rfl rfl rfl hk24 (fun w25 G26 hb27 szw25 => ?_)
  replace G26 := OwF.mono G26 T.size
  have No28_ob5 := litNe (n := d0.agents.length) (c := d0.agents.length) B3.lt
  have Do28_o20 := Dj.new (v := .slice (some ⟨w21.heap.size, 0, none⟩) d0.agents.length d0.agents.length) litGe (OwF.hi G19)
  have B3 := blkT B3 hb27
  have G19 := OwF.below G19 hb27
  have T := Tt T hb27
  refine RL.y rfl (Y.assign (v := .slice (some ⟨w21.heap.size, 0, none⟩) d0.agents.length d0.agents.length) rfl) ?_
  refine RL.nil ?_
  refine then_n ?_
  refine wp_seq ?_
  refine wp_seq ?_
  refine wp_rs rfl ?_
  refine RQ.y rfl (Y.assign (v := .int .i64 0) rfl) ?_
  refine RQ.nil ?_
  refine then_n ?_
  refine wp_block ?_
  obtain ⟨K1, hK1, hm⟩ : ∃ K, K = (m_spec_l12Live_A1 d0 y16) ∧ m_spec_l12Live_L1 y16 K (y16.length + 1) (List.replicate d0.agents.length 0) 0 = some r := ⟨_, rfl, hm⟩
  refine wp_loopX (fun g f w' => ∃ (xs282 : List Int) (i283 : Int) (uxs282 : Value), f 0 = .pointer (some ⟨ba0, oa0, none⟩) ∧ f 2 = .pointer (some ⟨w.heap.size, 0, none⟩) ∧ f 5 = v18 ∧ f 6 = uxs282 ∧ OwF 2 encI 1 w' w.heap.size uxs282 xs282 ∧ f 7 = .int .i64 i283 ∧ 0 ≤ i283 ∧ Dj uxs282 v18 ∧ Value.ownBlock uxs282 ≠ some w.heap.size ∧ Blk w' w.heap.size 33 #[.slice none 0 0] ∧ OwF 2 encI 1 w' w.heap.size v18 y16 ∧ Below w.heap.size w w' ∧ m_spec_l12Live_L1 y16 K1 g xs282 i283 = some r) 0 (fun f w' => ∃ (xs30 : List Int) (uxs30 : Value), f 0 = .pointer (some ⟨ba0, oa0, none⟩) ∧ f 2 = .pointer (some ⟨w.heap.size, 0, none⟩) ∧ f 5 = v18 ∧ f 6 = uxs30 ∧ OwF 2 encI 1 w' w.heap.size uxs30 xs30 ∧ Dj uxs30 v18 ∧ Value.ownBlock uxs30 ≠ some w.heap.size ∧ Blk w' w.heap.size 33 #[.slice none 0 0] ∧ OwF 2 encI 1 w' w.heap.size v18 y16 ∧ Below w.heap.size w w' ∧ m_spec_l12Live_A1 d0 y16 xs30 = some r) (y16.length + 1) ⟨(List.replicate d0.agents.length 0), 0, (.slice (some ⟨w21.heap.size, 0, none⟩) d0.agents.length d0.agents.length), s0, rfl, rfl, rfl, G26, rfl, (by omega), (Ap.dj (Dj.ap Do28_o20)), (ap_ne (ne_ap No28_ob5)), B3, G19, T, hm⟩ ?_ ?_
  · rintro f w31 ⟨xs30, uxs30, s0_1x, s2_1x, s5_1x, s6_1x, Guxs30, Doxs30_o20, Noxs30_ob5, B3, G19, T, hm⟩
    unfold m_spec_l12Live_A1 at hm
    refine blk_hit (then_n ?_)
    refine wp_seq ?_
    refine wp_rl rfl ?_
    refine RL.y rfl (Y.build0 (cells := #[.slice none 0 0])  (by kernel_rfl) (by kernel_rfl)) ?_
    refine RL.alloc (z := .agg #[.slice none 0 0]) rfl (by kernel_rfl) (fun w32 B33 hb34 szw32 => ?_)
    replace B33 : Blk w32 w31.heap.size 33 #[.slice none 0 0] := B33
    have GB33 : w.heap.size ≤ w31.heap.size := T.size
    have Eob35_ob5 := Nat.ne_of_lt B3.lt
    have No20_ob35 := OwF.far G19 (Nat.le_refl _)
    have Noxs30_ob35 := OwF.far Guxs30 (Nat.le_refl _)
    have B3 := blkT B3 hb34
    have G19 := OwF.below G19 hb34
    have Guxs30 := OwF.below Guxs30 hb34
    have T := Tt T hb34
    refine RL.store (v := .agg #[.slice none 0 0]) (cs' := #[.slice none 0 0]) rfl rfl rfl B33 (by kernel_rfl) (by rfl) (by rfl) (by rfl) (fun w36 B37 ho38 => ?_)
    have szw36 := ho38.size
    have B3 := B3.only_ ho38 (by intro hin; simp at hin; exact Eob35_ob5 hin)
    have G19 := OwF.only G19 ho38 No20_ob35
    have Guxs30 := OwF.only Guxs30 ho38 Noxs30_ob35
    have T := T.trans (ho38.below (by first | (simp; done) | (simp; omega)))
    refine RL.nil ?_
    refine then_n ?_
    refine wp_seq ?_
    refine wp_seq ?_
    refine wp_rs rfl ?_
    refine RQ.y rfl (Y.assign (v := .int .i64 0) rfl) ?_
    refine RQ.nil ?_
    refine then_n ?_
    refine wp_block ?_
    obtain ⟨K2, hK2, hm⟩ : ∃ K, K = m_spec_l12Live_A2 ∧ m_spec_l12Live_L2 d0 y16 xs30 K (y16.length + 1) 0 (⟨[]⟩ : DNet) = some r := ⟨_, rfl, hm⟩
    refine wp_loopX (fun g f w' => ∃ (i46 : Int) (z47 : DNet) (uz47_0 : Value) (bsz47_0 : List Nat), f 0 = .pointer (some ⟨ba0, oa0, none⟩) ∧ f 2 = .pointer (some ⟨w.heap.size, 0, none⟩) ∧ f 5 = v18 ∧ f 6 = uxs30 ∧ f 8 = .pointer (some ⟨w31.heap.size, 0, none⟩) ∧ f 9 = .int .i64 i46 ∧ 0 ≤ i46 ∧ Blk w' w31.heap.size 33 #[uz47_0] ∧ OwN 81 agentOw 5 w' w.heap.size uz47_0 z47.agents bsz47_0 ∧ Ap bsz47_0 (fb v18) ∧ Ap bsz47_0 (fb uxs30) ∧ Ap bsz47_0 [w.heap.size] ∧ Ap bsz47_0 [w31.heap.size] ∧ Blk w' w.heap.size 33 #[.slice none 0 0] ∧ OwF 2 encI 1 w' w.heap.size v18 y16 ∧ OwF 2 encI 1 w' w.heap.size uxs30 xs30 ∧ Below w.heap.size w w' ∧ m_spec_l12Live_L2 d0 y16 xs30 K2 g i46 z47 = some r) 2 (fun f w' => ∃ (z39 : DNet) (uz39_0 : Value) (bsz39_0 : List Nat), f 2 = .pointer (some ⟨w.heap.size, 0, none⟩) ∧ f 8 = .pointer (some ⟨w31.heap.size, 0, none⟩) ∧ Blk w' w31.heap.size 33 #[uz39_0] ∧ OwN 81 agentOw 5 w' w.heap.size uz39_0 z39.agents bsz39_0 ∧ Ap bsz39_0 [w.heap.size] ∧ Ap bsz39_0 [w31.heap.size] ∧ Blk w' w.heap.size 33 #[.slice none 0 0] ∧ Below w.heap.size w w' ∧ m_spec_l12Live_A2 z39 = some r) (y16.length + 1) ⟨0, (⟨[]⟩ : DNet), (.slice none 0 0), [], s0_1x, s2_1x, s5_1x, s6_1x, rfl, rfl, (by omega), B37, OwN.nil, Ap.nil, Ap.nil, Ap.nil, Ap.nil, B3, G19, Guxs30, T, hm⟩ ?_ ?_
    · rintro f w40 ⟨z39, uz39_0, bsz39_0, s2_2x, s8_2x, Bz39, Guz39_0, Noz39_0_ob5, Noz39_0_ob35, B3, T, hm⟩
      unfold m_spec_l12Live_A2 at hm
      refine blk_hit (then_n ?_)
      refine wp_seq ?_
      refine wp_rl rfl ?_
      refine RL.y rfl (Y.loadN (cs := [uz39_0]) s8_2x (by kernel_rfl) (cells1 (eqC (blkCell Bz39 (i := 0) rfl)))) ?_
      obtain ⟨A41, c42, rfl⟩ := OwN.form Guz39_0
      have qbA41 := OwN.bound Guz39_0
      refine RL.store (v := .agg #[.slice A41 z39.agents.length c42]) (cs' := #[.slice A41 z39.agents.length c42]) rfl s2_2x rfl B3 (by kernel_rfl) (by rfl) (by rfl) (by rfl) (fun w43 B44 ho45 => ?_)
      have szw43 := ho45.size
      have Bz39 := Bz39.only_ ho45 (by intro hin; simp at hin; exact Eob35_ob5.symm hin)
      have Guz39_0 := OwN.only agentOw_ok Guz39_0 ho45 (Ap.one Noz39_0_ob5)
      have T := T.trans (ho45.below (by first | (simp; done) | (simp; omega)))
      refine RL.nil ?_
      refine then_n ?_
      refine wp_ret ?_
      obtain rfl := Option.some.inj hm
      exact (retc (cs := [.slice A41 z39.agents.length c42]) rfl rfl s2_2x (by kernel_rfl) (blkCells B44) ⟨⟨_, _, rfl, Guz39_0⟩, T⟩)
    · rintro g f w48 ⟨i46, z47, uz47_0, bsz47_0, s0_2, s2_2, s5_2, s6_2, s8_2, s9_2, nn9_2, Bz47, Guz47_0, Doz47_0_o20, Doz47_0_oxs30, Noz47_0_ob5, Noz47_0_ob35, B3, G19, Guxs30, T, hm⟩
      rcases g with _ | g
      · simp only [m_spec_l12Live_L2] at hm; cases hm
      obtain ⟨rec2, hrec2, hm⟩ : ∃ z, z = m_spec_l12Live_L2 d0 y16 xs30 K2 g ∧ m_spec_l12Live_B2 d0 y16 xs30 z K2 i46 z47 = some r := ⟨_, rfl, hm⟩
      unfold m_spec_l12Live_B2 at hm
      refine wp_seq ?_
      refine wp_seq ?_
      refine wp_rs rfl ?_
      refine RQ.y rfl (Y.move (v := .int .i64 i46) s9_2) ?_
      refine RQ.y rfl (Y.move (v := v18) s5_2) ?_
      obtain ⟨A49, c50, rfl⟩ := OwF.form G19
      have qbA49 := OwF.bound G19
      refine RQ.y rfl (Y.len (by kernel_rfl) rfl) ?_
      refine RQ.y rfl (Y.binI (v := .bool (decide (i46 < (y16.length : Int)))) rfl rfl rfl) ?_
      refine RQ.nil ?_
      refine then_n ?_
      rcases bcases (decide (i46 < (y16.length : Int))) with c51 | c51
      · replace hm := cF c51 hm
        have pc51 := of_decide_eq_false c51
        refine cond_f rfl (vb rfl c51) ?_
        refine wp_exit ?_
        exact (then_x (then_x (hit_x ⟨_, rfl, ⟨z47, (uz47_0), bsz47_0, s2_2, s8_2, Bz47, Guz47_0, Noz47_0_ob5, Noz47_0_ob35, B3, T, (by rw [hK2] at hm; exact hm)⟩⟩)))
      · replace hm := cT c51 hm
        have pc51 := of_decide_eq_true c51
        refine cond_t rfl (vb rfl c51) ?_
        refine wp_skip ?_
        refine then_n ?_
        refine wp_seq ?_
        refine wp_block ?_
        refine wp_seq ?_
        refine wp_rgt (fun w' => Below w.heap.size w w' ∧ OwF 2 encI 1 w' w.heap.size (.slice A49 y16.length c50) y16) (.q 0 (.q 1 (.q 2 (.q 3 (.q 4 (.q 5 (.q 6 (.q 7 (.q 8 (.two 9 (.a 10 (.a 11 .nil)) 10 (.a 9 (.a 11 .nil)))))))))))) (by kernel_rfl) (by kernel_rfl) (fun w52 hb53 szw52 => ?_)
        have B3 := blkT B3 hb53
        have Bz47 := blkT Bz47 hb53
        have G19 := OwF.below G19 hb53
        have Guxs30 := OwF.below Guxs30 hb53
        have Guz47_0 := OwN.below agentOw_ok Guz47_0 hb53
        have T := Tt T hb53
        refine ⟨⟨T, G19⟩, ?_⟩
        refine RT.y rfl rfl (Y.move (v := .pointer (some ⟨ba0, oa0, none⟩)) s0_2) ?_
        refine RT.y rfl rfl (Y.nilCheck rfl) ?_
        refine RT.y rfl rfl (Y.fieldAddr (off := 0) rfl (by kernel_rfl)) ?_
        refine RT.y rfl rfl (Y.load (v := .slice A1 d0.agents.length c1) rfl (by kernel_rfl) (fun w' hS => (cellT hS.1 (hca0 0 _ rfl)))) ?_
        refine RT.y rfl rfl (Y.move (v := .slice A49 y16.length c50) s5_2) ?_
        refine RT.y rfl rfl (Y.move (v := .int .i64 i46) s9_2) ?_
        obtain ⟨x54, hx56, hm⟩ := bnd hm
        obtain ⟨k55, hk57, hl58, hx56⟩ := getI_some hx56
        obtain ⟨b59, rfl⟩ := OwF.addr0 G19 (by omega)
        refine RT.y rfl rfl (Y.indexAddr (m := k55) (sz := 1) rfl rfl hk57 hl58 (by kernel_rfl)) ?_
        refine RT.y rfl rfl (Y.load (v := .int .i64 x54) rfl (by kernel_rfl) (fun w' hS => (OwF.cell fI hS.2 hx56 (j := 0) rfl))) ?_
        obtain ⟨x60, hx63, hm⟩ := bnd hm
        obtain ⟨k61, hk64, hl65, hx63⟩ := getI_some hx63
        obtain ⟨b67, o68, rfl, hbb67⟩ := h1.addr (by omega)
        obtain ⟨cs62, hRcs62, hc66⟩ := h1.el hx63
        have hScs62 := hRcs62
        obtain ⟨A69, n69, c69, A70, n70, c70, rfl, ⟨h69, r69⟩, ⟨h70, r70⟩⟩ := hRcs62
        have e69 := h69.len; subst e69
        have q69 := len_le r69
        have e70 := h70.len; subst e70
        have q70 := len_le r70
        refine RT.y rfl rfl (Y.indexAddr (m := k61) (sz := 5) rfl rfl hk64 hl65 (by kernel_rfl)) ?_
        refine RT.both rfl rfl ?_ ?_
        · obtain ⟨y71, e72, hm⟩ := bnd hm
          refine RL.call rfl (am1 rfl) (by kernel_rfl) ((c_m_spec_l11OwnAgent x60 _ e72 _ _ (ptArg agentRd_ok hbb67 hScs62 hc66 T)).mono ?_)
          rintro _ w79 ⟨⟨v73, v76, rfl, G74, G77, Ro75_o78⟩, hb80⟩
          refine ⟨_, rfl, ?_⟩
          have szw79 := hb80.size
          have T0w79 := T.size
          have Zo75_ob5 := ap_ne (Ap.new (OwF.flo G74) (one_hi B3.lt))
          have Zo75_ob35 := ap_ne (Ap.new (OwF.flo G74) (one_hi Bz47.lt))
          have Zo75_o20 := Ap.dj (Ap.new (OwF.flo G74) (OwF.fhi G19))
          have Zo75_oxs30 := Ap.dj (Ap.new (OwF.flo G74) (OwF.fhi Guxs30))
          have Zo75_oz47_0 : Ap (fb v73) bsz47_0 := (Ap.new (OwF.flo G74) (OwN.hi Guz47_0))
          have Zo78_ob5 := ap_ne (Ap.new (OwF.flo G77) (one_hi B3.lt))
          have Zo78_ob35 := ap_ne (Ap.new (OwF.flo G77) (one_hi Bz47.lt))
          have Zo78_o20 := Ap.dj (Ap.new (OwF.flo G77) (OwF.fhi G19))
          have Zo78_oxs30 := Ap.dj (Ap.new (OwF.flo G77) (OwF.fhi Guxs30))
          have Zo78_oz47_0 : Ap (fb v76) bsz47_0 := (Ap.new (OwF.flo G77) (OwN.hi Guz47_0))
          have B3 := blkT B3 hb80
          have Bz47 := blkT Bz47 hb80
          have G19 := OwF.below G19 hb80
          have Guxs30 := OwF.below Guxs30 hb80
          have Guz47_0 := OwN.below agentOw_ok Guz47_0 hb80
          have T := Tt T hb80
          replace G74 := OwF.mono G74 T0w79
          replace G77 := OwF.mono G77 T0w79
          refine RL.nil ⟨⟨T, G19⟩, ?_⟩
          refine RT.act rfl ?_
          refine RL.alloc (z := .agg #[.int .i64 0, .int .i64 0, .int .i64 0, .slice none 0 0, .slice none 0 0]) rfl (by kernel_rfl) (fun w81 B82 hb83 szw81 => ?_)
          replace B82 : Blk w81 w79.heap.size 81 #[.int .i64 0, .int .i64 0, .int .i64 0, .slice none 0 0, .slice none 0 0] := B82
          have GB82 : w.heap.size ≤ w79.heap.size := T.size
          have Eob84_ob5 := Nat.ne_of_lt B3.lt
          have Eob84_ob35 := Nat.ne_of_lt Bz47.lt
          have No20_ob84 := OwF.far G19 (Nat.le_refl _)
          have Noxs30_ob84 := OwF.far Guxs30 (Nat.le_refl _)
          have Noz47_0_ob84 := Ap.far (OwN.hi Guz47_0)
          have No75_ob84 := OwF.far G74 (Nat.le_refl _)
          have No78_ob84 := OwF.far G77 (Nat.le_refl _)
          have B3 := blkT B3 hb83
          have Bz47 := blkT Bz47 hb83
          have G19 := OwF.below G19 hb83
          have Guxs30 := OwF.below Guxs30 hb83
          have Guz47_0 := OwN.below agentOw_ok Guz47_0 hb83
          have G74 := OwF.below G74 hb83
          have G77 := OwF.below G77 hb83
          have T := Tt T hb83
          refine RL.nil ⟨⟨T, G19⟩, ?_⟩
          refine RT.act rfl ?_
          obtain ⟨A85, c86, rfl⟩ := OwF.form G74
          have qbA85 := OwF.bound G74
          obtain ⟨A87, c88, rfl⟩ := OwF.form G77
          have qbA87 := OwF.bound G77
          refine RL.store (v := .agg #[.int .i64 y71.kind, .int .i64 y71.level, .int .i64 y71.value, .slice A85 y71.data.length c86, .slice A87 y71.ports.length c88]) (cs' := #[.int .i64 y71.kind, .int .i64 y71.level, .int .i64 y71.value, .slice A85 y71.data.length c86, .slice A87 y71.ports.length c88]) rfl rfl rfl B82 (by kernel_rfl) (by rfl) (by rfl) (by rfl) (fun w89 B90 ho91 => ?_)
          have szw89 := ho91.size
          have B3 := B3.only_ ho91 (by intro hin; simp at hin; exact Eob84_ob5 hin)
          have Bz47 := Bz47.only_ ho91 (by intro hin; simp at hin; exact Eob84_ob35 hin)
          have G19 := OwF.only G19 ho91 No20_ob84
          have Guxs30 := OwF.only Guxs30 ho91 Noxs30_ob84
          have Guz47_0 := OwN.only agentOw_ok Guz47_0 ho91 (Ap.one Noz47_0_ob84)
          have G74 := OwF.only G74 ho91 No75_ob84
          have G77 := OwF.only G77 ho91 No78_ob84
          have T := T.trans (ho91.below (by first | (simp; done) | (simp; omega)))
          refine RL.nil ⟨⟨T, G19⟩, ?_⟩
          refine RT.nil_ ?_
          refine then_n ?_
          refine wp_seq ?_
          refine wp_seq ?_
          refine wp_rs rfl ?_
          refine RQ.y rfl (Y.assign (v := .int .i64 0) rfl) ?_
          refine RQ.nil ?_
          refine then_n ?_
          refine wp_block ?_
          obtain ⟨K3, hK3, hm⟩ : ∃ K, K = (m_spec_l12Live_A3 rec2 i46 z47) ∧ m_spec_l12Live_L3 xs30 K (y71.ports.length + 1) 0 y71 = some r := ⟨_, rfl, hm⟩
          refine wp_loopX (fun g f w' => ∃ (i143 : Int) (z144 : DAgent) (uz144_0 : Value) (uz144_1 : Value), f 0 = .pointer (some ⟨ba0, oa0, none⟩) ∧ f 2 = .pointer (some ⟨w.heap.size, 0, none⟩) ∧ f 5 = .slice (some ⟨b59, 0, none⟩) y16.length c50 ∧ f 6 = uxs30 ∧ f 8 = .pointer (some ⟨w31.heap.size, 0, none⟩) ∧ f 9 = .int .i64 i46 ∧ f 10 = .pointer (some ⟨w79.heap.size, 0, none⟩) ∧ f 11 = .int .i64 i143 ∧ 0 ≤ i143 ∧ Blk w' w79.heap.size 81 #[.int .i64 z144.kind, .int .i64 z144.level, .int .i64 z144.value, uz144_0, uz144_1] ∧ OwF 2 encI 1 w' w.heap.size uz144_0 z144.data ∧ OwF 28 encPort 2 w' w.heap.size uz144_1 z144.ports ∧ Dj uz144_0 (.slice (some ⟨b59, 0, none⟩) y16.length c50) ∧ Dj uz144_0 uxs30 ∧ Ap (fb uz144_0) bsz47_0 ∧ Value.ownBlock uz144_0 ≠ some w.heap.size ∧ Value.ownBlock uz144_0 ≠ some w31.heap.size ∧ Value.ownBlock uz144_0 ≠ some w79.heap.size ∧ Dj uz144_1 uz144_0 ∧ Dj uz144_1 (.slice (some ⟨b59, 0, none⟩) y16.length c50) ∧ Dj uz144_1 uxs30 ∧ Ap (fb uz144_1) bsz47_0 ∧ Value.ownBlock uz144_1 ≠ some w.heap.size ∧ Value.ownBlock uz144_1 ≠ some w31.heap.size ∧ Value.ownBlock uz144_1 ≠ some w79.heap.size ∧ Blk w' w.heap.size 33 #[.slice none 0 0] ∧ Blk w' w31.heap.size 33 #[uz47_0] ∧ OwF 2 encI 1 w' w.heap.size (.slice (some ⟨b59, 0, none⟩) y16.length c50) y16 ∧ OwF 2 encI 1 w' w.heap.size uxs30 xs30 ∧ OwN 81 agentOw 5 w' w.heap.size uz47_0 z47.agents bsz47_0 ∧ Below w.heap.size w w' ∧ m_spec_l12Live_L3 xs30 K3 g i143 z144 = some r) 4 (fun f w' => ∃ (z92 : DAgent) (uz92_0 : Value) (uz92_1 : Value), f 0 = .pointer (some ⟨ba0, oa0, none⟩) ∧ f 2 = .pointer (some ⟨w.heap.size, 0, none⟩) ∧ f 5 = .slice (some ⟨b59, 0, none⟩) y16.length c50 ∧ f 6 = uxs30 ∧ f 8 = .pointer (some ⟨w31.heap.size, 0, none⟩) ∧ f 9 = .int .i64 i46 ∧ f 10 = .pointer (some ⟨w79.heap.size, 0, none⟩) ∧ Blk w' w79.heap.size 81 #[.int .i64 z92.kind, .int .i64 z92.level, .int .i64 z92.value, uz92_0, uz92_1] ∧ OwF 2 encI 1 w' w.heap.size uz92_0 z92.data ∧ OwF 28 encPort 2 w' w.heap.size uz92_1 z92.ports ∧ Dj uz92_0 (.slice (some ⟨b59, 0, none⟩) y16.length c50) ∧ Dj uz92_0 uxs30 ∧ Ap (fb uz92_0) bsz47_0 ∧ Value.ownBlock uz92_0 ≠ some w.heap.size ∧ Value.ownBlock uz92_0 ≠ some w31.heap.size ∧ Value.ownBlock uz92_0 ≠ some w79.heap.size ∧ Dj uz92_1 uz92_0 ∧ Dj uz92_1 (.slice (some ⟨b59, 0, none⟩) y16.length c50) ∧ Dj uz92_1 uxs30 ∧ Ap (fb uz92_1) bsz47_0 ∧ Value.ownBlock uz92_1 ≠ some w.heap.size ∧ Value.ownBlock uz92_1 ≠ some w31.heap.size ∧ Value.ownBlock uz92_1 ≠ some w79.heap.size ∧ Blk w' w.heap.size 33 #[.slice none 0 0] ∧ Blk w' w31.heap.size 33 #[uz47_0] ∧ OwF 2 encI 1 w' w.heap.size (.slice (some ⟨b59, 0, none⟩) y16.length c50) y16 ∧ OwF 2 encI 1 w' w.heap.size uxs30 xs30 ∧ OwN 81 agentOw 5 w' w.heap.size uz47_0 z47.agents bsz47_0 ∧ Below w.heap.size w w' ∧ m_spec_l12Live_A3 rec2 i46 z47 z92 = some r) (y71.ports.length + 1) ⟨0, y71, (.slice A85 y71.data.length c86), (.slice A87 y71.ports.length c88), s0_2, s2_2, s5_2, s6_2, s8_2, s9_2, rfl, rfl, (by omega), B90, G74, G77, (Ap.dj (Dj.ap Zo75_o20)), (Ap.dj (Dj.ap Zo75_oxs30)), Zo75_oz47_0, (ap_ne (ne_ap Zo75_ob5)), (ap_ne (ne_ap Zo75_ob35)), (ap_ne (ne_ap No75_ob84)), (Ap.dj (Ap.symm (Dj.ap Ro75_o78))), (Ap.dj (Dj.ap Zo78_o20)), (Ap.dj (Dj.ap Zo78_oxs30)), Zo78_oz47_0, (ap_ne (ne_ap Zo78_ob5)), (ap_ne (ne_ap Zo78_ob35)), (ap_ne (ne_ap No78_ob84)), B3, Bz47, G19, Guxs30, Guz47_0, T, hm⟩ ?_ ?_
          · rintro f w93 ⟨z92, uz92_0, uz92_1, s0_3x, s2_3x, s5_3x, s6_3x, s8_3x, s9_3x, s10_3x, Bz92, Guz92_0, Guz92_1, Doz92_0_o20, Doz92_0_oxs30, Doz92_0_oz47_0, Noz92_0_ob5, Noz92_0_ob35, Noz92_0_ob84, Doz92_1_oz92_0, Doz92_1_o20, Doz92_1_oxs30, Doz92_1_oz47_0, Noz92_1_ob5, Noz92_1_ob35, Noz92_1_ob84, B3, Bz47, G19, Guxs30, Guz47_0, T, hm⟩
            unfold m_spec_l12Live_A3 at hm
            refine blk_hit (then_n ?_)
            refine wp_rl rfl ?_
            refine RL.y rfl (Y.fieldAddr (off := 0) s8_3x (by kernel_rfl)) ?_
            refine RL.y rfl (Y.load (v := uz47_0) rfl (by kernel_rfl) (eqC (blkCell Bz47 (i := 0) rfl))) ?_
            refine RL.y rfl (Y.loadN (cs := [.int .i64 z92.kind, .int .i64 z92.level, .int .i64 z92.value, uz92_0, uz92_1]) s10_3x (by kernel_rfl) (cells5 (eqC (blkCell Bz92 (i := 0) rfl)) (eqC (blkCell Bz92 (i := 1) rfl)) (eqC (blkCell Bz92 (i := 2) rfl)) (eqC (blkCell Bz92 (i := 3) rfl)) (eqC (blkCell Bz92 (i := 4) rfl)))) ?_
            obtain ⟨A98, c99, rfl⟩ := OwF.form Guz92_0
            have qbA98 := OwF.bound Guz92_0
            obtain ⟨A100, c101, rfl⟩ := OwF.form Guz92_1
            have qbA100 := OwF.bound Guz92_1
            refine RL.bslice (e := 81) (cells := #[.int .i64 z92.kind, .int .i64 z92.level, .int .i64 z92.value, .slice A98 z92.data.length c99, .slice A100 z92.ports.length c101]) rfl (pm1 rfl) (by kernel_rfl) (fun w94 B95 hb96 szw94 => ?_)
            have ZB95 : w.heap.size ≤ w93.heap.size := T.size
            have q102 := OwF.fboth Guz92_0 (Nat.le_refl _)
            have q103 := OwF.fboth Guz92_1 (Nat.le_refl _)
            have z104 := Ap.cons (Ap.farL (one_hi B3.lt)) (Ap.append (ne_ap Noz92_0_ob5) (ne_ap Noz92_1_ob5))
            have z105 := Ap.cons (Ap.farL (one_hi Bz47.lt)) (Ap.append (ne_ap Noz92_0_ob35) (ne_ap Noz92_1_ob35))
            have z106 := Ap.cons (Ap.farL (one_hi Bz92.lt)) (Ap.append (ne_ap Noz92_0_ob84) (ne_ap Noz92_1_ob84))
            have z107 := Ap.cons (Ap.farL (OwF.fhi G19)) (Ap.append (Dj.ap Doz92_0_o20) (Dj.ap Doz92_1_o20))
            have z108 := Ap.cons (Ap.farL (OwF.fhi Guxs30)) (Ap.append (Dj.ap Doz92_0_oxs30) (Dj.ap Doz92_1_oxs30))
            have z109 := Ap.cons (Ap.farL (OwN.hi Guz47_0)) (Ap.append Doz92_0_oz47_0 Doz92_1_oz47_0)
            have B3 := blkT B3 hb96
            have Bz47 := blkT Bz47 hb96
            have Bz92 := blkT Bz92 hb96
            have G19 := OwF.below G19 hb96
            have Guxs30 := OwF.below Guxs30 hb96
            have Guz47_0 := OwN.below agentOw_ok Guz47_0 hb96
            have Guz92_0 := OwF.below Guz92_0 hb96
            have Guz92_1 := OwF.below Guz92_1 hb96
            have T := Tt T hb96
            obtain ⟨l111, a110, nd112, sb113, r114⟩ := OwF.own2 fI Guz92_0
            obtain ⟨l116, a115, nd117, sb118, r119⟩ := OwF.own2 fPort Guz92_1
            have G120 : OwN 81 agentOw 5 w94 w.heap.size (.slice (some ⟨w93.heap.size, 0, none⟩) 1 1) [z92] (w93.heap.size :: ((fb (.slice A98 z92.data.length c99)) ++ (fb (.slice A100 z92.ports.length c101)))) := OwN.lit1 (b1 := (l111 ++ l116)) B95 ZB95 ⟨_, _, _, _, _, _, l111, l116, rfl, ⟨a110, r114⟩, ⟨a115, r119⟩, rfl⟩ agentOw_ok (nodup2 nd112 nd117 sb113 sb118 (Ap.symm (Dj.ap Doz92_1_oz92_0))) (sub2 sb113 sb118) (all2 q102 q103)
            obtain ⟨_, m122, hm⟩ := bnd hm
            have hk123 := mustP_some m122
            refine RL.appendN agentOw_ok agentOw_one (by decide) app_impl_Agent rfl rfl rfl Guz47_0 G120 (Ap.symm z109) T.size hk123 (fun v124 w125 bs126 G127 hgr128 hbl129 hnb130 => ?_)
            have szw125 := hbl129.size
            have z132 := Ap.app hnb130 Noz47_0_ob5 z104 (one_hi B3.lt)
            have z133 := Ap.app hnb130 Noz47_0_ob35 z105 (one_hi Bz47.lt)
            have z134 := Ap.app hnb130 Noz47_0_ob84 z106 (one_hi Bz92.lt)
            have z135 := Ap.app hnb130 Doz47_0_o20 z107 (OwF.fhi G19)
            have z136 := Ap.app hnb130 Doz47_0_oxs30 z108 (OwF.fhi Guxs30)
            have B3 := Blk.kept B3 hgr128 (OwN.neB Guz47_0 Noz47_0_ob5)
            have Bz47 := Blk.kept Bz47 hgr128 (OwN.neB Guz47_0 Noz47_0_ob35)
            have Bz92 := Blk.kept Bz92 hgr128 (OwN.neB Guz47_0 Noz47_0_ob84)
            have G19 := OwF.keptD G19 hgr128 (OwN.dj Guz47_0 Doz47_0_o20)
            have Guxs30 := OwF.keptD Guxs30 hgr128 (OwN.dj Guz47_0 Doz47_0_oxs30)
            have T := T.trans hbl129
            refine RL.y rfl (Y.fieldAddr (off := 0) s8_3x (by kernel_rfl)) ?_
            obtain ⟨A137, c138, rfl⟩ := OwN.form G127
            have qbA137 := OwN.bound G127
            refine RL.store (v := .slice A137 ((z47.agents ++ [z92]).length) c138) (cs' := #[.slice A137 ((z47.agents ++ [z92]).length) c138]) rfl rfl rfl Bz47 (by kernel_rfl) (by rfl) (by rfl) (by rfl) (fun w139 B140 ho141 => ?_)
            have szw139 := ho141.size
            have B3 := B3.only_ ho141 (by intro hin; simp at hin; exact Eob35_ob5 hin)
            have Bz92 := Bz92.only_ ho141 (by intro hin; simp at hin; exact Eob84_ob35.symm hin)
            have G19 := OwF.only G19 ho141 No20_ob35
            have Guxs30 := OwF.only Guxs30 ho141 Noxs30_ob35
            have G127 := OwN.only agentOw_ok G127 ho141 (Ap.one z133)
            have T := T.trans (ho141.below (by first | (simp; done) | (simp; omega)))
            refine RL.nil ?_
            refine blk_n (then_n ?_)
            refine wp_rs rfl ?_
            refine RQ.y rfl (Y.move (v := .int .i64 i46) s9_3x) ?_
            obtain ⟨s142, ks142, hm⟩ := bnd hm
            replace ks142 := ck_some ks142
            refine RQ.y rfl (Y.binI (v := .int .i64 s142) rfl rfl (by rw [binI_add ks142.2, ks142.1])) ?_
            refine RQ.y rfl (Y.assign (v := .int .i64 s142) rfl) ?_
            refine RQ.nil ?_
            exact (then_n ⟨g, _, Nat.lt_succ_self _, rfl, ⟨s142, (⟨(z47.agents ++ [z92])⟩ : DNet), (.slice A137 ((z47.agents ++ [z92]).length) c138), bs126, s0_3x, s2_3x, s5_3x, s6_3x, s8_3x, rfl, (by omega), B140, G127, z135, z136, z132, z133, B3, G19, Guxs30, T, (by rw [← hrec2]; exact hm)⟩⟩)
          · rintro g f w145 ⟨i143, z144, uz144_0, uz144_1, s0_3, s2_3, s5_3, s6_3, s8_3, s9_3, s10_3, s11_3, nn11_3, Bz144, Guz144_0, Guz144_1, Doz144_0_o20, Doz144_0_oxs30, Doz144_0_oz47_0, Noz144_0_ob5, Noz144_0_ob35, Noz144_0_ob84, Doz144_1_oz144_0, Doz144_1_o20, Doz144_1_oxs30, Doz144_1_oz47_0, Noz144_1_ob5, Noz144_1_ob35, Noz144_1_ob84, B3, Bz47, G19, Guxs30, Guz47_0, T, hm⟩
            rcases g with _ | g
            · simp only [m_spec_l12Live_L3] at hm; cases hm
            obtain ⟨rec3, hrec3, hm⟩ : ∃ z, z = m_spec_l12Live_L3 xs30 K3 g ∧ m_spec_l12Live_B3 xs30 z K3 i143 z144 = some r := ⟨_, rfl, hm⟩
            unfold m_spec_l12Live_B3 at hm
            refine wp_seq ?_
            refine wp_seq ?_
            refine wp_rs rfl ?_
            refine RQ.y rfl (Y.move (v := .int .i64 i143) s11_3) ?_
            refine RQ.y rfl (Y.fieldAddr (off := 4) s10_3 (by kernel_rfl)) ?_
            refine RQ.y rfl (Y.load (v := uz144_1) rfl (by kernel_rfl) (eqC (blkCell Bz144 (i := 4) rfl))) ?_
            obtain ⟨A146, c147, rfl⟩ := OwF.form Guz144_1
            have qbA146 := OwF.bound Guz144_1
            refine RQ.y rfl (Y.len (by kernel_rfl) rfl) ?_
            refine RQ.y rfl (Y.binI (v := .bool (decide (i143 < (z144.ports.length : Int)))) rfl rfl rfl) ?_
            refine RQ.nil ?_
            refine then_n ?_
            rcases bcases (decide (i143 < (z144.ports.length : Int))) with c148 | c148
            · replace hm := cF c148 hm
              have pc148 := of_decide_eq_false c148
              refine cond_f rfl (vb rfl c148) ?_
              refine wp_exit ?_
              exact (then_x (then_x (hit_x ⟨_, rfl, ⟨z144, (uz144_0), (.slice A146 z144.ports.length c147), s0_3, s2_3, s5_3, s6_3, s8_3, s9_3, s10_3, Bz144, Guz144_0, Guz144_1, (Ap.dj (Dj.ap Doz144_0_o20)), (Ap.dj (Dj.ap Doz144_0_oxs30)), Doz144_0_oz47_0, (ap_ne (ne_ap Noz144_0_ob5)), (ap_ne (ne_ap Noz144_0_ob35)), (ap_ne (ne_ap Noz144_0_ob84)), (Ap.dj (Dj.ap Doz144_1_oz144_0)), (Ap.dj (Dj.ap Doz144_1_o20)), (Ap.dj (Dj.ap Doz144_1_oxs30)), Doz144_1_oz47_0, (ap_ne (ne_ap Noz144_1_ob5)), (ap_ne (ne_ap Noz144_1_ob35)), (ap_ne (ne_ap Noz144_1_ob84)), B3, Bz47, G19, Guxs30, Guz47_0, T, (by rw [hK3] at hm; exact hm)⟩⟩)))
            · replace hm := cT c148 hm
              have pc148 := of_decide_eq_true c148
              refine cond_t rfl (vb rfl c148) ?_
              refine wp_skip ?_
              refine then_n ?_
              refine wp_seq ?_
              refine wp_block ?_
              refine wp_rg (fun w' => Below w.heap.size w w' ∧ Blk w' w79.heap.size 81 #[.int .i64 z144.kind, .int .i64 z144.level, .int .i64 z144.value, uz144_0, .slice A146 z144.ports.length c147] ∧ OwF 2 encI 1 w' w.heap.size uxs30 xs30) [(0, true), (1, true), (2, true), (3, true), (4, true), (5, true), (6, true), (7, true), (8, true), (9, false), (10, true), (11, true), (12, true), (13, true), (14, false)] (by kernel_rfl) (by kernel_rfl) (fun w149 hb150 szw149 => ?_)
              have B3 := blkT B3 hb150
              have Bz47 := blkT Bz47 hb150
              have Bz144 := blkT Bz144 hb150
              have G19 := OwF.below G19 hb150
              have Guxs30 := OwF.below Guxs30 hb150
              have Guz47_0 := OwN.below agentOw_ok Guz47_0 hb150
              have Guz144_0 := OwF.below Guz144_0 hb150
              have Guz144_1 := OwF.below Guz144_1 hb150
              have T := Tt T hb150
              refine ⟨⟨T, Bz144, Guxs30⟩, ?_⟩
              refine RG.y rfl rfl (Y.fieldAddr (off := 4) s10_3 (by kernel_rfl)) ?_
              refine RG.y rfl rfl (Y.load (v := .slice A146 z144.ports.length c147) rfl (by kernel_rfl) (fun w' hS => (blkCell hS.2.1 (i := 4) rfl))) ?_
              refine RG.y rfl rfl (Y.move (v := .int .i64 i143) s11_3) ?_
              refine RG.y rfl rfl (Y.move (v := uxs30) s6_3) ?_
              refine RG.y rfl rfl (Y.fieldAddr (off := 4) s10_3 (by kernel_rfl)) ?_
              refine RG.y rfl rfl (Y.load (v := .slice A146 z144.ports.length c147) rfl (by kernel_rfl) (fun w' hS => (blkCell hS.2.1 (i := 4) rfl))) ?_
              refine RG.y rfl rfl (Y.move (v := .int .i64 i143) s11_3) ?_
              obtain ⟨x151, hx153, hm⟩ := bnd hm
              obtain ⟨k152, hk154, hl155, hx153⟩ := getI_some hx153
              obtain ⟨b156, rfl⟩ := OwF.addr0 Guz144_1 (by omega)
              refine RG.y rfl rfl (Y.indexAddr (m := k152) (sz := 2) rfl rfl hk154 hl155 (by kernel_rfl)) ?_
              refine RG.y rfl rfl (Y.fieldAddr (off := 0) rfl (by kernel_rfl)) ?_
              refine RG.act rfl ?_
              refine RL.y rfl (Y.load (v := .int .i64 x151.agent) rfl (by kernel_rfl) (eqC (OwF.cell fPort Guz144_1 hx153 (j := 0) rfl))) ?_
              refine RL.nil ⟨⟨T, Bz144, Guxs30⟩, ?_⟩
              obtain ⟨A157, c158, rfl⟩ := OwF.form Guxs30
              have qbA157 := OwF.bound Guxs30
              obtain ⟨x159, hx161, hm⟩ := bnd hm
              obtain ⟨k160, hk162, hl163, hx161⟩ := getI_some hx161
              obtain ⟨b164, rfl⟩ := OwF.addr0 Guxs30 (by omega)
              refine RG.y rfl rfl (Y.indexAddr (m := k160) (sz := 1) rfl rfl hk162 hl163 (by kernel_rfl)) ?_
              refine RG.y rfl rfl (Y.load (v := .int .i64 x159) rfl (by kernel_rfl) (fun w' hS => (OwF.cell fI hS.2.2 hx161 (j := 0) rfl))) ?_
              obtain ⟨x165, hx167, hm⟩ := bnd hm
              obtain ⟨k166, hk168, hl169, hx167⟩ := getI_some hx167
              refine RG.y rfl rfl (Y.indexAddr (m := k166) (sz := 2) rfl rfl hk168 hl169 (by kernel_rfl)) ?_
              refine RG.y rfl rfl (Y.fieldAddr (off := 0) rfl (by kernel_rfl)) ?_
              refine RG.act rfl ?_
              refine RL.storeFj (k := k166) (j := 0) (a := x165) (a' := (⟨x159, x165.slot⟩ : DPort)) fPort rfl rfl rfl Guz144_1 hx167 (by decide) rfl rfl rfl (by kernel_rfl) (fun w170 G171 ho172 => ?_)
              have szw170 := ho172.size
              have B3 := Blk.only_ B3 ho172 (fun e => Noz144_1_ob5 (by simp at e; rw [e]; rfl))
              have Bz47 := Blk.only_ Bz47 ho172 (fun e => Noz144_1_ob35 (by simp at e; rw [e]; rfl))
              have Bz144 := Blk.only_ Bz144 ho172 (fun e => Noz144_1_ob84 (by simp at e; rw [e]; rfl))
              have G19 := OwF.only G19 ho172 (fun e => (Dj.symm Doz144_1_o20) _ e rfl)
              have Guxs30 := OwF.only Guxs30 ho172 (fun e => (Dj.symm Doz144_1_oxs30) _ e rfl)
              have Guz47_0 := OwN.only agentOw_ok Guz47_0 ho172 ((show Ap bsz47_0 [b156] from (Ap.symm Doz144_1_oz47_0)).one)
              have Guz144_0 := OwF.only Guz144_0 ho172 (fun e => (Dj.symm Doz144_1_oz144_0) _ e rfl)
              have T := T.trans (ho172.below (by intro b hb; simp at hb; subst hb; exact OwF.lo_ Guz144_1 _ rfl))
              have G171 : OwF 28 encPort 2 w170 w.heap.size (.slice (some ⟨b156, 0, none⟩) z144.ports.length c147) (setI z144.ports i143 (⟨x159, x165.slot⟩ : DPort)) := by rw [hk168, setI_nat]; exact G171
              have hx173 : (setI z144.ports i143 (⟨x159, x165.slot⟩ : DPort))[k166]? = some (⟨x159, x165.slot⟩ : DPort) := setI_at hk168 hl169
              have hl174 := lt_of_some hx173
              refine RL.nil ⟨⟨T, Bz144, Guxs30⟩, ?_⟩
              refine RG.nil ?_
              refine blk_n (then_n ?_)
              refine wp_rs rfl ?_
              refine RQ.y rfl (Y.move (v := .int .i64 i143) s11_3) ?_
              refine RQ.y rfl (Y.binI rfl rfl (binI_add (m := i143) (by omega))) ?_
              refine RQ.y rfl (Y.assign (v := .int .i64 (i143 + 1)) rfl) ?_
              refine RQ.nil ?_
              exact (then_n ⟨g, _, Nat.lt_succ_self _, rfl, ⟨(i143 + 1), (⟨z144.kind, z144.level, z144.value, z144.data, (setI z144.ports i143 (⟨x159, x165.slot⟩ : DPort))⟩ : DAgent), (uz144_0), (.slice (some ⟨b156, 0, none⟩) z144.ports.length c147), s0_3, s2_3, s5_3, s6_3, s8_3, s9_3, s10_3, rfl, (by omega), Bz144, Guz144_0, G171, (Ap.dj (Dj.ap Doz144_0_o20)), (Ap.dj (Dj.ap Doz144_0_oxs30)), Doz144_0_oz47_0, (ap_ne (ne_ap Noz144_0_ob5)), (ap_ne (ne_ap Noz144_0_ob35)), (ap_ne (ne_ap Noz144_0_ob84)), (Ap.dj (Dj.ap Doz144_1_oz144_0)), (Ap.dj (Dj.ap Doz144_1_o20)), (Ap.dj (Dj.ap Doz144_1_oxs30)), Doz144_1_oz47_0, (ap_ne (ne_ap Noz144_1_ob5)), (ap_ne (ne_ap Noz144_1_ob35)), (ap_ne (ne_ap Noz144_1_ob84)), B3, Bz47, G19, Guxs30, Guz47_0, T, (by rw [← hrec3]; exact hm)⟩⟩)
        · refine RL.alloc (z := .agg #[.int .i64 0, .int .i64 0, .int .i64 0, .slice none 0 0, .slice none 0 0]) rfl (by kernel_rfl) (fun w176 B177 hb178 szw176 => ?_)
          replace B177 : Blk w176 w52.heap.size 81 #[.int .i64 0, .int .i64 0, .int .i64 0, .slice none 0 0, .slice none 0 0] := B177
          have GB177 : w.heap.size ≤ w52.heap.size := T.size
          have Eob179_ob5 := Nat.ne_of_lt B3.lt
          have Eob179_ob35 := Nat.ne_of_lt Bz47.lt
          have No20_ob179 := OwF.far G19 (Nat.le_refl _)
          have Noxs30_ob179 := OwF.far Guxs30 (Nat.le_refl _)
          have Noz47_0_ob179 := Ap.far (OwN.hi Guz47_0)
          have B3 := blkT B3 hb178
          have Bz47 := blkT Bz47 hb178
          have G19 := OwF.below G19 hb178
          have Guxs30 := OwF.below Guxs30 hb178
          have Guz47_0 := OwN.below agentOw_ok Guz47_0 hb178
          have T := Tt T hb178
          refine RL.nil ⟨⟨T, G19⟩, ?_⟩
          refine RT.act rfl ?_
          obtain ⟨y180, e181, hm⟩ := bnd hm
          refine RL.call rfl (am1 rfl) (by kernel_rfl) ((c_m_spec_l11OwnAgent x60 _ e181 _ _ (ptArg agentRd_ok hbb67 hScs62 hc66 T)).mono ?_)
          rintro _ w188 ⟨⟨v182, v185, rfl, G183, G186, Ro184_o187⟩, hb189⟩
          refine ⟨_, rfl, ?_⟩
          have szw188 := hb189.size
          have T0w188 := T.size
          have Zo184_ob5 := ap_ne (Ap.new (OwF.flo G183) (one_hi B3.lt))
          have Zo184_ob35 := ap_ne (Ap.new (OwF.flo G183) (one_hi Bz47.lt))
          have Zo184_ob179 := ap_ne (Ap.new (OwF.flo G183) (one_hi B177.lt))
          have Zo184_o20 := Ap.dj (Ap.new (OwF.flo G183) (OwF.fhi G19))
          have Zo184_oxs30 := Ap.dj (Ap.new (OwF.flo G183) (OwF.fhi Guxs30))
          have Zo184_oz47_0 : Ap (fb v182) bsz47_0 := (Ap.new (OwF.flo G183) (OwN.hi Guz47_0))
          have Zo187_ob5 := ap_ne (Ap.new (OwF.flo G186) (one_hi B3.lt))
          have Zo187_ob35 := ap_ne (Ap.new (OwF.flo G186) (one_hi Bz47.lt))
          have Zo187_ob179 := ap_ne (Ap.new (OwF.flo G186) (one_hi B177.lt))
          have Zo187_o20 := Ap.dj (Ap.new (OwF.flo G186) (OwF.fhi G19))
          have Zo187_oxs30 := Ap.dj (Ap.new (OwF.flo G186) (OwF.fhi Guxs30))
          have Zo187_oz47_0 : Ap (fb v185) bsz47_0 := (Ap.new (OwF.flo G186) (OwN.hi Guz47_0))
          have B3 := blkT B3 hb189
          have Bz47 := blkT Bz47 hb189
          have B177 := blkT B177 hb189
          have G19 := OwF.below G19 hb189
          have Guxs30 := OwF.below Guxs30 hb189
          have Guz47_0 := OwN.below agentOw_ok Guz47_0 hb189
          have T := Tt T hb189
          replace G183 := OwF.mono G183 T0w188
          replace G186 := OwF.mono G186 T0w188
          refine RL.nil ⟨⟨T, G19⟩, ?_⟩
          refine RT.act rfl ?_
          obtain ⟨A190, c191, rfl⟩ := OwF.form G183
          have qbA190 := OwF.bound G183
          obtain ⟨A192, c193, rfl⟩ := OwF.form G186
          have qbA192 := OwF.bound G186
          refine RL.store (v := .agg #[.int .i64 y180.kind, .int .i64 y180.level, .int .i64 y180.value, .slice A190 y180.data.length c191, .slice A192 y180.ports.length c193]) (cs' := #[.int .i64 y180.kind, .int .i64 y180.level, .int .i64 y180.value, .slice A190 y180.data.length c191, .slice A192 y180.ports.length c193]) rfl rfl rfl B177 (by kernel_rfl) (by rfl) (by rfl) (by rfl) (fun w194 B195 ho196 => ?_)
          have szw194 := ho196.size
          have B3 := B3.only_ ho196 (by intro hin; simp at hin; exact Eob179_ob5 hin)
          have Bz47 := Bz47.only_ ho196 (by intro hin; simp at hin; exact Eob179_ob35 hin)
          have G19 := OwF.only G19 ho196 No20_ob179
          have Guxs30 := OwF.only Guxs30 ho196 Noxs30_ob179
          have Guz47_0 := OwN.only agentOw_ok Guz47_0 ho196 (Ap.one Noz47_0_ob179)
          have G183 := OwF.only G183 ho196 Zo184_ob179
          have G186 := OwF.only G186 ho196 Zo187_ob179
          have T := T.trans (ho196.below (by first | (simp; done) | (simp; omega)))
          refine RL.nil ⟨⟨T, G19⟩, ?_⟩
          refine RT.nil_ ?_
          refine then_n ?_
          refine wp_seq ?_
          refine wp_seq ?_
          refine wp_rs rfl ?_
          refine RQ.y rfl (Y.assign (v := .int .i64 0) rfl) ?_
          refine RQ.nil ?_
          refine then_n ?_
          refine wp_block ?_
          obtain ⟨K3, hK3, hm⟩ : ∃ K, K = (m_spec_l12Live_A3 rec2 i46 z47) ∧ m_spec_l12Live_L3 xs30 K (y180.ports.length + 1) 0 y180 = some r := ⟨_, rfl, hm⟩
          refine wp_loopX (fun g f w' => ∃ (i248 : Int) (z249 : DAgent) (uz249_0 : Value) (uz249_1 : Value), f 0 = .pointer (some ⟨ba0, oa0, none⟩) ∧ f 2 = .pointer (some ⟨w.heap.size, 0, none⟩) ∧ f 5 = .slice (some ⟨b59, 0, none⟩) y16.length c50 ∧ f 6 = uxs30 ∧ f 8 = .pointer (some ⟨w31.heap.size, 0, none⟩) ∧ f 9 = .int .i64 i46 ∧ f 10 = .pointer (some ⟨w52.heap.size, 0, none⟩) ∧ f 11 = .int .i64 i248 ∧ 0 ≤ i248 ∧ Blk w' w52.heap.size 81 #[.int .i64 z249.kind, .int .i64 z249.level, .int .i64 z249.value, uz249_0, uz249_1] ∧ OwF 2 encI 1 w' w.heap.size uz249_0 z249.data ∧ OwF 28 encPort 2 w' w.heap.size uz249_1 z249.ports ∧ Dj uz249_0 (.slice (some ⟨b59, 0, none⟩) y16.length c50) ∧ Dj uz249_0 uxs30 ∧ Ap (fb uz249_0) bsz47_0 ∧ Value.ownBlock uz249_0 ≠ some w.heap.size ∧ Value.ownBlock uz249_0 ≠ some w31.heap.size ∧ Value.ownBlock uz249_0 ≠ some w52.heap.size ∧ Dj uz249_1 uz249_0 ∧ Dj uz249_1 (.slice (some ⟨b59, 0, none⟩) y16.length c50) ∧ Dj uz249_1 uxs30 ∧ Ap (fb uz249_1) bsz47_0 ∧ Value.ownBlock uz249_1 ≠ some w.heap.size ∧ Value.ownBlock uz249_1 ≠ some w31.heap.size ∧ Value.ownBlock uz249_1 ≠ some w52.heap.size ∧ Blk w' w.heap.size 33 #[.slice none 0 0] ∧ Blk w' w31.heap.size 33 #[uz47_0] ∧ OwF 2 encI 1 w' w.heap.size (.slice (some ⟨b59, 0, none⟩) y16.length c50) y16 ∧ OwF 2 encI 1 w' w.heap.size uxs30 xs30 ∧ OwN 81 agentOw 5 w' w.heap.size uz47_0 z47.agents bsz47_0 ∧ Below w.heap.size w w' ∧ m_spec_l12Live_L3 xs30 K3 g i248 z249 = some r) 4 (fun f w' => ∃ (z197 : DAgent) (uz197_0 : Value) (uz197_1 : Value), f 0 = .pointer (some ⟨ba0, oa0, none⟩) ∧ f 2 = .pointer (some ⟨w.heap.size, 0, none⟩) ∧ f 5 = .slice (some ⟨b59, 0, none⟩) y16.length c50 ∧ f 6 = uxs30 ∧ f 8 = .pointer (some ⟨w31.heap.size, 0, none⟩) ∧ f 9 = .int .i64 i46 ∧ f 10 = .pointer (some ⟨w52.heap.size, 0, none⟩) ∧ Blk w' w52.heap.size 81 #[.int .i64 z197.kind, .int .i64 z197.level, .int .i64 z197.value, uz197_0, uz197_1] ∧ OwF 2 encI 1 w' w.heap.size uz197_0 z197.data ∧ OwF 28 encPort 2 w' w.heap.size uz197_1 z197.ports ∧ Dj uz197_0 (.slice (some ⟨b59, 0, none⟩) y16.length c50) ∧ Dj uz197_0 uxs30 ∧ Ap (fb uz197_0) bsz47_0 ∧ Value.ownBlock uz197_0 ≠ some w.heap.size ∧ Value.ownBlock uz197_0 ≠ some w31.heap.size ∧ Value.ownBlock uz197_0 ≠ some w52.heap.size ∧ Dj uz197_1 uz197_0 ∧ Dj uz197_1 (.slice (some ⟨b59, 0, none⟩) y16.length c50) ∧ Dj uz197_1 uxs30 ∧ Ap (fb uz197_1) bsz47_0 ∧ Value.ownBlock uz197_1 ≠ some w.heap.size ∧ Value.ownBlock uz197_1 ≠ some w31.heap.size ∧ Value.ownBlock uz197_1 ≠ some w52.heap.size ∧ Blk w' w.heap.size 33 #[.slice none 0 0] ∧ Blk w' w31.heap.size 33 #[uz47_0] ∧ OwF 2 encI 1 w' w.heap.size (.slice (some ⟨b59, 0, none⟩) y16.length c50) y16 ∧ OwF 2 encI 1 w' w.heap.size uxs30 xs30 ∧ OwN 81 agentOw 5 w' w.heap.size uz47_0 z47.agents bsz47_0 ∧ Below w.heap.size w w' ∧ m_spec_l12Live_A3 rec2 i46 z47 z197 = some r) (y180.ports.length + 1) ⟨0, y180, (.slice A190 y180.data.length c191), (.slice A192 y180.ports.length c193), s0_2, s2_2, s5_2, s6_2, s8_2, s9_2, rfl, rfl, (by omega), B195, G183, G186, (Ap.dj (Dj.ap Zo184_o20)), (Ap.dj (Dj.ap Zo184_oxs30)), Zo184_oz47_0, (ap_ne (ne_ap Zo184_ob5)), (ap_ne (ne_ap Zo184_ob35)), (ap_ne (ne_ap Zo184_ob179)), (Ap.dj (Ap.symm (Dj.ap Ro184_o187))), (Ap.dj (Dj.ap Zo187_o20)), (Ap.dj (Dj.ap Zo187_oxs30)), Zo187_oz47_0, (ap_ne (ne_ap Zo187_ob5)), (ap_ne (ne_ap Zo187_ob35)), (ap_ne (ne_ap Zo187_ob179)), B3, Bz47, G19, Guxs30, Guz47_0, T, hm⟩ ?_ ?_
          · rintro f w198 ⟨z197, uz197_0, uz197_1, s0_3x, s2_3x, s5_3x, s6_3x, s8_3x, s9_3x, s10_3x, Bz197, Guz197_0, Guz197_1, Doz197_0_o20, Doz197_0_oxs30, Doz197_0_oz47_0, Noz197_0_ob5, Noz197_0_ob35, Noz197_0_ob179, Doz197_1_oz197_0, Doz197_1_o20, Doz197_1_oxs30, Doz197_1_oz47_0, Noz197_1_ob5, Noz197_1_ob35, Noz197_1_ob179, B3, Bz47, G19, Guxs30, Guz47_0, T, hm⟩
            unfold m_spec_l12Live_A3 at hm
            refine blk_hit (then_n ?_)
            refine wp_rl rfl ?_
            refine RL.y rfl (Y.fieldAddr (off := 0) s8_3x (by kernel_rfl)) ?_
            refine RL.y rfl (Y.load (v := uz47_0) rfl (by kernel_rfl) (eqC (blkCell Bz47 (i := 0) rfl))) ?_
            refine RL.y rfl (Y.loadN (cs := [.int .i64 z197.kind, .int .i64 z197.level, .int .i64 z197.value, uz197_0, uz197_1]) s10_3x (by kernel_rfl) (cells5 (eqC (blkCell Bz197 (i := 0) rfl)) (eqC (blkCell Bz197 (i := 1) rfl)) (eqC (blkCell Bz197 (i := 2) rfl)) (eqC (blkCell Bz197 (i := 3) rfl)) (eqC (blkCell Bz197 (i := 4) rfl)))) ?_
            obtain ⟨A203, c204, rfl⟩ := OwF.form Guz197_0
            have qbA203 := OwF.bound Guz197_0
            obtain ⟨A205, c206, rfl⟩ := OwF.form Guz197_1
            have qbA205 := OwF.bound Guz197_1
            refine RL.bslice (e := 81) (cells := #[.int .i64 z197.kind, .int .i64 z197.level, .int .i64 z197.value, .slice A203 z197.data.length c204, .slice A205 z197.ports.length c206]) rfl (pm1 rfl) (by kernel_rfl) (fun w199 B200 hb201 szw199 => ?_)
            have ZB200 : w.heap.size ≤ w198.heap.size := T.size
            have q207 := OwF.fboth Guz197_0 (Nat.le_refl _)
            have q208 := OwF.fboth Guz197_1 (Nat.le_refl _)
            have z209 := Ap.cons (Ap.farL (one_hi B3.lt)) (Ap.append (ne_ap Noz197_0_ob5) (ne_ap Noz197_1_ob5))
            have z210 := Ap.cons (Ap.farL (one_hi Bz47.lt)) (Ap.append (ne_ap Noz197_0_ob35) (ne_ap Noz197_1_ob35))
            have z211 := Ap.cons (Ap.farL (one_hi Bz197.lt)) (Ap.append (ne_ap Noz197_0_ob179) (ne_ap Noz197_1_ob179))
            have z212 := Ap.cons (Ap.farL (OwF.fhi G19)) (Ap.append (Dj.ap Doz197_0_o20) (Dj.ap Doz197_1_o20))
            have z213 := Ap.cons (Ap.farL (OwF.fhi Guxs30)) (Ap.append (Dj.ap Doz197_0_oxs30) (Dj.ap Doz197_1_oxs30))
            have z214 := Ap.cons (Ap.farL (OwN.hi Guz47_0)) (Ap.append Doz197_0_oz47_0 Doz197_1_oz47_0)
            have B3 := blkT B3 hb201
            have Bz47 := blkT Bz47 hb201
            have Bz197 := blkT Bz197 hb201
            have G19 := OwF.below G19 hb201
            have Guxs30 := OwF.below Guxs30 hb201
            have Guz47_0 := OwN.below agentOw_ok Guz47_0 hb201
            have Guz197_0 := OwF.below Guz197_0 hb201
            have Guz197_1 := OwF.below Guz197_1 hb201
            have T := Tt T hb201
            obtain ⟨l216, a215, nd217, sb218, r219⟩ := OwF.own2 fI Guz197_0
            obtain ⟨l221, a220, nd222, sb223, r224⟩ := OwF.own2 fPort Guz197_1
            have G225 : OwN 81 agentOw 5 w199 w.heap.size (.slice (some ⟨w198.heap.size, 0, none⟩) 1 1) [z197] (w198.heap.size :: ((fb (.slice A203 z197.data.length c204)) ++ (fb (.slice A205 z197.ports.length c206)))) := OwN.lit1 (b1 := (l216 ++ l221)) B200 ZB200 ⟨_, _, _, _, _, _, l216, l221, rfl, ⟨a215, r219⟩, ⟨a220, r224⟩, rfl⟩ agentOw_ok (nodup2 nd217 nd222 sb218 sb223 (Ap.symm (Dj.ap Doz197_1_oz197_0))) (sub2 sb218 sb223) (all2 q207 q208)
            obtain ⟨_, m227, hm⟩ := bnd hm
            have hk228 := mustP_some m227
            refine RL.appendN agentOw_ok agentOw_one (by decide) app_impl_Agent rfl rfl rfl Guz47_0 G225 (Ap.symm z214) T.size hk228 (fun v229 w230 bs231 G232 hgr233 hbl234 hnb235 => ?_)
            have szw230 := hbl234.size
            have z237 := Ap.app hnb235 Noz47_0_ob5 z209 (one_hi B3.lt)
            have z238 := Ap.app hnb235 Noz47_0_ob35 z210 (one_hi Bz47.lt)
            have z239 := Ap.app hnb235 Noz47_0_ob179 z211 (one_hi Bz197.lt)
            have z240 := Ap.app hnb235 Doz47_0_o20 z212 (OwF.fhi G19)
            have z241 := Ap.app hnb235 Doz47_0_oxs30 z213 (OwF.fhi Guxs30)
            have B3 := Blk.kept B3 hgr233 (OwN.neB Guz47_0 Noz47_0_ob5)
            have Bz47 := Blk.kept Bz47 hgr233 (OwN.neB Guz47_0 Noz47_0_ob35)
            have Bz197 := Blk.kept Bz197 hgr233 (OwN.neB Guz47_0 Noz47_0_ob179)
            have G19 := OwF.keptD G19 hgr233 (OwN.dj Guz47_0 Doz47_0_o20)
            have Guxs30 := OwF.keptD Guxs30 hgr233 (OwN.dj Guz47_0 Doz47_0_oxs30)
            have T := T.trans hbl234
            refine RL.y rfl (Y.fieldAddr (off := 0) s8_3x (by kernel_rfl)) ?_
            obtain ⟨A242, c243, rfl⟩ := OwN.form G232
            have qbA242 := OwN.bound G232
            refine RL.store (v := .slice A242 ((z47.agents ++ [z197]).length) c243) (cs' := #[.slice A242 ((z47.agents ++ [z197]).length) c243]) rfl rfl rfl Bz47 (by kernel_rfl) (by rfl) (by rfl) (by rfl) (fun w244 B245 ho246 => ?_)
            have szw244 := ho246.size
            have B3 := B3.only_ ho246 (by intro hin; simp at hin; exact Eob35_ob5 hin)
            have Bz197 := Bz197.only_ ho246 (by intro hin; simp at hin; exact Eob179_ob35.symm hin)
            have G19 := OwF.only G19 ho246 No20_ob35
            have Guxs30 := OwF.only Guxs30 ho246 Noxs30_ob35
            have G232 := OwN.only agentOw_ok G232 ho246 (Ap.one z238)
            have T := T.trans (ho246.below (by first | (simp; done) | (simp; omega)))
            refine RL.nil ?_
            refine blk_n (then_n ?_)
            refine wp_rs rfl ?_
            refine RQ.y rfl (Y.move (v := .int .i64 i46) s9_3x) ?_
            obtain ⟨s247, ks247, hm⟩ := bnd hm
            replace ks247 := ck_some ks247
            refine RQ.y rfl (Y.binI (v := .int .i64 s247) rfl rfl (by rw [binI_add ks247.2, ks247.1])) ?_
            refine RQ.y rfl (Y.assign (v := .int .i64 s247) rfl) ?_
            refine RQ.nil ?_
            exact (then_n ⟨g, _, Nat.lt_succ_self _, rfl, ⟨s247, (⟨(z47.agents ++ [z197])⟩ : DNet), (.slice A242 ((z47.agents ++ [z197]).length) c243), bs231, s0_3x, s2_3x, s5_3x, s6_3x, s8_3x, rfl, (by omega), B245, G232, z240, z241, z237, z238, B3, G19, Guxs30, T, (by rw [← hrec2]; exact hm)⟩⟩)
          · rintro g f w250 ⟨i248, z249, uz249_0, uz249_1, s0_3, s2_3, s5_3, s6_3, s8_3, s9_3, s10_3, s11_3, nn11_3, Bz249, Guz249_0, Guz249_1, Doz249_0_o20, Doz249_0_oxs30, Doz249_0_oz47_0, Noz249_0_ob5, Noz249_0_ob35, Noz249_0_ob179, Doz249_1_oz249_0, Doz249_1_o20, Doz249_1_oxs30, Doz249_1_oz47_0, Noz249_1_ob5, Noz249_1_ob35, Noz249_1_ob179, B3, Bz47, G19, Guxs30, Guz47_0, T, hm⟩
            rcases g with _ | g
            · simp only [m_spec_l12Live_L3] at hm; cases hm
            obtain ⟨rec3, hrec3, hm⟩ : ∃ z, z = m_spec_l12Live_L3 xs30 K3 g ∧ m_spec_l12Live_B3 xs30 z K3 i248 z249 = some r := ⟨_, rfl, hm⟩
            unfold m_spec_l12Live_B3 at hm
            refine wp_seq ?_
            refine wp_seq ?_
            refine wp_rs rfl ?_
            refine RQ.y rfl (Y.move (v := .int .i64 i248) s11_3) ?_
            refine RQ.y rfl (Y.fieldAddr (off := 4) s10_3 (by kernel_rfl)) ?_
            refine RQ.y rfl (Y.load (v := uz249_1) rfl (by kernel_rfl) (eqC (blkCell Bz249 (i := 4) rfl))) ?_
            obtain ⟨A251, c252, rfl⟩ := OwF.form Guz249_1
            have qbA251 := OwF.bound Guz249_1
            refine RQ.y rfl (Y.len (by kernel_rfl) rfl) ?_
            refine RQ.y rfl (Y.binI (v := .bool (decide (i248 < (z249.ports.length : Int)))) rfl rfl rfl) ?_
            refine RQ.nil ?_
            refine then_n ?_
            rcases bcases (decide (i248 < (z249.ports.length : Int))) with c253 | c253
            · replace hm := cF c253 hm
              have pc253 := of_decide_eq_false c253
              refine cond_f rfl (vb rfl c253) ?_
              refine wp_exit ?_
              exact (then_x (then_x (hit_x ⟨_, rfl, ⟨z249, (uz249_0), (.slice A251 z249.ports.length c252), s0_3, s2_3, s5_3, s6_3, s8_3, s9_3, s10_3, Bz249, Guz249_0, Guz249_1, (Ap.dj (Dj.ap Doz249_0_o20)), (Ap.dj (Dj.ap Doz249_0_oxs30)), Doz249_0_oz47_0, (ap_ne (ne_ap Noz249_0_ob5)), (ap_ne (ne_ap Noz249_0_ob35)), (ap_ne (ne_ap Noz249_0_ob179)), (Ap.dj (Dj.ap Doz249_1_oz249_0)), (Ap.dj (Dj.ap Doz249_1_o20)), (Ap.dj (Dj.ap Doz249_1_oxs30)), Doz249_1_oz47_0, (ap_ne (ne_ap Noz249_1_ob5)), (ap_ne (ne_ap Noz249_1_ob35)), (ap_ne (ne_ap Noz249_1_ob179)), B3, Bz47, G19, Guxs30, Guz47_0, T, (by rw [hK3] at hm; exact hm)⟩⟩)))
            · replace hm := cT c253 hm
              have pc253 := of_decide_eq_true c253
              refine cond_t rfl (vb rfl c253) ?_
              refine wp_skip ?_
              refine then_n ?_
              refine wp_seq ?_
              refine wp_block ?_
              refine wp_rg (fun w' => Below w.heap.size w w' ∧ Blk w' w52.heap.size 81 #[.int .i64 z249.kind, .int .i64 z249.level, .int .i64 z249.value, uz249_0, .slice A251 z249.ports.length c252] ∧ OwF 2 encI 1 w' w.heap.size uxs30 xs30) [(0, true), (1, true), (2, true), (3, true), (4, true), (5, true), (6, true), (7, true), (8, true), (9, false), (10, true), (11, true), (12, true), (13, true), (14, false)] (by kernel_rfl) (by kernel_rfl) (fun w254 hb255 szw254 => ?_)
              have B3 := blkT B3 hb255
              have Bz47 := blkT Bz47 hb255
              have Bz249 := blkT Bz249 hb255
              have G19 := OwF.below G19 hb255
              have Guxs30 := OwF.below Guxs30 hb255
              have Guz47_0 := OwN.below agentOw_ok Guz47_0 hb255
              have Guz249_0 := OwF.below Guz249_0 hb255
              have Guz249_1 := OwF.below Guz249_1 hb255
              have T := Tt T hb255
              refine ⟨⟨T, Bz249, Guxs30⟩, ?_⟩
              refine RG.y rfl rfl (Y.fieldAddr (off := 4) s10_3 (by kernel_rfl)) ?_
              refine RG.y rfl rfl (Y.load (v := .slice A251 z249.ports.length c252) rfl (by kernel_rfl) (fun w' hS => (blkCell hS.2.1 (i := 4) rfl))) ?_
              refine RG.y rfl rfl (Y.move (v := .int .i64 i248) s11_3) ?_
              refine RG.y rfl rfl (Y.move (v := uxs30) s6_3) ?_
              refine RG.y rfl rfl (Y.fieldAddr (off := 4) s10_3 (by kernel_rfl)) ?_
              refine RG.y rfl rfl (Y.load (v := .slice A251 z249.ports.length c252) rfl (by kernel_rfl) (fun w' hS => (blkCell hS.2.1 (i := 4) rfl))) ?_
              refine RG.y rfl rfl (Y.move (v := .int .i64 i248) s11_3) ?_
              obtain ⟨x256, hx258, hm⟩ := bnd hm
              obtain ⟨k257, hk259, hl260, hx258⟩ := getI_some hx258
              obtain ⟨b261, rfl⟩ := OwF.addr0 Guz249_1 (by omega)
              refine RG.y rfl rfl (Y.indexAddr (m := k257) (sz := 2) rfl rfl hk259 hl260 (by kernel_rfl)) ?_
              refine RG.y rfl rfl (Y.fieldAddr (off := 0) rfl (by kernel_rfl)) ?_
              refine RG.act rfl ?_
              refine RL.y rfl (Y.load (v := .int .i64 x256.agent) rfl (by kernel_rfl) (eqC (OwF.cell fPort Guz249_1 hx258 (j := 0) rfl))) ?_
              refine RL.nil ⟨⟨T, Bz249, Guxs30⟩, ?_⟩
              obtain ⟨A262, c263, rfl⟩ := OwF.form Guxs30
              have qbA262 := OwF.bound Guxs30
              obtain ⟨x264, hx266, hm⟩ := bnd hm
              obtain ⟨k265, hk267, hl268, hx266⟩ := getI_some hx266
              obtain ⟨b269, rfl⟩ := OwF.addr0 Guxs30 (by omega)
              refine RG.y rfl rfl (Y.indexAddr (m := k265) (sz := 1) rfl rfl hk267 hl268 (by kernel_rfl)) ?_
              refine RG.y rfl rfl (Y.load (v := .int .i64 x264) rfl (by kernel_rfl) (fun w' hS => (OwF.cell fI hS.2.2 hx266 (j := 0) rfl))) ?_
              obtain ⟨x270, hx272, hm⟩ := bnd hm
              obtain ⟨k271, hk273, hl274, hx272⟩ := getI_some hx272
              refine RG.y rfl rfl (Y.indexAddr (m := k271) (sz := 2) rfl rfl hk273 hl274 (by kernel_rfl)) ?_
              refine RG.y rfl rfl (Y.fieldAddr (off := 0) rfl (by kernel_rfl)) ?_
              refine RG.act rfl ?_
              refine RL.storeFj (k := k271) (j := 0) (a := x270) (a' := (⟨x264, x270.slot⟩ : DPort)) fPort rfl rfl rfl Guz249_1 hx272 (by decide) rfl rfl rfl (by kernel_rfl) (fun w275 G276 ho277 => ?_)
              have szw275 := ho277.size
              have B3 := Blk.only_ B3 ho277 (fun e => Noz249_1_ob5 (by simp at e; rw [e]; rfl))
              have Bz47 := Blk.only_ Bz47 ho277 (fun e => Noz249_1_ob35 (by simp at e; rw [e]; rfl))
              have Bz249 := Blk.only_ Bz249 ho277 (fun e => Noz249_1_ob179 (by simp at e; rw [e]; rfl))
              have G19 := OwF.only G19 ho277 (fun e => (Dj.symm Doz249_1_o20) _ e rfl)
              have Guxs30 := OwF.only Guxs30 ho277 (fun e => (Dj.symm Doz249_1_oxs30) _ e rfl)
              have Guz47_0 := OwN.only agentOw_ok Guz47_0 ho277 ((show Ap bsz47_0 [b261] from (Ap.symm Doz249_1_oz47_0)).one)
              have Guz249_0 := OwF.only Guz249_0 ho277 (fun e => (Dj.symm Doz249_1_oz249_0) _ e rfl)
              have T := T.trans (ho277.below (by intro b hb; simp at hb; subst hb; exact OwF.lo_ Guz249_1 _ rfl))
              have G276 : OwF 28 encPort 2 w275 w.heap.size (.slice (some ⟨b261, 0, none⟩) z249.ports.length c252) (setI z249.ports i248 (⟨x264, x270.slot⟩ : DPort)) := by rw [hk273, setI_nat]; exact G276
              have hx278 : (setI z249.ports i248 (⟨x264, x270.slot⟩ : DPort))[k271]? = some (⟨x264, x270.slot⟩ : DPort) := setI_at hk273 hl274
              have hl279 := lt_of_some hx278
              refine RL.nil ⟨⟨T, Bz249, Guxs30⟩, ?_⟩
              refine RG.nil ?_
              refine blk_n (then_n ?_)
              refine wp_rs rfl ?_
              refine RQ.y rfl (Y.move (v := .int .i64 i248) s11_3) ?_
              refine RQ.y rfl (Y.binI rfl rfl (binI_add (m := i248) (by omega))) ?_
              refine RQ.y rfl (Y.assign (v := .int .i64 (i248 + 1)) rfl) ?_
              refine RQ.nil ?_
              exact (then_n ⟨g, _, Nat.lt_succ_self _, rfl, ⟨(i248 + 1), (⟨z249.kind, z249.level, z249.value, z249.data, (setI z249.ports i248 (⟨x264, x270.slot⟩ : DPort))⟩ : DAgent), (uz249_0), (.slice (some ⟨b261, 0, none⟩) z249.ports.length c252), s0_3, s2_3, s5_3, s6_3, s8_3, s9_3, s10_3, rfl, (by omega), Bz249, Guz249_0, G276, (Ap.dj (Dj.ap Doz249_0_o20)), (Ap.dj (Dj.ap Doz249_0_oxs30)), Doz249_0_oz47_0, (ap_ne (ne_ap Noz249_0_ob5)), (ap_ne (ne_ap Noz249_0_ob35)), (ap_ne (ne_ap Noz249_0_ob179)), (Ap.dj (Dj.ap Doz249_1_oz249_0)), (Ap.dj (Dj.ap Doz249_1_o20)), (Ap.dj (Dj.ap Doz249_1_oxs30)), Doz249_1_oz47_0, (ap_ne (ne_ap Noz249_1_ob5)), (ap_ne (ne_ap Noz249_1_ob35)), (ap_ne (ne_ap Noz249_1_ob179)), B3, Bz47, G19, Guxs30, Guz47_0, T, (by rw [← hrec3]; exact hm)⟩⟩)
  · rintro g f w284 ⟨xs282, i283, uxs282, s0_1, s2_1, s5_1, s6_1, Guxs282, s7_1, nn7_1, Doxs282_o20, Noxs282_ob5, B3, G19, T, hm⟩
    rcases g with _ | g
    · simp only [m_spec_l12Live_L1] at hm; cases hm
    obtain ⟨rec1, hrec1, hm⟩ : ∃ z, z = m_spec_l12Live_L1 y16 K1 g ∧ m_spec_l12Live_B1 y16 z K1 xs282 i283 = some r := ⟨_, rfl, hm⟩
    unfold m_spec_l12Live_B1 at hm
    refine wp_seq ?_
    refine wp_seq ?_
    refine wp_rs rfl ?_
    refine RQ.y rfl (Y.move (v := .int .i64 i283) s7_1) ?_
    refine RQ.y rfl (Y.move (v := v18) s5_1) ?_
    obtain ⟨A285, c286, rfl⟩ := OwF.form G19
    have qbA285 := OwF.bound G19
    refine RQ.y rfl (Y.len (by kernel_rfl) rfl) ?_
    refine RQ.y rfl (Y.binI (v := .bool (decide (i283 < (y16.length : Int)))) rfl rfl rfl) ?_
    refine RQ.nil ?_
    refine then_n ?_
    rcases bcases (decide (i283 < (y16.length : Int))) with c287 | c287
    · replace hm := cF c287 hm
      have pc287 := of_decide_eq_false c287
      refine cond_f rfl (vb rfl c287) ?_
      refine wp_exit ?_
      exact (then_x (then_x (hit_x ⟨_, rfl, ⟨xs282, (uxs282), s0_1, s2_1, s5_1, s6_1, Guxs282, (Ap.dj (Dj.ap Doxs282_o20)), (ap_ne (ne_ap Noxs282_ob5)), B3, G19, T, (by rw [hK1] at hm; exact hm)⟩⟩)))
    · replace hm := cT c287 hm
      have pc287 := of_decide_eq_true c287
      refine cond_t rfl (vb rfl c287) ?_
      refine wp_skip ?_
      refine then_n ?_
      refine wp_seq ?_
      refine wp_block ?_
      refine wp_rl rfl ?_
      refine RL.y rfl (Y.move (v := uxs282) s6_1) ?_
      refine RL.y rfl (Y.move (v := .slice A285 y16.length c286) s5_1) ?_
      refine RL.y rfl (Y.move (v := .int .i64 i283) s7_1) ?_
      obtain ⟨x288, hx290, hm⟩ := bnd hm
      obtain ⟨k289, hk291, hl292, hx290⟩ := getI_some hx290
      obtain ⟨b293, rfl⟩ := OwF.addr0 G19 (by omega)
      refine RL.y rfl (Y.indexAddr (m := k289) (sz := 1) rfl rfl hk291 hl292 (by kernel_rfl)) ?_
      refine RL.y rfl (Y.load (v := .int .i64 x288) rfl (by kernel_rfl) (eqC (OwF.cell fI G19 hx290 (j := 0) rfl))) ?_
      refine RL.y rfl (Y.move (v := .int .i64 i283) s7_1) ?_
      obtain ⟨A294, c295, rfl⟩ := OwF.form Guxs282
      have qbA294 := OwF.bound Guxs282
      obtain ⟨x296, hx298, hm⟩ := bnd hm
      obtain ⟨k297, hk299, hl300, hx298⟩ := getI_some hx298
      obtain ⟨b301, rfl⟩ := OwF.addr0 Guxs282 (by omega)
      refine RL.y rfl (Y.indexAddr (m := k297) (sz := 1) rfl rfl hk299 hl300 (by kernel_rfl)) ?_
      refine RL.storeF (k := k297) (a := i283) fI rfl rfl rfl Guxs282 hl300 rfl (by kernel_rfl) (fun w302 G303 ho304 => ?_)
      have szw302 := ho304.size
      have B3 := Blk.only_ B3 ho304 (fun e => Noxs282_ob5 (by simp at e; rw [e]; rfl))
      have G19 := OwF.only G19 ho304 (fun e => (Dj.symm Doxs282_o20) _ e rfl)
      have T := T.trans (ho304.below (by intro b hb; simp at hb; subst hb; exact OwF.lo_ Guxs282 _ rfl))
      have G303 : OwF 2 encI 1 w302 w.heap.size (.slice (some ⟨b301, 0, none⟩) xs282.length c295) (setI xs282 x288 i283) := by rw [hk299, setI_nat]; exact G303
      have hx305 : (setI xs282 x288 i283)[k297]? = some i283 := setI_at hk299 hl300
      have hl306 := lt_of_some hx305
      refine RL.nil ?_
      refine blk_n (then_n ?_)
      refine wp_rs rfl ?_
      refine RQ.y rfl (Y.move (v := .int .i64 i283) s7_1) ?_
      refine RQ.y rfl (Y.binI rfl rfl (binI_add (m := i283) (by omega))) ?_
      refine RQ.y rfl (Y.assign (v := .int .i64 (i283 + 1)) rfl) ?_
      refine RQ.nil ?_
      exact (then_n ⟨g, _, Nat.lt_succ_self _, rfl, ⟨(setI xs282 x288 i283), (i283 + 1), (.slice (some ⟨b301, 0, none⟩) xs282.length c295), s0_1, s2_1, s5_1, s6_1, G303, rfl, (by omega), (Ap.dj (Dj.ap Doxs282_o20)), (ap_ne (ne_ap Noxs282_ob5)), B3, G19, T, (by rw [← hrec1]; exact hm)⟩⟩)
def m_spec_DropGarbage (d0 : DNet) : Option (DNet × Int) :=
  ((m_spec_l11Ok d0).bind fun y10 => (bif y10 then ((m_spec_l12Live d0).bind fun y18 => some (y18, 0)) else some ((⟨[]⟩ : DNet), 1)))
set_option maxHeartbeats 2000000 in
theorem c_m_spec_DropGarbage (d0 : DNet) (r : DNet × Int) (hm : m_spec_DropGarbage d0 = some r) (v0 : Value) (w : World) (hv0 : St netRd w v0 d0) :
    Calls Try.prog 31 #[v0] w fun e w' => (∃ (v0 : Value) (bs0 : List Nat), e = .returned (.tuple #[.agg #[v0], .int .i64 r.2]) ∧ OwN 81 agentOw 5 w' w.heap.size v0 r.1.agents bs0) ∧ Below w.heap.size w w' := by
  obtain ⟨csa0, rfl, ⟨A1, n1, c1, rfl, ⟨h1, r1⟩⟩⟩ := hv0
  have e1 := h1.len; subst e1
  have q1 := len_le r1
  have T := Below.refl w.heap.size w
  unfold m_spec_DropGarbage at hm
  refine enter 8 Try.func31 rfl rfl rfl ?_
  intro f hf
  have s0 : f 0 = .agg #[.slice A1 d0.agents.length c1] := hf 0 _ rfl
  refine wp_seq ?_
  refine wp_rl rfl ?_
  refine RL.box rfl s0 (fun w2 B3 hb4 szw2 => ?_)
  replace B3 : Blk w2 w.heap.size 33 #[.slice A1 d0.agents.length c1] := B3
  have GB3 : w.heap.size ≤ w.heap.size := T.size
  have T := Tt T hb4
  refine RL.alloc (z := .agg #[.slice none 0 0]) rfl (by kernel_rfl) (fun w6 B7 hb8 szw6 => ?_)
  replace B7 : Blk w6 w2.heap.size 33 #[.slice none 0 0] := B7
  have GB7 : w.heap.size ≤ w2.heap.size := T.size
  have Eob9_ob5 := Nat.ne_of_lt B3.lt
  have B3 := blkT B3 hb8
  have T := Tt T hb8
  refine RL.y rfl (Y.assign (v := .int .i64 0) rfl) ?_
  refine RL.nil ?_
  refine then_n ?_
  refine wp_seq ?_
  refine wp_seq ?_
  refine wp_rb rfl ?_
  obtain ⟨y10, e11, hm⟩ := bnd hm
  refine RQ.call rfl (am1 rfl) (by kernel_rfl) (v := .bool y10) (bel (K := fun _ => True) fun w' hb' => (c_m_spec_l11Ok d0 _ e11 _ w' (ptBox (R := netRd) (blkT B3 hb') ⟨_, _, _, rfl, ⟨SlAt.now agentRd_ok h1 (Nat.le_refl _) (Tt T hb'), r1⟩⟩))) ?_
  refine RQ.y rfl (Y.not (b' := (!y10)) rfl rfl) ?_
  refine RQ.nil ?_
  intro w12 hb13
  have szw12 := hb13.size
  have B3 := blkT B3 hb13
  have B7 := blkT B7 hb13
  have T := Tt T hb13
  refine then_n ?_
  rcases bcases y10 with c14 | c14
  · replace hm := cF c14 hm
    refine cond_t rfl (vbn rfl c14 rfl) ?_
    refine wp_seq ?_
    refine wp_rl rfl ?_
    refine RL.y rfl (Y.build0 (cells := #[.slice none 0 0])  (by kernel_rfl) (by kernel_rfl)) ?_
    refine RL.store (v := .agg #[.slice none 0 0]) (cs' := #[.slice none 0 0]) rfl rfl rfl B7 (by kernel_rfl) (by rfl) (by rfl) (by rfl) (fun w15 B16 ho17 => ?_)
    have szw15 := ho17.size
    have B3 := B3.only_ ho17 (by intro hin; simp at hin; exact Eob9_ob5 hin)
    have T := T.trans (ho17.below (by first | (simp; done) | (simp; omega)))
    refine RL.y rfl (Y.assign (v := .int .i64 1) rfl) ?_
    refine RL.nil ?_
    refine then_n ?_
    refine wp_ret ?_
    obtain rfl := Option.some.inj hm
    exact (then_r (retct (cs := [.slice none 0 0]) rfl rfl rfl rfl (by kernel_rfl) (blkCells B16) ⟨⟨_, _, rfl, OwN.nil⟩, T⟩))
  · replace hm := cT c14 hm
    refine cond_f rfl (vbn rfl c14 rfl) ?_
    refine wp_skip ?_
    refine then_n ?_
    refine wp_seq ?_
    refine wp_rl rfl ?_
    obtain ⟨y18, e19, hm⟩ := bnd hm
    refine RL.call rfl (am1 rfl) (by kernel_rfl) ((c_m_spec_l12Live d0 _ e19 _ _ (ptBox (R := netRd) B3 ⟨_, _, _, rfl, ⟨SlAt.now agentRd_ok h1 (Nat.le_refl _) T, r1⟩⟩)).mono ?_)
    rintro _ w24 ⟨⟨v20, bs23, rfl, G21⟩, hb25⟩
    refine ⟨_, rfl, ?_⟩
    have szw24 := hb25.size
    have T0w24 := T.size
    have Zo22_ob5 : Ap bs23 [w.heap.size] := (Ap.new (OwN.lo_ G21) (one_hi B3.lt))
    have Zo22_ob9 : Ap bs23 [w2.heap.size] := (Ap.new (OwN.lo_ G21) (one_hi B7.lt))
    have B3 := blkT B3 hb25
    have B7 := blkT B7 hb25
    have T := Tt T hb25
    replace G21 := OwN.mono G21 T0w24
    obtain ⟨A26, c27, rfl⟩ := OwN.form G21
    have qbA26 := OwN.bound G21
    refine RL.store (v := .agg #[.slice A26 y18.agents.length c27]) (cs' := #[.slice A26 y18.agents.length c27]) rfl rfl rfl B7 (by kernel_rfl) (by rfl) (by rfl) (by rfl) (fun w28 B29 ho30 => ?_)
    have szw28 := ho30.size
    have B3 := B3.only_ ho30 (by intro hin; simp at hin; exact Eob9_ob5 hin)
    have G21 := OwN.only agentOw_ok G21 ho30 (Ap.one Zo22_ob9)
    have T := T.trans (ho30.below (by first | (simp; done) | (simp; omega)))
    refine RL.y rfl (Y.assign (v := .int .i64 0) rfl) ?_
    refine RL.nil ?_
    refine then_n ?_
    refine wp_ret ?_
    obtain rfl := Option.some.inj hm
    exact (retct (cs := [.slice A26 y18.agents.length c27]) rfl rfl rfl rfl (by kernel_rfl) (blkCells B29) ⟨⟨_, _, rfl, G21⟩, T⟩)
def m_impl_dropGarbage (d0 : DNet) : Option DNet :=
  ((m_impl_Net_liveAgents d0).bind fun y10 => ((m_impl_Net_renumber d0 y10).bind fun y17 => some y17))
set_option maxHeartbeats 2000000 in
theorem c_m_impl_dropGarbage (d0 : DNet) (r : DNet) (hm : m_impl_dropGarbage d0 = some r) (v0 : Value) (w : World) (hv0 : St netRd w v0 d0) :
    Calls Try.prog 57 #[v0] w fun e w' => (∃ (v0 : Value) (bs0 : List Nat), e = .returned (.agg #[v0]) ∧ OwN 81 agentOw 5 w' w.heap.size v0 r.agents bs0) ∧ Below w.heap.size w w' := by
  obtain ⟨csa0, rfl, ⟨A1, n1, c1, rfl, ⟨h1, r1⟩⟩⟩ := hv0
  have e1 := h1.len; subst e1
  have q1 := len_le r1
  have T := Below.refl w.heap.size w
  unfold m_impl_dropGarbage at hm
  refine enter 5 Try.func57 rfl rfl rfl ?_
  intro f hf
  have s0 : f 0 = .agg #[.slice A1 d0.agents.length c1] := hf 0 _ rfl
  refine wp_seq ?_
  refine wp_rl rfl ?_
  refine RL.box rfl s0 (fun w2 B3 hb4 szw2 => ?_)
  replace B3 : Blk w2 w.heap.size 33 #[.slice A1 d0.agents.length c1] := B3
  have GB3 : w.heap.size ≤ w.heap.size := T.size
  have T := Tt T hb4
  refine RL.alloc (z := .agg #[.slice none 0 0]) rfl (by kernel_rfl) (fun w6 B7 hb8 szw6 => ?_)
  replace B7 : Blk w6 w2.heap.size 33 #[.slice none 0 0] := B7
  have GB7 : w.heap.size ≤ w2.heap.size := T.size
  have Eob9_ob5 := Nat.ne_of_lt B3.lt
  have B3 := blkT B3 hb8
  have T := Tt T hb8
  refine RL.nil ?_
  refine then_n ?_
  refine wp_seq ?_
  refine wp_rl rfl ?_
  obtain ⟨y10, e11, hm⟩ := bnd hm
  refine RL.call rfl (am1 rfl) (by kernel_rfl) ((c_m_impl_Net_liveAgents d0 _ e11 _ _ (ptBox (R := netRd) B3 ⟨_, _, _, rfl, ⟨SlAt.now agentRd_ok h1 (Nat.le_refl _) T, r1⟩⟩)).mono ?_)
  rintro _ w15 ⟨⟨v12, rfl, G13⟩, hb16⟩
  refine ⟨_, rfl, ?_⟩
  have szw15 := hb16.size
  have T0w15 := T.size
  have Zo14_ob5 := ap_ne (Ap.new (OwF.flo G13) (one_hi B3.lt))
  have Zo14_ob9 := ap_ne (Ap.new (OwF.flo G13) (one_hi B7.lt))
  have B3 := blkT B3 hb16
  have B7 := blkT B7 hb16
  have T := Tt T hb16
  replace G13 := OwF.mono G13 T0w15
  obtain ⟨y17, e18, hm⟩ := bnd hm
  refine RL.call rfl (am2 rfl rfl) (by kernel_rfl) ((c_m_impl_Net_renumber d0 y10 _ e18 _ _ _ (ptBox (R := netRd) B3 ⟨_, _, _, rfl, ⟨SlAt.now agentRd_ok h1 (Nat.le_refl _) T, r1⟩⟩) (OwF.arg fI G13)).mono ?_)
  rintro _ w23 ⟨⟨v19, bs22, rfl, G20⟩, hb24⟩
  refine ⟨_, rfl, ?_⟩
  have szw23 := hb24.size
  have T0w23 := T.size
  have Zo21_ob5 : Ap bs22 [w.heap.size] := (Ap.new (OwN.lo_ G20) (one_hi B3.lt))
  have Zo21_ob9 : Ap bs22 [w2.heap.size] := (Ap.new (OwN.lo_ G20) (one_hi B7.lt))
  have Zo21_o14 : Ap bs22 (fb v12) := (Ap.new (OwN.lo_ G20) (OwF.fhi G13))
  have B3 := blkT B3 hb24
  have B7 := blkT B7 hb24
  have G13 := OwF.below G13 hb24
  have T := Tt T hb24
  replace G20 := OwN.mono G20 T0w23
  obtain ⟨A25, c26, rfl⟩ := OwN.form G20
  have qbA25 := OwN.bound G20
  refine RL.store (v := .agg #[.slice A25 y17.agents.length c26]) (cs' := #[.slice A25 y17.agents.length c26]) rfl rfl rfl B7 (by kernel_rfl) (by rfl) (by rfl) (by rfl) (fun w27 B28 ho29 => ?_)
  have szw27 := ho29.size
  have B3 := B3.only_ ho29 (by intro hin; simp at hin; exact Eob9_ob5 hin)
  have G13 := OwF.only G13 ho29 Zo14_ob9
  have G20 := OwN.only agentOw_ok G20 ho29 (Ap.one Zo21_ob9)
  have T := T.trans (ho29.below (by first | (simp; done) | (simp; omega)))
  refine RL.nil ?_
  refine then_n ?_
  refine wp_ret ?_
  obtain rfl := Option.some.inj hm
  exact (retc (cs := [.slice A25 y17.agents.length c26]) rfl rfl rfl (by kernel_rfl) (blkCells B28) ⟨⟨_, _, rfl, G20⟩, T⟩)
def m_impl_DropGarbage (d0 : DNet) : Option (DNet × Int) :=
  ((m_impl_ValidNet d0).bind fun y10 => (bif y10 then ((m_impl_dropGarbage d0).bind fun y18 => some (y18, 0)) else some ((⟨[]⟩ : DNet), 1)))
set_option maxHeartbeats 2000000 in
theorem c_m_impl_DropGarbage (d0 : DNet) (r : DNet × Int) (hm : m_impl_DropGarbage d0 = some r) (v0 : Value) (w : World) (hv0 : St netRd w v0 d0) :
    Calls Try.prog 32 #[v0] w fun e w' => (∃ (v0 : Value) (bs0 : List Nat), e = .returned (.tuple #[.agg #[v0], .int .i64 r.2]) ∧ OwN 81 agentOw 5 w' w.heap.size v0 r.1.agents bs0) ∧ Below w.heap.size w w' := by
  obtain ⟨csa0, rfl, ⟨A1, n1, c1, rfl, ⟨h1, r1⟩⟩⟩ := hv0
  have e1 := h1.len; subst e1
  have q1 := len_le r1
  have T := Below.refl w.heap.size w
  unfold m_impl_DropGarbage at hm
  refine enter 10 Try.func32 rfl rfl rfl ?_
  intro f hf
  have s0 : f 0 = .agg #[.slice A1 d0.agents.length c1] := hf 0 _ rfl
  refine wp_seq ?_
  refine wp_rl rfl ?_
  refine RL.box rfl s0 (fun w2 B3 hb4 szw2 => ?_)
  replace B3 : Blk w2 w.heap.size 33 #[.slice A1 d0.agents.length c1] := B3
  have GB3 : w.heap.size ≤ w.heap.size := T.size
  have T := Tt T hb4
  refine RL.alloc (z := .agg #[.slice none 0 0]) rfl (by kernel_rfl) (fun w6 B7 hb8 szw6 => ?_)
  replace B7 : Blk w6 w2.heap.size 33 #[.slice none 0 0] := B7
  have GB7 : w.heap.size ≤ w2.heap.size := T.size
  have Eob9_ob5 := Nat.ne_of_lt B3.lt
  have B3 := blkT B3 hb8
  have T := Tt T hb8
  refine RL.y rfl (Y.assign (v := .int .i64 0) rfl) ?_
  refine RL.nil ?_
  refine then_n ?_
  refine wp_seq ?_
  refine wp_seq ?_
  refine wp_rb rfl ?_
  refine RQ.y rfl (Y.loadN (cs := [.slice A1 d0.agents.length c1]) rfl (by kernel_rfl) (cells1 (beC (blkCell B3 (i := 0) rfl)))) ?_
  obtain ⟨y10, e11, hm⟩ := bnd hm
  refine RQ.call rfl (am1 rfl) (by kernel_rfl) (v := .bool y10) (bel (K := fun _ => True) fun w' hb' => (c_m_impl_ValidNet d0 _ e11 _ w' (stArg (R := netRd) ⟨_, _, _, rfl, ⟨SlAt.now agentRd_ok h1 (Nat.le_refl _) (Tt T hb'), r1⟩⟩))) ?_
  refine RQ.y rfl (Y.not (b' := (!y10)) rfl rfl) ?_
  refine RQ.nil ?_
  intro w12 hb13
  have szw12 := hb13.size
  have B3 := blkT B3 hb13
  have B7 := blkT B7 hb13
  have T := Tt T hb13
  refine then_n ?_
  rcases bcases y10 with c14 | c14
  · replace hm := cF c14 hm
    refine cond_t rfl (vbn rfl c14 rfl) ?_
    refine wp_seq ?_
    refine wp_rl rfl ?_
    refine RL.y rfl (Y.build0 (cells := #[.slice none 0 0])  (by kernel_rfl) (by kernel_rfl)) ?_
    refine RL.store (v := .agg #[.slice none 0 0]) (cs' := #[.slice none 0 0]) rfl rfl rfl B7 (by kernel_rfl) (by rfl) (by rfl) (by rfl) (fun w15 B16 ho17 => ?_)
    have szw15 := ho17.size
    have B3 := B3.only_ ho17 (by intro hin; simp at hin; exact Eob9_ob5 hin)
    have T := T.trans (ho17.below (by first | (simp; done) | (simp; omega)))
    refine RL.y rfl (Y.assign (v := .int .i64 1) rfl) ?_
    refine RL.nil ?_
    refine then_n ?_
    refine wp_ret ?_
    obtain rfl := Option.some.inj hm
    exact (then_r (retct (cs := [.slice none 0 0]) rfl rfl rfl rfl (by kernel_rfl) (blkCells B16) ⟨⟨_, _, rfl, OwN.nil⟩, T⟩))
  · replace hm := cT c14 hm
    refine cond_f rfl (vbn rfl c14 rfl) ?_
    refine wp_skip ?_
    refine then_n ?_
    refine wp_seq ?_
    refine wp_rl rfl ?_
    refine RL.y rfl (Y.loadN (cs := [.slice A1 d0.agents.length c1]) rfl (by kernel_rfl) (cells1 (eqC (blkCell B3 (i := 0) rfl)))) ?_
    obtain ⟨y18, e19, hm⟩ := bnd hm
    refine RL.call rfl (am1 rfl) (by kernel_rfl) ((c_m_impl_dropGarbage d0 _ e19 _ _ (stArg (R := netRd) ⟨_, _, _, rfl, ⟨SlAt.now agentRd_ok h1 (Nat.le_refl _) T, r1⟩⟩)).mono ?_)
    rintro _ w24 ⟨⟨v20, bs23, rfl, G21⟩, hb25⟩
    refine ⟨_, rfl, ?_⟩
    have szw24 := hb25.size
    have T0w24 := T.size
    have Zo22_ob5 : Ap bs23 [w.heap.size] := (Ap.new (OwN.lo_ G21) (one_hi B3.lt))
    have Zo22_ob9 : Ap bs23 [w2.heap.size] := (Ap.new (OwN.lo_ G21) (one_hi B7.lt))
    have B3 := blkT B3 hb25
    have B7 := blkT B7 hb25
    have T := Tt T hb25
    replace G21 := OwN.mono G21 T0w24
    obtain ⟨A26, c27, rfl⟩ := OwN.form G21
    have qbA26 := OwN.bound G21
    refine RL.store (v := .agg #[.slice A26 y18.agents.length c27]) (cs' := #[.slice A26 y18.agents.length c27]) rfl rfl rfl B7 (by kernel_rfl) (by rfl) (by rfl) (by rfl) (fun w28 B29 ho30 => ?_)
    have szw28 := ho30.size
    have B3 := B3.only_ ho30 (by intro hin; simp at hin; exact Eob9_ob5 hin)
    have G21 := OwN.only agentOw_ok G21 ho30 (Ap.one Zo22_ob9)
    have T := T.trans (ho30.below (by first | (simp; done) | (simp; omega)))
    refine RL.y rfl (Y.assign (v := .int .i64 0) rfl) ?_
    refine RL.nil ?_
    refine then_n ?_
    refine wp_ret ?_
    obtain rfl := Option.some.inj hm
    exact (retct (cs := [.slice A26 y18.agents.length c27]) rfl rfl rfl rfl (by kernel_rfl) (blkCells B29) ⟨⟨_, _, rfl, G21⟩, T⟩)
end
section
open Go.RowKit
set_option linter.unusedVariables false
set_option linter.unusedSimpArgs false
theorem insR_app (x : Int) : ∀ (P Q R : List Int), insR x P (Q ++ R) = insR x P Q ++ R
  | [], Q, R => by simp [insR]
  | p :: P, Q, R => by
    unfold insR
    split
    · rw [← List.cons_append]; exact insR_app x P (p :: Q) R
    · simp
theorem sort_inner (K2 : List Int → Option (List Int)) : ∀ (P Q : List Int) (x : Int) (g : Nat), P.length < g → P.length ≤ 4294967296 → m_spec_l12Sorted_L2 K2 g (P.reverse ++ x :: Q) (P.length : Int) = K2 (insR x P Q)
  | [], Q, x, g + 1, _, _ => by
    simp -implicitDefEqProofs only [m_spec_l12Sorted_L2, m_spec_l12Sorted_B2, insR]
    rw [show decide (((([] : List Int).length : Nat) : Int) > 0) = false from rfl, cond_false]
    rfl
  | p :: P, Q, x, g + 1, hg, hP => by
    simp only [List.length_cons] at hg hP
    have e1 : ((p :: P).reverse ++ x :: Q)[P.length]? = some p := by
      rw [List.getElem?_append_left (by simp), List.getElem?_reverse (by simp)]; simp
    have e2 : ((p :: P).reverse ++ x :: Q)[P.length + 1]? = some x := by
      rw [List.getElem?_append_right (by simp)]; simp
    have hk : (((p :: P).length : Nat) : Int) = ((P.length + 1 : Nat) : Int) := by simp
    have hc : ck (((P.length + 1 : Nat) : Int) - 1) = some ((P.length : Nat) : Int) := by
      rw [show ((P.length + 1 : Nat) : Int) - 1 = (P.length : Int) by omega]; exact ck_ok (by omega)
    rw [hk]
    have ih := sort_inner K2 P (p :: Q) x g (by omega) (by omega)
    simp -implicitDefEqProofs only [m_spec_l12Sorted_L2, m_spec_l12Sorted_B2]
    rw [show decide (((P.length + 1 : Nat) : Int) > 0) = true from decide_eq_true (by omega), cond_true, hc]
    simp -implicitDefEqProofs only [Option.bind_some, getI_nat e1, getI_nat e2]
    by_cases h : p > x
    · rw [decide_eq_true h, cond_true]
      rw [setI_nat]
      have e3 : (((p :: P).reverse ++ x :: Q).set (P.length + 1) p)[P.length]? = some p := by
        rw [List.getElem?_set]; rw [if_neg (by omega)]; exact e1
      simp -implicitDefEqProofs only [getI_nat e3, Option.bind_some]
      rw [setI_nat]
      have e4 : (((p :: P).reverse ++ x :: Q).set (P.length + 1) p).set P.length x = P.reverse ++ x :: (p :: Q) := by
        rw [List.reverse_cons, List.append_assoc, List.singleton_append, List.set_append_right _ _ (by simp), List.set_append_right _ _ (by simp)]
        simp
      rw [e4]
      rw [show insR x (p :: P) Q = insR x P (p :: Q) by rw [insR, if_pos h]]
      exact ih
    · rw [decide_eq_false h, cond_false]
      rw [show insR x (p :: P) Q = (p :: P).reverse ++ (x :: Q) by rw [insR, if_neg h]]
theorem p_sSorted (l : List Int) (hl : l.length ≤ 4294967296) : m_spec_l12Sorted l = some (srt l) := by
  unfold m_spec_l12Sorted m_spec_l00Own
  rw [mustP_ok (by simpa using hl), Option.bind_some, Option.bind_some, List.nil_append]
  cases hn : l.length with
  | zero =>
    have h0 : l = [] := List.eq_nil_of_length_eq_zero hn
    subst h0
    simp -implicitDefEqProofs only [m_spec_l12Sorted_L1, m_spec_l12Sorted_B1]
    rw [show decide ((1 : Int) < ((([] : List Int).length : Nat) : Int)) = false from rfl, cond_false]
    unfold m_spec_l12Sorted_A1
    rw [show srt [] = [] from List.eq_nil_of_length_eq_zero (srt_len [])]
  | succ n =>
    have h1 : insK l 1 ++ l.drop 1 = l := by
      cases l with
      | nil => simp at hn
      | cons a l => rfl
    have k1 := traj (L := fun g (s : List Int × Int) => m_spec_l12Sorted_L1 m_spec_l12Sorted_A1 g s.1 s.2) (st := fun k => (insK l (k + 1) ++ l.drop (k + 1), ((k + 1 : Nat) : Int))) (n := n) (r := some (srt l))
      (fun g k hk => by
        have hx := List.getElem?_eq_getElem (show k + 1 < l.length by omega)
        have hlen := insK_len l (k + 1) (by omega)
        have hd : l.drop (k + 1) = l[k + 1] :: l.drop (k + 2) := List.drop_eq_getElem_cons (by omega)
        have hi := sort_inner (m_spec_l12Sorted_A2 (m_spec_l12Sorted_L1 m_spec_l12Sorted_A1 g) ((k + 1 : Nat) : Int)) (insK l (k + 1)).reverse (l.drop (k + 2)) l[k + 1] (((k + 1 : Nat) : Int).toNat + 2) (by rw [List.length_reverse, hlen]; omega) (by rw [List.length_reverse, hlen]; omega)
        rw [List.length_reverse, hlen, List.reverse_reverse, ← hd] at hi
        have hg : insK l (k + 2) = insR l[k + 1] (insK l (k + 1)).reverse [] := by
          rw [insK, List.getD_eq_getElem?_getD, hx]; rfl
        have hR := insR_app l[k + 1] (insK l (k + 1)).reverse [] (l.drop (k + 2))
        rw [List.nil_append, ← hg] at hR
        simp -implicitDefEqProofs only [m_spec_l12Sorted_L1, m_spec_l12Sorted_B1]
        rw [show decide (((k + 1 : Nat) : Int) < ((insK l (k + 1) ++ l.drop (k + 1)).length : Int)) = true by rw [List.length_append, hlen, List.length_drop]; simp; omega, cond_true, hi, hR]
        unfold m_spec_l12Sorted_A2
        rw [ck_ok (by omega), Option.bind_some]
        rw [show ((k + 1 : Nat) : Int) + 1 = ((k + 1 + 1 : Nat) : Int) by omega])
      (fun g => by
        have hlen := insK_len l (n + 1) (by omega)
        have hd : l.drop (n + 1) = [] := List.drop_eq_nil_of_le (by omega)
        simp -implicitDefEqProofs only [m_spec_l12Sorted_L1, m_spec_l12Sorted_B1]
        rw [hd, List.append_nil, hlen]
        rw [dge, cond_false]
        unfold m_spec_l12Sorted_A1
        rw [← hn, insK_all]) (n + 1 + 1) (by omega)
    simp only [h1] at k1
    exact k1
theorem GL.srt {n : Nat} {l : List Int} (h : GL n l) : GL n (srt l) := ⟨(srt_perm l).nodup_iff.2 h.nd, fun a ha => h.inr a (srt_mem.1 ha)⟩
def liveL (xs : List DAgent) : List Int := srt (tr xs 0 xs.length)
theorem Good.live {xs : List DAgent} (G : Good xs) : GL xs.length (liveL xs) := GL.srt (tr_ok G (Int.le_refl 0) (by have := G.one; omega) _)
theorem Good.liveShut {xs : List DAgent} (G : Good xs) : Shut xs (liveL xs) := fun a ha p hp => srt_mem.2 (tr_closed G (Int.le_refl 0) (by have := G.one; omega) (srt_mem.1 ha) hp)
theorem p_iLive {xs : List DAgent} (G : Good xs) : m_impl_Net_liveAgents ⟨xs⟩ = some (liveL xs) := by
  have h1 := G.one
  have hl := (tr_ok G (Int.le_refl 0) (by omega) xs.length).len
  have h6 := G.len
  unfold m_impl_Net_liveAgents
  rw [p_iTraverse G (Int.le_refl 0) (by omega), Option.bind_some, mustP_ok (by omega), Option.bind_some]
  rfl
def nowN (n : Nat) (l : List Int) : Nat → List Int
  | 0 => List.replicate n 0
  | k + 1 => setI (nowN n l k) (l[k]?.getD 0) (k : Int)
theorem nowN_len (n : Nat) (l : List Int) : ∀ k, (nowN n l k).length = n
  | 0 => by simp [nowN]
  | k + 1 => by unfold nowN setI; rw [List.length_set, nowN_len n l k]
theorem nowN_at {n : Nat} {l : List Int} (h : GL n l) : ∀ k, k ≤ l.length → ∀ i (hi : i < k) (hil : i < l.length), getI (nowN n l k) l[i] = some (i : Int)
  | 0, _, i, hi, _ => by omega
  | k + 1, hk, i, hi, hil => by
    have hkl : k < l.length := hk
    have e : l[k]?.getD 0 = l[k] := by rw [List.getElem?_eq_getElem hkl]; rfl
    have hr := h.inr _ (List.getElem_mem hkl)
    have hri := h.inr _ (List.getElem_mem hil)
    unfold nowN
    rw [e, getI_setI hr.1 (by rw [nowN_len]; omega) hri.1]
    by_cases hik : i = k
    · subst hik; rw [if_pos rfl]
    · have hne : l[i] ≠ l[k] := List.pairwise_iff_getElem.1 (List.nodup_iff_pairwise_ne.1 h.nd) i k hil hkl (by omega)
      rw [if_neg hne]
      exact nowN_at h k (by omega) i (by omega) hil
theorem nowN_pos {n : Nat} {l : List Int} (h : GL n l) {a : Int} (ha : a ∈ l) : getI (nowN n l l.length) a = some (posOf l a) := by
  have hi := List.idxOf_lt_length_of_mem ha
  have := nowN_at h l.length (Nat.le_refl _) (l.idxOf a) hi hi
  rw [List.getElem_idxOf] at this
  rw [this]
  unfold posOf
  rw [if_pos ha]
theorem p_sLive {xs : List DAgent} (G : Good xs) (hs : Small xs) : m_spec_l12Live ⟨xs⟩ = some ⟨renL xs (liveL xs)⟩ := by
  have h1 := G.one
  have h6 := G.len
  have hll := (tr_ok G (Int.le_refl 0) (by omega) xs.length).len
  unfold m_spec_l12Live
  rw [p_sTraverse G (Int.le_refl 0) (by omega), Option.bind_some, p_sSorted _ (by show (tr xs 0 xs.length).length ≤ _; omega), Option.bind_some, mustP_ok (show xs.length ≤ 4294967296 by omega), Option.bind_some]
  rw [show srt (tr xs 0 xs.length) = liveL xs from rfl]
  have h := G.live
  have hsh := G.liveShut
  generalize liveL xs = l at h hsh ⊢
  have hl := h.len
  have k1 := traj (L := fun g (s : List Int × Int) => m_spec_l12Live_L1 l (m_spec_l12Live_A1 ⟨xs⟩ l) g s.1 s.2) (st := fun k => (nowN xs.length l k, (k : Int))) (n := l.length) (r := m_spec_l12Live_A1 ⟨xs⟩ l (nowN xs.length l l.length))
    (fun g k hk => by
      have hr := h.inr _ (List.getElem_mem hk)
      obtain ⟨v, hv⟩ : ∃ v, getI (nowN xs.length l k) l[k] = some v := by
        obtain ⟨j, hj⟩ := Int.eq_ofNat_of_zero_le hr.1
        rw [hj]
        exact ⟨_, getI_lt (show j < (nowN xs.length l k).length by rw [nowN_len]; omega)⟩
      have e : l[k]?.getD 0 = l[k] := by rw [List.getElem?_eq_getElem hk]; rfl
      simp -implicitDefEqProofs only [m_spec_l12Live_L1, m_spec_l12Live_B1, dlt hk, cond_true, getI_lt hk, Option.bind_some, hv]
      have e2 : nowN xs.length l (k + 1) = setI (nowN xs.length l k) l[k] (k : Int) := by rw [nowN, e]
      rw [e2]; simp only [Int.natCast_add, Int.cast_ofNat_Int])
    (fun g => by simp -implicitDefEqProofs only [m_spec_l12Live_L1, m_spec_l12Live_B1, dge, cond_false]) (l.length + 1) (Nat.lt_succ_self _)
  rw [show (List.replicate xs.length (0 : Int)) = nowN xs.length l 0 from rfl]
  refine k1.trans ?_
  unfold m_spec_l12Live_A1
  have key := (appL (L := fun g acc i => m_spec_l12Live_L2 ⟨xs⟩ l (nowN xs.length l l.length) m_spec_l12Live_A2 g i ⟨acc⟩) (d := l) (f := fun a => [renA l (agentAt xs a)]) (B := 1) (M := 4294967296) (K := fun acc => some (⟨acc⟩ : DNet))
    (fun x _ => by simp)
    (fun g k a acc ha hM => by
      have hk := lt_of_some ha
      have ham := List.mem_of_getElem? ha
      obtain ⟨a0, a1⟩ := h.inr a ham
      obtain ⟨i, rfl⟩ := Int.eq_ofNat_of_zero_le a0
      have hx := List.getElem?_eq_getElem (show i < xs.length by omega)
      have hsa := hsh _ ham
      rw [agentAt_nat hx] at hsa hM ⊢
      have hsz := small_sz hs hx
      simp -implicitDefEqProofs only [m_spec_l12Live_L2, m_spec_l12Live_B2, dlt hk, cond_true, getI_nat ha, getI_nat hx, Option.bind_some, p_ownAgent hsz]
      generalize xs[i] = x at *
      have inner := traj (L := fun g' (s : Int × List DPort) => m_spec_l12Live_L3 (nowN xs.length l l.length) (m_spec_l12Live_A3 (m_spec_l12Live_L2 ⟨xs⟩ l (nowN xs.length l l.length) m_spec_l12Live_A2 g) (k : Int) ⟨acc⟩) g' s.1 ⟨x.kind, x.level, x.value, x.data, s.2⟩)
        (st := fun j => ((j : Int), midL (renP l) x.ports j)) (n := x.ports.length) (r := m_spec_l12Live_L2 ⟨xs⟩ l (nowN xs.length l l.length) m_spec_l12Live_A2 g ((k : Int) + 1) ⟨acc ++ [renA l x]⟩)
        (fun g' j hj => by
          have hp := List.getElem?_eq_getElem hj
          have hm := midL_get (f := renP l) hp
          have hst := midL_step (f := renP l) hp
          have hln := midL_len (f := renP l) (xs := x.ports) (k := j) (by omega)
          have hn := nowN_pos h (hsa _ (List.getElem_mem hj))
          simp -implicitDefEqProofs only [m_spec_l12Live_L3, m_spec_l12Live_B3, hln, dlt hj, cond_true, getI_nat hm, Option.bind_some, hn]
          have hq : (⟨posOf l x.ports[j].agent, x.ports[j].slot⟩ : DPort) = renP l x.ports[j] := rfl
          rw [setI_nat, hq, hst]
          simp only [Int.natCast_add, Int.cast_ofNat_Int])
        (fun g' => by
          have hln := midL_len (f := renP l) (xs := x.ports) (k := x.ports.length) (by omega)
          simp -implicitDefEqProofs only [m_spec_l12Live_L3, m_spec_l12Live_B3, hln, dge, cond_false, m_spec_l12Live_A3]
          rw [mustP_ok (by simpa using hM), Option.bind_some, ck_ok (by omega), Option.bind_some, midL_end]
          rfl) (x.ports.length + 1) (Nat.lt_succ_self _)
      simpa [midL_zero] using inner)
    (fun g acc => by simp -implicitDefEqProofs only [m_spec_l12Live_L2, m_spec_l12Live_B2, dge, cond_false, m_spec_l12Live_A2])
    [] (l.length + 1) (by omega) (by simp; omega)).1
  have e : l.flatMap (fun a => [renA l (agentAt xs a)]) = renL xs l := by
    unfold renL
    rw [← flat_id (l.map _), List.flatMap_map]
  rw [e] at key
  simpa using key
noncomputable def dropGarbage (d : DNet) : DNet × Int := bif validNet d then (⟨renL d.agents (liveL d.agents)⟩, 0) else (⟨[]⟩, 1)
theorem p_sDropGarbage (d : DNet) (hs : Small d.agents) : m_spec_DropGarbage d = some (dropGarbage d) := by
  unfold m_spec_DropGarbage dropGarbage
  rw [p_ok _ hs, Option.bind_some]
  cases hv : validNet d with
  | false => rfl
  | true =>
    obtain ⟨xs⟩ := d
    rw [cond_true, cond_true, p_sLive (good hv) hs, Option.bind_some]
theorem p_iDropGarbage (d : DNet) (hs : Small d.agents) : m_impl_DropGarbage d = some (dropGarbage d) := by
  unfold m_impl_DropGarbage dropGarbage m_impl_dropGarbage
  rw [p_valid _ hs, Option.bind_some]
  cases hv : validNet d with
  | false => rfl
  | true =>
    obtain ⟨xs⟩ := d
    have G : Good xs := good hv
    rw [cond_true, cond_true, p_iLive G, Option.bind_some, p_iRenumber hs G.len G.live G.liveShut, Option.bind_some, Option.bind_some]
theorem dropGarbage_sz (d : DNet) (hs : szNet d ≤ 1048576) : szNet (dropGarbage d).1 ≤ 1048576 := by
  unfold dropGarbage
  cases hv : validNet d with
  | false => show szNet ⟨[]⟩ ≤ _; simp [szNet, szAgentS]
  | true =>
    rw [cond_true]
    have := renL_sz (good hv).live
    unfold szNet at hs ⊢
    show szAgentS (renL d.agents (liveL d.agents)) ≤ _
    omega
end
section
open Go.RowKit
set_option linter.unusedVariables false
def marksF {α : Type} (f : Nat → α) (s k n : Nat) : List α := (List.range n).map fun i => f (k + s * i)
theorem marksF_len {α : Type} (f : Nat → α) (s k n : Nat) : (marksF f s k n).length = n := by simp [marksF]
theorem marksF_succ {α : Type} (f : Nat → α) (s k n : Nat) : marksF f s k (n + 1) = marksF f s k n ++ [f (k + s * n)] := by simp [marksF, List.range_succ]
theorem marksF_get {α : Type} {f : Nat → α} {s k n i : Nat} (hi : i < n) : (marksF f s k n)[i]? = some (f (k + s * i)) := by simp [marksF, hi]
def mkPort (k : Nat) : DPort := (⟨(k : Int), (k : Int) + 1⟩ : DPort)
theorem mkPort_cells (k0 k : Nat) : [Value.int .i64 (mkPort (k0 + 2 * k)).agent, Value.int .i64 (mkPort (k0 + 2 * k)).slot] = [.int .i64 ((k0 : Int) + 2 * k), .int .i64 ((k0 : Int) + 2 * k + 1)] := by simp [mkPort]
set_option maxHeartbeats 2000000 in
theorem markPortS_c (A : Option Addr) (n c k0 : Nat) (xs : List DPort) (bs : List Nat) (w : World) (hx : OwAt portOw 2 w A n xs bs) (hnd : bs.Nodup) (hn : n ≤ 4294967296) (hk0 : k0 ≤ 4611686018427387904) :
    Calls Try.prog 76 #[.slice A n c, .int .i64 k0] w fun e w' => e = .returned (.int .i64 ((k0 + 2 * n : Nat) : Int)) ∧ OwAt portOw 2 w' A n (marksF mkPort 2 k0 n) bs ∧ Only bs w w' := by
  have lx := Lib.hid hx.len
  have hmid := Lib.hid hx.mid
  clear hx
  go_enter Try.func76, Try.ntmps76
  go_wp2
  go_loopw [1, 5] (fun kk i wr => ∃ k : Nat, k ≤ n ∧ i = .int .i64 k ∧ kk = .int .i64 ((k0 : Int) + 2 * k) ∧ Only bs w wr ∧ Hid (MidAt portOw 2 wr A (marksF mkPort 2 k0 k) (xs.drop k) bs)) (fun _ i _ => n - (intOf i).toNat)
  case atStart => exact ⟨0, by omega, rfl, by simp, Only.refl _ _, hmid.out⟩
  case round =>
    obtain ⟨k, hk, rfl, rfl, ho, hm⟩ := hrel
    by_cases hlt : k < n
    · obtain ⟨x, hxk⟩ : ∃ x, xs[k]? = some x := ⟨_, List.getElem?_eq_getElem (by have := lx.out; omega)⟩
      have hm := hm.out
      rw [drop_some hxk] at hm
      obtain ⟨b, o, cs, b1, bx, b2, rfl, hbs, hO, hc, h1, h2⟩ := hm.next
      obtain ⟨rfl, rfl⟩ := hO
      rw [marksF_len] at hc h2
      obtain ⟨hc0, hd0⟩ := hc 0 _ rfl
      obtain ⟨hc1, hd1⟩ := hc 1 _ rfl
      rw [Nat.add_zero] at hc0 hd0
      have HN := Lib.hid hbs
      have Hx := Lib.hid hxk
      have H1 := Lib.hid h1
      have H2 := Lib.hid h2
      clear hbs hxk h1 h2 hm hc
      go_wp2
      go_roundw
      case rel =>
        have hnd' := hnd
        rw [HN.out] at hnd'
        have hb : b ∉ b1 ∧ b ∉ b2 := by simpa using (List.nodup_cons.1 hnd').1
        have hlen : (marksF mkPort 2 k0 k).length = k := marksF_len _ _ _ _
        refine ⟨k + 1, by omega, by go_num, by go_num, ?_, ?_⟩
        · exact ((ho.setCell (by rw [HN.out]; simp) _).setCell (by rw [HN.out]; simp) _)
        rw [marksF_succ, HN.out]
        refine MidAt.step (o := o) rfl (ElAt.setRun portOw_ok (vs := [.int .i64 ((k0 : Int) + 2 * k), .int .i64 ((k0 : Int) + 2 * k + 1)]) (p := o + k * 2) H1.out hb.1 (Or.inr (by omega))) (cs := [.int .i64 ((k0 : Int) + 2 * k), .int .i64 ((k0 : Int) + 2 * k + 1)]) ⟨(mkPort_cells k0 k).symm, rfl⟩ ?_ ?_
        · rw [hlen]
          exact setRun_csAt (vs := [.int .i64 ((k0 : Int) + 2 * k), .int .i64 ((k0 : Int) + 2 * k + 1)]) (fun j hj => by
            match j, hj with
            | 0, _ => exact ⟨_, hc0⟩
            | 1, _ => exact ⟨_, hc1⟩
            | j + 2, hj => simp at hj; omega) (fun j hj => by
            match j, hj with
            | 0, _ => exact hd0
            | 1, _ => exact hd1
            | j + 2, hj => simp at hj; omega)
        · rw [hlen]
          exact ElAt.setRun portOw_ok (vs := [.int .i64 ((k0 : Int) + 2 * k), .int .i64 ((k0 : Int) + 2 * k + 1)]) (p := o + k * 2) H2.out hb.2 (Or.inl (by simp))
      case measure => simp [intOf]; omega
    · obtain rfl : n = k := by omega
      have hm := hm.out
      rw [List.drop_of_length_le (by have := lx.out; omega)] at hm
      have Hm := Lib.hid (hm.whole (n := n) (marksF_len _ _ _ _).symm)
      clear hm
      go_wp2
      go_ret
      exact ⟨rfl, Hm.out, ho⟩
end
end Go.Proofs.Ytebioddcnldjkaa
