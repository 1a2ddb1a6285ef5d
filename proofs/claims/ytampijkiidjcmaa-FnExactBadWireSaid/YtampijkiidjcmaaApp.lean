/- append on a slice of the call's own: its run as a fact, and how the walk takes it, in and out of a region that draws. -/
import Derived.Test.YtampijkiidjcmaaOwn
import Derived.OwnWalk
import Derived.Deep.RegionLaw
namespace Go.Proofs.Ytampijkiidjcmaa
open Go.RowKit
set_option linter.unusedVariables false
theorem step_append_run {P : Program} {ops : Array Oper} {o : Oper} {a : Act} {w : World} {K : Act → World → Prop} {Q : Exit → Act → World → Prop} {E : Prop}
    (hg : o.guard = none) (s x : Operand) (t : TypeId) (hop : o.op = Op.call { callee := Callee.builtin Builtin.append, args := #[s, x], argTypes := #[t, t] })
    (v1 v2 v' : Value) (w' : World) (hs : a.eval s = v1) (hx : a.eval x = v2) (hrun : (Builtin.append_ #[t, t] o.type #[v1, v2]).run P w = .ok v' w') (hK : K (a.put o.dst v') w') :
    if Region.wanted o (yielded ops a.tmps) = true then Oper.wp P o a w K Q else E := by
  have hw : Region.wanted o (yielded ops a.tmps) = true := by simp [Region.wanted, hg]
  rw [if_pos hw]
  unfold Oper.wp
  simp [execOp, hop, resolve, invoke, builtin, hs, hx, hrun, Result.andThen]
  exact hK
theorem wpList_append_run {P : Program} {ops : Array Oper} {rest : List Oper} {o : Oper} {a : Act} {w : World} {Q : Exit → Act → World → Prop}
    (hg : o.guard = none) (s x : Operand) (t : TypeId) (hop : o.op = Op.call { callee := Callee.builtin Builtin.append, args := #[s, x], argTypes := #[t, t] })
    (v1 v2 v' : Value) (w' : World) (hs : a.eval s = v1) (hx : a.eval x = v2) (hrun : (Builtin.append_ #[t, t] o.type #[v1, v2]).run P w = .ok v' w') (h : wpList P ops Q rest (a.put o.dst v') w') :
    wpList P ops Q (o :: rest) a w :=
  wpList_plain hg fun K hK => by
    unfold Oper.wp
    simp [execOp, hop, resolve, invoke, builtin, hs, hx, hrun, Result.andThen]
    exact hK _ _ h
/-- What an append of m elements to a row of the call's own comes to, in a world that is the old one with new blocks and draws. -/
theorem append_row {P : Program} {t e : TypeId} {z : Value} {sz bb : Nat} (ht : P.underlying t = some (.slice e)) (hinfo : (P.info? e).map (fun i => (i.zero, i.size, i.bytes)) = some (some z, sz, bb)) (hzs : z.cells.size = sz) (hsz : 0 < sz) (hbb : bb ≤ 256)
    {base : Nat} {v : Value} {xs : List Value} {w : World} {k : Nat} (hown : w.ownsRow base e sz v k xs) (hb : base ≤ w.heap.size) (ad : Addr) (m c : Nat) (news : List Value) (hl : news.length = m * sz)
    (hnews : ∀ j u, news[j]? = some u → w.cell? (ad.add j) = some u) (h1 : ∀ u ∈ news, u.oneCell' = true) (hk : k + m ≤ 4294967296) (ty : TypeId) :
    ∃ v' w', (Builtin.append_ #[t, t] ty #[v, .slice (some ad) m c]).run P w = .ok v' w' ∧ w'.ownsRow base e sz v' (k + m) (xs ++ news) ∧ w.grownBy w' v.ownBlock ∧ ∀ B W, (∀ g, v.ownBlock = some g → B ≤ g) → B ≤ w.heap.size → Below B W w → Below B W w' := by
  obtain ⟨i0, hi, hz0, hz1, hz2⟩ := info_parts hinfo
  have hby : (k + m) * bb ≤ 140737488355328 := Nat.le_trans (Nat.mul_le_mul hk hbb) (by decide)
  obtain ⟨v', w', h1, h2, h3, _⟩ := run_append_own (w := w) base t ty e i0 z sz bb ht hi hz0 hz1 hz2 hzs hsz v k xs hown ad m c news hl hnews h1 (by unfold maxLen; omega) hby hb
  exact ⟨v', w', h1, h2, h3, fun B W hg hB hW => hW.grown h3 hB (fun g hg' => hg g hg')⟩
def ivals (l : List Int) : List Value := l.map (Value.int .i64)
theorem append_int {P : Program} {t e : TypeId} (ht : P.underlying t = some (.slice e)) (hinfo : (P.info? e).map (fun i => (i.zero, i.size, i.bytes)) = some (some (.int .i64 0), 1, 8))
    {base : Nat} {v : Value} {xs : List Int} {w : World} {k : Nat} (hown : w.ownsRow base e 1 v k (ivals xs)) (hk : k + 1 ≤ 4294967296) (hb : base ≤ w.heap.size) (s : Int) (ty : TypeId) (q : Nat) :
    ∃ v' w', (Builtin.append_ #[t, t] ty #[v, .slice (some ⟨w.heap.size, 0, none⟩) 1 1]).run P ((w.alloc (.cells #[.int .i64 s] e)).drewN q) = .ok v' w' ∧ w'.ownsRow base e 1 v' (k + 1) (ivals (xs ++ [s])) ∧ ∀ W, Below base W w → Below base W w' := by
  have hsize : ((w.alloc (.cells #[.int .i64 s] e)).drewN q).heap.size = w.heap.size + 1 := by show (w.alloc _).heap.size = _; simp
  obtain ⟨v', w', h1, h2, h3, h4⟩ := append_row (w := (w.alloc (.cells #[.int .i64 s] e)).drewN q) ht hinfo rfl (by decide) (by decide) (hown.alloc _) (by rw [hsize]; omega) ⟨w.heap.size, 0, none⟩ 1 1 [.int .i64 s] rfl
    (fun j u hj => by
      cases j with
      | zero =>
        have : Value.int .i64 s = u := by simpa using hj
        subst this
        show (w.alloc _).cell? _ = _
        simp [Addr.add]
      | succ j => simp at hj) (fun u hu => by simp at hu; subst hu; rfl) hk ty
  refine ⟨v', w', h1, by simpa [ivals] using h2, fun W hW => h4 base W (fun g hg => (hown.lt g hg).1) (by rw [hsize]; omega) ?_⟩
  exact (hW.alloc hb _ : Below base W (w.alloc _)).trans ⟨rfl, rfl, rfl, Nat.le_refl _, fun _ _ => rfl⟩
theorem append_int_drew {P : Program} {t e : TypeId} (ht : P.underlying t = some (.slice e)) (hinfo : (P.info? e).map (fun i => (i.zero, i.size, i.bytes)) = some (some (.int .i64 0), 1, 8))
    {base : Nat} {v : Value} {xs : List Int} {w : World} {k : Nat} (hown : w.ownsRow base e 1 v k (ivals xs)) (hk : k + 1 ≤ 4294967296) (hb : base ≤ w.heap.size) (s : Int) (ty : TypeId) :
    ∃ v' w', (Builtin.append_ #[t, t] ty #[v, .slice (some ⟨w.heap.size, 0, none⟩) 1 1]).run P (w.alloc (.cells #[.int .i64 s] e)).drew = .ok v' w' ∧ w'.ownsRow base e 1 v' (k + 1) (ivals (xs ++ [s])) ∧ ∀ W, Below base W w → Below base W w' :=
  append_int ht hinfo hown hk hb s ty 1
theorem append_int_plain {P : Program} {t e : TypeId} (ht : P.underlying t = some (.slice e)) (hinfo : (P.info? e).map (fun i => (i.zero, i.size, i.bytes)) = some (some (.int .i64 0), 1, 8))
    {base : Nat} {v : Value} {xs : List Int} {w : World} {k : Nat} (hown : w.ownsRow base e 1 v k (ivals xs)) (hk : k + 1 ≤ 4294967296) (hb : base ≤ w.heap.size) (s : Int) (ty : TypeId) :
    ∃ v' w', (Builtin.append_ #[t, t] ty #[v, .slice (some ⟨w.heap.size, 0, none⟩) 1 1]).run P (w.alloc (.cells #[.int .i64 s] e)) = .ok v' w' ∧ w'.ownsRow base e 1 v' (k + 1) (ivals (xs ++ [s])) ∧ ∀ W, Below base W w → Below base W w' :=
  append_int ht hinfo hown hk hb s ty 0
/-- A row of numbers is a slice of the call's own. -/
theorem ownsRow_ints {w : World} {base : Nat} {e : TypeId} {v : Value} {n : Nat} {xs : List Int} (h : w.ownsRow base e 1 v n (ivals xs)) : ∃ A c bs, v = .slice A n c ∧ OwAt intOw 1 w A n xs bs ∧ bs.Nodup ∧ (∀ b ∈ bs, base ≤ b ∧ b < w.heap.size) ∧ n ≤ c ∧ c ≤ maxLen := by
  have hlen : n = xs.length := by have := h.1; simp [ivals] at this; omega
  rcases h.2 with ⟨rfl, rfl⟩ | ⟨g, cap, cur, rfl, hg, hh, h1, h2, h3, h4⟩
  · have : xs = [] := List.eq_nil_of_length_eq_zero hlen.symm
    subst this
    exact ⟨none, 0, [], rfl, ⟨rfl, .inl ⟨rfl, rfl⟩⟩, List.nodup_nil, fun b hb => by simp at hb, Nat.le_refl _, Nat.zero_le _⟩
  · have hblk : Blk w g e cur := hh
    refine ⟨some ⟨g, 0, none⟩, cap, [g], rfl, ⟨hlen, .inr ⟨g, 0, [], rfl, rfl, ?_⟩⟩, by simp, fun b hb => by simp at hb; subst hb; exact ⟨hg, hblk.lt⟩, h1, h2⟩
    have key : ∀ (l : List Int) (o : Nat), (∀ j x, l[j]? = some x → cur[o + j]? = some (.int .i64 x)) → ElAt intOw 1 w g o l [] := by
      intro l
      induction l with
      | nil => intro o _; rfl
      | cons x l ih =>
        intro o hl
        refine ⟨[.int .i64 x], [], [], ⟨rfl, rfl⟩, hblk.csAt (fun j v hj => ?_), rfl, ih (o + 1) (fun j y hy => ?_)⟩
        · cases j with
          | zero => have : Value.int .i64 x = v := by simpa using hj
                    subst this; exact hl 0 x rfl
          | succ j => simp at hj
        · have := hl (j + 1) y (by simpa using hy)
          rwa [show o + (j + 1) = o + 1 + j by omega] at this
    refine key xs 0 (fun j x hx => ?_)
    have hj : (ivals xs)[j]? = some (.int .i64 x) := by simp [ivals, hx]
    rw [← h4, List.getElem?_take] at hj
    split at hj
    · simpa using hj
    · cases hj
/-- .. and the other way. -/
theorem ownsRow_of_blk {w : World} {base e g cap n : Nat} {cur : Array Value} {xs : List Value} (hg : base ≤ g) (h : Blk w g e cur) (h1 : n ≤ cap) (h2 : cap ≤ maxLen) (h3 : cur.size = cap * 1) (h4 : cur.toList.take (n * 1) = xs) (hl : xs.length = n * 1) :
    w.ownsRow base e 1 (.slice (some ⟨g, 0, none⟩) n cap) n xs := ⟨hl, .inr ⟨g, cap, cur, rfl, hg, h, h1, h2, h3, h4⟩⟩
theorem row_form {w : World} {base size n : Nat} {e : TypeId} {v : Value} {xs : List Value} (h : w.ownsRow base e size v n xs) (hn : 0 < n) : ∃ g cap, v = .slice (some ⟨g, 0, none⟩) n cap := by
  rcases h.2 with ⟨_, h0⟩ | ⟨g, cap, _, hv, _⟩
  · omega
  · exact ⟨g, cap, hv⟩
/-- A result that is a list of numbers and a code. -/
def RetInts (B : Nat) (w' : World) (xs : List Int) (k : Int) (e : Ending) : Prop :=
  ∃ A n c bs, e = .returned (.tuple #[.slice A n c, .int .i64 k]) ∧ OwAt intOw 1 w' A n xs bs ∧ bs.Nodup ∧ (∀ b ∈ bs, B ≤ b ∧ b < w'.heap.size) ∧ n ≤ c ∧ c ≤ maxLen
theorem RetInts.nil_ {B : Nat} {w' : World} {k : Int} : RetInts B w' [] k (.returned (.tuple #[.slice none 0 0, .int .i64 k])) :=
  ⟨none, 0, 0, [], rfl, ⟨rfl, .inl ⟨rfl, rfl⟩⟩, List.nodup_nil, fun b hb => by simp at hb, Nat.le_refl _, Nat.zero_le _⟩
theorem RetInts.row {B : Nat} {w' : World} {v : Value} {n : Nat} {xs : List Int} {e : TypeId} {k : Int} (h : w'.ownsRow B e 1 v n (ivals xs)) : RetInts B w' xs k (.returned (.tuple #[v, .int .i64 k])) := by
  obtain ⟨A, c, bs, rfl, h1, h2, h3, h4⟩ := ownsRow_ints h
  exact ⟨A, n, c, bs, rfl, h1, h2, h3, h4⟩
end Go.Proofs.Ytampijkiidjcmaa
