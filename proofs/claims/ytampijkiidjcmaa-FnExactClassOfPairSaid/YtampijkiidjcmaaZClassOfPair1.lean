/- Lemmas of the proof of ClassOfPair, part 1. No condition. -/
import Derived.BigQuiet
import Derived.Deep.Draws
import Derived.Deep.Fields
import Derived.Deep.LoopGhost
import Derived.Deep.Quiet
import Derived.Deep.QuietTactic
import Derived.Deep.RegionHeld3
import Derived.Deep.RegionLaw
import Derived.Deep.RegionWith
import Derived.Deep.Slices
import Derived.Laws.AppendOwnNone
import Derived.Laws.Cells
import Derived.Laws.Entries
import Derived.Laws.MakeOwn
import Derived.Laws.Rows
import Derived.Laws.StructEq
import Derived.Lib.Hide
import Derived.Maps.OwnSet
import Derived.Maps.Views
import Derived.OpenShut
import Derived.OrdersHeld
import Derived.OwnWalk
import Derived.ProofKit
import Derived.StillTail
import Derived.Test.YtampijkiidjcmaaRows
import Derived.WalkKit
namespace Go.Proofs.Ytampijkiidjcmaa
section
open Go.RowKit
def inR (n lo hi : Int) : Bool := decide (lo ≤ n) && decide (n ≤ hi)
def isKind (k : Int) : Bool := decide (1 ≤ k) && decide (k ≤ 12)
def isLevel (k : Int) : Bool := decide (0 ≤ k) && decide (k ≤ 8)
def hasLevel (k : Int) : Bool := decide (2 ≤ k) && decide (k ≤ 12) && decide (k ≠ 5) && decide (k ≠ 6)
def allowed (k l : Int) : Bool := isKind k && (decide (l = 0) || (hasLevel k && isLevel l))
def consumer (k : Int) : Bool := decide (k = 3) || decide (k = 7) || decide (k = 8) || decide (k = 10) || decide (k = 11)
theorem retB {b c : Bool} (h : b = c) : Ending.returned (.bool b) = .returned (.bool c) := by rw [h]
theorem retI {k : IntKind} {a b : Int} (h : a = b) : Ending.returned (.int k a) = .returned (.int k b) := by rw [h]
def dup (a k l : Int) : Bool := isLevel a && allowed k l && (decide (k = 6) || decide (k = 12) || (hasLevel k && decide (a < l)))
/-- The class of a pair in the order of the table; 0 if there is none. -/
def rule (ka la kb lb : Int) : Int :=
  if ka = 5 then 4
  else if ka = 4 then (if kb = 4 ∧ la = lb then 2 else if dup la kb lb = true then 3 else 0)
  else if ka = 2 then (if kb = 3 ∧ la = lb then 1 else 0)
  else if ka = 6 then (if kb = 7 ∨ kb = 8 then 5 else if kb = 11 then 6 else 0)
  else if ka = 9 then (if kb = 10 then 6 else 0)
  else if ka = 12 then (if consumer kb = true then 7 else 0)
  else 0
def mayPair (ka la kb lb : Int) : Bool := allowed ka la && allowed kb lb && decide (ka ≠ 1) && decide (kb ≠ 1)
def pairClass (ka la kb lb : Int) : Int :=
  if mayPair ka la kb lb = true then (if rule ka la kb lb ≠ 0 then rule ka la kb lb else if rule kb lb ka la ≠ 0 then rule kb lb ka la else 8) else 0
def pairFirst (ka la kb lb : Int) : Int :=
  if mayPair ka la kb lb = true then (if rule ka la kb lb ≠ 0 then 1 else if rule kb lb ka la ≠ 0 then 2 else 0) else 0
def portsOf (k f : Int) : Int :=
  if k = 9 then (if 0 ≤ f ∧ f ≤ 3 then f + 1 else 0)
  else if f ≠ 0 then 0
  else if k = 1 ∨ k = 5 ∨ k = 6 ∨ k = 12 then 1
  else if k = 8 ∨ k = 10 ∨ k = 11 then 2
  else if k = 2 ∨ k = 3 ∨ k = 4 ∨ k = 7 then 3 else 0
theorem retI2 {k k' : IntKind} {a b : Int} {c d : Int} (h : (a, c) = (b, d)) : Ending.returned (.tuple #[.int k a, .int k' c]) = .returned (.tuple #[.int k b, .int k' d]) := by
  injection h with h1 h2; rw [h1, h2]
end
section
open Go.RowKit
set_option linter.unusedVariables false
set_option linter.unusedSimpArgs false
abbrev Rd (α : Type) := World → Nat → List Value → α → Prop
/-- What every reading meets: it is of 'sz' cells; it stays while the cells below B stay; it may look further up. -/
structure RdOk {α : Type} (R : Rd α) (sz : Nat) : Prop where
  len : ∀ {w B cs x}, R w B cs x → cs.length = sz
  keep : ∀ {w w' : World} {B cs x}, (∀ p : Addr, p.block < B → w'.cell? p = w.cell? p) → R w B cs x → R w' B cs x
  more : ∀ {w B B' cs x}, B ≤ B' → R w B cs x → R w B' cs x
/-- The elements of a slice at address A, n of them, each of 'sz' cells. -/
def SlAt {α : Type} (R : Rd α) (sz : Nat) (w : World) (B : Nat) (A : Option Addr) (n : Nat) (xs : List α) : Prop :=
  n = xs.length ∧ (0 < n → ∃ b off, A = some ⟨b, off, none⟩ ∧ b < B ∧
    ∀ i x, xs[i]? = some x → ∃ cs, R w B cs x ∧ ∀ j v, cs[j]? = some v → w.cell? ⟨b, off + i * sz + j, none⟩ = some v)
/-- A slice as one cell. -/
def slRd {α : Type} (R : Rd α) (sz : Nat) : Rd (List α) := fun w B cs xs => ∃ A n c, cs = [.slice A n c] ∧ SlAt R sz w B A n xs ∧ n ≤ c ∧ c ≤ maxLen
def intRd : Rd Int := fun _ _ cs n => cs = [.int .i64 n]
def boolRd : Rd Bool := fun _ _ cs b => cs = [.bool b]
theorem intRd_ok : RdOk intRd 1 := ⟨fun h => by cases h; rfl, fun _ h => h, fun _ h => h⟩
section
variable {α : Type} {R : Rd α} {sz : Nat} {w w' : World} {B B' n : Nat} {A : Option Addr} {xs : List α}
theorem SlAt.len (h : SlAt R sz w B A n xs) : n = xs.length := h.1
theorem SlAt.none_ : SlAt R sz w B A 0 [] := ⟨rfl, fun h => absurd h (by omega)⟩
theorem SlAt.keep (ok : RdOk R sz) (hk : ∀ p : Addr, p.block < B → w'.cell? p = w.cell? p) (h : SlAt R sz w B A n xs) : SlAt R sz w' B A n xs :=
  ⟨h.1, fun hn => by
    obtain ⟨b, off, e, hb, hc⟩ := h.2 hn
    exact ⟨b, off, e, hb, fun i x hx => by
      obtain ⟨cs, hR, hv⟩ := hc i x hx
      exact ⟨cs, ok.keep hk hR, fun j v hj => (hk _ hb).trans (hv j v hj)⟩⟩⟩
theorem SlAt.more (ok : RdOk R sz) (hB : B ≤ B') (h : SlAt R sz w B A n xs) : SlAt R sz w B' A n xs :=
  ⟨h.1, fun hn => by
    obtain ⟨b, off, e, hb, hc⟩ := h.2 hn
    exact ⟨b, off, e, by omega, fun i x hx => by
      obtain ⟨cs, hR, hv⟩ := hc i x hx
      exact ⟨cs, ok.more hB hR, hv⟩⟩⟩
theorem SlAt.below (ok : RdOk R sz) (h : SlAt R sz w B A n xs) (hb : Below B w w') : SlAt R sz w' B A n xs := h.keep ok fun _ hp => hb.cell hp
theorem SlAt.at_ (h : SlAt R sz w B A n xs) {k : Nat} (hk : k < n) : ∃ b off x cs, A = some ⟨b, off, none⟩ ∧ b < B ∧ xs[k]? = some x ∧ R w B cs x ∧ ∀ j v, cs[j]? = some v → w.cell? ⟨b, off + k * sz + j, none⟩ = some v := by
  obtain ⟨b, off, e, hb, hc⟩ := h.2 (by omega)
  have hl : k < xs.length := by have := h.1; omega
  obtain ⟨cs, hR, hv⟩ := hc k xs[k] (List.getElem?_eq_getElem hl)
  exact ⟨b, off, xs[k], cs, e, hb, List.getElem?_eq_getElem hl, hR, hv⟩
end
theorem SlAt.int {w : World} {B n : Nat} {A : Option Addr} {xs : List Int} (h : SlAt intRd 1 w B A n xs) {k : Nat} (hk : k < n) :
    ∃ b off x, A = some ⟨b, off, none⟩ ∧ b < B ∧ xs[k]? = some x ∧ w.cell? ⟨b, off + k, none⟩ = some (.int .i64 x) := by
  obtain ⟨b, off, x, cs, e, hb, hx, rfl, hc⟩ := h.at_ hk
  exact ⟨b, off, x, e, hb, hx, by simpa using hc 0 _ rfl⟩
theorem SlAt.bool {w : World} {B n : Nat} {A : Option Addr} {xs : List Bool} (h : SlAt boolRd 1 w B A n xs) {k : Nat} (hk : k < n) :
    ∃ b off x, A = some ⟨b, off, none⟩ ∧ b < B ∧ xs[k]? = some x ∧ w.cell? ⟨b, off + k, none⟩ = some (.bool x) := by
  obtain ⟨b, off, x, cs, e, hb, hx, rfl, hc⟩ := h.at_ hk
  exact ⟨b, off, x, e, hb, hx, by simpa using hc 0 _ rfl⟩
/-- What is left of a bound behind a list of n; -1: too long. -/
def szL (left : Int) (n : Nat) : Int := if left - n < 0 then -1 else left - n
theorem szL_neg {left : Int} {n : Nat} (h : left - n < 0) : szL left n = -1 := if_pos h
theorem szL_pos {left : Int} {n : Nat} (h : ¬ left - n < 0) : szL left n = left - n := if_neg h
theorem take_succ_some {α : Type} {l : List α} {k : Nat} {x : α} (h : l[k]? = some x) : l.take (k + 1) = l.take k ++ [x] := by
  rw [List.take_add_one, h]; rfl
theorem lt_of_some {α : Type} {l : List α} {k : Nat} {x : α} (h : l[k]? = some x) : k < l.length := (List.getElem?_eq_some_iff.1 h).1
def eqL {α : Type} [DecidableEq α] (a b : List α) : Bool := decide (a = b)
theorem eqL_step {α : Type} {xs ys : List α} {k : Nat} {x y : α} (hx : xs[k]? = some x) (hy : ys[k]? = some y) (h : xs.take k = ys.take k) (e : x = y) : xs.take (k + 1) = ys.take (k + 1) := by
  rw [take_succ_some hx, take_succ_some hy, h, e]
theorem eqL_no {α : Type} [DecidableEq α] {xs ys : List α} {k : Nat} {x y : α} (hx : xs[k]? = some x) (hy : ys[k]? = some y) (e : x ≠ y) : eqL xs ys = false := by
  unfold eqL
  refine decide_eq_false fun he => e ?_
  subst he
  rw [hx] at hy
  injection hy
theorem eqL_len {α : Type} [DecidableEq α] {xs ys : List α} (h : xs.length ≠ ys.length) : eqL xs ys = false := decide_eq_false fun he => h (by rw [he])
theorem eqL_yes {α : Type} [DecidableEq α] {xs ys : List α} {k : Nat} (h : xs.take k = ys.take k) (h1 : xs.length ≤ k) (h2 : ys.length ≤ k) : eqL xs ys = true := by
  rw [List.take_of_length_le h1, List.take_of_length_le h2] at h
  exact decide_eq_true h
end
section
open Go.RowKit
set_option linter.unusedVariables false
set_option linter.unusedSimpArgs false
abbrev Ow (α : Type) := World → List Value → α → List Nat → Prop
structure OwOk {α : Type} (O : Ow α) (sz : Nat) : Prop where
  len : ∀ {w cs x bs}, O w cs x bs → cs.length = sz
  keep : ∀ {w w' : World} {cs x bs}, (∀ b ∈ bs, w'.heap[b]? = w.heap[b]?) → O w cs x bs → O w' cs x bs
/-- The cells cs lie at b, o and may be written. -/
def CsAt (w : World) (b o : Nat) (cs : List Value) : Prop := ∀ j v, cs[j]? = some v → w.cell? ⟨b, o + j, none⟩ = some v ∧ w.frozen? ⟨b, o + j, none⟩ = false
def ElAt {α : Type} (O : Ow α) (sz : Nat) (w : World) (b : Nat) : Nat → List α → List Nat → Prop
  | _, [], bs => bs = []
  | o, x :: xs, bs => ∃ cs b1 b2, O w cs x b1 ∧ CsAt w b o cs ∧ bs = b1 ++ b2 ∧ ElAt O sz w b (o + sz) xs b2
def OwAt {α : Type} (O : Ow α) (sz : Nat) (w : World) (A : Option Addr) (n : Nat) (xs : List α) (bs : List Nat) : Prop :=
  n = xs.length ∧ ((xs = [] ∧ bs = []) ∨ ∃ b o b2, A = some ⟨b, o, none⟩ ∧ bs = b :: b2 ∧ ElAt O sz w b o xs b2)
def intOw : Ow Int := fun _ cs n bs => cs = [.int .i64 n] ∧ bs = []
theorem intOw_ok : OwOk intOw 1 := ⟨fun h => by rw [h.1]; rfl, fun _ h => h⟩
def Gives {α : Type} (O : Ow α) (R : Rd α) (B : Nat) : Prop := ∀ w cs x bs, O w cs x bs → (∀ k ∈ bs, k < B) → R w B cs x
/-- Only the blocks of bs may have turned. -/
structure Only (bs : List Nat) (w w' : World) : Prop where
  os : w'.os = w.os
  tape : w'.tape = w.tape
  output : w'.output = w.output
  size : w'.heap.size = w.heap.size
  block : ∀ k, k ∉ bs → w'.heap[k]? = w.heap[k]?
section
variable {w w' w'' : World} {bs bs' : List Nat}
theorem Only.refl (bs : List Nat) (w : World) : Only bs w w := ⟨rfl, rfl, rfl, rfl, fun _ _ => rfl⟩
theorem Only.trans (h : Only bs w w') (h' : Only bs w' w'') : Only bs w w'' :=
  ⟨h'.os.trans h.os, h'.tape.trans h.tape, h'.output.trans h.output, h'.size.trans h.size, fun k hk => (h'.block k hk).trans (h.block k hk)⟩
theorem Only.mono (h : Only bs w w') (hb : ∀ b ∈ bs, b ∈ bs') : Only bs' w w' := ⟨h.os, h.tape, h.output, h.size, fun k hk => h.block k (fun hin => hk (hb k hin))⟩
theorem Only.setCell (h : Only bs w w') {p : Addr} (hp : p.block ∈ bs) (u : Value) : Only bs w (w'.setCell p u) :=
  h.trans ⟨rfl, rfl, rfl, by simp [World.setCell], fun k hk => Below.heap_setCell _ _ _ _ (fun e => hk (by rw [e]; exact hp))⟩
theorem Only.drew (h : Only bs w w') : Only bs w w'.drew := ⟨h.os, h.tape, h.output, h.size, h.block⟩
theorem Only.drewN (h : Only bs w w') (n : Nat) : Only bs w (w'.drewN n) := ⟨h.os, h.tape, h.output, h.size, h.block⟩
theorem Only.below {B : Nat} (h : Only bs w w') (hb : ∀ b ∈ bs, B ≤ b) : Below B w w' :=
  ⟨h.os, h.tape, h.output, by rw [h.size]; exact Nat.le_refl _, fun k hk => h.block k (fun hin => by have := hb k hin; omega)⟩
theorem CsAt.keep {b o : Nat} {cs : List Value} (h : CsAt w b o cs) (hb : w'.heap[b]? = w.heap[b]?) : CsAt w' b o cs := fun j v hj =>
  ⟨(World.cell?_of_block (w := w) (a := ⟨b, o + j, none⟩) hb).trans (h j v hj).1, (World.frozen?_of_block (w := w) (a := ⟨b, o + j, none⟩) hb).trans (h j v hj).2⟩
end
section
variable {α : Type} {O : Ow α} {sz : Nat} {w w' : World} {b o n : Nat} {A : Option Addr} {xs ys : List α} {bs : List Nat}
theorem ElAt.keep (ok : OwOk O sz) : ∀ {xs : List α} {o : Nat} {bs : List Nat}, (w'.heap[b]? = w.heap[b]?) → (∀ k ∈ bs, w'.heap[k]? = w.heap[k]?) → ElAt O sz w b o xs bs → ElAt O sz w' b o xs bs
  | [], _, _, _, _, h => h
  | x :: xs, o, _, hb, hbs, ⟨cs, b1, b2, hO, hc, e, hr⟩ => by
    subst e
    exact ⟨cs, b1, b2, ok.keep (fun k hk => hbs k (by simp [hk])) hO, hc.keep hb, rfl, ElAt.keep ok hb (fun k hk => hbs k (by simp [hk])) hr⟩
theorem ElAt.append : ∀ {xs ys : List α} {o : Nat} {b1 b2 : List Nat}, ElAt O sz w b o xs b1 → ElAt O sz w b (o + xs.length * sz) ys b2 → ElAt O sz w b o (xs ++ ys) (b1 ++ b2)
  | [], ys, o, b1, b2, h1, h2 => by
    have h1 : b1 = [] := h1
    subst h1
    simpa using h2
  | x :: xs, ys, o, b1, b2, ⟨cs, c1, c2, hO, hc, e, hr⟩, h2 => by
    subst e
    refine ⟨cs, c1, c2 ++ b2, hO, hc, by simp, ElAt.append hr ?_⟩
    have e : o + sz + xs.length * sz = o + (x :: xs).length * sz := by simp [Nat.add_mul]; omega
    rw [e]
    exact h2
theorem ElAt.split : ∀ {xs ys : List α} {o : Nat} {bs : List Nat}, ElAt O sz w b o (xs ++ ys) bs → ∃ b1 b2, bs = b1 ++ b2 ∧ ElAt O sz w b o xs b1 ∧ ElAt O sz w b (o + xs.length * sz) ys b2
  | [], ys, o, bs, h => ⟨[], bs, rfl, rfl, by simpa using h⟩
  | x :: xs, ys, o, bs, ⟨cs, c1, c2, hO, hc, e, hr⟩ => by
    obtain ⟨b1, b2, e2, h1, h2⟩ := ElAt.split hr
    subst e2
    subst e
    refine ⟨c1 ++ b1, b2, by simp, ⟨cs, c1, b1, hO, hc, rfl, h1⟩, ?_⟩
    have e : o + sz + xs.length * sz = o + (x :: xs).length * sz := by simp [Nat.add_mul]; omega
    rw [e] at h2
    exact h2
theorem ElAt.one {x : α} {cs : List Value} {b1 : List Nat} (hO : O w cs x b1) (hc : CsAt w b o cs) : ElAt O sz w b o [x] b1 := ⟨cs, b1, [], hO, hc, by simp, rfl⟩
/-- It reads: elements by their index. -/
theorem ElAt.reads {R : Rd α} {B : Nat} (hR : Gives O R B) : ∀ {xs : List α} {o : Nat} {bs : List Nat}, ElAt O sz w b o xs bs → (∀ k ∈ bs, k < B) →
    ∀ i x, xs[i]? = some x → ∃ cs, R w B cs x ∧ ∀ j v, cs[j]? = some v → w.cell? ⟨b, o + i * sz + j, none⟩ = some v
  | [], _, _, _, _, i, x, hx => by simp at hx
  | y :: ys, o, _, ⟨cs, b1, b2, hO, hc, e, hr⟩, hlt, i, x, hx => by
    subst e
    cases i with
    | zero =>
      have hx : y = x := by simpa using hx
      subst hx
      exact ⟨cs, hR _ _ _ _ hO (fun k hk => hlt k (by simp [hk])), fun j v hj => by simpa using (hc j v hj).1⟩
    | succ i =>
      obtain ⟨cs', h1, h2⟩ := ElAt.reads hR hr (fun k hk => hlt k (by simp [hk])) i x (by simpa using hx)
      refine ⟨cs', h1, fun j v hj => ?_⟩
      have := h2 j v hj
      have e : o + sz + i * sz + j = o + (i + 1) * sz + j := by simp [Nat.add_mul]; omega
      rw [e] at this
      exact this
theorem OwAt.len (h : OwAt O sz w A n xs bs) : n = xs.length := h.1
theorem OwAt.keep (ok : OwOk O sz) (hb : ∀ k ∈ bs, w'.heap[k]? = w.heap[k]?) (h : OwAt O sz w A n xs bs) : OwAt O sz w' A n xs bs := by
  refine ⟨h.1, ?_⟩
  rcases h.2 with h2 | ⟨b, o, b2, e, e2, h2⟩
  · exact .inl h2
  · subst e2
    exact .inr ⟨b, o, b2, e, rfl, h2.keep ok (hb b (by simp)) (fun k hk => hb k (by simp [hk]))⟩
theorem OwAt.reads {R : Rd α} {B : Nat} (hR : Gives O R B) (h : OwAt O sz w A n xs bs) (hlt : ∀ k ∈ bs, k < B) : SlAt R sz w B A n xs := by
  refine ⟨h.1, fun hn => ?_⟩
  rcases h.2 with ⟨e, _⟩ | ⟨b, o, b2, e, e2, h2⟩
  · have := h.1; rw [e] at this; simp at this; omega
  · subst e2
    exact ⟨b, o, e, hlt b (by simp), h2.reads hR (fun k hk => hlt k (by simp [hk]))⟩
theorem intOw_reads (B : Nat) : Gives intOw intRd B := fun _ _ _ _ h _ => h.1
end
def Blk (w : World) (g : Nat) (t : TypeId) (cs : Array Value) : Prop := w.heap[g]? = some (.cells cs t (0, 0))
section
variable {w w' : World} {g : Nat} {t : TypeId} {cs : Array Value}
theorem Blk.lt (h : Blk w g t cs) : g < w.heap.size := by
  rcases Nat.lt_or_ge g w.heap.size with hlt | hge
  · exact hlt
  · unfold Blk at h; rw [Array.getElem?_eq_none hge] at h; cases h
theorem Blk.cell (h : Blk w g t cs) (i : Nat) : w.cell? ⟨g, i, none⟩ = cs[i]? := cell_of_row w g i cs t (0, 0) h
theorem Blk.some_ (h : Blk w g t cs) {i : Nat} (hi : i < cs.size) : ∃ v, w.cell? ⟨g, i, none⟩ = some v := ⟨cs[i], by rw [h.cell]; simp [hi]⟩
theorem Blk.frozen (h : Blk w g t cs) (i : Nat) : w.frozen? ⟨g, i, none⟩ = false := by
  unfold Blk at h
  simp [World.frozen?, h]
theorem Blk.new (w : World) (t : TypeId) (cs : Array Value) : Blk (w.alloc (.cells cs t)) w.heap.size t cs := heap_alloc_new w _
theorem Blk.alloc (h : Blk w g t cs) (o : Obj) : Blk (w.alloc o) g t cs := (Below.heap_alloc w o g h.lt).trans h
theorem Blk.drew (h : Blk w g t cs) : Blk w.drew g t cs := h
theorem Blk.drewN (h : Blk w g t cs) (n : Nat) : Blk (w.drewN n) g t cs := h
theorem Blk.set_ (h : Blk w g t cs) (i : Nat) (u : Value) : Blk (w.setCell ⟨g, i, none⟩ u) g t (cs.setIfInBounds i u) := by
  unfold Blk at h ⊢
  simp [World.setCell, Array.getElem?_modify, h]
theorem Blk.far (h : Blk w g t cs) {p : Addr} (hp : g ≠ p.block) (u : Value) : Blk (w.setCell p u) g t cs := (Below.heap_setCell w p u g hp).trans h
theorem Blk.below {B : Nat} (h : Blk w g t cs) (hb : Below B w w') (hg : g < B) : Blk w' g t cs := (hb.block g hg).trans h
theorem Blk.csAt (h : Blk w g t cs) {o : Nat} {l : List Value} (hl : ∀ j v, l[j]? = some v → cs[o + j]? = some v) : CsAt w g o l := fun j v hj =>
  ⟨by rw [h.cell]; exact hl j v hj, h.frozen _⟩
end
theorem CsAt.nil {w : World} {b o : Nat} : CsAt w b o [] := fun j v hj => by simp at hj
theorem CsAt.cons {w : World} {b o : Nat} {v : Value} {vs : List Value} (h1 : w.cell? ⟨b, o, none⟩ = some v) (h2 : w.frozen? ⟨b, o, none⟩ = false) (h : CsAt w b (o + 1) vs) : CsAt w b o (v :: vs) := fun j u hj => by
  cases j with
  | zero => have hj : v = u := by simpa using hj
            subst hj; exact ⟨h1, h2⟩
  | succ j => have := h j u (by simpa using hj)
              rwa [show o + 1 + j = o + (j + 1) by omega] at this
theorem CsAt.keepC {w w' : World} {b o : Nat} {cs : List Value} (h : CsAt w b o cs) (hk : ∀ j, j < cs.length → w'.cell? ⟨b, o + j, none⟩ = w.cell? ⟨b, o + j, none⟩ ∧ w'.frozen? ⟨b, o + j, none⟩ = w.frozen? ⟨b, o + j, none⟩) : CsAt w' b o cs := fun j v hj => by
  obtain ⟨e1, e2⟩ := hk j (lt_of_some hj)
  rw [e1, e2]
  exact h j v hj
/-- The cells of an element are stored one behind the other. -/
def setRun (w : World) (b : Nat) : Nat → List Value → World
  | _, [] => w
  | o, v :: vs => setRun (w.setCell ⟨b, o, none⟩ v) b (o + 1) vs
theorem setRun_block {b : Nat} : ∀ {vs : List Value} {w : World} {o k : Nat}, k ≠ b → (setRun w b o vs).heap[k]? = w.heap[k]?
  | [], _, _, _, _ => rfl
  | v :: vs, w, o, k, h => (setRun_block (vs := vs) h).trans (Below.heap_setCell w ⟨b, o, none⟩ v k h)
theorem setRun_frozen {b : Nat} {a : Addr} : ∀ {vs : List Value} {w : World} {o : Nat}, (setRun w b o vs).frozen? a = w.frozen? a
  | [], _, _ => rfl
  | v :: vs, w, o => (setRun_frozen (vs := vs)).trans (World.frozen?_setCell _ _ _ _)
theorem setRun_other {b : Nat} {p : Nat} : ∀ {vs : List Value} {w : World} {o : Nat}, p < o ∨ o + vs.length ≤ p → (setRun w b o vs).cell? ⟨b, p, none⟩ = w.cell? ⟨b, p, none⟩
  | [], _, _, _ => rfl
  | v :: vs, w, o, h => by
    have h1 : (setRun (w.setCell ⟨b, o, none⟩ v) b (o + 1) vs).cell? ⟨b, p, none⟩ = (w.setCell ⟨b, o, none⟩ v).cell? ⟨b, p, none⟩ := setRun_other (by simp at h; omega)
    refine h1.trans (World.cell?_setCell_other _ _ _ _ (fun e => ?_))
    injection e with _ e2
    simp at h
    omega
theorem setRun_csAt {b : Nat} : ∀ {vs : List Value} {w : World} {o : Nat}, (∀ j, j < vs.length → ∃ u, w.cell? ⟨b, o + j, none⟩ = some u) → (∀ j, j < vs.length → w.frozen? ⟨b, o + j, none⟩ = false) → CsAt (setRun w b o vs) b o vs
  | [], _, _, _, _ => CsAt.nil
  | v :: vs, w, o, h, hf => by
    obtain ⟨u, hu⟩ := h 0 (by simp)
    refine CsAt.cons ?_ ?_ (setRun_csAt (fun j hj => ?_) (fun j hj => ?_))
    · have h1 : (setRun (w.setCell ⟨b, o, none⟩ v) b (o + 1) vs).cell? ⟨b, o, none⟩ = (w.setCell ⟨b, o, none⟩ v).cell? ⟨b, o, none⟩ := setRun_other (by omega)
      exact h1.trans (World.cell?_setCell_same _ _ _ hu)
    · have h0 : w.frozen? ⟨b, o, none⟩ = false := by simpa using hf 0 (by simp)
      exact setRun_frozen.trans h0
    · obtain ⟨u', hu'⟩ := h (j + 1) (by simp; omega)
      rw [show o + (j + 1) = o + 1 + j by omega] at hu'
      refine ⟨u', (World.cell?_setCell_other _ _ _ _ (fun e => ?_)).trans hu'⟩
      injection e with _ e2
      omega
    · have := hf (j + 1) (by simp; omega)
      rw [show o + (j + 1) = o + 1 + j by omega] at this
      exact (World.frozen?_setCell _ _ _ _).trans this
section
variable {α : Type} {O : Ow α} {sz : Nat} {w w' : World} {b o n : Nat}
theorem ElAt.keepC (ok : OwOk O sz) : ∀ {xs : List α} {o : Nat} {bs : List Nat}, (∀ p, o ≤ p → p < o + xs.length * sz → w'.cell? ⟨b, p, none⟩ = w.cell? ⟨b, p, none⟩ ∧ w'.frozen? ⟨b, p, none⟩ = w.frozen? ⟨b, p, none⟩) →
    (∀ k ∈ bs, w'.heap[k]? = w.heap[k]?) → ElAt O sz w b o xs bs → ElAt O sz w' b o xs bs
  | [], _, _, _, _, h => h
  | x :: xs, o, _, hb, hbs, ⟨cs, b1, b2, hO, hc, e, hr⟩ => by
    subst e
    have hl := ok.len hO
    have e : (x :: xs).length * sz = xs.length * sz + sz := by simp [Nat.add_mul]
    exact ⟨cs, b1, b2, ok.keep (fun k hk => hbs k (by simp [hk])) hO, hc.keepC (fun j hj => hb _ (by omega) (by omega)), rfl,
      ElAt.keepC ok (fun p h1 h2 => hb p (by omega) (by omega)) (fun k hk => hbs k (by simp [hk])) hr⟩
theorem ElAt.setRun (ok : OwOk O sz) {xs : List α} {o : Nat} {bs : List Nat} {p : Nat} {vs : List Value} (h : ElAt O sz w b o xs bs) (hb : b ∉ bs) (hp : p + vs.length ≤ o ∨ o + xs.length * sz ≤ p) :
    ElAt O sz (setRun w b p vs) b o xs bs :=
  h.keepC ok (fun q h1 h2 => ⟨setRun_other (by omega), setRun_frozen⟩) (fun k hk => setRun_block (fun e => hb (by rw [← e]; exact hk)))
end
theorem run_make_rowN {P : Program} (t e : TypeId) (i : TypeInfo) (z : Value) (ht : P.underlying t = some (.slice e)) (hi : P.info? e = some i) (hz : i.zero = some z)
    (kl kc : IntKind) (n c : Nat) (hnc : n ≤ c) (hbytes : i.bytes * c ≤ 281474976710656) (h63 : c ≤ 9223372036854775807) (w : World) :
    (Instr.makeSlice t (.int kl (n : Int)) (.int kc (c : Int))).run P w = .ok (.slice (some ⟨w.heap.size, 0, none⟩) n c) (w.alloc (.cells (madeCells z.cells (c * i.size)) e)) := by
  have hb : (i.bytes : Int) * (c : Int) ≤ 281474976710656 := by
    have h : ((i.bytes * c : Nat) : Int) ≤ 281474976710656 := by omega
    rwa [Int.natCast_mul] at h
  have hr := run_make (P := P) w t e i z ht hi hz kl kc n c (by omega) (by omega) hb (by omega)
  simp only [Int.toNat_natCast] at hr
  exact hr
theorem run_make_sz {P : Program} (t e : TypeId) {z : Value} {sz bb : Nat} (ht : P.underlying t = some (.slice e)) (hinfo : (P.info? e).map (fun i => (i.zero, i.size, i.bytes)) = some (some z, sz, bb))
    (n : Nat) (hb : bb * n ≤ 281474976710656) (hn : n ≤ 4294967296) (w : World) :
    (Instr.makeSlice t (.int .i64 (n : Int)) (.int .i64 (n : Int))).run P w = .ok (.slice (some ⟨w.heap.size, 0, none⟩) n n) (w.alloc (.cells (madeCells z.cells (n * sz)) e)) := by
  obtain ⟨i0, hi, hz0, hz1, hz2⟩ := info_parts hinfo
  have h := run_make_rowN t e i0 z ht hi hz0 .i64 .i64 n n (Nat.le_refl _) (by rw [hz2]; exact hb) (by omega) w
  rw [hz1] at h
  exact h
theorem madeCells_size (z : Array Value) (n : Nat) : (madeCells z n).size = n := by simp [madeCells]
def MidAt {α : Type} (O : Ow α) (sz : Nat) (w : World) (A : Option Addr) (done rest : List α) (bs : List Nat) : Prop :=
  (done = [] ∧ rest = [] ∧ bs = []) ∨ ∃ b o b1 b2, A = some ⟨b, o, none⟩ ∧ bs = b :: (b1 ++ b2) ∧ ElAt O sz w b o done b1 ∧ ElAt O sz w b (o + done.length * sz) rest b2
section
variable {α : Type} {O : Ow α} {sz : Nat} {w w' : World} {A : Option Addr} {n : Nat} {done rest xs : List α} {x x' : α} {bs : List Nat}
theorem OwAt.mid (h : OwAt O sz w A n xs bs) : MidAt O sz w A [] xs bs := by
  rcases h.2 with ⟨e1, e2⟩ | ⟨b, o, b2, e1, e2, h⟩
  · exact .inl ⟨rfl, e1, e2⟩
  · exact .inr ⟨b, o, [], b2, e1, by simpa using e2, rfl, by simpa using h⟩
theorem MidAt.whole (h : MidAt O sz w A done [] bs) (hn : n = done.length) : OwAt O sz w A n done bs := by
  refine ⟨hn, ?_⟩
  rcases h with ⟨e1, _, e2⟩ | ⟨b, o, b1, b2, e1, e2, h, h2⟩
  · exact .inl ⟨e1, e2⟩
  · have h2 : b2 = [] := h2
    subst h2
    exact .inr ⟨b, o, b1, e1, by simpa using e2, h⟩
end
end
section
open Go.RowKit
set_option linter.unusedVariables false
def ivals (l : List Int) : List Value := l.map (Value.int .i64)
/-- A row of numbers is a slice of the call's own. -/
theorem ownsRow_ints {w : World} {base : Nat} {e : TypeId} {v : Value} {n : Nat} {xs : List Int} (h : w.ownsRow base e 1 v n (ivals xs)) : ∃ A c bs, v = .slice A n c ∧ OwAt intOw 1 w A n xs bs ∧ bs.Nodup ∧ (∀ b ∈ bs, base ≤ b ∧ b < w.heap.size) ∧ n ≤ c ∧ c ≤ maxLen := by
  have hlen : n = xs.length := by have := h.1; simp [ivals] at this; omega
  rcases h.2 with ⟨rfl, rfl⟩ | ⟨g, cap, cur, rfl, hg, hh, h1, h2, h3, h4⟩
  · have : xs = [] := List.eq_nil_of_length_eq_zero hlen.symm
    subst this
    exact ⟨none, 0, [], rfl, ⟨rfl, .inl ⟨rfl, rfl⟩⟩, List.nodup_nil, fun b hb => by simp at hb, Nat.le_refl _, Nat.zero_le _⟩
  · have hblk : Blk w g e cur := hh
    refine ⟨some ⟨g, 0, none⟩, cap, [g], rfl, ⟨hlen, .inr ⟨g, 0, [], rfl, rfl, ?_⟩⟩, by simp, fun b hb => by simp at hb; subst hb; exact ⟨hg, hblk.lt⟩, h1, h2⟩
    have key : ∀ (l : List Int) (o : Nat), (∀ j x, l[j]? = some x → cur[o + j]? = some (.int .i64 x)) → ElAt intOw 1 w g o l [] := by
      intro l
      induction l with
      | nil => intro o _; rfl
      | cons x l ih =>
        intro o hl
        refine ⟨[.int .i64 x], [], [], ⟨rfl, rfl⟩, hblk.csAt (fun j v hj => ?_), rfl, ih (o + 1) (fun j y hy => ?_)⟩
        · cases j with
          | zero => have : Value.int .i64 x = v := by simpa using hj
                    subst this; exact hl 0 x rfl
          | succ j => simp at hj
        · have := hl (j + 1) y (by simpa using hy)
          rwa [show o + (j + 1) = o + 1 + j by omega] at this
    refine key xs 0 (fun j x hx => ?_)
    have hj : (ivals xs)[j]? = some (.int .i64 x) := by simp [ivals, hx]
    rw [← h4, List.getElem?_take] at hj
    split at hj
    · simpa using hj
    · cases hj
/-- A result that is a list of numbers and a code. -/
def RetInts (B : Nat) (w' : World) (xs : List Int) (k : Int) (e : Ending) : Prop :=
  ∃ A n c bs, e = .returned (.tuple #[.slice A n c, .int .i64 k]) ∧ OwAt intOw 1 w' A n xs bs ∧ bs.Nodup ∧ (∀ b ∈ bs, B ≤ b ∧ b < w'.heap.size) ∧ n ≤ c ∧ c ≤ maxLen
theorem RetInts.nil_ {B : Nat} {w' : World} {k : Int} : RetInts B w' [] k (.returned (.tuple #[.slice none 0 0, .int .i64 k])) :=
  ⟨none, 0, 0, [], rfl, ⟨rfl, .inl ⟨rfl, rfl⟩⟩, List.nodup_nil, fun b hb => by simp at hb, Nat.le_refl _, Nat.zero_le _⟩
theorem RetInts.row {B : Nat} {w' : World} {v : Value} {n : Nat} {xs : List Int} {e : TypeId} {k : Int} (h : w'.ownsRow B e 1 v n (ivals xs)) : RetInts B w' xs k (.returned (.tuple #[v, .int .i64 k])) := by
  obtain ⟨A, c, bs, rfl, h1, h2, h3, h4⟩ := ownsRow_ints h
  exact ⟨A, n, c, bs, rfl, h1, h2, h3, h4⟩
end
section
open Go.RowKit
set_option linter.unusedVariables false
/-- A slice value that reads as a list. -/
def RdS {α : Type} (R : Rd α) (sz : Nat) (w : World) (B : Nat) (v : Value) (xs : List α) : Prop := ∃ A n c, v = .slice A n c ∧ SlAt R sz w B A n xs ∧ n ≤ c ∧ c ≤ maxLen
/-- A slice value of the call's own whose blocks lie from lo to hi. -/
def OwS {α : Type} (O : Ow α) (sz : Nat) (w : World) (v : Value) (xs : List α) (lo hi : Nat) : Prop := ∃ A n c bs, v = .slice A n c ∧ OwAt O sz w A n xs bs ∧ bs.Nodup ∧ (∀ b ∈ bs, lo ≤ b ∧ b < hi) ∧ n ≤ c ∧ c ≤ maxLen
/-- A struct value. -/
def RdT {α : Type} (R : Rd α) (w : World) (B : Nat) (v : Value) (x : α) : Prop := ∃ cs, v = .agg cs.toArray ∧ R w B cs x
def OwT {α : Type} (O : Ow α) (w : World) (v : Value) (x : α) (lo hi : Nat) : Prop := ∃ cs bs, v = .agg cs.toArray ∧ O w cs x bs ∧ bs.Nodup ∧ ∀ b ∈ bs, lo ≤ b ∧ b < hi
structure OnlyIn (lo hi : Nat) (w w' : World) : Prop where
  os : w'.os = w.os
  tape : w'.tape = w.tape
  output : w'.output = w.output
  size : w'.heap.size = w.heap.size
  block : ∀ k, k < lo ∨ hi ≤ k → w'.heap[k]? = w.heap[k]?
section
variable {w w' w'' : World} {lo hi lo' hi' B : Nat}
theorem OnlyIn.refl (lo hi : Nat) (w : World) : OnlyIn lo hi w w := ⟨rfl, rfl, rfl, rfl, fun _ _ => rfl⟩
theorem OnlyIn.trans (h : OnlyIn lo hi w w') (h' : OnlyIn lo hi w' w'') : OnlyIn lo hi w w'' :=
  ⟨h'.os.trans h.os, h'.tape.trans h.tape, h'.output.trans h.output, h'.size.trans h.size, fun k hk => (h'.block k hk).trans (h.block k hk)⟩
theorem OnlyIn.wide (h : OnlyIn lo hi w w') (h1 : lo' ≤ lo) (h2 : hi ≤ hi') : OnlyIn lo' hi' w w' := ⟨h.os, h.tape, h.output, h.size, fun k hk => h.block k (by omega)⟩
theorem OnlyIn.setCell (h : OnlyIn lo hi w w') {p : Addr} (hp : lo ≤ p.block ∧ p.block < hi) (u : Value) : OnlyIn lo hi w (w'.setCell p u) :=
  h.trans ⟨rfl, rfl, rfl, by simp [World.setCell], fun k hk => Below.heap_setCell _ _ _ _ (fun e => by omega)⟩
theorem OnlyIn.drew (h : OnlyIn lo hi w w') : OnlyIn lo hi w w'.drew := ⟨h.os, h.tape, h.output, h.size, h.block⟩
theorem OnlyIn.below (h : OnlyIn lo hi w w') : Below lo w w' := ⟨h.os, h.tape, h.output, by rw [h.size]; exact Nat.le_refl _, fun k hk => h.block k (.inl hk)⟩
section
variable {α : Type} {O : Ow α} {R : Rd α} {sz : Nat} {v : Value} {xs : List α} {x : α}
theorem RdS.below (ok : RdOk R sz) (h : RdS R sz w B v xs) (hb : Below B w w') : RdS R sz w' B v xs := let ⟨A, n, c, e, h, r⟩ := h; ⟨A, n, c, e, h.below ok hb, r⟩
theorem RdS.more (ok : RdOk R sz) (h : RdS R sz w B v xs) {B' : Nat} (hB : B ≤ B') : RdS R sz w B' v xs := let ⟨A, n, c, e, h, r⟩ := h; ⟨A, n, c, e, h.more ok hB, r⟩
theorem RdT.below (ok : RdOk R sz) (h : RdT R w B v x) (hb : Below B w w') : RdT R w' B v x := let ⟨cs, e, h⟩ := h; ⟨cs, e, ok.keep (fun p hp => hb.cell hp) h⟩
theorem RdT.more (ok : RdOk R sz) (h : RdT R w B v x) {B' : Nat} (hB : B ≤ B') : RdT R w B' v x := let ⟨cs, e, h⟩ := h; ⟨cs, e, ok.more hB h⟩
theorem OwS.keep (ok : OwOk O sz) (h : OwS O sz w v xs lo hi) (hk : ∀ k, lo ≤ k → k < hi → w'.heap[k]? = w.heap[k]?) : OwS O sz w' v xs lo hi :=
  let ⟨A, n, c, bs, e, h, h1, h2, r⟩ := h; ⟨A, n, c, bs, e, h.keep ok (fun k hin => hk k (h2 k hin).1 (h2 k hin).2), h1, h2, r⟩
theorem OwS.below (ok : OwOk O sz) (h : OwS O sz w v xs lo hi) (hb : Below B w w') (hB : hi ≤ B) : OwS O sz w' v xs lo hi := h.keep ok fun k _ hk => hb.block k (by omega)
theorem OwS.only (ok : OwOk O sz) (h : OwS O sz w v xs lo hi) (ho : OnlyIn lo' hi' w w') (hd : hi ≤ lo' ∨ hi' ≤ lo) : OwS O sz w' v xs lo hi := h.keep ok fun k h1 h2 => ho.block k (by omega)
theorem OwS.wide (h : OwS O sz w v xs lo hi) (h1 : lo' ≤ lo) (h2 : hi ≤ hi') : OwS O sz w v xs lo' hi' := let ⟨A, n, c, bs, e, h, hn, hb, r⟩ := h; ⟨A, n, c, bs, e, h, hn, fun b hin => by have := hb b hin; omega, r⟩
theorem OwS.reads (hR : Gives O R B) (h : OwS O sz w v xs lo hi) (hB : hi ≤ B) : RdS R sz w B v xs := let ⟨A, n, c, bs, e, h, h1, h2, r⟩ := h; ⟨A, n, c, e, h.reads hR (fun k hk => by have := h2 k hk; omega), r⟩
theorem OwT.keep (ok : OwOk O sz) (h : OwT O w v x lo hi) (hk : ∀ k, lo ≤ k → k < hi → w'.heap[k]? = w.heap[k]?) : OwT O w' v x lo hi :=
  let ⟨cs, bs, e, h, h1, h2⟩ := h; ⟨cs, bs, e, ok.keep (fun k hin => hk k (h2 k hin).1 (h2 k hin).2) h, h1, h2⟩
theorem OwT.below (ok : OwOk O sz) (h : OwT O w v x lo hi) (hb : Below B w w') (hB : hi ≤ B) : OwT O w' v x lo hi := h.keep ok fun k _ hk => hb.block k (by omega)
theorem OwT.only (ok : OwOk O sz) (h : OwT O w v x lo hi) (ho : OnlyIn lo' hi' w w') (hd : hi ≤ lo' ∨ hi' ≤ lo) : OwT O w' v x lo hi := h.keep ok fun k h1 h2 => ho.block k (by omega)
theorem OwT.wide (h : OwT O w v x lo hi) (h1 : lo' ≤ lo) (h2 : hi ≤ hi') : OwT O w v x lo' hi' := let ⟨cs, bs, e, h, hn, hb⟩ := h; ⟨cs, bs, e, h, hn, fun b hin => by have := hb b hin; omega⟩
theorem OwT.reads (hR : Gives O R B) (h : OwT O w v x lo hi) (hB : hi ≤ B) : RdT R w B v x := let ⟨cs, bs, e, h, h1, h2⟩ := h; ⟨cs, e, hR _ _ _ _ h (fun k hk => by have := h2 k hk; omega)⟩
end
end
theorem blk3_0 {w : World} {t : TypeId} {cs : Array Value} {o2 o3 : Obj} : Blk (((w.alloc (.cells cs t)).alloc o2).alloc o3) w.heap.size t cs := ((Blk.new w t cs).alloc _).alloc _
theorem blk3_1 {w : World} {t : TypeId} {cs : Array Value} {o1 o3 : Obj} : Blk (((w.alloc o1).alloc (.cells cs t)).alloc o3) (w.heap.size + 1) t cs := by
  have h := (Blk.new (w.alloc o1) t cs).alloc o3
  rwa [World.size_alloc] at h
theorem blk3_2 {w : World} {t : TypeId} {cs : Array Value} {o1 o2 : Obj} : Blk (((w.alloc o1).alloc o2).alloc (.cells cs t)) (w.heap.size + 1 + 1) t cs := by
  have h := Blk.new ((w.alloc o1).alloc o2) t cs
  rwa [World.size_alloc, World.size_alloc] at h
theorem blk2_0 {w : World} {t : TypeId} {cs : Array Value} {o2 : Obj} : Blk ((w.alloc (.cells cs t)).alloc o2) w.heap.size t cs := (Blk.new w t cs).alloc _
theorem blk2_1 {w : World} {t : TypeId} {cs : Array Value} {o1 : Obj} : Blk ((w.alloc o1).alloc (.cells cs t)) (w.heap.size + 1) t cs := by
  have h := Blk.new (w.alloc o1) t cs
  rwa [World.size_alloc] at h
theorem nodup_two {b1 b2 : List Nat} {lo mid hi : Nat} (h1 : b1.Nodup) (h2 : b2.Nodup) (i1 : ∀ b ∈ b1, lo ≤ b ∧ b < mid) (i2 : ∀ b ∈ b2, mid ≤ b ∧ b < hi) (e1 : lo ≤ mid) (e2 : mid ≤ hi) :
    (b1 ++ b2).Nodup ∧ ∀ b ∈ b1 ++ b2, lo ≤ b ∧ b < hi := by
  refine ⟨List.nodup_append.2 ⟨h1, h2, fun a ha b hb e => by have := i1 a ha; have := i2 b hb; omega⟩, fun b hb => ?_⟩
  rcases List.mem_append.1 hb with h | h
  · have := i1 b h; omega
  · have := i2 b h; omega
/-- An element at b, p is being written: its own cells, and the blocks of bs. -/
structure Touch (b p sz : Nat) (bs : List Nat) (w w' : World) : Prop where
  os : w'.os = w.os
  tape : w'.tape = w.tape
  output : w'.output = w.output
  size : w'.heap.size = w.heap.size
  cell : ∀ q, q < p ∨ p + sz ≤ q → w'.cell? ⟨b, q, none⟩ = w.cell? ⟨b, q, none⟩
  frozen : ∀ q, w'.frozen? ⟨b, q, none⟩ = w.frozen? ⟨b, q, none⟩
  block : ∀ k, k ≠ b → k ∉ bs → w'.heap[k]? = w.heap[k]?
section
variable {w w' w'' : World} {b p sz : Nat} {bs bs' : List Nat}
theorem Touch.refl : Touch b p sz bs w w := ⟨rfl, rfl, rfl, rfl, fun _ _ => rfl, fun _ => rfl, fun _ _ _ => rfl⟩
theorem Touch.trans (h : Touch b p sz bs w w') (h' : Touch b p sz bs w' w'') : Touch b p sz bs w w'' :=
  ⟨h'.os.trans h.os, h'.tape.trans h.tape, h'.output.trans h.output, h'.size.trans h.size, fun q hq => (h'.cell q hq).trans (h.cell q hq), fun q => (h'.frozen q).trans (h.frozen q), fun k h1 h2 => (h'.block k h1 h2).trans (h.block k h1 h2)⟩
theorem Touch.only (h : Touch b p sz bs w w') (ho : Only bs' w' w'') (hb : b ∉ bs') (hs : ∀ k ∈ bs', k ∈ bs) : Touch b p sz bs w w'' :=
  h.trans ⟨ho.os, ho.tape, ho.output, ho.size, fun q _ => World.cell?_of_block (w := w') (a := ⟨b, q, none⟩) (ho.block b hb), fun q => World.frozen?_of_block (w := w') (a := ⟨b, q, none⟩) (ho.block b hb), fun k _ hk => ho.block k (fun hin => hk (hs k hin))⟩
theorem Touch.only_ (h : Touch b p sz bs w w') : Only (b :: bs) w w' := ⟨h.os, h.tape, h.output, h.size, fun k hk => h.block k (by simp at hk; exact hk.1) (by simp at hk; exact hk.2)⟩
theorem Touch.el {α : Type} {O : Ow α} {s : Nat} (ok : OwOk O s) {xs : List α} {o : Nat} {bl : List Nat} (h : Touch b p sz bs w w') (hd : o + xs.length * s ≤ p ∨ p + sz ≤ o) (hbl : ∀ k ∈ bl, k ≠ b ∧ k ∉ bs) (hE : ElAt O s w b o xs bl) : ElAt O s w' b o xs bl :=
  hE.keepC ok (fun q h1 h2 => ⟨h.cell q (by omega), h.frozen q⟩) (fun k hk => h.block k (hbl k hk).1 (hbl k hk).2)
end
theorem SlAt.drew {α : Type} {R : Rd α} {sz : Nat} {w : World} {B n : Nat} {A : Option Addr} {xs : List α} (ok : RdOk R sz) (h : SlAt R sz w B A n xs) : SlAt R sz w.drew B A n xs := SlAt.keep (w := w) (w' := w.drew) ok (fun _ _ => rfl) h
/-- One result, or a result and codes. -/
def Ret1 (P : Value → Prop) (e : Ending) : Prop := ∃ v, e = .returned v ∧ P v
def Ret2 (P : Value → Prop) (k : Int) (e : Ending) : Prop := ∃ v, e = .returned (.tuple #[v, .int .i64 k]) ∧ P v
theorem RetInts.ret2 {B : Nat} {w' : World} {xs : List Int} {k : Int} {e : Ending} (h : RetInts B w' xs k e) : Ret2 (fun v => OwS intOw 1 w' v xs B w'.heap.size) k e := by
  obtain ⟨A, n, c, bs, e1, h1, h2, h3, h4⟩ := h
  exact ⟨_, e1, A, n, c, bs, rfl, h1, h2, h3, h4⟩
end
section
open Go.RowKit
set_option linter.unusedVariables false
set_option linter.unusedSimpArgs false
/-- A frame of n slots. -/
def Fr (n : Nat) (f : Nat → Value) : Act := ⟨((List.range n).map f).toArray, []⟩
def up (f : Nat → Value) (d : Nat) (v : Value) : Nat → Value := fun k => bif Nat.beq k d then v else f k
def upo (f : Nat → Value) : Option Tmp → Value → Nat → Value
  | some d, v => up f d v
  | none, _ => f
def ev (f : Nat → Value) : Operand → Value
  | .tmp t => f t
  | .const v => v
  | .global g => .pointer (some ⟨g, 0, none⟩)
  | .func g => .func (.func g) #[] #[]
def opIn (n : Nat) : Operand → Bool
  | .tmp t => Nat.blt t n
  | _ => true
def okOp (n : Nat) (ops : Array Oper) (o : Oper) : Bool :=
  o.op.operands.toList.all (opIn n) && (match o.op with | .select .. => false | _ => true) &&
  (match o.guard with | none => true | some (j, _) => match (ops[j]?).bind (·.dst) with | some d => Nat.blt d n | none => true)
def gval (f : Nat → Value) (ops : Array Oper) (j : Nat) : Option Bool :=
  match (ops[j]?).bind (·.dst) with
  | some d => match f d with | .bool b => some b | _ => none
  | none => none
def wantF (f : Nat → Value) (ops : Array Oper) (o : Oper) : Bool :=
  match o.guard with
  | none => true
  | some (j, want) => gval f ops j == some want
theorem Fr_get {n : Nat} {f : Nat → Value} {t : Nat} (h : t < n) : (Fr n f).tmps[t]? = some (f t) := by simp [Fr, h]
theorem Fr_eval {n : Nat} {f : Nat → Value} {x : Operand} (h : opIn n x = true) : (Fr n f).eval x = ev f x := by
  cases x with
  | tmp t =>
    have ht : t < n := by simpa [opIn] using h
    simp [Act.eval, Fr, ev, ht]
  | _ => rfl
theorem Fr_put {n : Nat} {f : Nat → Value} {d : Option Tmp} {v : Value} : (Fr n f).put d v = Fr n (upo f d v) := by
  cases d with
  | none => rfl
  | some d =>
    simp only [Act.put, Fr, upo, Act.mk.injEq, and_true]
    apply Array.ext_getElem?
    intro i
    simp only [Array.getElem?_setIfInBounds, List.size_toArray, List.length_map, List.length_range, List.getElem?_toArray, List.getElem?_map]
    by_cases hi : i < n
    · by_cases hd : d = i
      · subst hd; simp [hi, up]
      · have h1 : i.beq d = false := by cases h : i.beq d with | false => rfl | true => exact absurd (Nat.eq_of_beq_eq_true h).symm hd
        simp [hi, hd, up, h1]
    · by_cases hd : d = i
      · subst hd; simp [hi]
      · simp [hd, hi]
theorem Fr_exec {n : Nat} {f : Nat → Value} {ops : Array Oper} {o : Oper} (h : okOp n ops o = true) : execOp (Fr n f).eval o = execOp (ev f) o := by
  simp only [okOp, Bool.and_eq_true, List.all_eq_true] at h
  refine execOp_congr o (fun cs b e => ?_) (fun x hx => Fr_eval (h.1.1 x (by simpa using hx)))
  have := h.1.2
  rw [e] at this
  cases this
theorem Fr_wanted {n : Nat} {f : Nat → Value} {ops : Array Oper} {o : Oper} (h : okOp n ops o = true) : Region.wanted o (yielded ops (Fr n f).tmps) = wantF f ops o := by
  simp only [okOp, Bool.and_eq_true] at h
  have h3 := h.2
  unfold Region.wanted wantF
  cases hg : o.guard with
  | none => rfl
  | some p =>
    obtain ⟨j, want⟩ := p
    rw [hg] at h3
    simp only at h3 ⊢
    congr 1
    unfold yielded gval
    cases hd : (ops[j]?).bind (·.dst) with
    | none => rfl
    | some d =>
      rw [hd] at h3
      have hlt : d < n := by simpa using h3
      simp only [Option.bind_some, Fr_get hlt]
      cases f d <;> rfl
section
variable {P : Program} {ops : Array Oper}
/-- The operations one by one, in every world of the class C. -/
def RQ (P : Program) (ops : Array Oper) (C : World → Prop) (Q : (Nat → Value) → Prop) : List Oper → (Nat → Value) → Prop
  | [], f => Q f
  | o :: rest, f => ∃ v, ((wantF f ops o = true ∧ ∀ w, C w → Oper.quietUpon P C w v ((execOp (ev f) o).run P w)) ∨ (wantF f ops o = false ∧ v = undef)) ∧ RQ P ops C Q rest (upo f o.dst v)
theorem RQ_quiet {n : Nat} {C : World → Prop} {Q : (Nat → Value) → Prop} : ∀ {l : List Oper} {f : Nat → Value}, (∀ o ∈ l, okOp n ops o = true) → RQ P ops C Q l f → wpQuiet P ops C (fun a => ∃ f', a = Fr n f' ∧ Q f') l (Fr n f)
  | [], f, _, h => ⟨f, rfl, h⟩
  | o :: rest, f, hin, ⟨v, h1, h2⟩ => by
    have ho := hin o (by simp)
    have ih := RQ_quiet (fun o' h' => hin o' (by simp [h'])) h2
    unfold wpQuiet
    rw [Fr_wanted ho]
    rcases h1 with ⟨hw, h1⟩ | ⟨hw, rfl⟩
    · rw [hw, if_pos rfl]
      exact ⟨v, fun w hw' => by unfold Oper.quietAt; rw [Fr_exec ho]; exact h1 w hw', by rw [Fr_put]; exact ih⟩
    · rw [hw, if_neg (by decide), Fr_put]
      exact ih
theorem quiet_list {C : World → Prop} {Q : Act → Prop} {Q' : Exit → Act → World → Prop} (hQ : ∀ a w, C w → Q a → Q' .normal a w) : ∀ {l : List Oper} {a : Act} {w : World}, C w → wpQuiet P ops C Q l a → wpList P ops Q' l a w
  | [], a, w, hw, h => hQ a w hw h
  | o :: rest, a, w, hw, h => by
    unfold wpQuiet at h
    unfold wpList
    split
    · rename_i hg
      rw [if_pos hg] at h
      exact .inl (Oper.wp_of_quiet hw (fun a' w' hw' h' => quiet_list hQ hw' h') h)
    · rename_i hg
      rw [if_neg hg] at h
      exact quiet_list hQ hw h
def okAll (n : Nat) (l : List Oper) : Bool := l.all (okOp n l.toArray)
theorem wp_rq {id n : Nat} {l : List Oper} {f : Nat → Value} {w : World} {Q : Exit → Act → World → Prop} (C : World → Prop) (hC : C w) (hin : okAll n l = true)
    (h : RQ P l.toArray C (fun f' => ∀ w', C w' → Q .normal (Fr n f') w') l f) : (Code.region id l.toArray false).wp P Q (Fr n f) w := by
  refine wp_region_lit (quiet_list (Q := fun a => ∃ f', a = Fr n f' ∧ ∀ w', C w' → Q .normal (Fr n f') w') ?_ hC (RQ_quiet (fun o ho => List.all_eq_true.1 hin o ho) h))
  rintro a w' hw' ⟨f', rfl, hq⟩
  exact hq w' hw'
theorem wp_rq_draw {id n : Nat} {l : List Oper} {f : Nat → Value} {w : World} {Q : Exit → Act → World → Prop} (C : World → Prop) (hC : C w.drew) (hm : P.follows .mixedOrders = true) (hin : (okAll n l && Region.lexB .any l.toArray) = true)
    (h : RQ P l.toArray C (fun f' => ∀ w', C w' → Q .normal (Fr n f') w') l f) : (Code.region id l.toArray true).wp P Q (Fr n f) w := by
  simp only [Bool.and_eq_true] at hin
  refine wp_region_quiet (C := C) hm hin.2 hC ?_
  have h1 := RQ_quiet (n := n) (fun o ho => List.all_eq_true.1 hin.1 o ho) h
  have mono : ∀ (l' : List Oper) (a : Act), wpQuiet P l.toArray C (fun a => ∃ f', a = Fr n f' ∧ ∀ w', C w' → Q .normal (Fr n f') w') l' a → wpQuiet P l.toArray C (fun a' => ∀ w', C w' → Q .normal a' w') l' a := by
    intro l'
    induction l' with
    | nil => rintro a ⟨f', rfl, hq⟩; exact hq
    | cons o rest ih =>
      intro a h
      unfold wpQuiet at h ⊢
      split
      · rename_i hg; rw [if_pos hg] at h; exact Oper.quiet_mono (fun a => ih a) h
      · rename_i hg; rw [if_neg hg] at h; exact ih _ h
  exact mono l (Fr n f) h1
/-- What one operation comes to in one world. -/
def OpX (P : Program) (K : Value → World → Prop) : Result Next → Prop
  | .ok (.value v) w' => K v w'
  | .ok .skip w' => K undef w'
  | .ok (.enter g args) w' => Calls P g args w' fun e w'' => ∃ v, e = .returned v ∧ K v w''
  | _ => False
def RL (P : Program) (ops : Array Oper) (Q : (Nat → Value) → World → Prop) : List Oper → (Nat → Value) → World → Prop
  | [], f, w => Q f w
  | o :: rest, f, w => (wantF f ops o = true ∧ OpX P (fun v w' => RL P ops Q rest (upo f o.dst v) w') ((execOp (ev f) o).run P w)) ∨ (wantF f ops o = false ∧ RL P ops Q rest (upo f o.dst undef) w)
theorem OpX_wp {o : Oper} {a : Act} {K : Act → World → Prop} {Q : Exit → Act → World → Prop} {r : Result Next} (h : OpX P (fun v w' => K (a.put o.dst v) w') r) : o.upon P a K Q r := by
  cases r with
  | ok n w' =>
    cases n <;> simp only [OpX] at h <;> simp only [Oper.upon] <;> try exact h
    case enter g args => exact h.mono fun e w'' ⟨v, he, hk⟩ => by subst he; exact hk
  | halt x w' => simp only [OpX] at h
theorem RL_list {n : Nat} {Q : (Nat → Value) → World → Prop} {Q' : Exit → Act → World → Prop} (hQ : ∀ f w, Q f w → Q' .normal (Fr n f) w) : ∀ {l : List Oper} {f : Nat → Value} {w : World}, (∀ o ∈ l, okOp n ops o = true) → RL P ops Q l f w → wpList P ops Q' l (Fr n f) w
  | [], f, w, _, h => hQ f w h
  | o :: rest, f, w, hin, h => by
    have ho := hin o (by simp)
    unfold wpList
    rw [Fr_wanted ho]
    rcases h with ⟨hw, h⟩ | ⟨hw, h⟩
    · rw [hw, if_pos rfl]
      left
      unfold Oper.wp
      rw [Fr_exec ho]
      refine OpX_wp ?_
      have e : (fun v w' => RL P ops Q rest (upo f o.dst v) w') = fun v w' => RL P ops Q rest (upo f o.dst v) w' := rfl
      revert h
      generalize (execOp (ev f) o).run P w = r
      intro h
      have key : ∀ v w', RL P ops Q rest (upo f o.dst v) w' → wpList P ops Q' rest ((Fr n f).put o.dst v) w' := fun v w' h' => by
        rw [Fr_put]; exact RL_list hQ (fun o' h'' => hin o' (by simp [h''])) h'
      cases r with
      | ok nx w' =>
        cases nx <;> simp only [OpX] at h ⊢ <;> try exact key _ _ h
        case enter g args => exact h.mono fun e w'' ⟨v, he, hk⟩ => ⟨v, he, key _ _ hk⟩
      | halt x w' => simp only [OpX] at h
    · rw [hw, if_neg (by decide), Fr_put]
      exact RL_list hQ (fun o' h' => hin o' (by simp [h'])) h
theorem wp_rl {id n : Nat} {l : List Oper} {f : Nat → Value} {w : World} {Q : Exit → Act → World → Prop} (hin : okAll n l = true)
    (h : RL P l.toArray (fun f' w' => Q .normal (Fr n f') w') l f w) : (Code.region id l.toArray false).wp P Q (Fr n f) w :=
  wp_region_lit (RL_list (fun f' w' h' => h') (fun o ho => List.all_eq_true.1 hin o ho) h)
end
end
section
open Go.RowKit
set_option linter.unusedVariables false
set_option linter.unusedSimpArgs false
section
variable {P : Program} {ops : Array Oper} {C : World → Prop} {f : Nat → Value} {rest : List Oper}
/-- The operation o yields v in every world of the class, and leaves it. -/
def Y (P : Program) (C : World → Prop) (f : Nat → Value) (o : Oper) (v : Value) : Prop := ∀ w, C w → (execOp (ev f) o).run P w = .ok (.value v) w
def CellIn (C : World → Prop) (A : Addr) (v : Value) : Prop := ∀ w, C w → w.cell? A = some v
theorem eqC {w : World} {A : Addr} {v : Value} (h : w.cell? A = some v) : CellIn (· = w) A v := fun _ e => by rw [e]; exact h
theorem beC {w : World} {A : Addr} {v : Value} (h : w.cell? A = some v) : CellIn (Below w.heap.size w) A v := fun _ e => (e.cell (World.block_lt_of_cell? w A h)).trans h
theorem RQ.y {Q : (Nat → Value) → Prop} {o : Oper} {v : Value} (hg : wantF f ops o = true) (hy : Y P C f o v) (h : RQ P ops C Q rest (upo f o.dst v)) : RQ P ops C Q (o :: rest) f :=
  ⟨v, .inl ⟨hg, fun w hw => by rw [hy w hw]; exact ⟨rfl, rfl⟩⟩, h⟩
theorem RQ.skip {Q : (Nat → Value) → Prop} {o : Oper} (hg : wantF f ops o = false) (h : RQ P ops C Q rest (upo f o.dst undef)) : RQ P ops C Q (o :: rest) f := ⟨undef, .inr ⟨hg, rfl⟩, h⟩
theorem RQ.nil {Q : (Nat → Value) → Prop} (h : Q f) : RQ P ops C Q [] f := h
theorem RL.y {Q : (Nat → Value) → World → Prop} {w : World} {o : Oper} {v : Value} (hg : wantF f ops o = true) (hy : Y P (· = w) f o v) (h : RL P ops Q rest (upo f o.dst v) w) : RL P ops Q (o :: rest) f w :=
  .inl ⟨hg, by rw [hy w rfl]; exact h⟩
theorem RL.skip {Q : (Nat → Value) → World → Prop} {w : World} {o : Oper} (hg : wantF f ops o = false) (h : RL P ops Q rest (upo f o.dst undef) w) : RL P ops Q (o :: rest) f w := .inr ⟨hg, h⟩
theorem RL.nil {Q : (Nat → Value) → World → Prop} {w : World} (h : Q f w) : RL P ops Q [] f w := h
variable {d : Option Tmp} {ty : TypeId} {pos : String} {af : Array Edge} {g : Option (Nat × Bool)} {x y : Operand} {u v : Value} {t t' : TypeId}
theorem Y.move (hx : ev f x = v) : Y P C f ⟨d, .move x, ty, pos, af, g⟩ v := fun w _ => by subst hx; rfl
theorem Y.assign (hx : ev f x = v) : Y P C f ⟨d, .assign x, ty, pos, af, g⟩ v := fun w _ => by subst hx; rfl
theorem Y.nilCheck {A : Addr} (hx : ev f x = .pointer (some A)) : Y P C f ⟨d, .nilCheck x, ty, pos, af, g⟩ (.pointer (some A)) := fun w _ => by simp [execOp, hx]
theorem Y.pick {c : Operand} {b : Bool} (hc : ev f c = .bool b) (hv : (bif b then ev f x else ev f y) = v) : Y P C f ⟨d, .pick c x y, ty, pos, af, g⟩ v := fun w _ => by
  subst hv
  cases b <;> simp [execOp, hc, asBool]
theorem Y.not {b b' : Bool} (hx : ev f x = .bool b) (hb : (!b) = b') : Y P C f ⟨d, .unOp .not t x, ty, pos, af, g⟩ (.bool b') := fun w _ => by
  subst hb
  simp [execOp, hx, Op.unary]
/-- The binary operations of integers. -/
def binI (o : BinOp) (k : IntKind) (m n : Int) : Option Value :=
  match o with
  | .add => some (.int k (k.wrap (m + n)))
  | .sub => some (.int k (k.wrap (m - n)))
  | .mul => some (.int k (k.wrap (m * n)))
  | .eql => some (.bool (m == n))
  | .neq => some (.bool (m != n))
  | .lss => some (.bool (m < n))
  | .leq => some (.bool (m ≤ n))
  | .gtr => some (.bool (m > n))
  | .geq => some (.bool (m ≥ n))
  | _ => none
theorem eqGuard_int {P : Program} {w : World} {o : BinOp} {k k' : IntKind} {m n : Int} : (eqGuard o t x y (.int k m) (.int k' n)).run P w = .ok () w := by
  unfold eqGuard; cases o <;> rfl
theorem Y.binI {o : BinOp} {k : IntKind} {m n : Int} (hx : ev f x = .int k m) (hy : ev f y = .int k n) (hr : binI o k m n = some v) : Y P C f ⟨d, .binOp o t x y t', ty, pos, af, g⟩ v := fun w _ => by
  simp only [execOp, hx, hy, Sem.run_bind, eqGuard_int, Result.andThen_ok]
  cases o <;> simp [Proofs.Ytampijkiidjcmaa.binI] at hr <;> subst hr <;> simp [binOp, Op.intArith, Op.intCmp]
theorem Y.beq {o : BinOp} {a b c : Bool} (ht : P.underlying t = some .bool) (hx : ev f x = .bool a) (hy : ev f y = .bool b) (ho : (o = .eql ∧ (a == b) = c) ∨ (o = .neq ∧ (a != b) = c)) : Y P C f ⟨d, .binOp o t x y t', ty, pos, af, g⟩ (.bool c) := fun w _ => by
  rcases ho with ⟨rfl, rfl⟩ | ⟨rfl, rfl⟩
  · simp only [execOp, hx, hy, Sem.run_bind, eqGuard, Result.andThen_ok]
    simp [binOp, Op.equal, Op.maxDepth, run_equalIn_bool' w _ t a b ht]
  · simp only [execOp, hx, hy, Sem.run_bind, eqGuard, Result.andThen_ok]
    simp [binOp, Op.equal, Op.maxDepth, run_equalIn_bool' w _ t a b ht]
    cases a <;> cases b <;> rfl
def fieldO (P : Program) (t : TypeId) (i : Nat) : Option Nat :=
  match P.underlying t with
  | some (.struct fs) => match fs[i]? with
    | some fl => match P.info? fl.type with
      | some inf => if inf.size = 0 then none else some fl.offset
      | none => none
    | none => none
  | _ => none
theorem Addr.add_eq (b o n : Nat) : Addr.add ⟨b, o, none⟩ n = ⟨b, o + n, none⟩ := by
  unfold Addr.add; split <;> simp_all
theorem Y.fieldAddr {i b o off : Nat} (hx : ev f x = .pointer (some ⟨b, o, none⟩)) (ht : fieldO P t i = some off) : Y P C f ⟨d, .fieldAddr t x i, ty, pos, af, g⟩ (.pointer (some ⟨b, o + off, none⟩)) := fun w _ => by
  unfold fieldO at ht
  split at ht
  · rename_i fs hu
    split at ht
    · rename_i fl hf
      split at ht
      · rename_i inf hi
        split at ht
        · cases ht
        · rename_i hs
          injection ht with ht
          subst ht
          simp [execOp, hx, Instr.fieldAt, run_underlying hu, hf, Instr.sureAddr, fieldPlace, sizeOf, typeInfo, hi, hs, Addr.add_eq]
      · cases ht
    · cases ht
  · cases ht
def elemO (P : Program) (t : TypeId) : Option Nat :=
  match P.underlying t with
  | some (.slice e) => (P.info? e).map (·.size)
  | _ => none
theorem Y.indexAddr {b o n c m sz : Nat} {k : IntKind} {j : Int} (hx : ev f x = .slice (some ⟨b, o, none⟩) n c) (hi : ev f y = .int k j) (hj : j = (m : Int)) (hm : m < n) (ht : elemO P t = some sz) :
    Y P C f ⟨d, .indexAddr t x y, ty, pos, af, g⟩ (.pointer (some ⟨b, o + m * sz, none⟩)) := fun w _ => by
  subst hj
  unfold elemO at ht
  split at ht
  · rename_i e hu
    cases hinf : P.info? e with
    | none => rw [hinf] at ht; cases ht
    | some inf =>
      rw [hinf] at ht
      simp at ht
      subst ht
      have h1 : ((m : Int) < (n : Int)) := by omega
      simp [execOp, hx, hi, Instr.indexAt, asIntOf, run_underlying hu, h1, sizeOf, typeInfo, hinf, Addr.add_eq]
      intro; omega
  · cases ht
def oneT (P : Program) (t : TypeId) : Bool :=
  match P.underlying t with
  | some (.struct _) | some (.array ..) | none => false
  | _ => true
theorem run_load1 {P : Program} {w : World} {A : Addr} (ht : oneT P t = true) (hc : w.cell? A = some v) : (Instr.loadAt t (.pointer (some A))).run P w = .ok v w := by
  unfold oneT at ht
  cases hu : P.underlying t with
  | none => rw [hu] at ht; cases ht
  | some u => cases u <;> first | (rw [hu] at ht; cases ht; done) | simp [Instr.loadAt, Instr.sureAddr, loadVar, isAgg, run_underlying hu, hc]
theorem Y.load {A : Addr} (hx : ev f x = .pointer (some A)) (ht : oneT P t = true) (hc : CellIn C A v) : Y P C f ⟨d, .load t x, ty, pos, af, g⟩ v := fun w hw => by
  simp only [execOp, hx, Sem.run_bind, run_load1 ht (hc w hw), Result.andThen_ok]
  rfl
def aggO (P : Program) (t : TypeId) : Option Nat :=
  match P.underlying t with
  | some (.struct _) => (P.info? t).map (·.size)
  | some (.array ..) => (P.info? t).map (·.size)
  | _ => none
def CellsIn (C : World → Prop) (b o : Nat) (cs : List Value) : Prop := ∀ w, C w → ∀ j v, cs[j]? = some v → w.cell? ⟨b, o + j, none⟩ = some v
theorem run_loadN {P : Program} {w : World} {b o : Nat} {cs : List Value} (ht : aggO P t = some cs.length) (hc : ∀ j v, cs[j]? = some v → w.cell? ⟨b, o + j, none⟩ = some v) :
    (Instr.loadAt t (.pointer (some ⟨b, o, none⟩))).run P w = .ok (.agg cs.toArray) w := by
  unfold aggO at ht
  have key : ∀ u, P.underlying t = some u → (∀ w, (isAgg t).run P w = .ok true w) → (P.info? t).map (·.size) = some cs.length → (Instr.loadAt t (.pointer (some ⟨b, o, none⟩))).run P w = .ok (.agg cs.toArray) w := fun u hu ha hs => by
    cases hi : P.info? t with
    | none => rw [hi] at hs; cases hs
    | some inf =>
      rw [hi] at hs
      simp at hs
      have hl := run_loadCells_list (P := P) w ⟨b, o, none⟩ cs (fun j v hj => by rw [Addr.add_eq]; exact hc j v hj)
      simp [Instr.loadAt, Instr.sureAddr, loadVar, ha, sizeOf, typeInfo, hi, hs, hl]
  split at ht
  · rename_i fs hu; exact key _ hu (fun w => by simp [isAgg, run_underlying hu]) ht
  · rename_i e n hu; exact key _ hu (fun w => by simp [isAgg, run_underlying hu]) ht
  · cases ht
theorem Y.loadN {b o : Nat} {cs : List Value} (hx : ev f x = .pointer (some ⟨b, o, none⟩)) (ht : aggO P t = some cs.length) (hc : CellsIn C b o cs) : Y P C f ⟨d, .load t x, ty, pos, af, g⟩ (.agg cs.toArray) := fun w hw => by
  simp only [execOp, hx, Sem.run_bind, run_loadN ht (hc w hw), Result.andThen_ok]
  rfl
theorem Y.extract {i : Nat} {vs : Array Value} (hx : ev f x = .tuple vs) (hi : vs[i]? = some v) : Y P C f ⟨d, .extract x i, ty, pos, af, g⟩ v := fun w _ => by
  simp [execOp, hx, Instr.extract, hi]
def sliceT (P : Program) (t : TypeId) : Bool := match P.underlying t with | some (.slice _) => true | _ => false
theorem Y.len {A : Option Addr} {n c : Nat} (ht : sliceT P t = true) (hx : ev f x = .slice A n c) : Y P C f ⟨d, .call ⟨.builtin .len, #[x], #[t]⟩, ty, pos, af, g⟩ (.int .i64 n) := fun w _ => by
  unfold sliceT at ht
  split at ht
  · rename_i e hu
    simp [execOp, resolve, invoke, builtin, hx, Builtin.len_, run_underlying hu, goInt]
  · cases ht
/-- The cells of a struct that is built. -/
def buildO (P : Program) (t : TypeId) (parts : List (Nat × Value)) : Option (Array Value) :=
  match P.underlying t with
  | some (.struct fs) => match (P.info? t).bind (·.zero) with
    | some z => Instr.fill (fun i => (fs[i]?).map fun fl => (fl.offset, P.cellsOf fl.type)) z.cells parts
    | none => none
  | _ => none
def sizedO (P : Program) (t : TypeId) : Bool :=
  match P.underlying t with
  | some (.struct fs) => fs.toList.all fun fl => (P.info? fl.type).isSome
  | _ => false
theorem run_sizeOf_ok {w : World} {e : TypeId} (h : (P.info? e).isSome = true) : (sizeOf e).run P w = .ok (P.cellsOf e) w := by
  obtain ⟨inf, hi⟩ := Option.isSome_iff_exists.1 h
  simp [sizeOf, typeInfo, hi, Program.cellsOf]
theorem run_mapM_places {w : World} : ∀ (fs : List Field), (fs.all fun fl => (P.info? fl.type).isSome) = true →
    (fs.mapM fun fl => Functor.map (Prod.mk fl.offset) (sizeOf fl.type)).run P w = .ok (fs.map fun fl => (fl.offset, P.cellsOf fl.type)) w
  | [], _ => by simp
  | fl :: fs, h => by
    simp only [List.all_cons, Bool.and_eq_true] at h
    simp only [List.mapM_cons, Sem.run_bind, Sem.run_map, run_sizeOf_ok h.1, Result.andThen_ok, run_mapM_places fs h.2, Sem.run_pure, List.map_cons]
theorem run_build {w : World} {parts : Array (Nat × Value)} {cells : Array Value} (hs : sizedO P t = true) (hb : buildO P t parts.toList = some cells) : (Instr.build t parts).run P w = .ok (.agg cells) w := by
  unfold sizedO at hs
  unfold buildO at hb
  cases hu : P.underlying t with
  | none => rw [hu] at hb; cases hb
  | some u =>
    rw [hu] at hb hs
    cases u <;> simp only at hb hs <;> try (cases hb; done)
    rename_i fs
    cases hi : P.info? t with
    | none => rw [hi] at hb; cases hb
    | some inf =>
      rw [hi] at hb
      simp only [Option.bind_some] at hb
      cases hz : inf.zero with
      | none => rw [hz] at hb; cases hb
      | some z =>
        rw [hz] at hb
        simp only at hb
        have hm := run_mapM_places (P := P) (w := w) fs.toList hs
        simp [Instr.build, zeroValue, typeInfo, hi, hz, run_underlying hu]
        rw [Array.mapM_eq_mapM_toList]
        simp only [Sem.run_map, hm, Result.andThen_ok]
        simp [hb]
theorem Y.build0 {cells : Array Value} (hs : sizedO P t = true) (hb : buildO P t [] = some cells) : Y P C f ⟨d, .build t #[], ty, pos, af, g⟩ (.agg cells) := fun w _ => by
  simp [execOp, run_build (parts := #[]) hs hb]
theorem Y.build2 {x2 : Operand} {i j : Nat} {v1 v2 : Value} {cells : Array Value} (h0 : ev f x = v1) (h1 : ev f x2 = v2) (hs : sizedO P t = true) (hb : buildO P t [(i, v1), (j, v2)] = some cells) :
    Y P C f ⟨d, .build t #[(i, x), (j, x2)], ty, pos, af, g⟩ (.agg cells) := fun w _ => by
  subst h0 h1
  simp [execOp, run_build (parts := #[(i, ev f x), (j, ev f x2)]) hs hb]
end
end
section
open Go.RowKit
set_option linter.unusedVariables false
set_option linter.unusedSimpArgs false
section
variable {P : Program} {ops : Array Oper} {C : World → Prop} {f : Nat → Value} {rest : List Oper} {Q : (Nat → Value) → World → Prop} {Qf : (Nat → Value) → Prop} {w : World}
variable {d : Option Tmp} {ty : TypeId} {pos : String} {af : Array Edge} {g : Option (Nat × Bool)} {x y : Operand} {u v : Value} {t t' : TypeId} {args : Array Operand} {vals : Array Value} {ats : Array TypeId} {gf : FuncId}
section
variable {x1 x2 x3 x4 x5 x6 : Operand} {v1 v2 v3 v4 v5 v6 : Value}
theorem am1 (h1 : ev f x1 = v1) : #[x1].map (ev f) = #[v1] := by simp [h1]
theorem am2 (h1 : ev f x1 = v1) (h2 : ev f x2 = v2) : #[x1, x2].map (ev f) = #[v1, v2] := by simp [h1, h2]
theorem am3 (h1 : ev f x1 = v1) (h2 : ev f x2 = v2) (h3 : ev f x3 = v3) : #[x1, x2, x3].map (ev f) = #[v1, v2, v3] := by simp [h1, h2, h3]
theorem am4 (h1 : ev f x1 = v1) (h2 : ev f x2 = v2) (h3 : ev f x3 = v3) (h4 : ev f x4 = v4) : #[x1, x2, x3, x4].map (ev f) = #[v1, v2, v3, v4] := by simp [h1, h2, h3, h4]
theorem pm0 : (#[] : Array (Nat × Operand)).map (fun p => (p.1, ev f p.2)) = #[] := by simp
theorem pm1 {i1 : Nat} (h1 : ev f x1 = v1) : #[(i1, x1)].map (fun p => (p.1, ev f p.2)) = #[(i1, v1)] := by simp [h1]
end
def isGo (P : Program) (gf : FuncId) : Bool := match P.funcs[gf]? with | some fn => !(fn.name == "runtime.NumGoroutine") && fn.body.isSome | none => false
theorem Calls.arr {a b : Array Value} {R : Ending → World → Prop} (e : a = b) (h : Calls P gf a w R) : Calls P gf b w R := e ▸ h
theorem run_callFunc (h : isGo P gf = true) : (callFunc gf vals).run P w = .ok (.enter gf vals) w := by
  unfold isGo at h
  cases hf : P.funcs[gf]? with
  | none => rw [hf] at h; cases h
  | some fn =>
    rw [hf] at h
    simp only [Bool.and_eq_true, Bool.not_eq_true'] at h
    obtain ⟨h1, h2⟩ := h
    have h3 : fn.body.isNone = false := by cases hb : fn.body with | none => rw [hb] at h2; cases h2 | some _ => rfl
    simp [callFunc, hf, h3]
    have h1' : ¬ fn.name = "runtime.NumGoroutine" := by simpa using h1
    simp [h1']
    intro hb
    rw [hb] at h2
    cases h2
theorem run_callV {caps : Array Value} {ov : Operand} (hv : ev f ov = .func (.func gf) #[] caps) (ha : args.map (ev f) = vals) (hgo : isGo P gf = true) :
    (execOp (ev f) ⟨d, .call ⟨.value ov, args, ats⟩, ty, pos, af, g⟩).run P w = .ok (.enter gf (vals ++ caps)) w := by
  simp [execOp, resolve, hv, ha, Deferred.ofValue, invoke, run_callFunc hgo]
theorem run_call (ha : args.map (ev f) = vals) (hgo : isGo P gf = true) :
    (execOp (ev f) ⟨d, .call ⟨.value (.func gf), args, ats⟩, ty, pos, af, g⟩).run P w = .ok (.enter gf vals) w := by
  have h := run_callV (P := P) (w := w) (d := d) (ty := ty) (pos := pos) (af := af) (g := g) (ats := ats) (ov := .func gf) (caps := #[]) rfl ha hgo
  simpa using h
theorem RQ.call (hg : wantF f ops ⟨d, .call ⟨.value (.func gf), args, ats⟩, ty, pos, af, g⟩ = true) (ha : args.map (ev f) = vals) (hgo : isGo P gf = true)
    (hc : ∀ w, C w → Calls P gf vals w fun e w' => e = .returned v ∧ C w') (h : RQ P ops C Qf rest (upo f d v)) : RQ P ops C Qf (⟨d, .call ⟨.value (.func gf), args, ats⟩, ty, pos, af, g⟩ :: rest) f :=
  ⟨v, .inl ⟨hg, fun w hw => by rw [run_call ha hgo]; exact ⟨rfl, hc w hw⟩⟩, h⟩
theorem RQ.callV {ov : Operand} {caps : Array Value} (hg : wantF f ops ⟨d, .call ⟨.value ov, args, ats⟩, ty, pos, af, g⟩ = true) (hv : ev f ov = .func (.func gf) #[] caps) (ha : args.map (ev f) = vals) (hgo : isGo P gf = true)
    (hc : ∀ w, C w → Calls P gf (vals ++ caps) w fun e w' => e = .returned v ∧ C w') (h : RQ P ops C Qf rest (upo f d v)) : RQ P ops C Qf (⟨d, .call ⟨.value ov, args, ats⟩, ty, pos, af, g⟩ :: rest) f :=
  ⟨v, .inl ⟨hg, fun w hw => by rw [run_callV hv ha hgo]; exact ⟨rfl, hc w hw⟩⟩, h⟩
theorem RL.call (hg : wantF f ops ⟨d, .call ⟨.value (.func gf), args, ats⟩, ty, pos, af, g⟩ = true) (ha : args.map (ev f) = vals) (hgo : isGo P gf = true)
    (hc : Calls P gf vals w fun e w' => ∃ v, e = .returned v ∧ RL P ops Q rest (upo f d v) w') : RL P ops Q (⟨d, .call ⟨.value (.func gf), args, ats⟩, ty, pos, af, g⟩ :: rest) f w :=
  .inl ⟨hg, by rw [run_call ha hgo]; exact hc⟩
theorem RL.callV {ov : Operand} {caps : Array Value} (hg : wantF f ops ⟨d, .call ⟨.value ov, args, ats⟩, ty, pos, af, g⟩ = true) (hv : ev f ov = .func (.func gf) #[] caps) (ha : args.map (ev f) = vals) (hgo : isGo P gf = true)
    (hc : Calls P gf (vals ++ caps) w fun e w' => ∃ v, e = .returned v ∧ RL P ops Q rest (upo f d v) w') : RL P ops Q (⟨d, .call ⟨.value ov, args, ats⟩, ty, pos, af, g⟩ :: rest) f w :=
  .inl ⟨hg, by rw [run_callV hv ha hgo]; exact hc⟩
theorem Y.makeFunc {fn : Fn} {caps : Array Operand} (ha : caps.map (ev f) = vals) : Y P C f ⟨d, .makeFunc fn #[] caps, ty, pos, af, g⟩ (.func fn #[] vals) := fun w _ => by
  subst ha; simp [execOp, Instr.makeFunc]
/-- A contract of a function that leaves old memory alone, in a region's class. -/
theorem bel {w : World} {K : Ending → Prop} (h : ∀ w', Below w.heap.size w w' → Calls P gf vals w' fun e w'' => e = .returned v ∧ Below w'.heap.size w' w'') :
    ∀ w', Below w.heap.size w w' → Calls P gf vals w' fun e w'' => e = .returned v ∧ Below w.heap.size w w'' :=
  fun w' hb => (h w' hb).mono fun e w'' ⟨he, hb'⟩ => ⟨he, hb.trans (hb'.mono hb.size)⟩
theorem Calls.same {R : Ending → World → Prop} (h : Calls P gf vals w fun e w' => e = .returned v ∧ w = w') : Calls P gf vals w fun e w' => e = .returned v ∧ Below w.heap.size w w' :=
  h.mono fun e w' ⟨he, hw⟩ => ⟨he, by subst hw; exact Below.refl _ _⟩
theorem below_alloc (w : World) (o : Obj) : Below w.heap.size w (w.alloc o) := (Below.refl _ _).alloc (Nat.le_refl _) _
theorem RL.alloc {z : Value} (hg : wantF f ops ⟨d, .alloc t, ty, pos, af, g⟩ = true) (hz : (P.info? t).bind (·.zero) = some z)
    (h : ∀ w1, Blk w1 w.heap.size t z.cells → Below w.heap.size w w1 → w1.heap.size = w.heap.size + 1 → RL P ops Q rest (upo f d (.pointer (some ⟨w.heap.size, 0, none⟩))) w1) : RL P ops Q (⟨d, .alloc t, ty, pos, af, g⟩ :: rest) f w := by
  refine .inl ⟨hg, ?_⟩
  cases hi : P.info? t with
  | none => rw [hi] at hz; cases hz
  | some inf =>
    rw [hi] at hz
    simp only [Option.bind_some] at hz
    have hr : (execOp (ev f) ⟨d, .alloc t, ty, pos, af, g⟩).run P w = .ok (.value (.pointer (some ⟨w.heap.size, 0, none⟩))) (w.alloc (.cells z.cells t)) := by
      simp [execOp, Instr.alloc, zeroValue, typeInfo, hi, hz, newVar, newRow]
    rw [hr]
    exact h _ (Blk.new _ _ _) (below_alloc _ _) (World.size_alloc _ _)
theorem RL.box (hg : wantF f ops ⟨d, .box t x, ty, pos, af, g⟩ = true) (hx : ev f x = v)
    (h : ∀ w1, Blk w1 w.heap.size t v.cells → Below w.heap.size w w1 → w1.heap.size = w.heap.size + 1 → RL P ops Q rest (upo f d (.pointer (some ⟨w.heap.size, 0, none⟩))) w1) : RL P ops Q (⟨d, .box t x, ty, pos, af, g⟩ :: rest) f w := by
  refine .inl ⟨hg, ?_⟩
  have hr : (execOp (ev f) ⟨d, .box t x, ty, pos, af, g⟩).run P w = .ok (.value (.pointer (some ⟨w.heap.size, 0, none⟩))) (w.alloc (.cells v.cells t)) := by
    simp [execOp, hx, Instr.box, newVar, newRow]
  rw [hr]
  exact h _ (Blk.new _ _ _) (below_alloc _ _) (World.size_alloc _ _)
theorem Blk.only_ {w w' : World} {b : Nat} {e : TypeId} {cs : Array Value} {bs : List Nat} (h : Blk w b e cs) (ho : Only bs w w') (hb : b ∉ bs) : Blk w' b e cs := (ho.block b hb).trans h
theorem setRow_only (w : World) (b : Nat) (cs : Array Value) : Only [b] w (w.setRow b cs) :=
  ⟨rfl, rfl, rfl, by simp [World.setRow], fun k hk => by
    have : ¬ b = k := fun e => hk (by simp [e])
    simp [World.setRow, Array.getElem?_modify, this]⟩
theorem setRow_blk {w : World} {b : Nat} {e : TypeId} {cs cs' : Array Value} (h : Blk w b e cs) : Blk (w.setRow b cs') b e cs' := setRow_heap w b cs cs' e (0, 0) h
/-- A store into a block of the call's own. -/
theorem RL.store {b o : Nat} {e : TypeId} {cs cs' : Array Value} (hg : wantF f ops ⟨d, .store t x y, ty, pos, af, g⟩ = true) (hx : ev f x = .pointer (some ⟨b, o, none⟩)) (hy : ev f y = v) (hb : Blk w b e cs)
    (hs : (P.info? t).map (·.size) = some v.cells.size) (h1 : (v.cells.toList.all Value.oneCell') = true) (hl0 : Nat.ble (o + v.cells.size) cs.size = true) (hcs : (cs.toList.take o ++ v.cells.toList ++ cs.toList.drop (o + v.cells.size)).toArray = cs')
    (h : ∀ w1, Blk w1 b e cs' → Only [b] w w1 → RL P ops Q rest (upo f d undef) w1) : RL P ops Q (⟨d, .store t x y, ty, pos, af, g⟩ :: rest) f w := by
  have hl := Nat.le_of_ble_eq_true hl0
  refine .inl ⟨hg, ?_⟩
  cases hi : P.info? t with
  | none => rw [hi] at hs; cases hs
  | some inf =>
    rw [hi] at hs
    simp only [Option.map_some, Option.some.injEq] at hs
    have hst := run_storeCells_at (P := P) b o e v.cells.toList 0 cs w hb (by simpa using hl) (fun u hu => List.all_eq_true.1 h1 u hu)
    have hr : (execOp (ev f) ⟨d, .store t x y, ty, pos, af, g⟩).run P w = .ok .skip (w.setRow b cs') := by
      subst hcs
      simp only [Nat.add_zero] at hst
      simp [execOp, hx, hy, Instr.storeAt, Instr.sureAddr, storeVar, sizeOf, typeInfo, hi, hs, hst]
    rw [hr]
    exact h _ (setRow_blk hb) (setRow_only _ _ _)
def bslO (P : Program) (t : TypeId) (len : Nat) (parts : List (Nat × Value)) : Option (TypeId × Array Value) :=
  match P.underlying t with
  | some (.slice e) => match P.info? e with
    | some inf => if len * inf.size > 16777216 then none else
      match (if len * inf.size = 0 then some #[] else inf.zero.map (·.cells)) with
      | some zero => (Instr.fill (fun i => some (i * inf.size, inf.size)) ((Array.range (len * inf.size)).map (zero[· % zero.size]!)) parts).map fun cs => (e, cs)
      | none => none
    | none => none
  | _ => none
theorem run_bsl {len : Nat} {parts : Array (Nat × Value)} {e : TypeId} {cells : Array Value} (hb : bslO P t len parts.toList = some (e, cells)) : (Instr.buildSlice t len parts).run P w = .ok (.slice (some ⟨w.heap.size, 0, none⟩) len len) (w.alloc (.cells cells e)) := by
  unfold bslO at hb
  cases hu : P.underlying t with
  | none => rw [hu] at hb; cases hb
  | some u0 =>
    rw [hu] at hb
    cases u0 <;> simp only at hb <;> try (cases hb; done)
    rename_i e'
    cases hi : P.info? e' with
    | none => rw [hi] at hb; cases hb
    | some inf =>
      rw [hi] at hb
      simp only at hb
      split at hb
      · cases hb
      · rename_i hbig
        by_cases h0 : len * inf.size = 0
        · simp only [h0, if_true] at hb
          cases hf : Instr.fill (fun i => some (i * inf.size, inf.size)) ((Array.range 0).map ((#[] : Array Value)[· % (#[] : Array Value).size]!)) parts.toList with
          | none => rw [hf] at hb; cases hb
          | some cs =>
            rw [hf] at hb
            simp only [Option.map_some, Option.some.injEq, Prod.mk.injEq] at hb
            obtain ⟨rfl, rfl⟩ := hb
            simp at hf
            simp [Instr.buildSlice, run_underlying hu, sizeOf, typeInfo, hi, h0, newRow, hf]
        · simp only [h0, if_false] at hb
          cases hz : inf.zero with
          | none => rw [hz] at hb; cases hb
          | some z =>
            rw [hz] at hb
            simp only [Option.map_some] at hb
            cases hf : Instr.fill (fun i => some (i * inf.size, inf.size)) ((Array.range (len * inf.size)).map (z.cells[· % z.cells.size]!)) parts.toList with
            | none => rw [hf] at hb; cases hb
            | some cs =>
              rw [hf] at hb
              simp only [Option.map_some, Option.some.injEq, Prod.mk.injEq] at hb
              obtain ⟨rfl, rfl⟩ := hb
              simp [Instr.buildSlice, run_underlying hu, sizeOf, typeInfo, hi, h0, hbig, zeroValue, hz, newRow, hf]
theorem RL.bslice {len : Nat} {parts : Array (Nat × Operand)} {pv : Array (Nat × Value)} {e : TypeId} {cells : Array Value} (hg : wantF f ops ⟨d, .buildSlice t len parts, ty, pos, af, g⟩ = true)
    (hp : parts.map (fun p => (p.1, ev f p.2)) = pv) (hb : bslO P t len pv.toList = some (e, cells))
    (h : ∀ w1, Blk w1 w.heap.size e cells → Below w.heap.size w w1 → w1.heap.size = w.heap.size + 1 → RL P ops Q rest (upo f d (.slice (some ⟨w.heap.size, 0, none⟩) len len)) w1) : RL P ops Q (⟨d, .buildSlice t len parts, ty, pos, af, g⟩ :: rest) f w := by
  refine .inl ⟨hg, ?_⟩
  have hr : (execOp (ev f) ⟨d, .buildSlice t len parts, ty, pos, af, g⟩).run P w = .ok (.value (.slice (some ⟨w.heap.size, 0, none⟩) len len)) (w.alloc (.cells cells e)) := by
    have := run_bsl (P := P) (w := w) (parts := pv) hb
    subst hp
    simp [execOp, this]
  rw [hr]
  exact h _ (Blk.new _ _ _) (below_alloc _ _) (World.size_alloc _ _)
end
end
section
open Go.RowKit
set_option linter.unusedVariables false
set_option linter.unusedSimpArgs false
section
variable {P : Program} {w : World} {f : Nat → Value} {n : Nat} {Q : Exit → Act → World → Prop} {K : Act → World → Prop} {a : Act} {x y : Code} {id id' : Nat} {c : Operand}
theorem then_n (h : K a w) : Exit.then K Q .normal a w := h
theorem then_r (h : Q .ret a w) : Exit.then K Q .ret a w := h
theorem then_x (h : Q (.exit id) a w) : Exit.then K Q (.exit id) a w := h
theorem blk_n (h : Q .normal a w) : Exit.inBlock id Q .normal a w := h
theorem blk_r (h : Q .ret a w) : Exit.inBlock id Q .ret a w := h
theorem blk_hit (h : Q .normal a w) : Exit.inBlock id Q (.exit id) a w := by simp only [Exit.inBlock, if_true]; exact h
theorem cond_t (hin : opIn n c = true) (hc : ev f c = .bool true) (h : x.wp P Q (Fr n f) w) : (Code.cond c x y).wp P Q (Fr n f) w := wp_cond_true ((Fr_eval hin).trans hc) h
theorem cond_f (hin : opIn n c = true) (hc : ev f c = .bool false) (h : y.wp P Q (Fr n f) w) : (Code.cond c x y).wp P Q (Fr n f) w := wp_cond_false ((Fr_eval hin).trans hc) h
theorem wp_loopF {cd : Code} (I : Nat → (Nat → Value) → World → Prop) (g0 : Nat) (h0 : I g0 f w)
    (round : ∀ g f w, I g f w → cd.wp P (Exit.then (fun a' w' => ∃ g' f', g' < g ∧ a' = Fr n f' ∧ I g' f' w') Q) (Fr n f) w) : (Code.loop cd).wp P Q (Fr n f) w := by
  refine wp_loop_ghost (fun g a w => ∃ f, a = Fr n f ∧ I g f w) g0 ⟨f, rfl, h0⟩ ?_
  rintro g a w ⟨f, rfl, h⟩
  refine Code.wp_mono ?_ (round g f w h)
  intro e a' w' hq
  cases e <;> first | exact hq | skip
  obtain ⟨g', f', h1, h2, h3⟩ := hq
  exact ⟨g', h1, f', h2, h3⟩
theorem enter {gf : FuncId} {fn : Func} {cd : Code} {args : Array Value} {R : Ending → World → Prop} (n : Nat) (hf : P.funcs[gf]? = some fn) (hb : fn.body = some cd) (hn : fn.ntmps = n) (hs : Nat.ble args.size n = true)
    (h : ∀ f, (∀ i v, args[i]? = some v → f i = v) → cd.wp P (bodyPost P fn R) (Fr n f) w) : Calls P gf args w R := by
  refine calls_of_wp hf hb ?_
  have hs' : args.size ≤ n := Nat.le_of_ble_eq_true hs
  have e : ({ tmps := args ++ Array.replicate (fn.ntmps - args.size) undef, defers := [] } : Act) = Fr n (fun i => (args ++ Array.replicate (n - args.size) undef).getD i undef) := by
    rw [hn]
    simp only [Fr, Act.mk.injEq, and_true]
    apply Array.ext_getElem?
    intro i
    have hsz : (args ++ Array.replicate (n - args.size) undef).size = n := by simp; omega
    by_cases hi : i < n
    · simp only [List.getElem?_toArray, List.getElem?_map, List.getElem?_range hi, Option.map_some]
      have h2 : i < (args ++ Array.replicate (n - args.size) undef).size := by rw [hsz]; exact hi
      rw [Array.getElem?_eq_getElem h2, Array.getD, dif_pos h2]
      rfl
    · have h2 : (args ++ Array.replicate (n - args.size) undef).size ≤ i := by rw [hsz]; omega
      rw [Array.getElem?_eq_none h2]
      simp [hi]
  rw [e]
  refine h _ fun i v hi => ?_
  have hlt : i < args.size := (Array.getElem?_eq_some_iff.1 hi).1
  have h2 : i < (args ++ Array.replicate (n - args.size) undef).size := by simp; omega
  simp only [Array.getD, dif_pos h2]
  rw [Array.getElem?_eq_getElem hlt] at hi
  injection hi with hi
  show (args ++ Array.replicate (n - args.size) undef)[i] = v
  rw [Array.getElem_append_left hlt]
  exact hi
theorem ret1 {fn : Func} {R : Ending → World → Prop} {t : Tmp} {v : Value} (hr : fn.results = #[.tmp t]) (ht : Nat.blt t n = true) (hv : f t = v) (h : R (.returned v) w) : bodyPost P fn R .ret (Fr n f) w :=
  ⟨rfl, v, by rw [results_tmp hr]; congr 1; have ht' : t < n := by simpa using ht
              simp [Fr, ht', hv], h⟩
theorem ret2 {fn : Func} {R : Ending → World → Prop} {t1 t2 : Tmp} {v1 v2 : Value} (hr : fn.results = #[.tmp t1, .tmp t2]) (ht : (Nat.blt t1 n && Nat.blt t2 n) = true) (hv1 : f t1 = v1) (hv2 : f t2 = v2) (h : R (.returned (.tuple #[v1, v2])) w) : bodyPost P fn R .ret (Fr n f) w :=
  ⟨rfl, _, by
    rw [results_tmp2 hr]
    simp only [Bool.and_eq_true] at ht
    have h1 : t1 < n := by simpa using ht.1
    have h2 : t2 < n := by simpa using ht.2
    simp only [Fr, Array.getD_eq_getD_getElem?, List.getElem?_toArray, List.getElem?_map, List.getElem?_range h1, List.getElem?_range h2, Option.map_some, Option.getD_some, hv1, hv2], h⟩
/-- A result that lies in a variable in memory. -/
theorem retc {fn : Func} {R : Ending → World → Prop} {t : Tmp} {b o : Nat} {ty : TypeId} {cs : List Value} (hr : fn.results = #[.cell t ty]) (ht : Nat.blt t n = true) (hv : f t = .pointer (some ⟨b, o, none⟩)) (hag : aggO P ty = some cs.length)
    (hc : ∀ j v, cs[j]? = some v → w.cell? ⟨b, o + j, none⟩ = some v) (h : R (.returned (.agg cs.toArray)) w) : bodyPost P fn R .ret (Fr n f) w :=
  ⟨rfl, _, by
    have h1 : t < n := by simpa using ht
    have hl := run_loadN (P := P) (w := w) hag hc
    simp only [Instr.loadAt, Instr.sureAddr, Sem.run_bind, Sem.run_pure, Result.andThen_ok, bind_pure_comp, pure_bind] at hl
    simp only [results, hr]
    simp [Fr, h1, hv, asAddr, hl], h⟩
end
section
variable {P : Program} {f : Nat → Value} {w : World} {n id : Nat} {l : List Oper} {Q : Exit → Act → World → Prop}
theorem RQ_mono {ops : Array Oper} {C : World → Prop} {Q Q' : (Nat → Value) → Prop} (hq : ∀ f, Q f → Q' f) : ∀ {l : List Oper} {f : Nat → Value}, RQ P ops C Q l f → RQ P ops C Q' l f
  | [], f, h => hq f h
  | o :: rest, f, ⟨v, h1, h2⟩ => ⟨v, h1, RQ_mono hq h2⟩
/-- A region that only looks, at one world. -/
theorem wp_rs (hin : okAll n l = true) (h : RQ P l.toArray (· = w) (fun f' => Q .normal (Fr n f') w) l f) : (Code.region id l.toArray false).wp P Q (Fr n f) w :=
  wp_rq (· = w) rfl hin (RQ_mono (fun f' h w' e => by rw [e]; exact h) h)
/-- A region whose calls leave old memory alone. -/
theorem wp_rb (hin : okAll n l = true) (h : RQ P l.toArray (Below w.heap.size w) (fun f' => ∀ w', Below w.heap.size w w' → Q .normal (Fr n f') w') l f) : (Code.region id l.toArray false).wp P Q (Fr n f) w :=
  wp_rq (Below w.heap.size w) (Below.refl _ _) hin h
theorem wp_rbd (hm : P.follows .mixedOrders = true) (hin : (okAll n l && Region.lexB .any l.toArray) = true) (h : RQ P l.toArray (Below w.heap.size w) (fun f' => ∀ w', Below w.heap.size w w' → Q .normal (Fr n f') w') l f) : (Code.region id l.toArray true).wp P Q (Fr n f) w :=
  wp_rq_draw (Below w.heap.size w) (Below.drew (Below.refl _ _)) hm hin h
end
end
section
open Go.RowKit
set_option linter.unusedVariables false
set_option linter.unusedSimpArgs false
structure DPort where
  agent : Int
  slot : Int
deriving DecidableEq, Inhabited
def portRd : Rd DPort := fun _ _ cs x => cs = [.int .i64 x.agent, .int .i64 x.slot]
def portOw : Ow DPort := fun _ cs x bs => cs = [.int .i64 x.agent, .int .i64 x.slot] ∧ bs = []
theorem portRd_ok : RdOk portRd 2 := ⟨fun h => by cases h; rfl, fun _ h => h, fun _ h => h⟩
theorem portOw_ok : OwOk portOw 2 := ⟨fun h => by rw [h.1]; rfl, fun _ h => h⟩
theorem portOw_reads (B : Nat) : Gives portOw portRd B := fun _ _ _ _ h _ => h.1
theorem SlAt.port {w : World} {B n : Nat} {A : Option Addr} {xs : List DPort} (h : SlAt portRd 2 w B A n xs) {k : Nat} (hk : k < n) :
    ∃ b off x , A = some ⟨b, off, none⟩ ∧ b < B ∧ xs[k]? = some x ∧ w.cell? ⟨b, off + k * 2, none⟩ = some (.int .i64 x.agent) ∧ w.cell? ⟨b, off + k * 2 + 1, none⟩ = some (.int .i64 x.slot) := by
  obtain ⟨b, off, x, cs, e, hb, hx, rfl, hc⟩ := h.at_ hk
  exact ⟨b, off, x, e, hb, hx, (by simpa using hc 0 _ rfl), (by simpa using hc 1 _ rfl)⟩
structure DPair where
  a : Int
  b : Int
deriving DecidableEq, Inhabited
def pairRd : Rd DPair := fun _ _ cs x => cs = [.int .i64 x.a, .int .i64 x.b]
def pairOw : Ow DPair := fun _ cs x bs => cs = [.int .i64 x.a, .int .i64 x.b] ∧ bs = []
theorem SlAt.pair {w : World} {B n : Nat} {A : Option Addr} {xs : List DPair} (h : SlAt pairRd 2 w B A n xs) {k : Nat} (hk : k < n) :
    ∃ b off x , A = some ⟨b, off, none⟩ ∧ b < B ∧ xs[k]? = some x ∧ w.cell? ⟨b, off + k * 2, none⟩ = some (.int .i64 x.a) ∧ w.cell? ⟨b, off + k * 2 + 1, none⟩ = some (.int .i64 x.b) := by
  obtain ⟨b, off, x, cs, e, hb, hx, rfl, hc⟩ := h.at_ hk
  exact ⟨b, off, x, e, hb, hx, (by simpa using hc 0 _ rfl), (by simpa using hc 1 _ rfl)⟩
structure DWord where
  tag : Int
  at_ : Int
deriving DecidableEq, Inhabited
def wordRd : Rd DWord := fun _ _ cs x => cs = [.int .i64 x.tag, .int .i64 x.at_]
structure DAgent where
  kind : Int
  level : Int
  value : Int
  data : List Int
  ports : List DPort
deriving DecidableEq, Inhabited
def agentRd : Rd DAgent := fun w B cs x => ∃(A1 : Option Addr) (n1 c1 : Nat) (A2 : Option Addr) (n2 c2 : Nat), cs = [.int .i64 x.kind, .int .i64 x.level, .int .i64 x.value, .slice A1 n1 c1, .slice A2 n2 c2] ∧ (SlAt intRd 1 w B A1 n1 x.data ∧ n1 ≤ c1 ∧ c1 ≤ maxLen) ∧ (SlAt portRd 2 w B A2 n2 x.ports ∧ n2 ≤ c2 ∧ c2 ≤ maxLen)
def agentOw : Ow DAgent := fun w cs x bs => ∃ (A1 : Option Addr) (n1 c1 : Nat) (A2 : Option Addr) (n2 c2 : Nat) (b1 b2 : List Nat), cs = [.int .i64 x.kind, .int .i64 x.level, .int .i64 x.value, .slice A1 n1 c1, .slice A2 n2 c2] ∧ (OwAt intOw 1 w A1 n1 x.data b1 ∧ n1 ≤ c1 ∧ c1 ≤ maxLen) ∧ (OwAt portOw 2 w A2 n2 x.ports b2 ∧ n2 ≤ c2 ∧ c2 ≤ maxLen) ∧ bs = b1 ++ b2
theorem agentRd_ok : RdOk agentRd 5 :=
  ⟨fun ⟨A1, n1, c1, A2, n2, c2, e, _⟩ => by rw [e]; rfl,
   fun hk ⟨A1, n1, c1, A2, n2, c2, e, ⟨h1, r1⟩, ⟨h2, r2⟩⟩ => ⟨A1, n1, c1, A2, n2, c2, e, ⟨h1.keep intRd_ok hk, r1⟩, ⟨h2.keep portRd_ok hk, r2⟩⟩,
   fun hB ⟨A1, n1, c1, A2, n2, c2, e, ⟨h1, r1⟩, ⟨h2, r2⟩⟩ => ⟨A1, n1, c1, A2, n2, c2, e, ⟨h1.more intRd_ok hB, r1⟩, ⟨h2.more portRd_ok hB, r2⟩⟩⟩
theorem agentOw_ok : OwOk agentOw 5 :=
  ⟨fun ⟨A1, n1, c1, A2, n2, c2, b1, b2, e, _⟩ => by rw [e]; rfl,
   fun hb ⟨A1, n1, c1, A2, n2, c2, b1, b2, e, ⟨h1, r1⟩, ⟨h2, r2⟩, eb⟩ => ⟨A1, n1, c1, A2, n2, c2, b1, b2, e, ⟨h1.keep intOw_ok (fun k hk => hb k (by rw [eb]; simp [hk])), r1⟩, ⟨h2.keep portOw_ok (fun k hk => hb k (by rw [eb]; simp [hk])), r2⟩, eb⟩⟩
theorem agentOw_reads (B : Nat) : Gives agentOw agentRd B := fun _ _ _ _ ⟨A1, n1, c1, A2, n2, c2, b1, b2, e, ⟨h1, r1⟩, ⟨h2, r2⟩, eb⟩ hb => ⟨A1, n1, c1, A2, n2, c2, e, ⟨h1.reads (intOw_reads B) (fun k hk => hb k (by rw [eb]; simp [hk])), r1⟩, ⟨h2.reads (portOw_reads B) (fun k hk => hb k (by rw [eb]; simp [hk])), r2⟩⟩
theorem SlAt.agent {w : World} {B n : Nat} {A : Option Addr} {xs : List DAgent} (h : SlAt agentRd 5 w B A n xs) {k : Nat} (hk : k < n) :
    ∃ b off x A1 n1 c1 A2 n2 c2, A = some ⟨b, off, none⟩ ∧ b < B ∧ xs[k]? = some x ∧ w.cell? ⟨b, off + k * 5, none⟩ = some (.int .i64 x.kind) ∧ w.cell? ⟨b, off + k * 5 + 1, none⟩ = some (.int .i64 x.level) ∧ w.cell? ⟨b, off + k * 5 + 2, none⟩ = some (.int .i64 x.value) ∧ w.cell? ⟨b, off + k * 5 + 3, none⟩ = some (.slice A1 n1 c1) ∧ w.cell? ⟨b, off + k * 5 + 4, none⟩ = some (.slice A2 n2 c2) ∧ (SlAt intRd 1 w B A1 n1 x.data ∧ n1 ≤ c1 ∧ c1 ≤ maxLen) ∧ (SlAt portRd 2 w B A2 n2 x.ports ∧ n2 ≤ c2 ∧ c2 ≤ maxLen) := by
  obtain ⟨b, off, x, cs, e, hb, hx, ⟨A1, n1, c1, A2, n2, c2, rfl, h1, h2⟩, hc⟩ := h.at_ hk
  exact ⟨b, off, x, A1, n1, c1, A2, n2, c2, e, hb, hx, (by simpa using hc 0 _ rfl), (by simpa using hc 1 _ rfl), (by simpa using hc 2 _ rfl), (by simpa using hc 3 _ rfl), (by simpa using hc 4 _ rfl), h1, h2⟩
def szAgent (x : DAgent) : Nat := x.data.length + x.ports.length
def szAgentS (xs : List DAgent) : Nat := xs.length + (xs.map szAgent).sum
structure DNet where
  agents : List DAgent
deriving DecidableEq, Inhabited
def netRd : Rd DNet := fun w B cs x => ∃(A1 : Option Addr) (n1 c1 : Nat), cs = [.slice A1 n1 c1] ∧ (SlAt agentRd 5 w B A1 n1 x.agents ∧ n1 ≤ c1 ∧ c1 ≤ maxLen)
def netOw : Ow DNet := fun w cs x bs => ∃ (A1 : Option Addr) (n1 c1 : Nat) (b1 : List Nat), cs = [.slice A1 n1 c1] ∧ (OwAt agentOw 5 w A1 n1 x.agents b1 ∧ n1 ≤ c1 ∧ c1 ≤ maxLen) ∧ bs = b1
theorem netRd_ok : RdOk netRd 1 :=
  ⟨fun ⟨A1, n1, c1, e, _⟩ => by rw [e]; rfl,
   fun hk ⟨A1, n1, c1, e, ⟨h1, r1⟩⟩ => ⟨A1, n1, c1, e, ⟨h1.keep agentRd_ok hk, r1⟩⟩,
   fun hB ⟨A1, n1, c1, e, ⟨h1, r1⟩⟩ => ⟨A1, n1, c1, e, ⟨h1.more agentRd_ok hB, r1⟩⟩⟩
theorem netOw_ok : OwOk netOw 1 :=
  ⟨fun ⟨A1, n1, c1, b1, e, _⟩ => by rw [e]; rfl,
   fun hb ⟨A1, n1, c1, b1, e, ⟨h1, r1⟩, eb⟩ => ⟨A1, n1, c1, b1, e, ⟨h1.keep agentOw_ok (fun k hk => hb k (by rw [eb]; simp [hk])), r1⟩, eb⟩⟩
theorem netOw_reads (B : Nat) : Gives netOw netRd B := fun _ _ _ _ ⟨A1, n1, c1, b1, e, ⟨h1, r1⟩, eb⟩ hb => ⟨A1, n1, c1, e, ⟨h1.reads (agentOw_reads B) (fun k hk => hb k (by rw [eb]; simp [hk])), r1⟩⟩
theorem SlAt.net {w : World} {B n : Nat} {A : Option Addr} {xs : List DNet} (h : SlAt netRd 1 w B A n xs) {k : Nat} (hk : k < n) :
    ∃ b off x A1 n1 c1, A = some ⟨b, off, none⟩ ∧ b < B ∧ xs[k]? = some x ∧ w.cell? ⟨b, off + k, none⟩ = some (.slice A1 n1 c1) ∧ (SlAt agentRd 5 w B A1 n1 x.agents ∧ n1 ≤ c1 ∧ c1 ≤ maxLen) := by
  obtain ⟨b, off, x, cs, e, hb, hx, ⟨A1, n1, c1, rfl, h1⟩, hc⟩ := h.at_ hk
  exact ⟨b, off, x, A1, n1, c1, e, hb, hx, (by simpa using hc 0 _ rfl), h1⟩
def szNet (x : DNet) : Nat := szAgentS x.agents
structure DCell where
  kind : Int
  level : Int
  value : Int
  data : List Int
  words : List DWord
deriving DecidableEq, Inhabited
def cellRd : Rd DCell := fun w B cs x => ∃(A1 : Option Addr) (n1 c1 : Nat) (A2 : Option Addr) (n2 c2 : Nat), cs = [.int .i64 x.kind, .int .i64 x.level, .int .i64 x.value, .slice A1 n1 c1, .slice A2 n2 c2] ∧ (SlAt intRd 1 w B A1 n1 x.data ∧ n1 ≤ c1 ∧ c1 ≤ maxLen) ∧ (SlAt wordRd 2 w B A2 n2 x.words ∧ n2 ≤ c2 ∧ c2 ≤ maxLen)
theorem SlAt.cell {w : World} {B n : Nat} {A : Option Addr} {xs : List DCell} (h : SlAt cellRd 5 w B A n xs) {k : Nat} (hk : k < n) :
    ∃ b off x A1 n1 c1 A2 n2 c2, A = some ⟨b, off, none⟩ ∧ b < B ∧ xs[k]? = some x ∧ w.cell? ⟨b, off + k * 5, none⟩ = some (.int .i64 x.kind) ∧ w.cell? ⟨b, off + k * 5 + 1, none⟩ = some (.int .i64 x.level) ∧ w.cell? ⟨b, off + k * 5 + 2, none⟩ = some (.int .i64 x.value) ∧ w.cell? ⟨b, off + k * 5 + 3, none⟩ = some (.slice A1 n1 c1) ∧ w.cell? ⟨b, off + k * 5 + 4, none⟩ = some (.slice A2 n2 c2) ∧ (SlAt intRd 1 w B A1 n1 x.data ∧ n1 ≤ c1 ∧ c1 ≤ maxLen) ∧ (SlAt wordRd 2 w B A2 n2 x.words ∧ n2 ≤ c2 ∧ c2 ≤ maxLen) := by
  obtain ⟨b, off, x, cs, e, hb, hx, ⟨A1, n1, c1, A2, n2, c2, rfl, h1, h2⟩, hc⟩ := h.at_ hk
  exact ⟨b, off, x, A1, n1, c1, A2, n2, c2, e, hb, hx, (by simpa using hc 0 _ rfl), (by simpa using hc 1 _ rfl), (by simpa using hc 2 _ rfl), (by simpa using hc 3 _ rfl), (by simpa using hc 4 _ rfl), h1, h2⟩
end
section
open Go.RowKit
set_option linter.unusedVariables false
set_option linter.unusedSimpArgs false
def getI {α : Type} (xs : List α) (i : Int) : Option α := if 0 ≤ i then xs[i.toNat]? else none
theorem getI_some {α : Type} {xs : List α} {i : Int} {x : α} (h : getI xs i = some x) : ∃ k : Nat, i = (k : Int) ∧ k < xs.length ∧ xs[k]? = some x := by
  unfold getI at h
  split at h
  · rename_i h0
    obtain ⟨k, rfl⟩ := Int.eq_ofNat_of_zero_le h0
    exact ⟨k, rfl, lt_of_some h, h⟩
  · cases h
theorem getI_nat {α : Type} {xs : List α} {k : Nat} {x : α} (h : xs[k]? = some x) : getI xs (k : Int) = some x := by simp [getI, h]
/-- A number that fits an int64. -/
def ck (n : Int) : Option Int := if -9223372036854775808 ≤ n ∧ n ≤ 9223372036854775807 then some n else none
theorem ck_some {n m : Int} (h : ck n = some m) : m = n ∧ -9223372036854775808 ≤ n ∧ n ≤ 9223372036854775807 := by
  unfold ck at h
  split at h
  · rename_i h0; injection h with h; exact ⟨h.symm, h0⟩
  · cases h
theorem ck_ok {n : Int} (h : -9223372036854775808 ≤ n ∧ n ≤ 9223372036854775807) : ck n = some n := if_pos h
/-- What must hold. -/
def mustP (p : Prop) [Decidable p] : Option Unit := if p then some () else none
theorem mustP_some {p : Prop} [Decidable p] {u : Unit} (h : mustP p = some u) : p := by
  unfold mustP at h
  split at h
  · assumption
  · cases h
theorem mustP_ok {p : Prop} [Decidable p] (h : p) : mustP p = some () := if_pos h
theorem bnd {α β : Type} {x : Option α} {k : α → Option β} {r : β} (h : x.bind k = some r) : ∃ a, x = some a ∧ k a = some r := Option.bind_eq_some_iff.1 h
theorem cT {β : Type} {b : Bool} {x y : β} {r : β} (c : b = true) (h : (bif b then x else y) = r) : x = r := by rw [c] at h; exact h
theorem cF {β : Type} {b : Bool} {x y : β} {r : β} (c : b = false) (h : (bif b then x else y) = r) : y = r := by rw [c] at h; exact h
theorem wrap_ok {n : Int} (h : -9223372036854775808 ≤ n ∧ n ≤ 9223372036854775807) : IntKind.i64.wrap n = n := IntWalk.i64_in n h
theorem binI_add {m n : Int} (h : -9223372036854775808 ≤ m + n ∧ m + n ≤ 9223372036854775807) : binI .add .i64 m n = some (.int .i64 (m + n)) := by unfold binI; simp only; rw [wrap_ok h]
theorem binI_sub {m n : Int} (h : -9223372036854775808 ≤ m - n ∧ m - n ≤ 9223372036854775807) : binI .sub .i64 m n = some (.int .i64 (m - n)) := by unfold binI; simp only; rw [wrap_ok h]
section
variable {f : Nat → Value} {ops : Array Oper} {d : Option Tmp} {op : Op} {ty : TypeId} {pos : String} {af : Array Edge} {j dj : Nat} {want have_ : Bool}
theorem wantT (hj : (ops[j]?).bind (·.dst) = some dj) (hv : f dj = .bool want) : wantF f ops ⟨d, op, ty, pos, af, some (j, want)⟩ = true := by
  simp only [wantF, gval, hj, hv]; simp
theorem wantN (hj : (ops[j]?).bind (·.dst) = some dj) (hv : f dj = .bool have_) (hne : (have_ == want) = false) : wantF f ops ⟨d, op, ty, pos, af, some (j, want)⟩ = false := by
  simp only [wantF, gval, hj, hv]
  cases have_ <;> cases want <;> first | rfl | cases hne
end
theorem bcases (b : Bool) : b = false ∨ b = true := by cases b <;> simp
theorem vb {v : Value} {b b' : Bool} (h : v = .bool b) (c : b = b') : v = .bool b' := by rw [h, c]
theorem vbn {v : Value} {b b' b'' : Bool} (h : v = .bool (!b)) (c : b = b') (e : (!b') = b'') : v = .bool b'' := by rw [h, c, e]
section
variable {α : Type} {R : Rd α} {O : Ow α} {sz : Nat} {w w' : World} {v : Value} {xs : List α} {x : α}
theorem cellT {A : Addr} {u : Value} (T : Below w.heap.size w w') (h : w.cell? A = some u) : w'.cell? A = some u := (T.cell (World.block_lt_of_cell? w A h)).trans h
/-- At the present world: a slice, a struct, a pointer to a struct. -/
def Sl (R : Rd α) (sz : Nat) (w : World) (v : Value) (xs : List α) : Prop := RdS R sz w w.heap.size v xs
def St (R : Rd α) (w : World) (v : Value) (x : α) : Prop := RdT R w w.heap.size v x
def Pt (R : Rd α) (w : World) (v : Value) (x : α) : Prop := ∃ b o cs, v = .pointer (some ⟨b, o, none⟩) ∧ b < w.heap.size ∧ R w w.heap.size cs x ∧ ∀ j v, cs[j]? = some v → w.cell? ⟨b, o + j, none⟩ = some v
theorem Sl.at_ (ok : RdOk R sz) (h : Sl R sz w v xs) (T : Below w.heap.size w w') : Sl R sz w' v xs := (RdS.below ok h T).more ok T.size
theorem St.at_ (ok : RdOk R sz) (h : St R w v x) (T : Below w.heap.size w w') : St R w' v x := (RdT.below ok h T).more ok T.size
theorem Pt.at_ (ok : RdOk R sz) (h : Pt R w v x) (T : Below w.heap.size w w') : Pt R w' v x := by
  obtain ⟨b, o, cs, e, hb, hR, hc⟩ := h
  exact ⟨b, o, cs, e, Nat.lt_of_lt_of_le hb T.size, ok.more T.size (ok.keep (fun p hp => T.cell hp) hR), fun j v hj => cellT T (hc j v hj)⟩
theorem SlAt.addr {B n : Nat} {A : Option Addr} (h : SlAt R sz w B A n xs) (hn : 0 < n) : ∃ b o, A = some ⟨b, o, none⟩ ∧ b < B := by
  obtain ⟨b, o, e, hb, _⟩ := h.2 hn
  exact ⟨b, o, e, hb⟩
theorem SlAt.el {B n b o : Nat} (h : SlAt R sz w B (some ⟨b, o, none⟩) n xs) {k : Nat} (hx : xs[k]? = some x) : ∃ cs, R w B cs x ∧ ∀ j v, cs[j]? = some v → w.cell? ⟨b, o + k * sz + j, none⟩ = some v := by
  have hl := lt_of_some hx
  obtain ⟨b', o', e, hb, hc⟩ := h.2 (by have := h.1; omega)
  injection e with e
  injection e with e1 e2
  subst e1 e2
  exact hc k x hx
theorem SlAt.now (ok : RdOk R sz) {B n : Nat} {A : Option Addr} (h : SlAt R sz w B A n xs) (hB : B ≤ w.heap.size) (T : Below w.heap.size w w') : SlAt R sz w' w'.heap.size A n xs :=
  (h.below ok (T.mono hB)).more ok (Nat.le_trans hB T.size)
/-- A slice that was read, as an argument. -/
theorem slArg (ok : RdOk R sz) {n c : Nat} {A : Option Addr} (h : SlAt R sz w w.heap.size A n xs) (r : n ≤ c ∧ c ≤ maxLen) (T : Below w.heap.size w w') : Sl R sz w' (.slice A n c) xs :=
  ⟨A, n, c, rfl, h.now ok (Nat.le_refl _) T, r⟩
theorem ptArg (ok : RdOk R sz) {b o : Nat} {cs : List Value} (hb : b < w.heap.size) (hR : R w w.heap.size cs x) (hc : ∀ j v, cs[j]? = some v → w.cell? ⟨b, o + j, none⟩ = some v) (T : Below w.heap.size w w') : Pt R w' (.pointer (some ⟨b, o, none⟩)) x :=
  Pt.at_ ok ⟨b, o, cs, rfl, hb, hR, hc⟩ T
theorem ptBox {g : Nat} {t : TypeId} {cs : List Value} (hb : Blk w g t cs.toArray) (hR : R w w.heap.size cs x) : Pt R w (.pointer (some ⟨g, 0, none⟩)) x :=
  ⟨g, 0, cs, rfl, hb.lt, hR, fun j v hj => by rw [hb.cell]; simpa using hj⟩
theorem stArg {cs : List Value} (hR : R w w.heap.size cs x) : St R w (.agg cs.toArray) x := ⟨cs, rfl, hR⟩
theorem len_le {n c : Nat} (r : n ≤ c ∧ c ≤ maxLen) : n ≤ 9223372036854775807 := by have := r.1; have := r.2; unfold maxLen at this; omega
theorem blkCell {g : Nat} {t : TypeId} {cs : Array Value} {i : Nat} {u : Value} (hb : Blk w g t cs) (hu : cs[i]? = some u) : w.cell? ⟨g, 0 + i, none⟩ = some u := by rw [Nat.zero_add, hb.cell]; exact hu
theorem blkT {g : Nat} {t : TypeId} {cs : Array Value} (hb : Blk w g t cs) (T : Below w.heap.size w w') : Blk w' g t cs := hb.below T hb.lt
theorem blkCells {g : Nat} {t : TypeId} {cs : List Value} (hb : Blk w g t cs.toArray) : ∀ j v, cs[j]? = some v → w.cell? ⟨g, 0 + j, none⟩ = some v := fun j v hj => blkCell hb (by simpa using hj)
theorem Tt {w w1 w2 : World} (T : Below w.heap.size w w1) (h : Below w1.heap.size w1 w2) : Below w.heap.size w w2 := T.trans (h.mono T.size)
theorem callB {P : Program} {gf : FuncId} {vals : Array Value} {v : Value} (h : Calls P gf vals w fun e w' => e = .returned v ∧ w = w') : Calls P gf vals w fun e w' => e = .returned v ∧ Below w.heap.size w w' := h.mono fun e w' ⟨he, hw⟩ => ⟨he, by subst hw; exact Below.refl _ _⟩
section
variable {C : World → Prop} {b o : Nat} {v0 v1 v2 v3 v4 : Value}
theorem cells1 (h0 : CellIn C ⟨b, o + 0, none⟩ v0) : CellsIn C b o [v0] := fun w hw j v hj => by
  rcases j with _ | j <;> simp at hj; subst hj; exact h0 w hw
theorem cells2 (h0 : CellIn C ⟨b, o + 0, none⟩ v0) (h1 : CellIn C ⟨b, o + 1, none⟩ v1) : CellsIn C b o [v0, v1] := fun w hw j v hj => by
  rcases j with _ | _ | j <;> simp at hj <;> subst hj
  · exact h0 w hw
  · exact h1 w hw
theorem cells5 (h0 : CellIn C ⟨b, o + 0, none⟩ v0) (h1 : CellIn C ⟨b, o + 1, none⟩ v1) (h2 : CellIn C ⟨b, o + 2, none⟩ v2) (h3 : CellIn C ⟨b, o + 3, none⟩ v3) (h4 : CellIn C ⟨b, o + 4, none⟩ v4) : CellsIn C b o [v0, v1, v2, v3, v4] := fun w hw j v hj => by
  rcases j with _ | _ | _ | _ | _ | j <;> simp at hj <;> subst hj
  · exact h0 w hw
  · exact h1 w hw
  · exact h2 w hw
  · exact h3 w hw
  · exact h4 w hw
end
end
section
variable {P : Program} {w : World} {f : Nat → Value} {n xid id' : Nat} {Q : Exit → Act → World → Prop} {J : (Nat → Value) → World → Prop}
/-- What stands behind a loop's body: at the loop's own exit J is asked. -/
def hitJ (n xid : Nat) (J : (Nat → Value) → World → Prop) (Q : Exit → Act → World → Prop) : Exit → Act → World → Prop
  | .exit id, a, w => if id = xid then ∃ f, a = Fr n f ∧ J f w else Q (.exit id) a w
  | e, a, w => Q e a w
theorem hit_r {a : Act} (h : Q .ret a w) : hitJ n xid J Q .ret a w := h
theorem hit_x {a : Act} (h : ∃ f, a = Fr n f ∧ J f w) : hitJ n xid J Q (.exit xid) a w := by simp only [hitJ, if_true]; exact h
theorem wp_loopX {cd : Code} (I : Nat → (Nat → Value) → World → Prop) (xid : Nat) (J : (Nat → Value) → World → Prop) (g0 : Nat) (h0 : I g0 f w) (hJ : ∀ f w, J f w → Q (.exit xid) (Fr n f) w)
    (round : ∀ g f w, I g f w → cd.wp P (Exit.then (fun a' w' => ∃ g' f', g' < g ∧ a' = Fr n f' ∧ I g' f' w') (hitJ n xid J Q)) (Fr n f) w) : (Code.loop cd).wp P Q (Fr n f) w := by
  refine wp_loopF I g0 h0 fun g f w h => Code.wp_mono ?_ (round g f w h)
  intro e a w hq
  cases e with
  | exit id =>
    have hq : hitJ n xid J Q (.exit id) a w := hq
    show Q (.exit id) a w
    by_cases hid : id = xid
    · subst hid
      simp only [hitJ, if_true] at hq
      obtain ⟨f, rfl, hj⟩ := hq
      exact hJ f w hj
    · simp only [hitJ, hid, if_false] at hq
      exact hq
  | _ => exact hq
theorem retct {fn : Func} {R : Ending → World → Prop} {t t2 : Tmp} {b o : Nat} {ty : TypeId} {cs : List Value} {v2 : Value} (hr : fn.results = #[.cell t ty, .tmp t2]) (ht : (Nat.blt t n && Nat.blt t2 n) = true) (hv : f t = .pointer (some ⟨b, o, none⟩)) (hv2 : f t2 = v2) (hag : aggO P ty = some cs.length)
    (hc : ∀ j v, cs[j]? = some v → w.cell? ⟨b, o + j, none⟩ = some v) (h : R (.returned (.tuple #[.agg cs.toArray, v2])) w) : bodyPost P fn R .ret (Fr n f) w :=
  ⟨rfl, _, by
    simp only [Bool.and_eq_true] at ht
    have h1 : t < n := by simpa using ht.1
    have h2 : t2 < n := by simpa using ht.2
    have hl := run_loadN (P := P) (w := w) hag hc
    simp only [Instr.loadAt, Instr.sureAddr, Sem.run_bind, Sem.run_pure, Result.andThen_ok, bind_pure_comp, pure_bind] at hl
    simp only [results, hr]
    simp [Fr, h1, h2, hv, hv2, asAddr, hl], h⟩
end
section
variable {P : Program} {C : World → Prop} {f : Nat → Value} {d : Option Tmp} {ty : TypeId} {pos : String} {af : Array Edge} {g : Option (Nat × Bool)} {x y : Operand} {t t' : TypeId} {us vs : Array Value} {b : Bool}
theorem Y.eqS (hx : ev f x = .agg us) (hy : ev f y = .agg vs) (he : ∀ w, (Op.equalIn 10000 t (.agg us) (.agg vs)).run P w = .ok b w) (hgd : ∀ w, (eqGuard .eql t x y (.agg us) (.agg vs)).run P w = .ok () w) : Y P C f ⟨d, .binOp .eql t x y t', ty, pos, af, g⟩ (.bool b) := fun w _ => by
  simp only [execOp, hx, hy, Sem.run_bind, hgd w, Result.andThen_ok]
  simp [binOp, Op.equal, Op.maxDepth, he w]
theorem Y.neS (hx : ev f x = .agg us) (hy : ev f y = .agg vs) (he : ∀ w, (Op.equalIn 10000 t (.agg us) (.agg vs)).run P w = .ok b w) (hgd : ∀ w, (eqGuard .neq t x y (.agg us) (.agg vs)).run P w = .ok () w) : Y P C f ⟨d, .binOp .neq t x y t', ty, pos, af, g⟩ (.bool (!b)) := fun w _ => by
  simp only [execOp, hx, hy, Sem.run_bind, hgd w, Result.andThen_ok]
  simp [binOp, Op.equal, Op.maxDepth, he w]
end
end
section
open Go.RowKit
set_option linter.unusedVariables false
set_option linter.unusedSimpArgs false
def encPort (x : DPort) : List Value := [.int .i64 x.agent, .int .i64 x.slot]
def encPair (x : DPair) : List Value := [.int .i64 x.a, .int .i64 x.b]
/-- How the elements of a type of plain cells are laid. -/
structure FlatT {α : Type} (R : Rd α) (O : Ow α) (enc : α → List Value) (sz : Nat) : Prop where
  pos : 0 < sz
  len : ∀ x, (enc x).length = sz
  rd : ∀ {w B cs x}, R w B cs x ↔ cs = enc x
  ow : ∀ {w x}, O w (enc x) x []
  one : ∀ x, ∀ v ∈ enc x, v.oneCell' = true
theorem fPort : FlatT portRd portOw encPort 2 := ⟨by decide, fun _ => rfl, Iff.rfl, ⟨rfl, rfl⟩, fun x v hv => by simp [encPort] at hv; rcases hv with rfl | rfl <;> rfl⟩
theorem fPair : FlatT pairRd pairOw encPair 2 := ⟨by decide, fun _ => rfl, Iff.rfl, ⟨rfl, rfl⟩, fun x v hv => by simp [encPair] at hv; rcases hv with rfl | rfl <;> rfl⟩
section
variable {α : Type} {R : Rd α} {O : Ow α} {enc : α → List Value} {sz : Nat} {w w' : World} {lo lo' : Nat} {v : Value} {xs ys : List α} {e : TypeId}
theorem FlatT.flen (F : FlatT R O enc sz) : ∀ xs : List α, (xs.flatMap enc).length = xs.length * sz
  | [] => by simp
  | x :: xs => by simp [F.len, F.flen xs, Nat.add_mul]; omega
theorem FlatT.fone (F : FlatT R O enc sz) {xs : List α} : ∀ u ∈ xs.flatMap enc, u.oneCell' = true := fun u hu => by
  obtain ⟨x, _, hx⟩ := List.mem_flatMap.1 hu
  exact F.one x u hx
theorem FlatT.fget (F : FlatT R O enc sz) : ∀ {xs : List α} {i j : Nat} {x : α} {u : Value}, xs[i]? = some x → (enc x)[j]? = some u → (xs.flatMap enc)[i * sz + j]? = some u
  | [], i, j, x, u, h, _ => by simp at h
  | y :: ys, 0, j, x, u, h, hu => by
    have : y = x := by simpa using h
    subst this
    have hj := lt_of_some hu
    simp only [Nat.zero_mul, Nat.zero_add, List.flatMap_cons]
    rw [List.getElem?_append_left hj]; exact hu
  | y :: ys, i + 1, j, x, u, h, hu => by
    have h' : ys[i]? = some x := by simpa using h
    have hl : (enc y).length = sz := F.len y
    simp only [List.flatMap_cons]
    rw [List.getElem?_append_right (by rw [hl, Nat.add_mul]; omega), hl, show (i + 1) * sz + j - sz = i * sz + j by rw [Nat.add_mul]; omega]
    exact F.fget h' hu
/-- A slice of the call's own from block lo on, whole (it may be appended to). -/
def OwF (e : TypeId) (enc : α → List Value) (sz : Nat) (w : World) (lo : Nat) (v : Value) (xs : List α) : Prop := w.ownsRow lo e sz v xs.length (xs.flatMap enc)
theorem OwF.below (h : OwF e enc sz w lo v xs) (hb : Below w.heap.size w w') : OwF e enc sz w' lo v xs := by
  refine ⟨h.1, ?_⟩
  rcases h.2 with h2 | ⟨g, cap, cur, hv, hg, hh, r⟩
  · exact .inl h2
  · exact .inr ⟨g, cap, cur, hv, hg, (hb.block g (Array.getElem?_eq_some_iff.1 hh).1).trans hh, r⟩
theorem OwF.mono (h : OwF e enc sz w lo v xs) (hl : lo' ≤ lo) : OwF e enc sz w lo' v xs := by
  refine ⟨h.1, ?_⟩
  rcases h.2 with h2 | ⟨g, cap, cur, hv, hg, r⟩
  · exact .inl h2
  · exact .inr ⟨g, cap, cur, hv, by omega, r⟩
theorem OwF.nil : OwF e enc sz w lo (.slice none 0 0) ([] : List α) := ⟨by simp, .inl ⟨rfl, rfl⟩⟩
theorem OwF.lit {g n : Nat} {cells : Array Value} (B : Blk w g e cells) (hg : lo ≤ g) (hc : cells.toList = xs.flatMap enc) (hn : n = xs.length) (hm : Nat.ble n 9223372036854775807 = true) (hs : cells.size = n * sz) : OwF e enc sz w lo (.slice (some ⟨g, 0, none⟩) n n) xs := by
  subst hn
  exact ⟨by rw [← hc]; simpa using hs, .inr ⟨g, xs.length, cells, rfl, hg, B, Nat.le_refl _, by have := Nat.le_of_ble_eq_true hm; unfold maxLen; omega, hs, by rw [hc, List.take_of_length_le]; rw [← hc]; simp [hs]⟩⟩
theorem OwF.form (h : OwF e enc sz w lo v xs) : ∃ A c, v = .slice A xs.length c := by
  rcases h.2 with ⟨rfl, h0⟩ | ⟨g, cap, cur, hv, _⟩
  · exact ⟨none, 0, by rw [h0]⟩
  · exact ⟨_, _, hv⟩
theorem OwF.bound (h : OwF e enc sz w lo v xs) : xs.length ≤ 9223372036854775807 := by
  rcases h.2 with ⟨_, h0⟩ | ⟨g, cap, cur, hv, hg, hh, h1, h2, _⟩
  · omega
  · unfold maxLen at h2; omega
theorem OwF.own (F : FlatT R O enc sz) (h : OwF e enc sz w lo v xs) : OwS O sz w v xs lo w.heap.size := by
  rcases h.2 with ⟨rfl, h0⟩ | ⟨g, cap, cur, rfl, hg, hh, h1, h2, h3, h4⟩
  · have : xs = [] := List.eq_nil_of_length_eq_zero h0
    subst this
    exact ⟨none, 0, 0, [], rfl, ⟨rfl, .inl ⟨rfl, rfl⟩⟩, List.nodup_nil, fun b hb => by simp at hb, Nat.le_refl _, Nat.zero_le _⟩
  · have hblk : Blk w g e cur := hh
    refine ⟨some ⟨g, 0, none⟩, _, cap, [g], rfl, ⟨rfl, .inr ⟨g, 0, [], rfl, rfl, ?_⟩⟩, by simp, fun b hb => by simp at hb; subst hb; exact ⟨hg, hblk.lt⟩, h1, h2⟩
    have key : ∀ (l : List α) (o : Nat), (∀ j u, (l.flatMap enc)[j]? = some u → cur[o + j]? = some u) → ElAt O sz w g o l [] := by
      intro l
      induction l with
      | nil => intro o _; rfl
      | cons x l ih =>
        intro o hl
        refine ⟨enc x, [], [], F.ow, hblk.csAt (fun j u hj => hl j u ?_), rfl, ih (o + sz) (fun j u hj => ?_)⟩
        · simp only [List.flatMap_cons]
          rw [List.getElem?_append_left (lt_of_some hj)]; exact hj
        · have := hl (sz + j) u (by
            simp only [List.flatMap_cons]
            rw [List.getElem?_append_right (by rw [F.len]; omega), F.len, show sz + j - sz = j by omega]; exact hj)
          rwa [show o + (sz + j) = o + sz + j by omega] at this
    refine key xs 0 (fun j u hj => ?_)
    rw [← h4, List.getElem?_take] at hj
    split at hj
    · simpa using hj
    · cases hj
theorem OwF.rdS (F : FlatT R O enc sz) (h : OwF e enc sz w lo v xs) : RdS R sz w w.heap.size v xs := by
  rcases h.2 with ⟨rfl, h0⟩ | ⟨g, cap, cur, rfl, hg, hh, h1, h2, h3, h4⟩
  · have : xs = [] := List.eq_nil_of_length_eq_zero h0
    subst this
    exact ⟨none, 0, 0, rfl, SlAt.none_, Nat.le_refl _, Nat.zero_le _⟩
  · have hblk : Blk w g e cur := hh
    refine ⟨some ⟨g, 0, none⟩, _, cap, rfl, ⟨rfl, fun _ => ⟨g, 0, rfl, hblk.lt, fun i x hx => ⟨enc x, F.rd.2 rfl, fun j u hj => ?_⟩⟩⟩, h1, h2⟩
    have hk := F.fget hx hj
    rw [← h4, List.getElem?_take] at hk
    split at hk
    · rw [hblk.cell, Nat.zero_add]; simpa using hk
    · cases hk
theorem OwF.arg (F : FlatT R O enc sz) (h : OwF e enc sz w lo v xs) : Sl R sz w v xs := h.rdS F
theorem OwF.lt (h : OwF e enc sz w lo v xs) : ∀ b, v.ownBlock = some b → lo ≤ b ∧ b < w.heap.size := World.ownsRow.lt h
/-- Another slice of the call's own while row 'row' grows. -/
theorem OwF.kept {row : Option Nat} (h : OwF e enc sz w lo v xs) (hg : w.grownBy w' row) (hne : v.ownBlock = none ∨ v.ownBlock ≠ row) : OwF e enc sz w' lo v xs := World.ownsRow.kept h hg hne
theorem OwF.only {b : Nat} (h : OwF e enc sz w lo v xs) (ho : Only [b] w w') (hne : v.ownBlock ≠ some b) : OwF e enc sz w' lo v xs := by
  refine ⟨h.1, ?_⟩
  rcases h.2 with h2 | ⟨g, cap, cur, hv, hg, hh, r⟩
  · exact .inl h2
  · exact .inr ⟨g, cap, cur, hv, hg, (ho.block g (by intro hin; simp at hin; subst hin; exact hne (by rw [hv]; rfl))).trans hh, r⟩
theorem OwF.far {b : Nat} (h : OwF e enc sz w lo v xs) (hb : w.heap.size ≤ b) : v.ownBlock ≠ some b := fun hv => by have := (h.lt b hv).2; omega
theorem SlAt.flat (F : FlatT R O enc sz) {B n b o : Nat} (h : SlAt R sz w B (some ⟨b, o, none⟩) n xs) : ∀ j u, (xs.flatMap enc)[j]? = some u → w.cell? ⟨b, o + j, none⟩ = some u := fun j u hj => by
  have hp := F.pos
  have hlt := lt_of_some hj
  rw [F.flen] at hlt
  have hi : j / sz < xs.length := (Nat.div_lt_iff_lt_mul hp).2 hlt
  have hx : xs[j / sz]? = some xs[j / sz] := List.getElem?_eq_getElem hi
  obtain ⟨cs, hR, hc⟩ := h.el hx
  obtain rfl := F.rd.1 hR
  have hm : j % sz < (enc xs[j / sz]).length := by rw [F.len]; exact Nat.mod_lt _ hp
  have h2 := F.fget hx (List.getElem?_eq_getElem hm)
  have e : j / sz * sz + j % sz = j := Nat.div_add_mod' j sz
  rw [e] at h2
  rw [h2] at hj
  injection hj with hj
  have h3 := hc (j % sz) _ (List.getElem?_eq_getElem hm)
  rw [Nat.add_assoc, e, hj] at h3
  exact h3
end
/-- What is asked of a slice type that is appended to. -/
structure AppT (P : Program) (t e : TypeId) (z : Value) (sz bb : Nat) : Prop where
  und : P.underlying t = some (.slice e)
  info : (P.info? e).map (fun i => (i.zero, i.size, i.bytes)) = some (some z, sz, bb)
  zs : z.cells.size = sz
  bb : bb ≤ 256
section
variable {P : Program} {t e : TypeId} {z : Value} {sz bb : Nat} {w : World} {base : Nat}
theorem append_own2 (A : AppT P t e z sz bb) (hsz : 0 < sz) {v : Value} {k : Nat} {xs : List Value} (hown : w.ownsRow base e sz v k xs) (hb : base ≤ w.heap.size) (ad : Addr) (m c : Nat) (news : List Value) (hl : news.length = m * sz)
    (hnews : ∀ j u, news[j]? = some u → w.cell? (ad.add j) = some u) (h1 : ∀ u ∈ news, u.oneCell' = true) (hk : k + m ≤ 4294967296) (ty : TypeId) :
    ∃ v' w', (Builtin.append_ #[t, t] ty #[v, .slice (some ad) m c]).run P w = .ok v' w' ∧ w'.ownsRow base e sz v' (k + m) (xs ++ news) ∧ w.grownBy w' v.ownBlock ∧ (∀ b, v'.ownBlock = some b → v.ownBlock = some b ∨ w.heap.size ≤ b) := by
  obtain ⟨i0, hi, hz0, hz1, hz2⟩ := info_parts A.info
  have hby : (k + m) * bb ≤ 140737488355328 := Nat.le_trans (Nat.mul_le_mul hk A.bb) (by decide)
  have hsm : k + m ≤ 9223372036854775807 := by omega
  obtain ⟨v', w', hr, h2, h3, _⟩ := run_append_own (P := P) w base t ty e i0 z sz bb A.und hi hz0 hz1 hz2 A.zs hsz v k xs hown ad m c news hl hnews h1 (by unfold maxLen; omega) hby hb
  refine ⟨v', w', hr, h2, h3, ?_⟩
  subst hz1
  subst hz2
  have hxl := hown.1
  have hl' := hl
  rcases hown.2 with ⟨rfl, rfl⟩ | ⟨g, cap, cur, rfl, hbg, hg, hnc, hcm, hcs, htake⟩
  · by_cases hm : m = 0
    · subst hm
      have hn : news = [] := List.eq_nil_of_length_eq_zero (by simpa using hl)
      subst hn
      have hr2 : (Builtin.append_ #[t, t] ty #[.slice none 0 0, .slice (some ad) 0 c]).run P w = .ok (.slice none 0 0) w := by
        simp [Builtin.append_, run_underlying A.und, sizeOf, typeInfo, hi, Builtin.lenOf, Builtin.firstCells, loadCells, loadCellsFrom]
      rw [hr2] at hr
      injection hr with e1 e2
      subst e1
      intro b hbk; simp [Value.ownBlock] at hbk
    · have hr2 := run_append_nil (P := P) w t ty e i0 z A.und hi hz0 ad m c news hl hnews (by omega) (by omega) (by have hb := hby; simp only [Nat.zero_add] at hb; omega)
      rw [hr2] at hr
      injection hr with e1 e2
      subst e1
      intro b hbk
      simp [Value.ownBlock] at hbk
      exact .inr (by omega)
  · by_cases hroom : k + m ≤ cap
    · have hfit : k * i0.size + news.length ≤ cur.size := by rw [hl, hcs, ← Nat.add_mul]; exact Nat.mul_le_mul_right _ hroom
      have hr2 := run_append_room (P := P) w t ty e i0 A.und hi g k cap cur hg ad m c news hl hnews h1 hroom hfit
      rw [hr2] at hr
      injection hr with e1 e2
      subst e1
      intro b hbk
      exact .inl hbk
    · have holds : ∀ j u, xs[j]? = some u → w.cell? ((⟨g, 0, none⟩ : Addr).add j) = some u := hown.cells (g := g) rfl
      have hr2 := run_append_grow (P := P) w t ty e i0 z A.und hi hz0 ⟨g, 0, none⟩ k cap xs hown.1 holds ad m c news hl hnews (by omega) (by omega) (growslice_fits (by omega) hby)
      rw [hr2] at hr
      injection hr with e1 e2
      subst e1
      intro b hbk
      simp [Value.ownBlock] at hbk
      exact .inr (by omega)
theorem append_none (A : AppT P t e z sz bb) {v : Value} {k c : Nat} {xs : List Value} (hown : w.ownsRow base e sz v k xs) (ty : TypeId) : (Builtin.append_ #[t, t] ty #[v, .slice none 0 c]).run P w = .ok v w := by
  obtain ⟨i0, hi, hz0, hz1, hz2⟩ := info_parts A.info
  rcases hown.2 with ⟨rfl, rfl⟩ | ⟨g, cap, cur, rfl, _, _, hnc, _⟩
  · simp [Builtin.append_, run_underlying A.und, sizeOf, typeInfo, hi, Builtin.lenOf, Builtin.firstCells]
  · simp [Builtin.append_, run_underlying A.und, sizeOf, typeInfo, hi, Builtin.lenOf, Builtin.firstCells, hnc, storeCells]
end
section
variable {P : Program} {ops : Array Oper} {f : Nat → Value} {rest : List Oper} {Q : (Nat → Value) → World → Prop} {w : World} {d : Option Tmp} {ty : TypeId} {pos : String} {af : Array Edge} {g : Option (Nat × Bool)} {x y : Operand} {t e : TypeId} {z : Value} {sz bb : Nat}
theorem RL.append {α : Type} {R : Rd α} {O : Ow α} {enc : α → List Value} {v vy : Value} {xs ys : List α} {lo : Nat} (F : FlatT R O enc sz) (A : AppT P t e z sz bb) (hg : wantF f ops ⟨d, .call ⟨.builtin .append, #[x, y], #[t, t]⟩, ty, pos, af, g⟩ = true)
    (hx : ev f x = v) (hy : ev f y = vy) (hv : OwF e enc sz w lo v xs) (hr : Sl R sz w vy ys) (hlo : lo ≤ w.heap.size) (hk : xs.length + ys.length ≤ 4294967296)
    (h : ∀ v' w1, OwF e enc sz w1 lo v' (xs ++ ys) → w.grownBy w1 v.ownBlock → Below lo w w1 → (∀ b, v'.ownBlock = some b → v.ownBlock = some b ∨ w.heap.size ≤ b) → RL P ops Q rest (upo f d v') w1) : RL P ops Q (⟨d, .call ⟨.builtin .append, #[x, y], #[t, t]⟩, ty, pos, af, g⟩ :: rest) f w := by
  have hrun : ∀ v' w1, (Builtin.append_ #[t, t] ty #[v, vy]).run P w = .ok v' w1 → (execOp (ev f) ⟨d, .call ⟨.builtin .append, #[x, y], #[t, t]⟩, ty, pos, af, g⟩).run P w = .ok (.value v') w1 := fun v' w1 h0 => by
    simp [execOp, resolve, invoke, builtin, hx, hy, h0]
  obtain ⟨Ay, n, c, rfl, hs, hnc, hcm⟩ := hr
  obtain rfl := hs.len
  cases Ay with
  | none =>
    have h0 : ys = [] := by
      cases ys with
      | nil => rfl
      | cons y0 ys => obtain ⟨b, o, e0, _⟩ := hs.addr (by simp); cases e0
    subst h0
    refine .inl ⟨hg, ?_⟩
    rw [hrun v w (append_none A hv ty)]
    exact h v w (by simpa using hv) ⟨rfl, rfl, rfl, Nat.le_refl _, fun _ _ _ => rfl⟩ (Below.refl _ _) (fun b hb => .inl hb)
  | some ad =>
    have hcells : ∀ j u, (ys.flatMap enc)[j]? = some u → w.cell? (ad.add j) = some u := fun j u hj => by
      have hlt := lt_of_some hj
      rw [F.flen] at hlt
      have hpos : 0 < ys.length := by
        rcases Nat.eq_zero_or_pos ys.length with h0 | h0
        · rw [h0] at hlt; simp at hlt
        · exact h0
      obtain ⟨b, o, e0, _⟩ := hs.addr hpos
      injection e0 with e0
      subst e0
      rw [Addr.add_eq]
      exact hs.flat F j u hj
    obtain ⟨v', w1, h0, h1, h2, h3⟩ := append_own2 A F.pos hv hlo ad ys.length c (ys.flatMap enc) (F.flen ys) hcells F.fone hk ty
    refine .inl ⟨hg, ?_⟩
    rw [hrun v' w1 h0]
    refine h v' w1 ?_ h2 ?_ h3
    · unfold OwF
      rw [List.length_append, List.flatMap_append]
      exact h1
    · exact (Below.refl lo w).grown h2 hlo (fun b hb => (hv.lt b hb).1)
end
section
variable {α : Type} {R : Rd α} {O : Ow α} {enc : α → List Value} {sz n c lo : Nat} {w w' : World} {v v' vx vy : Value} {xs ys : List α} {e : TypeId} {A : Option Addr}
theorem OwF.sl (F : FlatT R O enc sz) (h : OwF e enc sz w lo (.slice A n c) xs) : SlAt R sz w w.heap.size A n xs ∧ n ≤ c ∧ c ≤ maxLen := by
  obtain ⟨A', n', c', he, h1, h2⟩ := h.rdS F
  injection he with e1 e2 e3
  subst e1 e2 e3
  exact ⟨h1, h2⟩
theorem OwF.cell {b k j : Nat} {x : α} {u : Value} (F : FlatT R O enc sz) (h : OwF e enc sz w lo (.slice (some ⟨b, 0, none⟩) n c) xs) (hx : xs[k]? = some x) (hu : (enc x)[j]? = some u) : w.cell? ⟨b, 0 + k * sz + j, none⟩ = some u := by
  obtain ⟨cs, hR, hc⟩ := (h.sl F).1.el hx
  obtain rfl := F.rd.1 hR
  exact hc j u hu
theorem OwF.addr0 (h : OwF e enc sz w lo (.slice A n c) xs) (hn : 0 < n) : ∃ b, A = some ⟨b, 0, none⟩ := by
  rcases h.2 with ⟨h0, _⟩ | ⟨g, cap, cur, hv, _⟩
  · injection h0 with h1 h2; omega
  · injection hv with h1; exact ⟨g, h1⟩
theorem OwF.ne {b : Nat} (h : OwF e enc sz w lo v xs) (hb : b < lo) : v.ownBlock ≠ some b := fun hv => by have := (h.lt b hv).1; omega
theorem ne_app {b m : Nat} (hn : ∀ b, v'.ownBlock = some b → v.ownBlock = some b ∨ m ≤ b) (h : v.ownBlock ≠ some b) (hb : b < m) : v'.ownBlock ≠ some b := fun hv => by
  rcases hn b hv with h1 | h1
  · exact h h1
  · omega
/-- Two slices of the call's own lie apart. -/
def Dj (v u : Value) : Prop := ∀ b, v.ownBlock = some b → u.ownBlock = some b → False
theorem Dj.symm (h : Dj vx vy) : Dj vy vx := fun b h1 h2 => h b h2 h1
theorem Dj.new {m : Nat} (hv : ∀ b, v.ownBlock = some b → m ≤ b) (hx : ∀ b, vx.ownBlock = some b → b < m) : Dj v vx := fun b h1 h2 => by have := hv b h1; have := hx b h2; omega
theorem Dj.nil : Dj (.slice none 0 0) vx := fun b h1 _ => by simp [Value.ownBlock] at h1
theorem Blk.kept {b : Nat} {t : TypeId} {cs : Array Value} (h : Blk w b t cs) (hg : w.grownBy w' v.ownBlock) (hn : v.ownBlock ≠ some b) : Blk w' b t cs := (hg.block b h.lt (fun e => hn e.symm)).trans h
theorem litNe {b g n c : Nat} (h : b < g) : (Value.slice (some ⟨g, 0, none⟩) n c).ownBlock ≠ some b := by intro e; simp [Value.ownBlock] at e; omega
theorem litGe {g n c : Nat} : ∀ b, (Value.slice (some ⟨g, 0, none⟩) n c).ownBlock = some b → g ≤ b := by intro b e; simp [Value.ownBlock] at e; omega
theorem OwF.hi (h : OwF e enc sz w lo v xs) : ∀ b, v.ownBlock = some b → b < w.heap.size := fun b hb => (h.lt b hb).2
end
end
section
open Go.RowKit
set_option linter.unusedVariables false
/-- A loop that goes through the states st 0, st 1, .. and ends at st n. -/
theorem traj {σ ρ : Type} {L : Nat → σ → Option ρ} {st : Nat → σ} {n : Nat} {r : Option ρ} (h : ∀ g k, k < n → L (g + 1) (st k) = L g (st (k + 1))) (he : ∀ g, L (g + 1) (st n) = r) : ∀ g, n < g → L g (st 0) = r := by
  have key : ∀ d k g, k + d = n → d < g → L g (st k) = r := by
    intro d
    induction d with
    | zero =>
      intro k g hk hg
      obtain ⟨g, rfl⟩ : ∃ g', g = g' + 1 := ⟨g - 1, by omega⟩
      obtain rfl : k = n := by omega
      exact he g
    | succ d ih =>
      intro k g hk hg
      obtain ⟨g, rfl⟩ : ∃ g', g = g' + 1 := ⟨g - 1, by omega⟩
      rw [h g k (by omega)]
      exact ih (k + 1) g (by omega) (by omega)
  intro g hg
  exact key n 0 g (by omega) hg
/-- A loop over an index. -/
theorem trajI {ρ : Type} {L : Nat → Int → Option ρ} {n : Nat} {r : Option ρ} (h : ∀ g (k : Nat), k < n → L (g + 1) (k : Int) = L g ((k : Int) + 1)) (he : ∀ g, L (g + 1) (n : Int) = r) (g : Nat) (hg : n < g) : L g 0 = r :=
  traj (L := fun g (k : Nat) => L g (k : Int)) (st := fun k => k) (fun g k hk => by simpa using h g k hk) he g hg
open Classical in
/-- A loop that asks p of each index. -/
theorem allI {ρ : Type} {L : Nat → Int → Option ρ} {n : Nat} {p : Nat → Prop} {no K : Option ρ} (h1 : ∀ g (k : Nat), k < n → p k → L (g + 1) (k : Int) = L g ((k : Int) + 1)) (h2 : ∀ g (k : Nat), k < n → ¬ p k → L (g + 1) (k : Int) = no) (h3 : ∀ g, L (g + 1) (n : Int) = K) (g : Nat) (hg : n < g) :
    L g 0 = if ∀ k, k < n → p k then K else no := by
  by_cases ha : ∀ k, k < n → p k
  · rw [if_pos ha]
    exact trajI (fun g k hk => h1 g k hk (ha k hk)) h3 g hg
  · rw [if_neg ha]
    have hex : ∃ k, k < n ∧ ¬ p k := by
      apply Classical.byContradiction
      intro hn
      exact ha fun k hk => Classical.byContradiction fun hp => hn ⟨k, hk, hp⟩
    obtain ⟨m, ⟨hm, hpm⟩, hleast⟩ : ∃ m, (m < n ∧ ¬ p m) ∧ ∀ k, k < m → k < n → p k := by
      obtain ⟨k0, hk0⟩ := hex
      induction k0 using Nat.strongRecOn with
      | _ k0 ih =>
        by_cases h : ∃ k, k < k0 ∧ k < n ∧ ¬ p k
        · obtain ⟨k, hk, hk1⟩ := h
          exact ih k hk hk1
        · exact ⟨k0, hk0, fun k hk hkn => Classical.byContradiction fun hp => h ⟨k, hk, hkn, hp⟩⟩
    exact trajI (n := m) (fun g k hk => h1 g k (by omega) (hleast k hk (by omega))) (fun g => h2 g m hm hpm) g (by omega)
theorem allO {ρ : Type} {L : Nat → Int → Option ρ} {n : Nat} {p : Nat → Prop} {no K : Option ρ} (h1 : ∀ g (k : Nat), k < n → p k → L (g + 1) (k : Int) = L g ((k : Int) + 1)) (h2 : ∀ g (k : Nat), k < n → ¬ p k → L (g + 1) (k : Int) = no) (h3 : ∀ g, L (g + 1) (n : Int) = K) (g : Nat) (hg : n < g) :
    ((∀ k, k < n → p k) ∧ L g 0 = K) ∨ ((¬ ∀ k, k < n → p k) ∧ L g 0 = no) := by
  have h := allI h1 h2 h3 g hg
  by_cases ha : ∀ k, k < n → p k
  · rw [if_pos ha] at h; exact .inl ⟨ha, h⟩
  · rw [if_neg ha] at h; exact .inr ⟨ha, h⟩
theorem getI_lt {α : Type} {xs : List α} {k : Nat} (h : k < xs.length) : getI xs (k : Int) = some xs[k] := by simp [getI, h]
theorem dlt {k n : Nat} (h : k < n) : decide ((k : Int) < (n : Int)) = true := by simp; omega
theorem dge {n : Nat} : decide ((n : Int) < (n : Int)) = false := by simp
end
section
open Go.RowKit
set_option linter.unusedVariables false
def fieldsN (k : Int) (p : Nat) : Int := if k = 9 then (p : Int) - 1 else 0
def defIx (n : Int) : Bool := decide (0 ≤ n) && decide (n ≤ 23)
def int32B (n : Int) : Bool := decide (-2147483648 ≤ n) && decide (n ≤ 2147483647)
def operB (n : Int) : Bool := decide (1 ≤ n) && decide (n ≤ 6)
def content (k v : Int) (d : List Int) : Bool :=
  if k = 6 then decide (d.length = 0) && int32B v
  else if k = 7 then decide (d.length = 0) && operB v
  else if k = 8 then decide (d.length = 1) && operB v && int32B (d.getD 0 0)
  else if k = 9 then decide (d.length = 0) && (decide (0 ≤ v) && decide (v ≤ 3))
  else if k = 12 then decide (d.length = 0) && defIx v
  else if k = 10 then decide (v = 0) && (decide (1 ≤ d.length) && decide (d.length ≤ 4)) && d.all defIx
  else if k = 11 then decide (v = 0) && decide (d.length = 2) && d.all defIx
  else decide (v = 0) && decide (d.length = 0)
def agentOk (x : DAgent) : Bool := decide (0 < portsOf x.kind (fieldsN x.kind x.ports.length)) && decide ((x.ports.length : Int) = portsOf x.kind (fieldsN x.kind x.ports.length)) && allowed x.kind x.level && content x.kind x.value x.data
def AgentsOk (xs : List DAgent) : Prop := 1 ≤ xs.length ∧ xs.length ≤ 600 ∧ ∀ (i : Nat) (x : DAgent), xs[i]? = some x → agentOk x = true ∧ decide (x.kind = 1) = decide (i = 0)
open Classical in
noncomputable def agentsOk (xs : List DAgent) : Bool := decide (AgentsOk xs)
def agentAt (xs : List DAgent) (i : Int) : DAgent := xs.getD i.toNat default
def hasPort (xs : List DAgent) (p : DPort) : Bool := decide (0 ≤ p.agent) && decide (p.agent < xs.length) && decide (0 ≤ p.slot) && decide (p.slot < (agentAt xs p.agent).ports.length)
def peer (xs : List DAgent) (p : DPort) : DPort := (agentAt xs p.agent).ports.getD p.slot.toNat default
def badPort (xs : List DAgent) (p : DPort) : Bool := decide (peer xs p = p) || !hasPort xs (peer xs p) || !decide (peer xs (peer xs p) = p)
def PortsOk (xs : List DAgent) : Prop := ∀ (i : Nat) (x : DAgent), xs[i]? = some x → ∀ k : Nat, k < x.ports.length → badPort xs ⟨i, k⟩ = false
open Classical in
noncomputable def validNet (x : DNet) : Bool := decide (AgentsOk x.agents ∧ PortsOk x.agents)
/-- All ports in order. -/
def agentPorts (i : Nat) (x : DAgent) : List DPort := (List.range x.ports.length).map fun (k : Nat) => ⟨i, k⟩
def portsFrom : Nat → List DAgent → List DPort
  | _, [] => []
  | i, x :: xs => agentPorts i x ++ portsFrom (i + 1) xs
def allPorts (xs : List DAgent) : List DPort := portsFrom 0 xs
theorem portsFrom_append : ∀ (i : Nat) (xs ys : List DAgent), portsFrom i (xs ++ ys) = portsFrom i xs ++ portsFrom (i + xs.length) ys
  | i, [], ys => by simp [portsFrom]
  | i, x :: xs, ys => by simp [portsFrom, portsFrom_append (i + 1) xs ys, Nat.add_assoc, Nat.add_comm 1]
theorem allPorts_take {xs : List DAgent} {i : Nat} {x : DAgent} (h : xs[i]? = some x) : allPorts (xs.take (i + 1)) = allPorts (xs.take i) ++ agentPorts i x := by
  rw [take_succ_some h, allPorts, portsFrom_append]
  have hl : (xs.take i).length = i := by have := lt_of_some h; simp; omega
  simp [allPorts, portsFrom, hl]
theorem mem_portsFrom : ∀ {i : Nat} {xs : List DAgent} {p : DPort}, p ∈ portsFrom i xs ↔ ∃ (j : Nat) (x : DAgent) (k : Nat), xs[j]? = some x ∧ k < x.ports.length ∧ p = ⟨((i + j : Nat) : Int), (k : Nat)⟩
  | i, [], p => by simp [portsFrom]
  | i, y :: ys, p => by
    rw [portsFrom, List.mem_append, mem_portsFrom]
    constructor
    · rintro (h | ⟨j, x, k, h1, h2, h3⟩)
      · simp only [agentPorts, List.mem_map, List.mem_range] at h
        obtain ⟨k, hk, rfl⟩ := h
        exact ⟨0, y, k, rfl, hk, rfl⟩
      · exact ⟨j + 1, x, k, by simpa using h1, h2, by rw [h3]; congr 2; omega⟩
    · rintro ⟨j, x, k, h1, h2, h3⟩
      cases j with
      | zero =>
        have : y = x := by simpa using h1
        subst this
        exact .inl (by simp only [agentPorts, List.mem_map, List.mem_range]; exact ⟨k, h2, h3.symm⟩)
      | succ j => exact .inr ⟨j, x, k, by simpa using h1, h2, by rw [h3]; congr 2; omega⟩
theorem any_allPorts (xs : List DAgent) : (allPorts xs).any (badPort xs) = false ↔ PortsOk xs := by
  rw [List.any_eq_false]
  constructor
  · intro h i x hx k hk
    have := h ⟨i, k⟩ (mem_portsFrom.2 ⟨i, x, k, hx, hk, by simp⟩)
    simpa using this
  · intro h p hp
    obtain ⟨j, x, k, h1, h2, rfl⟩ := mem_portsFrom.1 hp
    have := h j x h1 k h2
    simpa using this
theorem hasPort_at {xs : List DAgent} {p : DPort} (h : hasPort xs p = true) : ∃ (i k : Nat) (x : DAgent), p = ⟨(i : Nat), (k : Nat)⟩ ∧ xs[i]? = some x ∧ k < x.ports.length ∧ agentAt xs p.agent = x := by
  obtain ⟨a, s⟩ := p
  simp only [hasPort, Bool.and_eq_true, decide_eq_true_eq] at h
  obtain ⟨⟨⟨h1, h2⟩, h3⟩, h4⟩ := h
  obtain ⟨i, rfl⟩ := Int.eq_ofNat_of_zero_le h1
  obtain ⟨k, rfl⟩ := Int.eq_ofNat_of_zero_le h3
  have hi : i < xs.length := by omega
  refine ⟨i, k, xs[i], rfl, by simp [hi], ?_, by simp [agentAt, List.getD, hi]⟩
  have : agentAt xs (i : Int) = xs[i] := by simp [agentAt, List.getD, hi]
  rw [this] at h4
  omega
theorem hasPort_of {xs : List DAgent} {i k : Nat} {x : DAgent} (h : xs[i]? = some x) (hk : k < x.ports.length) : hasPort xs ⟨i, k⟩ = true := by
  have hi := lt_of_some h
  have : agentAt xs (i : Int) = x := by simp [agentAt, List.getD, h]
  simp [hasPort, this]
  omega
theorem peer_of {xs : List DAgent} {i k : Nat} {x : DAgent} {q : DPort} (h : xs[i]? = some x) (hk : x.ports[k]? = some q) : peer xs ⟨i, k⟩ = q := by
  have : agentAt xs (i : Int) = x := by simp [agentAt, List.getD, h]
  simp [peer, this, List.getD, hk]
end
section
open Go.RowKit
set_option linter.unusedVariables false
set_option linter.unusedSimpArgs false
section
variable {P : Program} {ops : Array Oper} {S : World → Prop}
/-- Along an order: (number, does it only look?). -/
def RG (P : Program) (ops : Array Oper) (S : World → Prop) (Q : (Nat → Value) → World → Prop) : List (Nat × Bool) → (Nat → Value) → World → Prop
  | [], f, w => Q f w
  | (i, q) :: rest, f, w => match ops[i]? with
    | none => False
    | some o => match q with
      | true => ∃ v, ((wantF f ops o = true ∧ ∀ w, S w → (execOp (ev f) o).run P w = .ok (.value v) w) ∨ (wantF f ops o = false ∧ v = undef)) ∧ RG P ops S Q rest (upo f o.dst v) w
      | false => (wantF f ops o = true ∧ OpX P (fun v w' => S w' ∧ RG P ops S Q rest (upo f o.dst v) w') ((execOp (ev f) o).run P w)) ∨ (wantF f ops o = false ∧ S w ∧ RG P ops S Q rest (upo f o.dst undef) w)
def ordB (ops : Array Oper) : List (Nat × Bool) → Array Bool → Bool
  | [], listed => (Region.ready .any ops listed).isEmpty
  | (i, q) :: rest, listed => (match q with
      | true => (Region.ready .any ops listed).contains i && Region.free .any ops listed i
      | false => decide (Region.ready .any ops listed = [i])) && ordB ops rest (listed.setIfInBounds i true)
theorem RG_H {n : Nat} {Q : (Nat → Value) → World → Prop} {Q' : Exit → Act → World → Prop} (hQ : ∀ f w, Q f w → Q' .normal (Fr n f) w) (hP : ∀ c a w, ¬ Q' (.panic c) a w) (hsel : Region.noSelect ops = true) (hok : ∀ (i : Nat) (o : Oper), ops[i]? = some o → okOp n ops o = true) :
    ∀ (l : List (Nat × Bool)) (listed : Array Bool) (f : Nat → Value) (w : World), ordB ops l listed = true → S w → RG P ops S Q l f w → wpAnyH P .any ops Q' S l.length listed (Fr n f) w
  | [], listed, f, w, hB, hS, h => ⟨by simpa [ordB] using hB, hQ f w h⟩
  | (i, true) :: rest, listed, f, w, hB, hS, h => by
    simp only [ordB, Bool.and_eq_true] at hB
    obtain ⟨⟨hr, hf⟩, hB⟩ := hB
    unfold RG at h
    cases ho : ops[i]? with
    | none => rw [ho] at h; exact h.elim
    | some o =>
      rw [ho] at h
      obtain ⟨v, h1, h2⟩ := h
      have hk := hok i o ho
      refine wpAnyH_take ho hsel hf hr (fun c a w h => absurd h (hP c _ w)) ?_ hS (v := v) ?_
      · rcases h1 with ⟨hw, h1⟩ | ⟨hw, e⟩
        · exact .inl ⟨by rw [Fr_wanted hk]; exact hw, fun w hw' => by rw [Fr_exec hk]; exact h1 w hw'⟩
        · exact .inr ⟨by rw [Fr_wanted hk]; exact hw, e⟩
      · rw [Fr_put]
        exact RG_H hQ hP hsel hok rest _ _ w hB hS h2
  | (i, false) :: rest, listed, f, w, hB, hS, h => by
    simp only [ordB, Bool.and_eq_true, decide_eq_true_eq] at hB
    obtain ⟨hr, hB⟩ := hB
    unfold RG at h
    cases ho : ops[i]? with
    | none => rw [ho] at h; exact h.elim
    | some o =>
      rw [ho] at h
      have hk := hok i o ho
      refine wpAnyH_all hr (by simp) fun j hj => ?_
      obtain rfl : j = i := by simpa using hj
      unfold wpOp
      rw [ho]
      simp only
      rw [Fr_wanted hk]
      have key : ∀ v w', S w' ∧ RG P ops S Q rest (upo f o.dst v) w' → S w' ∧ wpAnyH P .any ops Q' S rest.length (listed.setIfInBounds j true) ((Fr n f).put o.dst v) w' := fun v w' ⟨h1, h2⟩ =>
        ⟨h1, by rw [Fr_put]; exact RG_H hQ hP hsel hok rest _ _ w' hB h1 h2⟩
      rcases h with ⟨hw, h⟩ | ⟨hw, h1, h2⟩
      · rw [hw, if_pos rfl]
        left
        unfold Oper.wp
        rw [Fr_exec hk]
        refine OpX_wp ?_
        revert h
        generalize (execOp (ev f) o).run P w = r
        intro h
        cases r with
        | ok nx w' =>
          cases nx <;> simp only [OpX] at h ⊢ <;> try exact key _ _ h
          case enter g args => exact h.mono fun e w'' ⟨v, he, hk⟩ => ⟨v, he, key _ _ hk⟩
        | halt x w' => simp only [OpX] at h
      · rw [hw, if_neg (by decide)]
        exact key _ _ ⟨h1, h2⟩
/-- Q, but 'False' at a panic. -/
def noP (Q : Exit → Act → World → Prop) : Exit → Act → World → Prop
  | .panic _, _, _ => False
  | e, a, w => Q e a w
theorem wp_rg {id n : Nat} {l : List Oper} {f : Nat → Value} {w : World} {Q : Exit → Act → World → Prop} (S : World → Prop) (ord : List (Nat × Bool)) (hm : P.follows .mixedOrders = true)
    (hin : (okAll n l && Region.noSelect l.toArray && decide (ord.length = l.length) && ordB l.toArray ord (Array.replicate l.length false)) = true)
    (h : ∀ w1, Below w.heap.size w w1 → w1.heap.size = w.heap.size → S w1 ∧ RG P l.toArray S (fun f' w' => Q .normal (Fr n f') w') ord f w1) : (Code.region id l.toArray true).wp P Q (Fr n f) w := by
  simp only [Bool.and_eq_true, decide_eq_true_eq] at hin
  obtain ⟨⟨⟨h1, h2⟩, h3⟩, h4⟩ := hin
  refine Code.wp_mono (Q := noP Q) (fun e a w hq => by cases e <;> first | exact hq | exact hq.elim) ?_
  refine wp_region_held (S := S) hm ?_
  obtain ⟨hS, hR⟩ := h { w with drawn := w.drawn + 1 } ⟨rfl, rfl, rfl, Nat.le_refl _, fun _ _ => rfl⟩ rfl
  have := RG_H (Q' := noP Q) (n := n) (fun f w h => h) (fun c a w h => h) h2 (fun i o ho => List.all_eq_true.1 h1 o (by
    have : l[i]? = some o := by simpa using ho
    exact List.mem_of_getElem? this)) ord _ f _ h4 hS hR
  rw [h3] at this
  simpa using this
variable {Q : (Nat → Value) → World → Prop} {rest : List (Nat × Bool)} {f : Nat → Value} {w : World} {i : Nat} {o : Oper}
theorem RG.nil (h : Q f w) : RG P ops S Q [] f w := h
theorem RG.y {v : Value} (ho : ops[i]? = some o) (hg : wantF f ops o = true) (hy : Y P S f o v) (h : RG P ops S Q rest (upo f o.dst v) w) : RG P ops S Q ((i, true) :: rest) f w := by
  unfold RG; rw [ho]; exact ⟨v, .inl ⟨hg, hy⟩, h⟩
theorem RG.skip (ho : ops[i]? = some o) (hg : wantF f ops o = false) (h : RG P ops S Q rest (upo f o.dst undef) w) : RG P ops S Q ((i, true) :: rest) f w := by
  unfold RG; rw [ho]; exact ⟨undef, .inr ⟨hg, rfl⟩, h⟩
/-- An operation that acts: by its law for lists, what follows with S shown anew. -/
theorem RG.act (ho : ops[i]? = some o) (h : RL P ops (fun f' w' => S w' ∧ RG P ops S Q rest f' w') [o] f w) : RG P ops S Q ((i, false) :: rest) f w := by
  unfold RG
  rw [ho]
  unfold RL at h
  rcases h with ⟨hw, h⟩ | ⟨hw, h⟩
  · exact .inl ⟨hw, h⟩
  · exact .inr ⟨hw, h.1, h.2⟩
end
end
section
open Go.RowKit
set_option linter.unusedVariables false
theorem spec_HasLevel (k : Int) (w : World) : Calls Try.prog 78 #[.int .i64 k] w fun e w' => e = .returned (.bool (hasLevel k)) ∧ w = w' := by
  go_enter Try.func78, Try.ntmps78
  go_wp2
  all_goals go_ret
  all_goals refine ⟨retB ?_, rfl⟩
  all_goals (simp only [beq_iff_eq, beq_eq_false_iff_ne] at *)
  all_goals (rw [Bool.eq_iff_iff]; simp [hasLevel]; try omega)
theorem impl_isKind (k : Int) (w : World) : Calls Try.prog 170 #[.int .i64 k] w fun e w' => e = .returned (.bool (isKind k)) ∧ w = w' := by
  go_enter Try.func170, Try.ntmps170
  go_wp2
  all_goals go_ret
  all_goals refine ⟨retB ?_, rfl⟩
  all_goals (rw [Bool.eq_iff_iff]; simp [isKind]; try omega)
theorem impl_HasLevel (k : Int) (w : World) : Calls Try.prog 133 #[.int .i64 k] w fun e w' => e = .returned (.bool (hasLevel k)) ∧ w = w' := by
  go_enter Try.func133, Try.ntmps133
  go_wp2_with (go_at_call 170; refine (impl_isKind _ _).mono ?_; rintro e w' ⟨rfl, rfl⟩)
  all_goals go_ret
  all_goals refine ⟨retB ?_, rfl⟩
  all_goals (rw [Bool.eq_iff_iff]; simp_all [hasLevel, isKind]; try omega)
theorem spec_IsConsumer (k : Int) (w : World) : Calls Try.prog 178 #[.int .i64 k] w fun e w' => e = .returned (.bool (consumer k)) ∧ w = w' := by
  go_enter Try.func178, Try.ntmps178
  go_wp2
  all_goals go_ret
  all_goals refine ⟨retB ?_, rfl⟩
  all_goals (simp only [beq_iff_eq, beq_eq_false_iff_ne] at *)
  all_goals (rw [Bool.eq_iff_iff]; simp [consumer]; try omega)
theorem impl_IsConsumer (k : Int) (w : World) : Calls Try.prog 181 #[.int .i64 k] w fun e w' => e = .returned (.bool (consumer k)) ∧ w = w' := by
  go_enter Try.func181, Try.ntmps181
  go_wp2
  all_goals go_ret
  all_goals refine ⟨retB ?_, rfl⟩
  all_goals (rw [Bool.eq_iff_iff]; simp_all [consumer]; try omega)
theorem spec_l00In (n lo hi : Int) (w : World) : Calls Try.prog 75 #[.int .i64 n, .int .i64 lo, .int .i64 hi] w fun e w' => e = .returned (.bool (inR n lo hi)) ∧ w = w' := by
  go_enter Try.func75, Try.ntmps75
  go_wp2
  all_goals go_ret
  all_goals refine ⟨retB ?_, rfl⟩
  all_goals (rw [Bool.eq_iff_iff]; simp_all [inR]; try omega)
theorem spec_l10Kind (k : Int) (w : World) : Calls Try.prog 193 #[.int .i64 k] w fun e w' => e = .returned (.bool (isKind k)) ∧ w = w' := by
  go_enter Try.func193, Try.ntmps193
  go_wp2_with (go_at_call 75; refine (spec_l00In _ _ _ _).mono ?_; rintro e w' ⟨rfl, rfl⟩)
  all_goals go_ret
  all_goals exact ⟨retB rfl, rfl⟩
theorem impl_isLevel (k : Int) (w : World) : Calls Try.prog 79 #[.int .i64 k] w fun e w' => e = .returned (.bool (isLevel k)) ∧ w = w' := by
  go_enter Try.func79, Try.ntmps79
  go_wp2
  all_goals go_ret
  all_goals refine ⟨retB ?_, rfl⟩
  all_goals (rw [Bool.eq_iff_iff]; simp_all [isLevel]; try omega)
theorem spec_l10Level (k l : Int) (w : World) : Calls Try.prog 176 #[.int .i64 k, .int .i64 l] w fun e w' => e = .returned (.bool (allowed k l)) ∧ w = w' := by
  go_enter Try.func176, Try.ntmps176
  go_wp2_with (first | (go_at_call 78; refine (spec_HasLevel _ _).mono ?_; rintro e w' ⟨rfl, rfl⟩) | (go_at_call 75; refine (spec_l00In _ _ _ _).mono ?_; rintro e w' ⟨rfl, rfl⟩) | (go_at_call 193; refine (spec_l10Kind _ _).mono ?_; rintro e w' ⟨rfl, rfl⟩))
  all_goals go_ret
  all_goals refine ⟨retB ?_, rfl⟩
  all_goals (rw [Bool.eq_iff_iff]; simp_all [allowed, isKind, hasLevel, isLevel, inR]; try omega)
theorem impl_isAllowed (k l : Int) (w : World) : Calls Try.prog 162 #[.int .i64 k, .int .i64 l] w fun e w' => e = .returned (.bool (allowed k l)) ∧ w = w' := by
  go_enter Try.func162, Try.ntmps162
  go_wp2_with (first | (go_at_call 133; refine (impl_HasLevel _ _).mono ?_; rintro e w' ⟨rfl, rfl⟩) | (go_at_call 170; refine (impl_isKind _ _).mono ?_; rintro e w' ⟨rfl, rfl⟩) | (go_at_call 79; refine (impl_isLevel _ _).mono ?_; rintro e w' ⟨rfl, rfl⟩))
  all_goals go_ret
  all_goals refine ⟨retB ?_, rfl⟩
  all_goals (rw [Bool.eq_iff_iff]; simp_all [allowed, isKind, hasLevel, isLevel]; try omega)
theorem spec_Duplicates (a k l : Int) (w : World) : Calls Try.prog 177 #[.int .i64 a, .int .i64 k, .int .i64 l] w fun e w' => e = .returned (.bool (dup a k l)) ∧ w = w' := by
  go_enter Try.func177, Try.ntmps177
  go_wp2_with (first | (go_at_call 75; refine (spec_l00In _ _ _ _).mono ?_; rintro e w' ⟨rfl, rfl⟩) | (go_at_call 176; refine (spec_l10Level _ _ _).mono ?_; rintro e w' ⟨rfl, rfl⟩) | (go_at_call 78; refine (spec_HasLevel _ _).mono ?_; rintro e w' ⟨rfl, rfl⟩))
  all_goals go_ret
  all_goals refine ⟨retB ?_, rfl⟩
  all_goals (rw [Bool.eq_iff_iff]; simp_all [dup, isLevel, inR]; try omega)
theorem impl_Duplicates (a k l : Int) (w : World) : Calls Try.prog 180 #[.int .i64 a, .int .i64 k, .int .i64 l] w fun e w' => e = .returned (.bool (dup a k l)) ∧ w = w' := by
  go_enter Try.func180, Try.ntmps180
  go_wp2_with (first | (go_at_call 79; refine (impl_isLevel _ _).mono ?_; rintro e w' ⟨rfl, rfl⟩) | (go_at_call 162; refine (impl_isAllowed _ _ _).mono ?_; rintro e w' ⟨rfl, rfl⟩) | (go_at_call 133; refine (impl_HasLevel _ _).mono ?_; rintro e w' ⟨rfl, rfl⟩))
  all_goals go_ret
  all_goals refine ⟨retB ?_, rfl⟩
  all_goals (rw [Bool.eq_iff_iff]; simp_all [dup, isLevel]; try omega)
theorem spec_l10Rule (ka la kb lb : Int) (w : World) : Calls Try.prog 160 #[.int .i64 ka, .int .i64 la, .int .i64 kb, .int .i64 lb] w fun e w' => e = .returned (.int .i64 (rule ka la kb lb)) ∧ w = w' := by
  go_enter Try.func160, Try.ntmps160
  go_wp2_with (first | (go_at_call 177; refine (spec_Duplicates _ _ _ _).mono ?_; rintro e w' ⟨rfl, rfl⟩) | (go_at_call 178; refine (spec_IsConsumer _ _).mono ?_; rintro e w' ⟨rfl, rfl⟩))
  all_goals go_ret
  all_goals refine ⟨retI ?_, rfl⟩
  all_goals (simp_all [rule]; try omega)
theorem impl_classOf (ka la kb lb : Int) (w : World) : Calls Try.prog 163 #[.int .i64 ka, .int .i64 la, .int .i64 kb, .int .i64 lb] w fun e w' => e = .returned (.int .i64 (rule ka la kb lb)) ∧ w = w' := by
  go_enter Try.func163, Try.ntmps163
  go_wp2_with (first | (go_at_call 180; refine (impl_Duplicates _ _ _ _).mono ?_; rintro e w' ⟨rfl, rfl⟩) | (go_at_call 181; refine (impl_IsConsumer _ _).mono ?_; rintro e w' ⟨rfl, rfl⟩))
  all_goals go_ret
  all_goals refine ⟨retI ?_, rfl⟩
  all_goals (simp_all [rule]; try omega)
theorem spec_l10Pair (ka la kb lb : Int) (w : World) : Calls Try.prog 159 #[.int .i64 ka, .int .i64 la, .int .i64 kb, .int .i64 lb] w fun e w' => e = .returned (.bool (mayPair ka la kb lb)) ∧ w = w' := by
  go_enter Try.func159, Try.ntmps159
  go_wp2_with (first | (go_at_call 176; refine (spec_l10Level _ _ _).mono ?_; rintro e w' ⟨rfl, rfl⟩))
  all_goals go_ret
  all_goals refine ⟨retB ?_, rfl⟩
  all_goals (rw [Bool.eq_iff_iff]; simp_all [mayPair]; try omega)
theorem spec_PairClass (ka la kb lb : Int) (w : World) : Calls Try.prog 109 #[.int .i64 ka, .int .i64 la, .int .i64 kb, .int .i64 lb] w fun e w' => e = .returned (.int .i64 (pairClass ka la kb lb)) ∧ w = w' := by
  go_enter Try.func109, Try.ntmps109
  go_wp2_with (first | (go_at_call 159; refine (spec_l10Pair _ _ _ _ _).mono ?_; rintro e w' ⟨rfl, rfl⟩) | (go_at_call 160; refine (spec_l10Rule _ _ _ _ _).mono ?_; rintro e w' ⟨rfl, rfl⟩))
  all_goals go_ret
  all_goals refine ⟨retI ?_, rfl⟩
  all_goals (simp_all [pairClass]; try omega)
theorem impl_pairOf (ka la kb lb : Int) (w : World) : Calls Try.prog 111 #[.int .i64 ka, .int .i64 la, .int .i64 kb, .int .i64 lb] w fun e w' => e = .returned (.tuple #[.int .i64 (pairClass ka la kb lb), .int .i64 (pairFirst ka la kb lb)]) ∧ w = w' := by
  go_enter Try.func111, Try.ntmps111
  go_wp2_with (first | (go_at_call 162; refine (impl_isAllowed _ _ _).mono ?_; rintro e w' ⟨rfl, rfl⟩) | (go_at_call 163; refine (impl_classOf _ _ _ _ _).mono ?_; rintro e w' ⟨rfl, rfl⟩))
  all_goals go_ret2
  all_goals refine ⟨retI2 ?_, rfl⟩
  all_goals (simp_all [pairFirst, pairClass, mayPair]; try omega)
theorem spec_PortsOf (k f : Int) (w : World) : Calls Try.prog 182 #[.int .i64 k, .int .i64 f] w fun e w' => e = .returned (.int .i64 (portsOf k f)) ∧ w = w' := by
  go_enter Try.func182, Try.ntmps182
  go_wp2_with (go_at_call 75; refine (spec_l00In _ _ _ _).mono ?_; rintro e w' ⟨rfl, rfl⟩)
  all_goals go_ret
  all_goals refine ⟨retI ?_, rfl⟩
  all_goals (first | grind [portsOf, inR] | (unfold wrap64; grind [portsOf, inR]))
theorem ports_idx (k : Int) (h1 : 1 ≤ k) (h2 : k ≤ 12) (h9 : k ≠ 9) (w : World) :
    (Instr.index 199 (.agg #[.int .i64 0, .int .i64 1, .int .i64 3, .int .i64 3, .int .i64 3, .int .i64 1, .int .i64 1, .int .i64 3, .int .i64 2, .int .i64 0, .int .i64 2, .int .i64 2, .int .i64 1]) (.int .i64 k)).run Try.prog w = .ok (.int .i64 (portsOf k 0)) w := by
  have hk : k = 1 ∨ k = 2 ∨ k = 3 ∨ k = 4 ∨ k = 5 ∨ k = 6 ∨ k = 7 ∨ k = 8 ∨ k = 10 ∨ k = 11 ∨ k = 12 := by omega
  rcases hk with rfl | rfl | rfl | rfl | rfl | rfl | rfl | rfl | rfl | rfl | rfl <;> (show _ = _; kernel_rfl)
theorem impl_PortsOf (k f : Int) (w : World) : Calls Try.prog 184 #[.int .i64 k, .int .i64 f] w fun e w' => e = .returned (.int .i64 (portsOf k f)) ∧ w = w' := by
  by_cases h9 : k = 9
  · subst h9
    go_enter Try.func184, Try.ntmps184
    go_wp2_with (go_at_call 170; refine (impl_isKind _ _).mono ?_; rintro e w' ⟨rfl, rfl⟩)
    all_goals go_ret
    all_goals refine ⟨retI ?_, rfl⟩
    all_goals grind [portsOf]
  · have h9' : (k == 9) = false := by simp [h9]
    by_cases hk : 1 ≤ k ∧ k ≤ 12
    · obtain ⟨h1, h2⟩ := hk
      have hx := ports_idx k h1 h2 h9
      have hik : isKind k = true := by simp [isKind]; omega
      by_cases hf : f = 0
      · subst hf
        go_enter Try.func184, Try.ntmps184
        go_wp2_with (go_at_call 170; refine (impl_isKind _ _).mono ?_; rintro e w' ⟨rfl, rfl⟩)
        all_goals go_ret
        all_goals exact ⟨rfl, rfl⟩
      · have hf' : (f != 0) = true := by simp [hf]
        go_enter Try.func184, Try.ntmps184
        go_wp2_with (go_at_call 170; refine (impl_isKind _ _).mono ?_; rintro e w' ⟨rfl, rfl⟩)
        all_goals go_ret
        all_goals refine ⟨retI ?_, rfl⟩
        all_goals grind [portsOf]
    · have hik : isKind k = false := by simp [isKind]; omega
      go_enter Try.func184, Try.ntmps184
      go_wp2_with (go_at_call 170; refine (impl_isKind _ _).mono ?_; rintro e w' ⟨rfl, rfl⟩)
      all_goals go_ret
      all_goals refine ⟨retI ?_, rfl⟩
      all_goals grind [portsOf]
end
section
open Go.RowKit
set_option linter.unusedVariables false
theorem eqInt64S_c (A C : Option Addr) (n c m d : Nat) (xs ys : List Int) (w : World) {B : Nat} (hx : SlAt intRd 1 w B A n xs) (hy : SlAt intRd 1 w B C m ys) (hn : n ≤ 9223372036854775807) (hm : m ≤ 9223372036854775807) :
    Calls Try.prog 22 #[.slice A n c, .slice C m d] w fun e w' => e = .returned (.bool (eqL xs ys)) ∧ ∃ q, w' = w.drewN q := by
  have lx := Lib.hid hx.len
  have ly := Lib.hid hy.len
  by_cases hnm : n = m
  · subst hnm
    go_enter Try.func22, Try.ntmps22
    go_wp2
    go_loopw [5] (fun i wr => ∃ k : Nat, k ≤ n ∧ i = .int .i64 k ∧ Hid (xs.take k = ys.take k) ∧ Hid (∃ q, wr = w.drewN q)) (fun i _ => n - (intOf i).toNat)
    case atStart => exact ⟨0, by omega, rfl, rfl, ⟨0, rfl⟩⟩
    case round =>
      obtain ⟨k, hk, rfl, ht, hq⟩ := hrel
      by_cases hlt : k < n
      · obtain ⟨b, off, x, rfl, hb, hxk, hc⟩ := hx.int hlt
        obtain ⟨b', off', y, rfl, hb', hyk, hc'⟩ := hy.int hlt
        have Hxk := Lib.hid hxk
        have Hyk := Lib.hid hyk
        clear hxk hyk
        obtain ⟨q, rfl⟩ := hq
        by_cases hxy : x = y
        · have hf : (x != y) = false := by simp [hxy]
          have Hxy := Lib.hid hxy
          clear hxy
          go_wp2
          go_quiet (fail)
          go_wp2
          go_roundw
          case rel => exact ⟨k + 1, by omega, by go_num, eqL_step Hxk.out Hyk.out ht.out Hxy.out, ⟨_, rfl⟩⟩
          case measure => simp [intOf]; omega
        · have hf : (x != y) = true := by simp [hxy]
          have Hno := Lib.hid (eqL_no Hxk.out Hyk.out hxy)
          clear hxy
          go_wp2
          go_quiet (fail)
          go_wp2
          go_ret
          exact ⟨by rw [Hno.out]; rfl, (by first | exact ⟨_, rfl⟩ | exact ⟨_, World.drewN_drewN _ _ _⟩)⟩
      · have Hyes := Lib.hid (eqL_yes (k := k) ht.out (by have := lx.out; omega) (by have := ly.out; omega))
        obtain ⟨q, rfl⟩ := hq
        go_wp2
        go_ret
        exact ⟨by rw [Hyes.out]; rfl, ⟨_, rfl⟩⟩
  · have Hno := Lib.hid (eqL_len (xs := xs) (ys := ys) (by have := lx.out; have := ly.out; omega))
    have hf : ((n : Int) != (m : Int)) = true := by simp; omega
    go_enter Try.func22, Try.ntmps22
    go_wp2
    go_ret
    exact ⟨by rw [Hno.out]; rfl, ⟨0, rfl⟩⟩
theorem info_int64 : (Try.prog.info? 2).map (fun i => (i.zero, i.size, i.bytes)) = some (some (.int .i64 0), 1, 8) := by kernel_rfl
theorem toInt64S_c (A : Option Addr) (n c : Nat) (xs : List Int) (w : World) {B : Nat} (hx : SlAt intRd 1 w B A n xs) (hB : B ≤ w.heap.size) (hn : n ≤ 4294967296) :
    Calls Try.prog 32 #[.slice A n c] w fun e w' => e = .returned (.slice (some ⟨w.heap.size, 0, none⟩) n n) ∧ OwAt intOw 1 w' (some ⟨w.heap.size, 0, none⟩) n xs [w.heap.size] ∧ Below w.heap.size w w' ∧ w'.heap.size = w.heap.size + 1 := by
  have lx := Lib.hid hx.len
  have hmk := run_make_sz 34 2 Try.underlying34 info_int64 n (by omega) hn
  go_enter Try.func32, Try.ntmps32
  go_wp2
  clear hmk
  go_loopw [4] (fun i wr => ∃ k : Nat, k ≤ n ∧ i = .int .i64 k ∧ Below w.heap.size w wr ∧ Hid (wr.heap.size = w.heap.size + 1) ∧ (∃ arr, Blk wr w.heap.size 2 arr ∧ Hid (arr.size = n)) ∧ ElAt intOw 1 wr w.heap.size 0 (xs.take k) []) (fun i _ => n - (intOf i).toNat)
  case atStart => exact ⟨0, by omega, rfl, (Below.refl _ _).alloc (Nat.le_refl _) _, by simp [Hid], ⟨_, Blk.new _ _ _, by simp [Hid, madeCells_size]⟩, rfl⟩
  case round =>
    obtain ⟨k, hk, rfl, hb, hsz, ⟨arr, harr, hasz⟩, hel⟩ := hrel
    by_cases hlt : k < n
    · obtain ⟨b, off, x, rfl, hlb, hxk, hc⟩ := (hx.below intRd_ok (hb.mono hB)).int hlt
      obtain ⟨z, hz⟩ := harr.some_ (i := k) (by rw [hasz.out]; exact hlt)
      have hfz := harr.frozen k
      have Hxk := Lib.hid hxk
      clear hxk
      have Hel := Lib.hid hel
      clear hel
      go_wp2
      go_roundw
      case rel =>
        refine ⟨k + 1, by omega, by go_num, hb.setCell (by simp) _, by simpa [Hid] using hsz, ⟨_, harr.set_ _ _, by simpa [Hid] using hasz⟩, ?_⟩
        rw [take_succ_some Hxk.out]
        have h1 := ElAt.setRun intOw_ok (vs := [.int .i64 x]) (p := k) Hel.out (by simp) (Or.inr (by have := lx.out; simp; omega))
        refine ElAt.append (b2 := []) h1 (ElAt.one ⟨rfl, rfl⟩ ?_)
        have e : 0 + (xs.take k).length * 1 = k := by have := lx.out; simp; omega
        rw [e]
        exact setRun_csAt (vs := [.int .i64 x]) (fun j hj => ⟨z, by simp at hj; subst hj; simpa using hz⟩) (fun j hj => by simp at hj; subst hj; simpa using hfz)
      case measure => simp [intOf]; omega
    · have hkn : k = n := by omega
      have e : xs.take k = xs := List.take_of_length_le (by have := lx.out; omega)
      rw [e] at hel
      have Hkn := Lib.hid hkn
      clear hkn e
      go_wp2
      go_ret
      exact ⟨rfl, ⟨lx.out, .inr ⟨_, _, [], rfl, rfl, hel⟩⟩, hb, hsz.out⟩
end
section
open Go.RowKit
set_option linter.unusedVariables false
def lenOk {α : Type} (xs : List α) : Prop := xs.length ≤ 1048576
theorem toInt64S_v (v : Value) (xs : List Int) (w : World) {B : Nat} (h : RdS intRd 1 w B v xs) (hB : B ≤ w.heap.size) (hs : lenOk xs) :
    Calls Try.prog 32 #[v] w fun e w' => Ret1 (fun v' => OwS intOw 1 w' v' xs w.heap.size w'.heap.size) e ∧ Below w.heap.size w w' := by
  obtain ⟨A, n, c, rfl, h, hnc, hcm⟩ := h
  refine (toInt64S_c A n c xs w h hB (by have := h.len; unfold lenOk at hs; omega)).mono ?_
  rintro e w' ⟨rfl, h1, h2, h3⟩
  exact ⟨⟨_, rfl, _, n, n, _, rfl, h1, by simp, fun b hb => by simp at hb; omega, Nat.le_refl _, by unfold maxLen; have := h.len; unfold lenOk at hs; omega⟩, h2⟩
theorem eqInt64S_v (v u : Value) (xs ys : List Int) (w : World) {B B' : Nat} (h : RdS intRd 1 w B v xs) (h' : RdS intRd 1 w B' u ys) (hB : B ≤ w.heap.size) (hB' : B' ≤ w.heap.size) :
    Calls Try.prog 22 #[v, u] w fun e w' => e = .returned (.bool (eqL xs ys)) ∧ Below w.heap.size w w' := by
  obtain ⟨A, n, c, rfl, h, hnc, hcm⟩ := h
  obtain ⟨C, m, d, rfl, h', hmd, hdm⟩ := h'
  refine (eqInt64S_c A C n c m d xs ys w (h.more intRd_ok (Nat.le_max_left B B')) (h'.more intRd_ok (Nat.le_max_right B B')) (by unfold maxLen at hcm; omega) (by unfold maxLen at hdm; omega)).mono ?_
  rintro e w' ⟨rfl, q, rfl⟩
  exact ⟨rfl, ⟨rfl, rfl, rfl, Nat.le_refl _, fun _ _ => rfl⟩⟩
end
section
open Go.RowKit
set_option linter.unusedVariables false
set_option linter.unusedSimpArgs false
@[go_sem] theorem eqPort_run (a b c d : Int) (w : World) : (Op.equalIn 10000 53 (.agg #[.int .i64 a, .int .i64 b]) (.agg #[.int .i64 c, .int .i64 d])).run Try.prog w = .ok (a == c && b == d) w := by
  have u3 := Try.underlying2
  have hS : Try.prog.underlying 53 = some (.struct (Try.prog.fieldsOf 53)) := by kernel_rfl
  have hp : Try.prog.stoodInHeld 53 = false := by kernel_rfl
  rw [show (10000 : Nat) = 9999 + 1 from rfl, run_equalIn_agg w 9999 53 _ _ hS hp]
  simp only [Program.fieldsOf, Try.underlying53]
  go_simp
  by_cases h1 : a = c <;> by_cases h2 : b = d <;> simp [h1, h2]
@[go_sem] theorem eqGuardPort_run (op : BinOp) (x y : Operand) (xs ys : Array Value) (w : World) : (eqGuard op 53 x y (.agg xs) (.agg ys)).run Try.prog w = .ok () w := run_eqGuard_agg w op 53 x y xs ys (by kernel_rfl)
@[go_sem] theorem eqPair_run (a b c d : Int) (w : World) : (Op.equalIn 10000 81 (.agg #[.int .i64 a, .int .i64 b]) (.agg #[.int .i64 c, .int .i64 d])).run Try.prog w = .ok (a == c && b == d) w := by
  have u3 := Try.underlying2
  have hS : Try.prog.underlying 81 = some (.struct (Try.prog.fieldsOf 81)) := by kernel_rfl
  have hp : Try.prog.stoodInHeld 81 = false := by kernel_rfl
  rw [show (10000 : Nat) = 9999 + 1 from rfl, run_equalIn_agg w 9999 81 _ _ hS hp]
  simp only [Program.fieldsOf, Try.underlying81]
  go_simp
  by_cases h1 : a = c <;> by_cases h2 : b = d <;> simp [h1, h2]
@[go_sem] theorem eqGuardPair_run (op : BinOp) (x y : Operand) (xs ys : Array Value) (w : World) : (eqGuard op 81 x y (.agg xs) (.agg ys)).run Try.prog w = .ok () w := run_eqGuard_agg w op 81 x y xs ys (by kernel_rfl)
end
end Go.Proofs.Ytampijkiidjcmaa
