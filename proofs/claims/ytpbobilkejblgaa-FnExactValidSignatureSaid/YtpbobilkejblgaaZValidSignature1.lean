/- Lemmas of the proof of ValidSignature, part 1. No condition. -/
import Derived.BigQuiet
import Derived.Deep.Draws
import Derived.Deep.Fields
import Derived.Deep.LoopGhost
import Derived.Deep.Quiet
import Derived.Deep.QuietTactic
import Derived.Deep.RegionHeld3
import Derived.Deep.RegionLaw
import Derived.Deep.RegionWith
import Derived.Deep.Slices
import Derived.Laws.AppendOwnNone
import Derived.Laws.Cells
import Derived.Laws.Cover3
import Derived.Laws.Entries
import Derived.Laws.MakeOwn
import Derived.Laws.Rows
import Derived.Laws.Slices
import Derived.Laws.StructEq
import Derived.Lib.Hide
import Derived.Maps.OwnSet
import Derived.Maps.Views
import Derived.OpenShut
import Derived.OrdersHeld
import Derived.OwnWalk
import Derived.ProofKit
import Derived.StillTail
import Derived.Test.YtpbobilkejblgaaRows
import Derived.WalkKit
namespace Go.Proofs.Ytpbobilkejblgaa
section
open Go.RowKit
def inR (n lo hi : Int) : Bool := decide (lo ≤ n) && decide (n ≤ hi)
def isKind (k : Int) : Bool := decide (1 ≤ k) && decide (k ≤ 12)
def isLevel (k : Int) : Bool := decide (0 ≤ k) && decide (k ≤ 8)
def hasLevel (k : Int) : Bool := decide (2 ≤ k) && decide (k ≤ 12) && decide (k ≠ 5) && decide (k ≠ 6)
def allowed (k l : Int) : Bool := isKind k && (decide (l = 0) || (hasLevel k && isLevel l))
theorem retB {b c : Bool} (h : b = c) : Ending.returned (.bool b) = .returned (.bool c) := by rw [h]
def portsOf (k f : Int) : Int :=
  if k = 9 then (if 0 ≤ f ∧ f ≤ 3 then f + 1 else 0)
  else if f ≠ 0 then 0
  else if k = 1 ∨ k = 5 ∨ k = 6 ∨ k = 12 then 1
  else if k = 8 ∨ k = 10 ∨ k = 11 then 2
  else if k = 2 ∨ k = 3 ∨ k = 4 ∨ k = 7 then 3 else 0
end
section
open Go.RowKit
set_option linter.unusedVariables false
set_option linter.unusedSimpArgs false
abbrev Rd (α : Type) := World → Nat → List Value → α → Prop
/-- What every reading meets: it is of 'sz' cells; it stays while the cells below B stay; it may look further up. -/
structure RdOk {α : Type} (R : Rd α) (sz : Nat) : Prop where
  len : ∀ {w B cs x}, R w B cs x → cs.length = sz
  keep : ∀ {w w' : World} {B cs x}, (∀ p : Addr, p.block < B → w'.cell? p = w.cell? p) → R w B cs x → R w' B cs x
  more : ∀ {w B B' cs x}, B ≤ B' → R w B cs x → R w B' cs x
/-- The elements of a slice at address A, n of them, each of 'sz' cells. -/
def SlAt {α : Type} (R : Rd α) (sz : Nat) (w : World) (B : Nat) (A : Option Addr) (n : Nat) (xs : List α) : Prop :=
  n = xs.length ∧ (0 < n → ∃ b off, A = some ⟨b, off, none⟩ ∧ b < B ∧
    ∀ i x, xs[i]? = some x → ∃ cs, R w B cs x ∧ ∀ j v, cs[j]? = some v → w.cell? ⟨b, off + i * sz + j, none⟩ = some v)
/-- A slice as one cell. -/
def slRd {α : Type} (R : Rd α) (sz : Nat) : Rd (List α) := fun w B cs xs => ∃ A n c, cs = [.slice A n c] ∧ SlAt R sz w B A n xs ∧ n ≤ c ∧ c ≤ maxLen
def intRd : Rd Int := fun _ _ cs n => cs = [.int .i64 n]
def boolRd : Rd Bool := fun _ _ cs b => cs = [.bool b]
def strRd : Rd ByteArray := fun _ _ cs s => cs = [.string s]
theorem strRd_ok : RdOk strRd 1 := ⟨fun h => by cases h; rfl, fun _ h => h, fun _ h => h⟩
section
variable {α : Type} {R : Rd α} {sz : Nat} {w w' : World} {B B' n : Nat} {A : Option Addr} {xs : List α}
theorem SlAt.len (h : SlAt R sz w B A n xs) : n = xs.length := h.1
theorem SlAt.none_ : SlAt R sz w B A 0 [] := ⟨rfl, fun h => absurd h (by omega)⟩
theorem SlAt.keep (ok : RdOk R sz) (hk : ∀ p : Addr, p.block < B → w'.cell? p = w.cell? p) (h : SlAt R sz w B A n xs) : SlAt R sz w' B A n xs :=
  ⟨h.1, fun hn => by
    obtain ⟨b, off, e, hb, hc⟩ := h.2 hn
    exact ⟨b, off, e, hb, fun i x hx => by
      obtain ⟨cs, hR, hv⟩ := hc i x hx
      exact ⟨cs, ok.keep hk hR, fun j v hj => (hk _ hb).trans (hv j v hj)⟩⟩⟩
theorem SlAt.more (ok : RdOk R sz) (hB : B ≤ B') (h : SlAt R sz w B A n xs) : SlAt R sz w B' A n xs :=
  ⟨h.1, fun hn => by
    obtain ⟨b, off, e, hb, hc⟩ := h.2 hn
    exact ⟨b, off, e, by omega, fun i x hx => by
      obtain ⟨cs, hR, hv⟩ := hc i x hx
      exact ⟨cs, ok.more hB hR, hv⟩⟩⟩
theorem SlAt.below (ok : RdOk R sz) (h : SlAt R sz w B A n xs) (hb : Below B w w') : SlAt R sz w' B A n xs := h.keep ok fun _ hp => hb.cell hp
theorem SlAt.at_ (h : SlAt R sz w B A n xs) {k : Nat} (hk : k < n) : ∃ b off x cs, A = some ⟨b, off, none⟩ ∧ b < B ∧ xs[k]? = some x ∧ R w B cs x ∧ ∀ j v, cs[j]? = some v → w.cell? ⟨b, off + k * sz + j, none⟩ = some v := by
  obtain ⟨b, off, e, hb, hc⟩ := h.2 (by omega)
  have hl : k < xs.length := by have := h.1; omega
  obtain ⟨cs, hR, hv⟩ := hc k xs[k] (List.getElem?_eq_getElem hl)
  exact ⟨b, off, xs[k], cs, e, hb, List.getElem?_eq_getElem hl, hR, hv⟩
end
theorem SlAt.int {w : World} {B n : Nat} {A : Option Addr} {xs : List Int} (h : SlAt intRd 1 w B A n xs) {k : Nat} (hk : k < n) :
    ∃ b off x, A = some ⟨b, off, none⟩ ∧ b < B ∧ xs[k]? = some x ∧ w.cell? ⟨b, off + k, none⟩ = some (.int .i64 x) := by
  obtain ⟨b, off, x, cs, e, hb, hx, rfl, hc⟩ := h.at_ hk
  exact ⟨b, off, x, e, hb, hx, by simpa using hc 0 _ rfl⟩
theorem SlAt.bool {w : World} {B n : Nat} {A : Option Addr} {xs : List Bool} (h : SlAt boolRd 1 w B A n xs) {k : Nat} (hk : k < n) :
    ∃ b off x, A = some ⟨b, off, none⟩ ∧ b < B ∧ xs[k]? = some x ∧ w.cell? ⟨b, off + k, none⟩ = some (.bool x) := by
  obtain ⟨b, off, x, cs, e, hb, hx, rfl, hc⟩ := h.at_ hk
  exact ⟨b, off, x, e, hb, hx, by simpa using hc 0 _ rfl⟩
/-- What is left of a bound behind a list of n; -1: too long. -/
def szL (left : Int) (n : Nat) : Int := if left - n < 0 then -1 else left - n
theorem szL_neg {left : Int} {n : Nat} (h : left - n < 0) : szL left n = -1 := if_pos h
theorem szL_pos {left : Int} {n : Nat} (h : ¬ left - n < 0) : szL left n = left - n := if_neg h
theorem lt_of_some {α : Type} {l : List α} {k : Nat} {x : α} (h : l[k]? = some x) : k < l.length := (List.getElem?_eq_some_iff.1 h).1
end
section
open Go.RowKit
set_option linter.unusedVariables false
set_option linter.unusedSimpArgs false
abbrev Ow (α : Type) := World → List Value → α → List Nat → Prop
structure OwOk {α : Type} (O : Ow α) (sz : Nat) : Prop where
  len : ∀ {w cs x bs}, O w cs x bs → cs.length = sz
  keep : ∀ {w w' : World} {cs x bs}, (∀ b ∈ bs, w'.heap[b]? = w.heap[b]?) → O w cs x bs → O w' cs x bs
/-- The cells cs lie at b, o and may be written. -/
def CsAt (w : World) (b o : Nat) (cs : List Value) : Prop := ∀ j v, cs[j]? = some v → w.cell? ⟨b, o + j, none⟩ = some v ∧ w.frozen? ⟨b, o + j, none⟩ = false
def ElAt {α : Type} (O : Ow α) (sz : Nat) (w : World) (b : Nat) : Nat → List α → List Nat → Prop
  | _, [], bs => bs = []
  | o, x :: xs, bs => ∃ cs b1 b2, O w cs x b1 ∧ CsAt w b o cs ∧ bs = b1 ++ b2 ∧ ElAt O sz w b (o + sz) xs b2
def OwAt {α : Type} (O : Ow α) (sz : Nat) (w : World) (A : Option Addr) (n : Nat) (xs : List α) (bs : List Nat) : Prop :=
  n = xs.length ∧ ((xs = [] ∧ bs = []) ∨ ∃ b o b2, A = some ⟨b, o, none⟩ ∧ bs = b :: b2 ∧ ElAt O sz w b o xs b2)
def intOw : Ow Int := fun _ cs n bs => cs = [.int .i64 n] ∧ bs = []
def strOw : Ow ByteArray := fun _ cs n bs => cs = [.string n] ∧ bs = []
def Gives {α : Type} (O : Ow α) (R : Rd α) (B : Nat) : Prop := ∀ w cs x bs, O w cs x bs → (∀ k ∈ bs, k < B) → R w B cs x
/-- Only the blocks of bs may have turned. -/
structure Only (bs : List Nat) (w w' : World) : Prop where
  os : w'.os = w.os
  tape : w'.tape = w.tape
  output : w'.output = w.output
  size : w'.heap.size = w.heap.size
  block : ∀ k, k ∉ bs → w'.heap[k]? = w.heap[k]?
section
variable {w w' w'' : World} {bs bs' : List Nat}
theorem Only.refl (bs : List Nat) (w : World) : Only bs w w := ⟨rfl, rfl, rfl, rfl, fun _ _ => rfl⟩
theorem Only.trans (h : Only bs w w') (h' : Only bs w' w'') : Only bs w w'' :=
  ⟨h'.os.trans h.os, h'.tape.trans h.tape, h'.output.trans h.output, h'.size.trans h.size, fun k hk => (h'.block k hk).trans (h.block k hk)⟩
theorem Only.mono (h : Only bs w w') (hb : ∀ b ∈ bs, b ∈ bs') : Only bs' w w' := ⟨h.os, h.tape, h.output, h.size, fun k hk => h.block k (fun hin => hk (hb k hin))⟩
theorem Only.setCell (h : Only bs w w') {p : Addr} (hp : p.block ∈ bs) (u : Value) : Only bs w (w'.setCell p u) :=
  h.trans ⟨rfl, rfl, rfl, by simp [World.setCell], fun k hk => Below.heap_setCell _ _ _ _ (fun e => hk (by rw [e]; exact hp))⟩
theorem Only.drew (h : Only bs w w') : Only bs w w'.drew := ⟨h.os, h.tape, h.output, h.size, h.block⟩
theorem Only.below {B : Nat} (h : Only bs w w') (hb : ∀ b ∈ bs, B ≤ b) : Below B w w' :=
  ⟨h.os, h.tape, h.output, by rw [h.size]; exact Nat.le_refl _, fun k hk => h.block k (fun hin => by have := hb k hin; omega)⟩
theorem CsAt.keep {b o : Nat} {cs : List Value} (h : CsAt w b o cs) (hb : w'.heap[b]? = w.heap[b]?) : CsAt w' b o cs := fun j v hj =>
  ⟨(World.cell?_of_block (w := w) (a := ⟨b, o + j, none⟩) hb).trans (h j v hj).1, (World.frozen?_of_block (w := w) (a := ⟨b, o + j, none⟩) hb).trans (h j v hj).2⟩
end
section
variable {α : Type} {O : Ow α} {sz : Nat} {w w' : World} {b o n : Nat} {A : Option Addr} {xs ys : List α} {bs : List Nat}
theorem ElAt.keep (ok : OwOk O sz) : ∀ {xs : List α} {o : Nat} {bs : List Nat}, (w'.heap[b]? = w.heap[b]?) → (∀ k ∈ bs, w'.heap[k]? = w.heap[k]?) → ElAt O sz w b o xs bs → ElAt O sz w' b o xs bs
  | [], _, _, _, _, h => h
  | x :: xs, o, _, hb, hbs, ⟨cs, b1, b2, hO, hc, e, hr⟩ => by
    subst e
    exact ⟨cs, b1, b2, ok.keep (fun k hk => hbs k (by simp [hk])) hO, hc.keep hb, rfl, ElAt.keep ok hb (fun k hk => hbs k (by simp [hk])) hr⟩
theorem ElAt.append : ∀ {xs ys : List α} {o : Nat} {b1 b2 : List Nat}, ElAt O sz w b o xs b1 → ElAt O sz w b (o + xs.length * sz) ys b2 → ElAt O sz w b o (xs ++ ys) (b1 ++ b2)
  | [], ys, o, b1, b2, h1, h2 => by
    have h1 : b1 = [] := h1
    subst h1
    simpa using h2
  | x :: xs, ys, o, b1, b2, ⟨cs, c1, c2, hO, hc, e, hr⟩, h2 => by
    subst e
    refine ⟨cs, c1, c2 ++ b2, hO, hc, by simp, ElAt.append hr ?_⟩
    have e : o + sz + xs.length * sz = o + (x :: xs).length * sz := by simp [Nat.add_mul]; omega
    rw [e]
    exact h2
theorem ElAt.split : ∀ {xs ys : List α} {o : Nat} {bs : List Nat}, ElAt O sz w b o (xs ++ ys) bs → ∃ b1 b2, bs = b1 ++ b2 ∧ ElAt O sz w b o xs b1 ∧ ElAt O sz w b (o + xs.length * sz) ys b2
  | [], ys, o, bs, h => ⟨[], bs, rfl, rfl, by simpa using h⟩
  | x :: xs, ys, o, bs, ⟨cs, c1, c2, hO, hc, e, hr⟩ => by
    obtain ⟨b1, b2, e2, h1, h2⟩ := ElAt.split hr
    subst e2
    subst e
    refine ⟨c1 ++ b1, b2, by simp, ⟨cs, c1, b1, hO, hc, rfl, h1⟩, ?_⟩
    have e : o + sz + xs.length * sz = o + (x :: xs).length * sz := by simp [Nat.add_mul]; omega
    rw [e] at h2
    exact h2
theorem ElAt.one {x : α} {cs : List Value} {b1 : List Nat} (hO : O w cs x b1) (hc : CsAt w b o cs) : ElAt O sz w b o [x] b1 := ⟨cs, b1, [], hO, hc, by simp, rfl⟩
/-- It reads: elements by their index. -/
theorem ElAt.reads {R : Rd α} {B : Nat} (hR : Gives O R B) : ∀ {xs : List α} {o : Nat} {bs : List Nat}, ElAt O sz w b o xs bs → (∀ k ∈ bs, k < B) →
    ∀ i x, xs[i]? = some x → ∃ cs, R w B cs x ∧ ∀ j v, cs[j]? = some v → w.cell? ⟨b, o + i * sz + j, none⟩ = some v
  | [], _, _, _, _, i, x, hx => by simp at hx
  | y :: ys, o, _, ⟨cs, b1, b2, hO, hc, e, hr⟩, hlt, i, x, hx => by
    subst e
    cases i with
    | zero =>
      have hx : y = x := by simpa using hx
      subst hx
      exact ⟨cs, hR _ _ _ _ hO (fun k hk => hlt k (by simp [hk])), fun j v hj => by simpa using (hc j v hj).1⟩
    | succ i =>
      obtain ⟨cs', h1, h2⟩ := ElAt.reads hR hr (fun k hk => hlt k (by simp [hk])) i x (by simpa using hx)
      refine ⟨cs', h1, fun j v hj => ?_⟩
      have := h2 j v hj
      have e : o + sz + i * sz + j = o + (i + 1) * sz + j := by simp [Nat.add_mul]; omega
      rw [e] at this
      exact this
theorem OwAt.len (h : OwAt O sz w A n xs bs) : n = xs.length := h.1
theorem OwAt.keep (ok : OwOk O sz) (hb : ∀ k ∈ bs, w'.heap[k]? = w.heap[k]?) (h : OwAt O sz w A n xs bs) : OwAt O sz w' A n xs bs := by
  refine ⟨h.1, ?_⟩
  rcases h.2 with h2 | ⟨b, o, b2, e, e2, h2⟩
  · exact .inl h2
  · subst e2
    exact .inr ⟨b, o, b2, e, rfl, h2.keep ok (hb b (by simp)) (fun k hk => hb k (by simp [hk]))⟩
theorem OwAt.reads {R : Rd α} {B : Nat} (hR : Gives O R B) (h : OwAt O sz w A n xs bs) (hlt : ∀ k ∈ bs, k < B) : SlAt R sz w B A n xs := by
  refine ⟨h.1, fun hn => ?_⟩
  rcases h.2 with ⟨e, _⟩ | ⟨b, o, b2, e, e2, h2⟩
  · have := h.1; rw [e] at this; simp at this; omega
  · subst e2
    exact ⟨b, o, e, hlt b (by simp), h2.reads hR (fun k hk => hlt k (by simp [hk]))⟩
end
def Blk (w : World) (g : Nat) (t : TypeId) (cs : Array Value) : Prop := w.heap[g]? = some (.cells cs t (0, 0))
section
variable {w w' : World} {g : Nat} {t : TypeId} {cs : Array Value}
theorem Blk.lt (h : Blk w g t cs) : g < w.heap.size := by
  rcases Nat.lt_or_ge g w.heap.size with hlt | hge
  · exact hlt
  · unfold Blk at h; rw [Array.getElem?_eq_none hge] at h; cases h
theorem Blk.cell (h : Blk w g t cs) (i : Nat) : w.cell? ⟨g, i, none⟩ = cs[i]? := cell_of_row w g i cs t (0, 0) h
theorem Blk.frozen (h : Blk w g t cs) (i : Nat) : w.frozen? ⟨g, i, none⟩ = false := by
  unfold Blk at h
  simp [World.frozen?, h]
theorem Blk.new (w : World) (t : TypeId) (cs : Array Value) : Blk (w.alloc (.cells cs t)) w.heap.size t cs := heap_alloc_new w _
theorem Blk.alloc (h : Blk w g t cs) (o : Obj) : Blk (w.alloc o) g t cs := (Below.heap_alloc w o g h.lt).trans h
theorem Blk.drew (h : Blk w g t cs) : Blk w.drew g t cs := h
theorem Blk.far (h : Blk w g t cs) {p : Addr} (hp : g ≠ p.block) (u : Value) : Blk (w.setCell p u) g t cs := (Below.heap_setCell w p u g hp).trans h
theorem Blk.below {B : Nat} (h : Blk w g t cs) (hb : Below B w w') (hg : g < B) : Blk w' g t cs := (hb.block g hg).trans h
theorem Blk.csAt (h : Blk w g t cs) {o : Nat} {l : List Value} (hl : ∀ j v, l[j]? = some v → cs[o + j]? = some v) : CsAt w g o l := fun j v hj =>
  ⟨by rw [h.cell]; exact hl j v hj, h.frozen _⟩
end
theorem CsAt.nil {w : World} {b o : Nat} : CsAt w b o [] := fun j v hj => by simp at hj
theorem CsAt.cons {w : World} {b o : Nat} {v : Value} {vs : List Value} (h1 : w.cell? ⟨b, o, none⟩ = some v) (h2 : w.frozen? ⟨b, o, none⟩ = false) (h : CsAt w b (o + 1) vs) : CsAt w b o (v :: vs) := fun j u hj => by
  cases j with
  | zero => have hj : v = u := by simpa using hj
            subst hj; exact ⟨h1, h2⟩
  | succ j => have := h j u (by simpa using hj)
              rwa [show o + 1 + j = o + (j + 1) by omega] at this
theorem CsAt.keepC {w w' : World} {b o : Nat} {cs : List Value} (h : CsAt w b o cs) (hk : ∀ j, j < cs.length → w'.cell? ⟨b, o + j, none⟩ = w.cell? ⟨b, o + j, none⟩ ∧ w'.frozen? ⟨b, o + j, none⟩ = w.frozen? ⟨b, o + j, none⟩) : CsAt w' b o cs := fun j v hj => by
  obtain ⟨e1, e2⟩ := hk j (lt_of_some hj)
  rw [e1, e2]
  exact h j v hj
section
variable {α : Type} {O : Ow α} {sz : Nat} {w w' : World} {b o n : Nat}
theorem ElAt.keepC (ok : OwOk O sz) : ∀ {xs : List α} {o : Nat} {bs : List Nat}, (∀ p, o ≤ p → p < o + xs.length * sz → w'.cell? ⟨b, p, none⟩ = w.cell? ⟨b, p, none⟩ ∧ w'.frozen? ⟨b, p, none⟩ = w.frozen? ⟨b, p, none⟩) →
    (∀ k ∈ bs, w'.heap[k]? = w.heap[k]?) → ElAt O sz w b o xs bs → ElAt O sz w' b o xs bs
  | [], _, _, _, _, h => h
  | x :: xs, o, _, hb, hbs, ⟨cs, b1, b2, hO, hc, e, hr⟩ => by
    subst e
    have hl := ok.len hO
    have e : (x :: xs).length * sz = xs.length * sz + sz := by simp [Nat.add_mul]
    exact ⟨cs, b1, b2, ok.keep (fun k hk => hbs k (by simp [hk])) hO, hc.keepC (fun j hj => hb _ (by omega) (by omega)), rfl,
      ElAt.keepC ok (fun p h1 h2 => hb p (by omega) (by omega)) (fun k hk => hbs k (by simp [hk])) hr⟩
end
theorem run_make_rowN {P : Program} (t e : TypeId) (i : TypeInfo) (z : Value) (ht : P.underlying t = some (.slice e)) (hi : P.info? e = some i) (hz : i.zero = some z)
    (kl kc : IntKind) (n c : Nat) (hnc : n ≤ c) (hbytes : i.bytes * c ≤ 281474976710656) (h63 : c ≤ 9223372036854775807) (w : World) :
    (Instr.makeSlice t (.int kl (n : Int)) (.int kc (c : Int))).run P w = .ok (.slice (some ⟨w.heap.size, 0, none⟩) n c) (w.alloc (.cells (madeCells z.cells (c * i.size)) e)) := by
  have hb : (i.bytes : Int) * (c : Int) ≤ 281474976710656 := by
    have h : ((i.bytes * c : Nat) : Int) ≤ 281474976710656 := by omega
    rwa [Int.natCast_mul] at h
  have hr := run_make (P := P) w t e i z ht hi hz kl kc n c (by omega) (by omega) hb (by omega)
  simp only [Int.toNat_natCast] at hr
  exact hr
theorem run_make_sz {P : Program} (t e : TypeId) {z : Value} {sz bb : Nat} (ht : P.underlying t = some (.slice e)) (hinfo : (P.info? e).map (fun i => (i.zero, i.size, i.bytes)) = some (some z, sz, bb))
    (n : Nat) (hb : bb * n ≤ 281474976710656) (hn : n ≤ 4294967296) (w : World) :
    (Instr.makeSlice t (.int .i64 (n : Int)) (.int .i64 (n : Int))).run P w = .ok (.slice (some ⟨w.heap.size, 0, none⟩) n n) (w.alloc (.cells (madeCells z.cells (n * sz)) e)) := by
  obtain ⟨i0, hi, hz0, hz1, hz2⟩ := info_parts hinfo
  have h := run_make_rowN t e i0 z ht hi hz0 .i64 .i64 n n (Nat.le_refl _) (by rw [hz2]; exact hb) (by omega) w
  rw [hz1] at h
  exact h
theorem madeCells_size (z : Array Value) (n : Nat) : (madeCells z n).size = n := by simp [madeCells]
def MidAt {α : Type} (O : Ow α) (sz : Nat) (w : World) (A : Option Addr) (done rest : List α) (bs : List Nat) : Prop :=
  (done = [] ∧ rest = [] ∧ bs = []) ∨ ∃ b o b1 b2, A = some ⟨b, o, none⟩ ∧ bs = b :: (b1 ++ b2) ∧ ElAt O sz w b o done b1 ∧ ElAt O sz w b (o + done.length * sz) rest b2
section
variable {α : Type} {O : Ow α} {sz : Nat} {w w' : World} {A : Option Addr} {n : Nat} {done rest xs : List α} {x x' : α} {bs : List Nat}
theorem MidAt.whole (h : MidAt O sz w A done [] bs) (hn : n = done.length) : OwAt O sz w A n done bs := by
  refine ⟨hn, ?_⟩
  rcases h with ⟨e1, _, e2⟩ | ⟨b, o, b1, b2, e1, e2, h, h2⟩
  · exact .inl ⟨e1, e2⟩
  · have h2 : b2 = [] := h2
    subst h2
    exact .inr ⟨b, o, b1, e1, by simpa using e2, h⟩
theorem MidAt.step {b o : Nat} {cs : List Value} {b1 bx b2 : List Nat} (hA : A = some ⟨b, o, none⟩) (h1 : ElAt O sz w b o done b1) (hO : O w cs x' bx) (hc : CsAt w b (o + done.length * sz) cs)
    (h2 : ElAt O sz w b (o + done.length * sz + sz) rest b2) : MidAt O sz w A (done ++ [x']) rest (b :: (b1 ++ (bx ++ b2))) := by
  refine .inr ⟨b, o, b1 ++ bx, b2, hA, by simp, ElAt.append h1 (ElAt.one hO hc), ?_⟩
  have e : o + (done ++ [x']).length * sz = o + done.length * sz + sz := by simp [Nat.add_mul]; omega
  rw [e]
  exact h2
end
end
section
open Go.RowKit
set_option linter.unusedVariables false
def ivals (l : List Int) : List Value := l.map (Value.int .i64)
/-- A row of numbers is a slice of the call's own. -/
theorem ownsRow_ints {w : World} {base : Nat} {e : TypeId} {v : Value} {n : Nat} {xs : List Int} (h : w.ownsRow base e 1 v n (ivals xs)) : ∃ A c bs, v = .slice A n c ∧ OwAt intOw 1 w A n xs bs ∧ bs.Nodup ∧ (∀ b ∈ bs, base ≤ b ∧ b < w.heap.size) ∧ n ≤ c ∧ c ≤ maxLen := by
  have hlen : n = xs.length := by have := h.1; simp [ivals] at this; omega
  rcases h.2 with ⟨rfl, rfl⟩ | ⟨g, cap, cur, rfl, hg, hh, h1, h2, h3, h4⟩
  · have : xs = [] := List.eq_nil_of_length_eq_zero hlen.symm
    subst this
    exact ⟨none, 0, [], rfl, ⟨rfl, .inl ⟨rfl, rfl⟩⟩, List.nodup_nil, fun b hb => by simp at hb, Nat.le_refl _, Nat.zero_le _⟩
  · have hblk : Blk w g e cur := hh
    refine ⟨some ⟨g, 0, none⟩, cap, [g], rfl, ⟨hlen, .inr ⟨g, 0, [], rfl, rfl, ?_⟩⟩, by simp, fun b hb => by simp at hb; subst hb; exact ⟨hg, hblk.lt⟩, h1, h2⟩
    have key : ∀ (l : List Int) (o : Nat), (∀ j x, l[j]? = some x → cur[o + j]? = some (.int .i64 x)) → ElAt intOw 1 w g o l [] := by
      intro l
      induction l with
      | nil => intro o _; rfl
      | cons x l ih =>
        intro o hl
        refine ⟨[.int .i64 x], [], [], ⟨rfl, rfl⟩, hblk.csAt (fun j v hj => ?_), rfl, ih (o + 1) (fun j y hy => ?_)⟩
        · cases j with
          | zero => have : Value.int .i64 x = v := by simpa using hj
                    subst this; exact hl 0 x rfl
          | succ j => simp at hj
        · have := hl (j + 1) y (by simpa using hy)
          rwa [show o + (j + 1) = o + 1 + j by omega] at this
    refine key xs 0 (fun j x hx => ?_)
    have hj : (ivals xs)[j]? = some (.int .i64 x) := by simp [ivals, hx]
    rw [← h4, List.getElem?_take] at hj
    split at hj
    · simpa using hj
    · cases hj
/-- A result that is a list of numbers and a code. -/
def RetInts (B : Nat) (w' : World) (xs : List Int) (k : Int) (e : Ending) : Prop :=
  ∃ A n c bs, e = .returned (.tuple #[.slice A n c, .int .i64 k]) ∧ OwAt intOw 1 w' A n xs bs ∧ bs.Nodup ∧ (∀ b ∈ bs, B ≤ b ∧ b < w'.heap.size) ∧ n ≤ c ∧ c ≤ maxLen
theorem RetInts.row {B : Nat} {w' : World} {v : Value} {n : Nat} {xs : List Int} {e : TypeId} {k : Int} (h : w'.ownsRow B e 1 v n (ivals xs)) : RetInts B w' xs k (.returned (.tuple #[v, .int .i64 k])) := by
  obtain ⟨A, c, bs, rfl, h1, h2, h3, h4⟩ := ownsRow_ints h
  exact ⟨A, n, c, bs, rfl, h1, h2, h3, h4⟩
end
section
open Go.RowKit
set_option linter.unusedVariables false
/-- A slice value that reads as a list. -/
def RdS {α : Type} (R : Rd α) (sz : Nat) (w : World) (B : Nat) (v : Value) (xs : List α) : Prop := ∃ A n c, v = .slice A n c ∧ SlAt R sz w B A n xs ∧ n ≤ c ∧ c ≤ maxLen
/-- A slice value of the call's own whose blocks lie from lo to hi. -/
def OwS {α : Type} (O : Ow α) (sz : Nat) (w : World) (v : Value) (xs : List α) (lo hi : Nat) : Prop := ∃ A n c bs, v = .slice A n c ∧ OwAt O sz w A n xs bs ∧ bs.Nodup ∧ (∀ b ∈ bs, lo ≤ b ∧ b < hi) ∧ n ≤ c ∧ c ≤ maxLen
/-- A struct value. -/
def RdT {α : Type} (R : Rd α) (w : World) (B : Nat) (v : Value) (x : α) : Prop := ∃ cs, v = .agg cs.toArray ∧ R w B cs x
def OwT {α : Type} (O : Ow α) (w : World) (v : Value) (x : α) (lo hi : Nat) : Prop := ∃ cs bs, v = .agg cs.toArray ∧ O w cs x bs ∧ bs.Nodup ∧ ∀ b ∈ bs, lo ≤ b ∧ b < hi
structure OnlyIn (lo hi : Nat) (w w' : World) : Prop where
  os : w'.os = w.os
  tape : w'.tape = w.tape
  output : w'.output = w.output
  size : w'.heap.size = w.heap.size
  block : ∀ k, k < lo ∨ hi ≤ k → w'.heap[k]? = w.heap[k]?
section
variable {w w' w'' : World} {lo hi lo' hi' B : Nat}
theorem OnlyIn.refl (lo hi : Nat) (w : World) : OnlyIn lo hi w w := ⟨rfl, rfl, rfl, rfl, fun _ _ => rfl⟩
theorem OnlyIn.trans (h : OnlyIn lo hi w w') (h' : OnlyIn lo hi w' w'') : OnlyIn lo hi w w'' :=
  ⟨h'.os.trans h.os, h'.tape.trans h.tape, h'.output.trans h.output, h'.size.trans h.size, fun k hk => (h'.block k hk).trans (h.block k hk)⟩
theorem OnlyIn.setCell (h : OnlyIn lo hi w w') {p : Addr} (hp : lo ≤ p.block ∧ p.block < hi) (u : Value) : OnlyIn lo hi w (w'.setCell p u) :=
  h.trans ⟨rfl, rfl, rfl, by simp [World.setCell], fun k hk => Below.heap_setCell _ _ _ _ (fun e => by omega)⟩
theorem OnlyIn.drew (h : OnlyIn lo hi w w') : OnlyIn lo hi w w'.drew := ⟨h.os, h.tape, h.output, h.size, h.block⟩
theorem OnlyIn.below (h : OnlyIn lo hi w w') : Below lo w w' := ⟨h.os, h.tape, h.output, by rw [h.size]; exact Nat.le_refl _, fun k hk => h.block k (.inl hk)⟩
section
variable {α : Type} {O : Ow α} {R : Rd α} {sz : Nat} {v : Value} {xs : List α} {x : α}
theorem RdS.below (ok : RdOk R sz) (h : RdS R sz w B v xs) (hb : Below B w w') : RdS R sz w' B v xs := let ⟨A, n, c, e, h, r⟩ := h; ⟨A, n, c, e, h.below ok hb, r⟩
theorem RdS.more (ok : RdOk R sz) (h : RdS R sz w B v xs) {B' : Nat} (hB : B ≤ B') : RdS R sz w B' v xs := let ⟨A, n, c, e, h, r⟩ := h; ⟨A, n, c, e, h.more ok hB, r⟩
theorem RdT.below (ok : RdOk R sz) (h : RdT R w B v x) (hb : Below B w w') : RdT R w' B v x := let ⟨cs, e, h⟩ := h; ⟨cs, e, ok.keep (fun p hp => hb.cell hp) h⟩
theorem RdT.more (ok : RdOk R sz) (h : RdT R w B v x) {B' : Nat} (hB : B ≤ B') : RdT R w B' v x := let ⟨cs, e, h⟩ := h; ⟨cs, e, ok.more hB h⟩
theorem OwS.keep (ok : OwOk O sz) (h : OwS O sz w v xs lo hi) (hk : ∀ k, lo ≤ k → k < hi → w'.heap[k]? = w.heap[k]?) : OwS O sz w' v xs lo hi :=
  let ⟨A, n, c, bs, e, h, h1, h2, r⟩ := h; ⟨A, n, c, bs, e, h.keep ok (fun k hin => hk k (h2 k hin).1 (h2 k hin).2), h1, h2, r⟩
theorem OwS.below (ok : OwOk O sz) (h : OwS O sz w v xs lo hi) (hb : Below B w w') (hB : hi ≤ B) : OwS O sz w' v xs lo hi := h.keep ok fun k _ hk => hb.block k (by omega)
theorem OwS.only (ok : OwOk O sz) (h : OwS O sz w v xs lo hi) (ho : OnlyIn lo' hi' w w') (hd : hi ≤ lo' ∨ hi' ≤ lo) : OwS O sz w' v xs lo hi := h.keep ok fun k h1 h2 => ho.block k (by omega)
theorem OwS.reads (hR : Gives O R B) (h : OwS O sz w v xs lo hi) (hB : hi ≤ B) : RdS R sz w B v xs := let ⟨A, n, c, bs, e, h, h1, h2, r⟩ := h; ⟨A, n, c, e, h.reads hR (fun k hk => by have := h2 k hk; omega), r⟩
theorem OwT.keep (ok : OwOk O sz) (h : OwT O w v x lo hi) (hk : ∀ k, lo ≤ k → k < hi → w'.heap[k]? = w.heap[k]?) : OwT O w' v x lo hi :=
  let ⟨cs, bs, e, h, h1, h2⟩ := h; ⟨cs, bs, e, ok.keep (fun k hin => hk k (h2 k hin).1 (h2 k hin).2) h, h1, h2⟩
theorem OwT.below (ok : OwOk O sz) (h : OwT O w v x lo hi) (hb : Below B w w') (hB : hi ≤ B) : OwT O w' v x lo hi := h.keep ok fun k _ hk => hb.block k (by omega)
theorem OwT.only (ok : OwOk O sz) (h : OwT O w v x lo hi) (ho : OnlyIn lo' hi' w w') (hd : hi ≤ lo' ∨ hi' ≤ lo) : OwT O w' v x lo hi := h.keep ok fun k h1 h2 => ho.block k (by omega)
theorem OwT.reads (hR : Gives O R B) (h : OwT O w v x lo hi) (hB : hi ≤ B) : RdT R w B v x := let ⟨cs, bs, e, h, h1, h2⟩ := h; ⟨cs, e, hR _ _ _ _ h (fun k hk => by have := h2 k hk; omega)⟩
end
end
/-- An element at b, p is being written: its own cells, and the blocks of bs. -/
structure Touch (b p sz : Nat) (bs : List Nat) (w w' : World) : Prop where
  os : w'.os = w.os
  tape : w'.tape = w.tape
  output : w'.output = w.output
  size : w'.heap.size = w.heap.size
  cell : ∀ q, q < p ∨ p + sz ≤ q → w'.cell? ⟨b, q, none⟩ = w.cell? ⟨b, q, none⟩
  frozen : ∀ q, w'.frozen? ⟨b, q, none⟩ = w.frozen? ⟨b, q, none⟩
  block : ∀ k, k ≠ b → k ∉ bs → w'.heap[k]? = w.heap[k]?
section
variable {w w' w'' : World} {b p sz : Nat} {bs bs' : List Nat}
theorem Touch.refl : Touch b p sz bs w w := ⟨rfl, rfl, rfl, rfl, fun _ _ => rfl, fun _ => rfl, fun _ _ _ => rfl⟩
theorem Touch.trans (h : Touch b p sz bs w w') (h' : Touch b p sz bs w' w'') : Touch b p sz bs w w'' :=
  ⟨h'.os.trans h.os, h'.tape.trans h.tape, h'.output.trans h.output, h'.size.trans h.size, fun q hq => (h'.cell q hq).trans (h.cell q hq), fun q => (h'.frozen q).trans (h.frozen q), fun k h1 h2 => (h'.block k h1 h2).trans (h.block k h1 h2)⟩
theorem Touch.set (h : Touch b p sz bs w w') {j : Nat} (h1 : p ≤ j) (h2 : j < p + sz) (v : Value) : Touch b p sz bs w (w'.setCell ⟨b, j, none⟩ v) :=
  h.trans ⟨rfl, rfl, rfl, by simp [World.setCell], fun q hq => World.cell?_setCell_other _ _ _ _ (fun e => by injection e with _ e2; omega), fun q => World.frozen?_setCell _ _ _ _, fun k hk _ => Below.heap_setCell _ _ _ _ hk⟩
theorem Touch.only (h : Touch b p sz bs w w') (ho : Only bs' w' w'') (hb : b ∉ bs') (hs : ∀ k ∈ bs', k ∈ bs) : Touch b p sz bs w w'' :=
  h.trans ⟨ho.os, ho.tape, ho.output, ho.size, fun q _ => World.cell?_of_block (w := w') (a := ⟨b, q, none⟩) (ho.block b hb), fun q => World.frozen?_of_block (w := w') (a := ⟨b, q, none⟩) (ho.block b hb), fun k _ hk => ho.block k (fun hin => hk (hs k hin))⟩
theorem Touch.only_ (h : Touch b p sz bs w w') : Only (b :: bs) w w' := ⟨h.os, h.tape, h.output, h.size, fun k hk => h.block k (by simp at hk; exact hk.1) (by simp at hk; exact hk.2)⟩
theorem Touch.el {α : Type} {O : Ow α} {s : Nat} (ok : OwOk O s) {xs : List α} {o : Nat} {bl : List Nat} (h : Touch b p sz bs w w') (hd : o + xs.length * s ≤ p ∨ p + sz ≤ o) (hbl : ∀ k ∈ bl, k ≠ b ∧ k ∉ bs) (hE : ElAt O s w b o xs bl) : ElAt O s w' b o xs bl :=
  hE.keepC ok (fun q h1 h2 => ⟨h.cell q (by omega), h.frozen q⟩) (fun k hk => h.block k (hbl k hk).1 (hbl k hk).2)
end
theorem SlAt.drew {α : Type} {R : Rd α} {sz : Nat} {w : World} {B n : Nat} {A : Option Addr} {xs : List α} (ok : RdOk R sz) (h : SlAt R sz w B A n xs) : SlAt R sz w.drew B A n xs := SlAt.keep (w := w) (w' := w.drew) ok (fun _ _ => rfl) h
/-- One result, or a result and codes. -/
def Ret1 (P : Value → Prop) (e : Ending) : Prop := ∃ v, e = .returned v ∧ P v
end
section
open Go.RowKit
set_option linter.unusedVariables false
set_option linter.unusedSimpArgs false
/-- A frame of n slots. -/
def Fr (n : Nat) (f : Nat → Value) : Act := ⟨((List.range n).map f).toArray, []⟩
def up (f : Nat → Value) (d : Nat) (v : Value) : Nat → Value := fun k => bif Nat.beq k d then v else f k
def upo (f : Nat → Value) : Option Tmp → Value → Nat → Value
  | some d, v => up f d v
  | none, _ => f
def ev (f : Nat → Value) : Operand → Value
  | .tmp t => f t
  | .const v => v
  | .global g => .pointer (some ⟨g, 0, none⟩)
  | .func g => .func (.func g) #[] #[]
def opIn (n : Nat) : Operand → Bool
  | .tmp t => Nat.blt t n
  | _ => true
def okOp (n : Nat) (ops : Array Oper) (o : Oper) : Bool :=
  o.op.operands.toList.all (opIn n) && (match o.op with | .select .. => false | _ => true) &&
  (match o.guard with | none => true | some (j, _) => match (ops[j]?).bind (·.dst) with | some d => Nat.blt d n | none => true)
def gval (f : Nat → Value) (ops : Array Oper) (j : Nat) : Option Bool :=
  match (ops[j]?).bind (·.dst) with
  | some d => match f d with | .bool b => some b | _ => none
  | none => none
def wantF (f : Nat → Value) (ops : Array Oper) (o : Oper) : Bool :=
  match o.guard with
  | none => true
  | some (j, want) => gval f ops j == some want
theorem Fr_get {n : Nat} {f : Nat → Value} {t : Nat} (h : t < n) : (Fr n f).tmps[t]? = some (f t) := by simp [Fr, h]
theorem Fr_eval {n : Nat} {f : Nat → Value} {x : Operand} (h : opIn n x = true) : (Fr n f).eval x = ev f x := by
  cases x with
  | tmp t =>
    have ht : t < n := by simpa [opIn] using h
    simp [Act.eval, Fr, ev, ht]
  | _ => rfl
theorem Fr_put {n : Nat} {f : Nat → Value} {d : Option Tmp} {v : Value} : (Fr n f).put d v = Fr n (upo f d v) := by
  cases d with
  | none => rfl
  | some d =>
    simp only [Act.put, Fr, upo, Act.mk.injEq, and_true]
    apply Array.ext_getElem?
    intro i
    simp only [Array.getElem?_setIfInBounds, List.size_toArray, List.length_map, List.length_range, List.getElem?_toArray, List.getElem?_map]
    by_cases hi : i < n
    · by_cases hd : d = i
      · subst hd; simp [hi, up]
      · have h1 : i.beq d = false := by cases h : i.beq d with | false => rfl | true => exact absurd (Nat.eq_of_beq_eq_true h).symm hd
        simp [hi, hd, up, h1]
    · by_cases hd : d = i
      · subst hd; simp [hi]
      · simp [hd, hi]
theorem Fr_exec {n : Nat} {f : Nat → Value} {ops : Array Oper} {o : Oper} (h : okOp n ops o = true) : execOp (Fr n f).eval o = execOp (ev f) o := by
  simp only [okOp, Bool.and_eq_true, List.all_eq_true] at h
  refine execOp_congr o (fun cs b e => ?_) (fun x hx => Fr_eval (h.1.1 x (by simpa using hx)))
  have := h.1.2
  rw [e] at this
  cases this
theorem Fr_wanted {n : Nat} {f : Nat → Value} {ops : Array Oper} {o : Oper} (h : okOp n ops o = true) : Region.wanted o (yielded ops (Fr n f).tmps) = wantF f ops o := by
  simp only [okOp, Bool.and_eq_true] at h
  have h3 := h.2
  unfold Region.wanted wantF
  cases hg : o.guard with
  | none => rfl
  | some p =>
    obtain ⟨j, want⟩ := p
    rw [hg] at h3
    simp only at h3 ⊢
    congr 1
    unfold yielded gval
    cases hd : (ops[j]?).bind (·.dst) with
    | none => rfl
    | some d =>
      rw [hd] at h3
      have hlt : d < n := by simpa using h3
      simp only [Option.bind_some, Fr_get hlt]
      cases f d <;> rfl
section
variable {P : Program} {ops : Array Oper}
/-- The operations one by one, in every world of the class C. -/
def RQ (P : Program) (ops : Array Oper) (C : World → Prop) (Q : (Nat → Value) → Prop) : List Oper → (Nat → Value) → Prop
  | [], f => Q f
  | o :: rest, f => ∃ v, ((wantF f ops o = true ∧ ∀ w, C w → Oper.quietUpon P C w v ((execOp (ev f) o).run P w)) ∨ (wantF f ops o = false ∧ v = undef)) ∧ RQ P ops C Q rest (upo f o.dst v)
theorem RQ_quiet {n : Nat} {C : World → Prop} {Q : (Nat → Value) → Prop} : ∀ {l : List Oper} {f : Nat → Value}, (∀ o ∈ l, okOp n ops o = true) → RQ P ops C Q l f → wpQuiet P ops C (fun a => ∃ f', a = Fr n f' ∧ Q f') l (Fr n f)
  | [], f, _, h => ⟨f, rfl, h⟩
  | o :: rest, f, hin, ⟨v, h1, h2⟩ => by
    have ho := hin o (by simp)
    have ih := RQ_quiet (fun o' h' => hin o' (by simp [h'])) h2
    unfold wpQuiet
    rw [Fr_wanted ho]
    rcases h1 with ⟨hw, h1⟩ | ⟨hw, rfl⟩
    · rw [hw, if_pos rfl]
      exact ⟨v, fun w hw' => by unfold Oper.quietAt; rw [Fr_exec ho]; exact h1 w hw', by rw [Fr_put]; exact ih⟩
    · rw [hw, if_neg (by decide), Fr_put]
      exact ih
theorem quiet_list {C : World → Prop} {Q : Act → Prop} {Q' : Exit → Act → World → Prop} (hQ : ∀ a w, C w → Q a → Q' .normal a w) : ∀ {l : List Oper} {a : Act} {w : World}, C w → wpQuiet P ops C Q l a → wpList P ops Q' l a w
  | [], a, w, hw, h => hQ a w hw h
  | o :: rest, a, w, hw, h => by
    unfold wpQuiet at h
    unfold wpList
    split
    · rename_i hg
      rw [if_pos hg] at h
      exact .inl (Oper.wp_of_quiet hw (fun a' w' hw' h' => quiet_list hQ hw' h') h)
    · rename_i hg
      rw [if_neg hg] at h
      exact quiet_list hQ hw h
def okAll (n : Nat) (l : List Oper) : Bool := l.all (okOp n l.toArray)
theorem wp_rq {id n : Nat} {l : List Oper} {f : Nat → Value} {w : World} {Q : Exit → Act → World → Prop} (C : World → Prop) (hC : C w) (hin : okAll n l = true)
    (h : RQ P l.toArray C (fun f' => ∀ w', C w' → Q .normal (Fr n f') w') l f) : (Code.region id l.toArray false).wp P Q (Fr n f) w := by
  refine wp_region_lit (quiet_list (Q := fun a => ∃ f', a = Fr n f' ∧ ∀ w', C w' → Q .normal (Fr n f') w') ?_ hC (RQ_quiet (fun o ho => List.all_eq_true.1 hin o ho) h))
  rintro a w' hw' ⟨f', rfl, hq⟩
  exact hq w' hw'
theorem wp_rq_draw {id n : Nat} {l : List Oper} {f : Nat → Value} {w : World} {Q : Exit → Act → World → Prop} (C : World → Prop) (hC : C w.drew) (hm : P.follows .mixedOrders = true) (hin : (okAll n l && Region.lexB .any l.toArray) = true)
    (h : RQ P l.toArray C (fun f' => ∀ w', C w' → Q .normal (Fr n f') w') l f) : (Code.region id l.toArray true).wp P Q (Fr n f) w := by
  simp only [Bool.and_eq_true] at hin
  refine wp_region_quiet (C := C) hm hin.2 hC ?_
  have h1 := RQ_quiet (n := n) (fun o ho => List.all_eq_true.1 hin.1 o ho) h
  have mono : ∀ (l' : List Oper) (a : Act), wpQuiet P l.toArray C (fun a => ∃ f', a = Fr n f' ∧ ∀ w', C w' → Q .normal (Fr n f') w') l' a → wpQuiet P l.toArray C (fun a' => ∀ w', C w' → Q .normal a' w') l' a := by
    intro l'
    induction l' with
    | nil => rintro a ⟨f', rfl, hq⟩; exact hq
    | cons o rest ih =>
      intro a h
      unfold wpQuiet at h ⊢
      split
      · rename_i hg; rw [if_pos hg] at h; exact Oper.quiet_mono (fun a => ih a) h
      · rename_i hg; rw [if_neg hg] at h; exact ih _ h
  exact mono l (Fr n f) h1
/-- What one operation comes to in one world. -/
def OpX (P : Program) (K : Value → World → Prop) : Result Next → Prop
  | .ok (.value v) w' => K v w'
  | .ok .skip w' => K undef w'
  | .ok (.enter g args) w' => Calls P g args w' fun e w'' => ∃ v, e = .returned v ∧ K v w''
  | _ => False
def RL (P : Program) (ops : Array Oper) (Q : (Nat → Value) → World → Prop) : List Oper → (Nat → Value) → World → Prop
  | [], f, w => Q f w
  | o :: rest, f, w => (wantF f ops o = true ∧ OpX P (fun v w' => RL P ops Q rest (upo f o.dst v) w') ((execOp (ev f) o).run P w)) ∨ (wantF f ops o = false ∧ RL P ops Q rest (upo f o.dst undef) w)
theorem OpX_wp {o : Oper} {a : Act} {K : Act → World → Prop} {Q : Exit → Act → World → Prop} {r : Result Next} (h : OpX P (fun v w' => K (a.put o.dst v) w') r) : o.upon P a K Q r := by
  cases r with
  | ok n w' =>
    cases n <;> simp only [OpX] at h <;> simp only [Oper.upon] <;> try exact h
    case enter g args => exact h.mono fun e w'' ⟨v, he, hk⟩ => by subst he; exact hk
  | halt x w' => simp only [OpX] at h
theorem RL_list {n : Nat} {Q : (Nat → Value) → World → Prop} {Q' : Exit → Act → World → Prop} (hQ : ∀ f w, Q f w → Q' .normal (Fr n f) w) : ∀ {l : List Oper} {f : Nat → Value} {w : World}, (∀ o ∈ l, okOp n ops o = true) → RL P ops Q l f w → wpList P ops Q' l (Fr n f) w
  | [], f, w, _, h => hQ f w h
  | o :: rest, f, w, hin, h => by
    have ho := hin o (by simp)
    unfold wpList
    rw [Fr_wanted ho]
    rcases h with ⟨hw, h⟩ | ⟨hw, h⟩
    · rw [hw, if_pos rfl]
      left
      unfold Oper.wp
      rw [Fr_exec ho]
      refine OpX_wp ?_
      have e : (fun v w' => RL P ops Q rest (upo f o.dst v) w') = fun v w' => RL P ops Q rest (upo f o.dst v) w' := rfl
      revert h
      generalize (execOp (ev f) o).run P w = r
      intro h
      have key : ∀ v w', RL P ops Q rest (upo f o.dst v) w' → wpList P ops Q' rest ((Fr n f).put o.dst v) w' := fun v w' h' => by
        rw [Fr_put]; exact RL_list hQ (fun o' h'' => hin o' (by simp [h''])) h'
      cases r with
      | ok nx w' =>
        cases nx <;> simp only [OpX] at h ⊢ <;> try exact key _ _ h
        case enter g args => exact h.mono fun e w'' ⟨v, he, hk⟩ => ⟨v, he, key _ _ hk⟩
      | halt x w' => simp only [OpX] at h
    · rw [hw, if_neg (by decide), Fr_put]
      exact RL_list hQ (fun o' h' => hin o' (by simp [h'])) h
theorem wp_rl {id n : Nat} {l : List Oper} {f : Nat → Value} {w : World} {Q : Exit → Act → World → Prop} (hin : okAll n l = true)
    (h : RL P l.toArray (fun f' w' => Q .normal (Fr n f') w') l f w) : (Code.region id l.toArray false).wp P Q (Fr n f) w :=
  wp_region_lit (RL_list (fun f' w' h' => h') (fun o ho => List.all_eq_true.1 hin o ho) h)
end
end
section
open Go.RowKit
set_option linter.unusedVariables false
set_option linter.unusedSimpArgs false
section
variable {P : Program} {ops : Array Oper} {C : World → Prop} {f : Nat → Value} {rest : List Oper}
/-- The operation o yields v in every world of the class, and leaves it. -/
def Y (P : Program) (C : World → Prop) (f : Nat → Value) (o : Oper) (v : Value) : Prop := ∀ w, C w → (execOp (ev f) o).run P w = .ok (.value v) w
def CellIn (C : World → Prop) (A : Addr) (v : Value) : Prop := ∀ w, C w → w.cell? A = some v
theorem eqC {w : World} {A : Addr} {v : Value} (h : w.cell? A = some v) : CellIn (· = w) A v := fun _ e => by rw [e]; exact h
theorem beC {w : World} {A : Addr} {v : Value} (h : w.cell? A = some v) : CellIn (Below w.heap.size w) A v := fun _ e => (e.cell (World.block_lt_of_cell? w A h)).trans h
theorem RQ.y {Q : (Nat → Value) → Prop} {o : Oper} {v : Value} (hg : wantF f ops o = true) (hy : Y P C f o v) (h : RQ P ops C Q rest (upo f o.dst v)) : RQ P ops C Q (o :: rest) f :=
  ⟨v, .inl ⟨hg, fun w hw => by rw [hy w hw]; exact ⟨rfl, rfl⟩⟩, h⟩
theorem RQ.skip {Q : (Nat → Value) → Prop} {o : Oper} (hg : wantF f ops o = false) (h : RQ P ops C Q rest (upo f o.dst undef)) : RQ P ops C Q (o :: rest) f := ⟨undef, .inr ⟨hg, rfl⟩, h⟩
theorem RQ.nil {Q : (Nat → Value) → Prop} (h : Q f) : RQ P ops C Q [] f := h
theorem RL.y {Q : (Nat → Value) → World → Prop} {w : World} {o : Oper} {v : Value} (hg : wantF f ops o = true) (hy : Y P (· = w) f o v) (h : RL P ops Q rest (upo f o.dst v) w) : RL P ops Q (o :: rest) f w :=
  .inl ⟨hg, by rw [hy w rfl]; exact h⟩
theorem RL.skip {Q : (Nat → Value) → World → Prop} {w : World} {o : Oper} (hg : wantF f ops o = false) (h : RL P ops Q rest (upo f o.dst undef) w) : RL P ops Q (o :: rest) f w := .inr ⟨hg, h⟩
theorem RL.nil {Q : (Nat → Value) → World → Prop} {w : World} (h : Q f w) : RL P ops Q [] f w := h
variable {d : Option Tmp} {ty : TypeId} {pos : String} {af : Array Edge} {g : Option (Nat × Bool)} {x y : Operand} {u v : Value} {t t' : TypeId}
theorem Y.move (hx : ev f x = v) : Y P C f ⟨d, .move x, ty, pos, af, g⟩ v := fun w _ => by subst hx; rfl
theorem Y.assign (hx : ev f x = v) : Y P C f ⟨d, .assign x, ty, pos, af, g⟩ v := fun w _ => by subst hx; rfl
theorem Y.nilCheck {A : Addr} (hx : ev f x = .pointer (some A)) : Y P C f ⟨d, .nilCheck x, ty, pos, af, g⟩ (.pointer (some A)) := fun w _ => by simp [execOp, hx]
theorem Y.pick {c : Operand} {b : Bool} (hc : ev f c = .bool b) (hv : (bif b then ev f x else ev f y) = v) : Y P C f ⟨d, .pick c x y, ty, pos, af, g⟩ v := fun w _ => by
  subst hv
  cases b <;> simp [execOp, hc, asBool]
theorem Y.not {b b' : Bool} (hx : ev f x = .bool b) (hb : (!b) = b') : Y P C f ⟨d, .unOp .not t x, ty, pos, af, g⟩ (.bool b') := fun w _ => by
  subst hb
  simp [execOp, hx, Op.unary]
/-- The binary operations of integers. -/
def binI (o : BinOp) (k : IntKind) (m n : Int) : Option Value :=
  match o with
  | .add => some (.int k (k.wrap (m + n)))
  | .sub => some (.int k (k.wrap (m - n)))
  | .mul => some (.int k (k.wrap (m * n)))
  | .eql => some (.bool (m == n))
  | .neq => some (.bool (m != n))
  | .lss => some (.bool (m < n))
  | .leq => some (.bool (m ≤ n))
  | .gtr => some (.bool (m > n))
  | .geq => some (.bool (m ≥ n))
  | _ => none
theorem eqGuard_int {P : Program} {w : World} {o : BinOp} {k k' : IntKind} {m n : Int} : (eqGuard o t x y (.int k m) (.int k' n)).run P w = .ok () w := by
  unfold eqGuard; cases o <;> rfl
theorem Y.binI {o : BinOp} {k : IntKind} {m n : Int} (hx : ev f x = .int k m) (hy : ev f y = .int k n) (hr : binI o k m n = some v) : Y P C f ⟨d, .binOp o t x y t', ty, pos, af, g⟩ v := fun w _ => by
  simp only [execOp, hx, hy, Sem.run_bind, eqGuard_int, Result.andThen_ok]
  cases o <;> simp [Proofs.Ytpbobilkejblgaa.binI] at hr <;> subst hr <;> simp [binOp, Op.intArith, Op.intCmp]
def fieldO (P : Program) (t : TypeId) (i : Nat) : Option Nat :=
  match P.underlying t with
  | some (.struct fs) => match fs[i]? with
    | some fl => match P.info? fl.type with
      | some inf => if inf.size = 0 then none else some fl.offset
      | none => none
    | none => none
  | _ => none
theorem Addr.add_eq (b o n : Nat) : Addr.add ⟨b, o, none⟩ n = ⟨b, o + n, none⟩ := by
  unfold Addr.add; split <;> simp_all
theorem Y.fieldAddr {i b o off : Nat} (hx : ev f x = .pointer (some ⟨b, o, none⟩)) (ht : fieldO P t i = some off) : Y P C f ⟨d, .fieldAddr t x i, ty, pos, af, g⟩ (.pointer (some ⟨b, o + off, none⟩)) := fun w _ => by
  unfold fieldO at ht
  split at ht
  · rename_i fs hu
    split at ht
    · rename_i fl hf
      split at ht
      · rename_i inf hi
        split at ht
        · cases ht
        · rename_i hs
          injection ht with ht
          subst ht
          simp [execOp, hx, Instr.fieldAt, run_underlying hu, hf, Instr.sureAddr, fieldPlace, sizeOf, typeInfo, hi, hs, Addr.add_eq]
      · cases ht
    · cases ht
  · cases ht
def elemO (P : Program) (t : TypeId) : Option Nat :=
  match P.underlying t with
  | some (.slice e) => (P.info? e).map (·.size)
  | _ => none
theorem Y.indexAddr {b o n c m sz : Nat} {k : IntKind} {j : Int} (hx : ev f x = .slice (some ⟨b, o, none⟩) n c) (hi : ev f y = .int k j) (hj : j = (m : Int)) (hm : m < n) (ht : elemO P t = some sz) :
    Y P C f ⟨d, .indexAddr t x y, ty, pos, af, g⟩ (.pointer (some ⟨b, o + m * sz, none⟩)) := fun w _ => by
  subst hj
  unfold elemO at ht
  split at ht
  · rename_i e hu
    cases hinf : P.info? e with
    | none => rw [hinf] at ht; cases ht
    | some inf =>
      rw [hinf] at ht
      simp at ht
      subst ht
      have h1 : ((m : Int) < (n : Int)) := by omega
      simp [execOp, hx, hi, Instr.indexAt, asIntOf, run_underlying hu, h1, sizeOf, typeInfo, hinf, Addr.add_eq]
      intro; omega
  · cases ht
def oneT (P : Program) (t : TypeId) : Bool :=
  match P.underlying t with
  | some (.struct _) | some (.array ..) | none => false
  | _ => true
theorem run_load1 {P : Program} {w : World} {A : Addr} (ht : oneT P t = true) (hc : w.cell? A = some v) : (Instr.loadAt t (.pointer (some A))).run P w = .ok v w := by
  unfold oneT at ht
  cases hu : P.underlying t with
  | none => rw [hu] at ht; cases ht
  | some u => cases u <;> first | (rw [hu] at ht; cases ht; done) | simp [Instr.loadAt, Instr.sureAddr, loadVar, isAgg, run_underlying hu, hc]
theorem Y.load {A : Addr} (hx : ev f x = .pointer (some A)) (ht : oneT P t = true) (hc : CellIn C A v) : Y P C f ⟨d, .load t x, ty, pos, af, g⟩ v := fun w hw => by
  simp only [execOp, hx, Sem.run_bind, run_load1 ht (hc w hw), Result.andThen_ok]
  rfl
def aggO (P : Program) (t : TypeId) : Option Nat :=
  match P.underlying t with
  | some (.struct _) => (P.info? t).map (·.size)
  | some (.array ..) => (P.info? t).map (·.size)
  | _ => none
def CellsIn (C : World → Prop) (b o : Nat) (cs : List Value) : Prop := ∀ w, C w → ∀ j v, cs[j]? = some v → w.cell? ⟨b, o + j, none⟩ = some v
theorem run_loadN {P : Program} {w : World} {b o : Nat} {cs : List Value} (ht : aggO P t = some cs.length) (hc : ∀ j v, cs[j]? = some v → w.cell? ⟨b, o + j, none⟩ = some v) :
    (Instr.loadAt t (.pointer (some ⟨b, o, none⟩))).run P w = .ok (.agg cs.toArray) w := by
  unfold aggO at ht
  have key : ∀ u, P.underlying t = some u → (∀ w, (isAgg t).run P w = .ok true w) → (P.info? t).map (·.size) = some cs.length → (Instr.loadAt t (.pointer (some ⟨b, o, none⟩))).run P w = .ok (.agg cs.toArray) w := fun u hu ha hs => by
    cases hi : P.info? t with
    | none => rw [hi] at hs; cases hs
    | some inf =>
      rw [hi] at hs
      simp at hs
      have hl := run_loadCells_list (P := P) w ⟨b, o, none⟩ cs (fun j v hj => by rw [Addr.add_eq]; exact hc j v hj)
      simp [Instr.loadAt, Instr.sureAddr, loadVar, ha, sizeOf, typeInfo, hi, hs, hl]
  split at ht
  · rename_i fs hu; exact key _ hu (fun w => by simp [isAgg, run_underlying hu]) ht
  · rename_i e n hu; exact key _ hu (fun w => by simp [isAgg, run_underlying hu]) ht
  · cases ht
theorem Y.loadN {b o : Nat} {cs : List Value} (hx : ev f x = .pointer (some ⟨b, o, none⟩)) (ht : aggO P t = some cs.length) (hc : CellsIn C b o cs) : Y P C f ⟨d, .load t x, ty, pos, af, g⟩ (.agg cs.toArray) := fun w hw => by
  simp only [execOp, hx, Sem.run_bind, run_loadN ht (hc w hw), Result.andThen_ok]
  rfl
theorem Y.extract {i : Nat} {vs : Array Value} (hx : ev f x = .tuple vs) (hi : vs[i]? = some v) : Y P C f ⟨d, .extract x i, ty, pos, af, g⟩ v := fun w _ => by
  simp [execOp, hx, Instr.extract, hi]
def sliceT (P : Program) (t : TypeId) : Bool := match P.underlying t with | some (.slice _) => true | _ => false
def stringT (P : Program) (t : TypeId) : Bool := match P.underlying t with | some .string => true | _ => false
theorem Y.len {A : Option Addr} {n c : Nat} (ht : sliceT P t = true) (hx : ev f x = .slice A n c) : Y P C f ⟨d, .call ⟨.builtin .len, #[x], #[t]⟩, ty, pos, af, g⟩ (.int .i64 n) := fun w _ => by
  unfold sliceT at ht
  split at ht
  · rename_i e hu
    simp [execOp, resolve, invoke, builtin, hx, Builtin.len_, run_underlying hu, goInt]
  · cases ht
theorem Y.lenS {s : ByteArray} (ht : stringT P t = true) (hx : ev f x = .string s) : Y P C f ⟨d, .call ⟨.builtin .len, #[x], #[t]⟩, ty, pos, af, g⟩ (.int .i64 s.size) := fun w _ => by
  unfold stringT at ht
  split at ht
  · rename_i hu
    simp [execOp, resolve, invoke, builtin, hx, Builtin.len_, run_underlying hu, goInt]
  · cases ht
end
end
section
open Go.RowKit
set_option linter.unusedVariables false
set_option linter.unusedSimpArgs false
section
variable {P : Program} {ops : Array Oper} {C : World → Prop} {f : Nat → Value} {rest : List Oper} {Q : (Nat → Value) → World → Prop} {Qf : (Nat → Value) → Prop} {w : World}
variable {d : Option Tmp} {ty : TypeId} {pos : String} {af : Array Edge} {g : Option (Nat × Bool)} {x y : Operand} {u v : Value} {t t' : TypeId} {args : Array Operand} {vals : Array Value} {ats : Array TypeId} {gf : FuncId}
section
variable {x1 x2 x3 x4 x5 x6 : Operand} {v1 v2 v3 v4 v5 v6 : Value}
theorem am0 : (#[] : Array Operand).map (ev f) = #[] := by simp
theorem am1 (h1 : ev f x1 = v1) : #[x1].map (ev f) = #[v1] := by simp [h1]
theorem am2 (h1 : ev f x1 = v1) (h2 : ev f x2 = v2) : #[x1, x2].map (ev f) = #[v1, v2] := by simp [h1, h2]
theorem am3 (h1 : ev f x1 = v1) (h2 : ev f x2 = v2) (h3 : ev f x3 = v3) : #[x1, x2, x3].map (ev f) = #[v1, v2, v3] := by simp [h1, h2, h3]
theorem pm0 : (#[] : Array (Nat × Operand)).map (fun p => (p.1, ev f p.2)) = #[] := by simp
theorem pm1 {i1 : Nat} (h1 : ev f x1 = v1) : #[(i1, x1)].map (fun p => (p.1, ev f p.2)) = #[(i1, v1)] := by simp [h1]
end
def isGo (P : Program) (gf : FuncId) : Bool := match P.funcs[gf]? with | some fn => !(fn.name == "runtime.NumGoroutine") && fn.body.isSome | none => false
theorem Calls.arr {a b : Array Value} {R : Ending → World → Prop} (e : a = b) (h : Calls P gf a w R) : Calls P gf b w R := e ▸ h
theorem run_callFunc (h : isGo P gf = true) : (callFunc gf vals).run P w = .ok (.enter gf vals) w := by
  unfold isGo at h
  cases hf : P.funcs[gf]? with
  | none => rw [hf] at h; cases h
  | some fn =>
    rw [hf] at h
    simp only [Bool.and_eq_true, Bool.not_eq_true'] at h
    obtain ⟨h1, h2⟩ := h
    have h3 : fn.body.isNone = false := by cases hb : fn.body with | none => rw [hb] at h2; cases h2 | some _ => rfl
    simp [callFunc, hf, h3]
    have h1' : ¬ fn.name = "runtime.NumGoroutine" := by simpa using h1
    simp [h1']
    intro hb
    rw [hb] at h2
    cases h2
theorem run_callV {caps : Array Value} {ov : Operand} (hv : ev f ov = .func (.func gf) #[] caps) (ha : args.map (ev f) = vals) (hgo : isGo P gf = true) :
    (execOp (ev f) ⟨d, .call ⟨.value ov, args, ats⟩, ty, pos, af, g⟩).run P w = .ok (.enter gf (vals ++ caps)) w := by
  simp [execOp, resolve, hv, ha, Deferred.ofValue, invoke, run_callFunc hgo]
theorem run_call (ha : args.map (ev f) = vals) (hgo : isGo P gf = true) :
    (execOp (ev f) ⟨d, .call ⟨.value (.func gf), args, ats⟩, ty, pos, af, g⟩).run P w = .ok (.enter gf vals) w := by
  have h := run_callV (P := P) (w := w) (d := d) (ty := ty) (pos := pos) (af := af) (g := g) (ats := ats) (ov := .func gf) (caps := #[]) rfl ha hgo
  simpa using h
theorem RQ.call (hg : wantF f ops ⟨d, .call ⟨.value (.func gf), args, ats⟩, ty, pos, af, g⟩ = true) (ha : args.map (ev f) = vals) (hgo : isGo P gf = true)
    (hc : ∀ w, C w → Calls P gf vals w fun e w' => e = .returned v ∧ C w') (h : RQ P ops C Qf rest (upo f d v)) : RQ P ops C Qf (⟨d, .call ⟨.value (.func gf), args, ats⟩, ty, pos, af, g⟩ :: rest) f :=
  ⟨v, .inl ⟨hg, fun w hw => by rw [run_call ha hgo]; exact ⟨rfl, hc w hw⟩⟩, h⟩
theorem RQ.callV {ov : Operand} {caps : Array Value} (hg : wantF f ops ⟨d, .call ⟨.value ov, args, ats⟩, ty, pos, af, g⟩ = true) (hv : ev f ov = .func (.func gf) #[] caps) (ha : args.map (ev f) = vals) (hgo : isGo P gf = true)
    (hc : ∀ w, C w → Calls P gf (vals ++ caps) w fun e w' => e = .returned v ∧ C w') (h : RQ P ops C Qf rest (upo f d v)) : RQ P ops C Qf (⟨d, .call ⟨.value ov, args, ats⟩, ty, pos, af, g⟩ :: rest) f :=
  ⟨v, .inl ⟨hg, fun w hw => by rw [run_callV hv ha hgo]; exact ⟨rfl, hc w hw⟩⟩, h⟩
theorem RL.call (hg : wantF f ops ⟨d, .call ⟨.value (.func gf), args, ats⟩, ty, pos, af, g⟩ = true) (ha : args.map (ev f) = vals) (hgo : isGo P gf = true)
    (hc : Calls P gf vals w fun e w' => ∃ v, e = .returned v ∧ RL P ops Q rest (upo f d v) w') : RL P ops Q (⟨d, .call ⟨.value (.func gf), args, ats⟩, ty, pos, af, g⟩ :: rest) f w :=
  .inl ⟨hg, by rw [run_call ha hgo]; exact hc⟩
theorem RL.callV {ov : Operand} {caps : Array Value} (hg : wantF f ops ⟨d, .call ⟨.value ov, args, ats⟩, ty, pos, af, g⟩ = true) (hv : ev f ov = .func (.func gf) #[] caps) (ha : args.map (ev f) = vals) (hgo : isGo P gf = true)
    (hc : Calls P gf (vals ++ caps) w fun e w' => ∃ v, e = .returned v ∧ RL P ops Q rest (upo f d v) w') : RL P ops Q (⟨d, .call ⟨.value ov, args, ats⟩, ty, pos, af, g⟩ :: rest) f w :=
  .inl ⟨hg, by rw [run_callV hv ha hgo]; exact hc⟩
theorem Y.makeFunc {fn : Fn} {caps : Array Operand} (ha : caps.map (ev f) = vals) : Y P C f ⟨d, .makeFunc fn #[] caps, ty, pos, af, g⟩ (.func fn #[] vals) := fun w _ => by
  subst ha; simp [execOp, Instr.makeFunc]
/-- A contract of a function that leaves old memory alone, in a region's class. -/
theorem bel {w : World} {K : Ending → Prop} (h : ∀ w', Below w.heap.size w w' → Calls P gf vals w' fun e w'' => e = .returned v ∧ Below w'.heap.size w' w'') :
    ∀ w', Below w.heap.size w w' → Calls P gf vals w' fun e w'' => e = .returned v ∧ Below w.heap.size w w'' :=
  fun w' hb => (h w' hb).mono fun e w'' ⟨he, hb'⟩ => ⟨he, hb.trans (hb'.mono hb.size)⟩
theorem Calls.same {R : Ending → World → Prop} (h : Calls P gf vals w fun e w' => e = .returned v ∧ w = w') : Calls P gf vals w fun e w' => e = .returned v ∧ Below w.heap.size w w' :=
  h.mono fun e w' ⟨he, hw⟩ => ⟨he, by subst hw; exact Below.refl _ _⟩
theorem below_alloc (w : World) (o : Obj) : Below w.heap.size w (w.alloc o) := (Below.refl _ _).alloc (Nat.le_refl _) _
theorem RL.alloc {z : Value} (hg : wantF f ops ⟨d, .alloc t, ty, pos, af, g⟩ = true) (hz : (P.info? t).bind (·.zero) = some z)
    (h : ∀ w1, Blk w1 w.heap.size t z.cells → Below w.heap.size w w1 → w1.heap.size = w.heap.size + 1 → RL P ops Q rest (upo f d (.pointer (some ⟨w.heap.size, 0, none⟩))) w1) : RL P ops Q (⟨d, .alloc t, ty, pos, af, g⟩ :: rest) f w := by
  refine .inl ⟨hg, ?_⟩
  cases hi : P.info? t with
  | none => rw [hi] at hz; cases hz
  | some inf =>
    rw [hi] at hz
    simp only [Option.bind_some] at hz
    have hr : (execOp (ev f) ⟨d, .alloc t, ty, pos, af, g⟩).run P w = .ok (.value (.pointer (some ⟨w.heap.size, 0, none⟩))) (w.alloc (.cells z.cells t)) := by
      simp [execOp, Instr.alloc, zeroValue, typeInfo, hi, hz, newVar, newRow]
    rw [hr]
    exact h _ (Blk.new _ _ _) (below_alloc _ _) (World.size_alloc _ _)
theorem RL.box (hg : wantF f ops ⟨d, .box t x, ty, pos, af, g⟩ = true) (hx : ev f x = v)
    (h : ∀ w1, Blk w1 w.heap.size t v.cells → Below w.heap.size w w1 → w1.heap.size = w.heap.size + 1 → RL P ops Q rest (upo f d (.pointer (some ⟨w.heap.size, 0, none⟩))) w1) : RL P ops Q (⟨d, .box t x, ty, pos, af, g⟩ :: rest) f w := by
  refine .inl ⟨hg, ?_⟩
  have hr : (execOp (ev f) ⟨d, .box t x, ty, pos, af, g⟩).run P w = .ok (.value (.pointer (some ⟨w.heap.size, 0, none⟩))) (w.alloc (.cells v.cells t)) := by
    simp [execOp, hx, Instr.box, newVar, newRow]
  rw [hr]
  exact h _ (Blk.new _ _ _) (below_alloc _ _) (World.size_alloc _ _)
theorem Blk.only_ {w w' : World} {b : Nat} {e : TypeId} {cs : Array Value} {bs : List Nat} (h : Blk w b e cs) (ho : Only bs w w') (hb : b ∉ bs) : Blk w' b e cs := (ho.block b hb).trans h
theorem setRow_only (w : World) (b : Nat) (cs : Array Value) : Only [b] w (w.setRow b cs) :=
  ⟨rfl, rfl, rfl, by simp [World.setRow], fun k hk => by
    have : ¬ b = k := fun e => hk (by simp [e])
    simp [World.setRow, Array.getElem?_modify, this]⟩
theorem setRow_blk {w : World} {b : Nat} {e : TypeId} {cs cs' : Array Value} (h : Blk w b e cs) : Blk (w.setRow b cs') b e cs' := setRow_heap w b cs cs' e (0, 0) h
/-- A store into a block of the call's own. -/
theorem RL.store {b o : Nat} {e : TypeId} {cs cs' : Array Value} (hg : wantF f ops ⟨d, .store t x y, ty, pos, af, g⟩ = true) (hx : ev f x = .pointer (some ⟨b, o, none⟩)) (hy : ev f y = v) (hb : Blk w b e cs)
    (hs : (P.info? t).map (·.size) = some v.cells.size) (h1 : (v.cells.toList.all Value.oneCell') = true) (hl0 : Nat.ble (o + v.cells.size) cs.size = true) (hcs : (cs.toList.take o ++ v.cells.toList ++ cs.toList.drop (o + v.cells.size)).toArray = cs')
    (h : ∀ w1, Blk w1 b e cs' → Only [b] w w1 → RL P ops Q rest (upo f d undef) w1) : RL P ops Q (⟨d, .store t x y, ty, pos, af, g⟩ :: rest) f w := by
  have hl := Nat.le_of_ble_eq_true hl0
  refine .inl ⟨hg, ?_⟩
  cases hi : P.info? t with
  | none => rw [hi] at hs; cases hs
  | some inf =>
    rw [hi] at hs
    simp only [Option.map_some, Option.some.injEq] at hs
    have hst := run_storeCells_at (P := P) b o e v.cells.toList 0 cs w hb (by simpa using hl) (fun u hu => List.all_eq_true.1 h1 u hu)
    have hr : (execOp (ev f) ⟨d, .store t x y, ty, pos, af, g⟩).run P w = .ok .skip (w.setRow b cs') := by
      subst hcs
      simp only [Nat.add_zero] at hst
      simp [execOp, hx, hy, Instr.storeAt, Instr.sureAddr, storeVar, sizeOf, typeInfo, hi, hs, hst]
    rw [hr]
    exact h _ (setRow_blk hb) (setRow_only _ _ _)
def bslO (P : Program) (t : TypeId) (len : Nat) (parts : List (Nat × Value)) : Option (TypeId × Array Value) :=
  match P.underlying t with
  | some (.slice e) => match P.info? e with
    | some inf => if len * inf.size > 16777216 then none else
      match (if len * inf.size = 0 then some #[] else inf.zero.map (·.cells)) with
      | some zero => (Instr.fill (fun i => some (i * inf.size, inf.size)) ((Array.range (len * inf.size)).map (zero[· % zero.size]!)) parts).map fun cs => (e, cs)
      | none => none
    | none => none
  | _ => none
theorem run_bsl {len : Nat} {parts : Array (Nat × Value)} {e : TypeId} {cells : Array Value} (hb : bslO P t len parts.toList = some (e, cells)) : (Instr.buildSlice t len parts).run P w = .ok (.slice (some ⟨w.heap.size, 0, none⟩) len len) (w.alloc (.cells cells e)) := by
  unfold bslO at hb
  cases hu : P.underlying t with
  | none => rw [hu] at hb; cases hb
  | some u0 =>
    rw [hu] at hb
    cases u0 <;> simp only at hb <;> try (cases hb; done)
    rename_i e'
    cases hi : P.info? e' with
    | none => rw [hi] at hb; cases hb
    | some inf =>
      rw [hi] at hb
      simp only at hb
      split at hb
      · cases hb
      · rename_i hbig
        by_cases h0 : len * inf.size = 0
        · simp only [h0, if_true] at hb
          cases hf : Instr.fill (fun i => some (i * inf.size, inf.size)) ((Array.range 0).map ((#[] : Array Value)[· % (#[] : Array Value).size]!)) parts.toList with
          | none => rw [hf] at hb; cases hb
          | some cs =>
            rw [hf] at hb
            simp only [Option.map_some, Option.some.injEq, Prod.mk.injEq] at hb
            obtain ⟨rfl, rfl⟩ := hb
            simp at hf
            simp [Instr.buildSlice, run_underlying hu, sizeOf, typeInfo, hi, h0, newRow, hf]
        · simp only [h0, if_false] at hb
          cases hz : inf.zero with
          | none => rw [hz] at hb; cases hb
          | some z =>
            rw [hz] at hb
            simp only [Option.map_some] at hb
            cases hf : Instr.fill (fun i => some (i * inf.size, inf.size)) ((Array.range (len * inf.size)).map (z.cells[· % z.cells.size]!)) parts.toList with
            | none => rw [hf] at hb; cases hb
            | some cs =>
              rw [hf] at hb
              simp only [Option.map_some, Option.some.injEq, Prod.mk.injEq] at hb
              obtain ⟨rfl, rfl⟩ := hb
              simp [Instr.buildSlice, run_underlying hu, sizeOf, typeInfo, hi, h0, hbig, zeroValue, hz, newRow, hf]
theorem RL.bslice {len : Nat} {parts : Array (Nat × Operand)} {pv : Array (Nat × Value)} {e : TypeId} {cells : Array Value} (hg : wantF f ops ⟨d, .buildSlice t len parts, ty, pos, af, g⟩ = true)
    (hp : parts.map (fun p => (p.1, ev f p.2)) = pv) (hb : bslO P t len pv.toList = some (e, cells))
    (h : ∀ w1, Blk w1 w.heap.size e cells → Below w.heap.size w w1 → w1.heap.size = w.heap.size + 1 → RL P ops Q rest (upo f d (.slice (some ⟨w.heap.size, 0, none⟩) len len)) w1) : RL P ops Q (⟨d, .buildSlice t len parts, ty, pos, af, g⟩ :: rest) f w := by
  refine .inl ⟨hg, ?_⟩
  have hr : (execOp (ev f) ⟨d, .buildSlice t len parts, ty, pos, af, g⟩).run P w = .ok (.value (.slice (some ⟨w.heap.size, 0, none⟩) len len)) (w.alloc (.cells cells e)) := by
    have := run_bsl (P := P) (w := w) (parts := pv) hb
    subst hp
    simp [execOp, this]
  rw [hr]
  exact h _ (Blk.new _ _ _) (below_alloc _ _) (World.size_alloc _ _)
end
end
section
open Go.RowKit
set_option linter.unusedVariables false
set_option linter.unusedSimpArgs false
section
variable {P : Program} {w : World} {f : Nat → Value} {n : Nat} {Q : Exit → Act → World → Prop} {K : Act → World → Prop} {a : Act} {x y : Code} {id id' : Nat} {c : Operand}
theorem then_n (h : K a w) : Exit.then K Q .normal a w := h
theorem then_r (h : Q .ret a w) : Exit.then K Q .ret a w := h
theorem then_x (h : Q (.exit id) a w) : Exit.then K Q (.exit id) a w := h
theorem blk_n (h : Q .normal a w) : Exit.inBlock id Q .normal a w := h
theorem blk_r (h : Q .ret a w) : Exit.inBlock id Q .ret a w := h
theorem blk_hit (h : Q .normal a w) : Exit.inBlock id Q (.exit id) a w := by simp only [Exit.inBlock, if_true]; exact h
theorem cond_t (hin : opIn n c = true) (hc : ev f c = .bool true) (h : x.wp P Q (Fr n f) w) : (Code.cond c x y).wp P Q (Fr n f) w := wp_cond_true ((Fr_eval hin).trans hc) h
theorem cond_f (hin : opIn n c = true) (hc : ev f c = .bool false) (h : y.wp P Q (Fr n f) w) : (Code.cond c x y).wp P Q (Fr n f) w := wp_cond_false ((Fr_eval hin).trans hc) h
theorem wp_loopF {cd : Code} (I : Nat → (Nat → Value) → World → Prop) (g0 : Nat) (h0 : I g0 f w)
    (round : ∀ g f w, I g f w → cd.wp P (Exit.then (fun a' w' => ∃ g' f', g' < g ∧ a' = Fr n f' ∧ I g' f' w') Q) (Fr n f) w) : (Code.loop cd).wp P Q (Fr n f) w := by
  refine wp_loop_ghost (fun g a w => ∃ f, a = Fr n f ∧ I g f w) g0 ⟨f, rfl, h0⟩ ?_
  rintro g a w ⟨f, rfl, h⟩
  refine Code.wp_mono ?_ (round g f w h)
  intro e a' w' hq
  cases e <;> first | exact hq | skip
  obtain ⟨g', f', h1, h2, h3⟩ := hq
  exact ⟨g', h1, f', h2, h3⟩
theorem enter {gf : FuncId} {fn : Func} {cd : Code} {args : Array Value} {R : Ending → World → Prop} (n : Nat) (hf : P.funcs[gf]? = some fn) (hb : fn.body = some cd) (hn : fn.ntmps = n) (hs : Nat.ble args.size n = true)
    (h : ∀ f, (∀ i v, args[i]? = some v → f i = v) → cd.wp P (bodyPost P fn R) (Fr n f) w) : Calls P gf args w R := by
  refine calls_of_wp hf hb ?_
  have hs' : args.size ≤ n := Nat.le_of_ble_eq_true hs
  have e : ({ tmps := args ++ Array.replicate (fn.ntmps - args.size) undef, defers := [] } : Act) = Fr n (fun i => (args ++ Array.replicate (n - args.size) undef).getD i undef) := by
    rw [hn]
    simp only [Fr, Act.mk.injEq, and_true]
    apply Array.ext_getElem?
    intro i
    have hsz : (args ++ Array.replicate (n - args.size) undef).size = n := by simp; omega
    by_cases hi : i < n
    · simp only [List.getElem?_toArray, List.getElem?_map, List.getElem?_range hi, Option.map_some]
      have h2 : i < (args ++ Array.replicate (n - args.size) undef).size := by rw [hsz]; exact hi
      rw [Array.getElem?_eq_getElem h2, Array.getD, dif_pos h2]
      rfl
    · have h2 : (args ++ Array.replicate (n - args.size) undef).size ≤ i := by rw [hsz]; omega
      rw [Array.getElem?_eq_none h2]
      simp [hi]
  rw [e]
  refine h _ fun i v hi => ?_
  have hlt : i < args.size := (Array.getElem?_eq_some_iff.1 hi).1
  have h2 : i < (args ++ Array.replicate (n - args.size) undef).size := by simp; omega
  simp only [Array.getD, dif_pos h2]
  rw [Array.getElem?_eq_getElem hlt] at hi
  injection hi with hi
  show (args ++ Array.replicate (n - args.size) undef)[i] = v
  rw [Array.getElem_append_left hlt]
  exact hi
theorem ret1 {fn : Func} {R : Ending → World → Prop} {t : Tmp} {v : Value} (hr : fn.results = #[.tmp t]) (ht : Nat.blt t n = true) (hv : f t = v) (h : R (.returned v) w) : bodyPost P fn R .ret (Fr n f) w :=
  ⟨rfl, v, by rw [results_tmp hr]; congr 1; have ht' : t < n := by simpa using ht
              simp [Fr, ht', hv], h⟩
theorem ret3 {fn : Func} {R : Ending → World → Prop} {t1 t2 t3 : Tmp} {v1 v2 v3 : Value} (hr : fn.results = #[.tmp t1, .tmp t2, .tmp t3]) (ht : (Nat.blt t1 n && Nat.blt t2 n && Nat.blt t3 n) = true) (hv1 : f t1 = v1) (hv2 : f t2 = v2) (hv3 : f t3 = v3) (h : R (.returned (.tuple #[v1, v2, v3])) w) : bodyPost P fn R .ret (Fr n f) w :=
  ⟨rfl, _, by
    rw [results_tmp3 hr]
    simp only [Bool.and_eq_true] at ht
    have h1 : t1 < n := by simpa using ht.1.1
    have h2 : t2 < n := by simpa using ht.1.2
    have h3 : t3 < n := by simpa using ht.2
    simp only [Fr, Array.getD_eq_getD_getElem?, List.getElem?_toArray, List.getElem?_map, List.getElem?_range h1, List.getElem?_range h2, List.getElem?_range h3, Option.map_some, Option.getD_some, hv1, hv2, hv3], h⟩
/-- A result that lies in a variable in memory. -/
theorem retc {fn : Func} {R : Ending → World → Prop} {t : Tmp} {b o : Nat} {ty : TypeId} {cs : List Value} (hr : fn.results = #[.cell t ty]) (ht : Nat.blt t n = true) (hv : f t = .pointer (some ⟨b, o, none⟩)) (hag : aggO P ty = some cs.length)
    (hc : ∀ j v, cs[j]? = some v → w.cell? ⟨b, o + j, none⟩ = some v) (h : R (.returned (.agg cs.toArray)) w) : bodyPost P fn R .ret (Fr n f) w :=
  ⟨rfl, _, by
    have h1 : t < n := by simpa using ht
    have hl := run_loadN (P := P) (w := w) hag hc
    simp only [Instr.loadAt, Instr.sureAddr, Sem.run_bind, Sem.run_pure, Result.andThen_ok, bind_pure_comp, pure_bind] at hl
    simp only [results, hr]
    simp [Fr, h1, hv, asAddr, hl], h⟩
end
section
variable {P : Program} {f : Nat → Value} {w : World} {n id : Nat} {l : List Oper} {Q : Exit → Act → World → Prop}
theorem RQ_mono {ops : Array Oper} {C : World → Prop} {Q Q' : (Nat → Value) → Prop} (hq : ∀ f, Q f → Q' f) : ∀ {l : List Oper} {f : Nat → Value}, RQ P ops C Q l f → RQ P ops C Q' l f
  | [], f, h => hq f h
  | o :: rest, f, ⟨v, h1, h2⟩ => ⟨v, h1, RQ_mono hq h2⟩
/-- A region that only looks, at one world. -/
theorem wp_rs (hin : okAll n l = true) (h : RQ P l.toArray (· = w) (fun f' => Q .normal (Fr n f') w) l f) : (Code.region id l.toArray false).wp P Q (Fr n f) w :=
  wp_rq (· = w) rfl hin (RQ_mono (fun f' h w' e => by rw [e]; exact h) h)
/-- A region whose calls leave old memory alone. -/
theorem wp_rb (hin : okAll n l = true) (h : RQ P l.toArray (Below w.heap.size w) (fun f' => ∀ w', Below w.heap.size w w' → Q .normal (Fr n f') w') l f) : (Code.region id l.toArray false).wp P Q (Fr n f) w :=
  wp_rq (Below w.heap.size w) (Below.refl _ _) hin h
theorem wp_rbd (hm : P.follows .mixedOrders = true) (hin : (okAll n l && Region.lexB .any l.toArray) = true) (h : RQ P l.toArray (Below w.heap.size w) (fun f' => ∀ w', Below w.heap.size w w' → Q .normal (Fr n f') w') l f) : (Code.region id l.toArray true).wp P Q (Fr n f) w :=
  wp_rq_draw (Below w.heap.size w) (Below.drew (Below.refl _ _)) hm hin h
end
end
section
open Go.RowKit
set_option linter.unusedVariables false
set_option linter.unusedSimpArgs false
structure DPort where
  agent : Int
  slot : Int
deriving DecidableEq, Inhabited
def portRd : Rd DPort := fun _ _ cs x => cs = [.int .i64 x.agent, .int .i64 x.slot]
structure DWord where
  tag : Int
  at_ : Int
deriving DecidableEq, Inhabited
def wordRd : Rd DWord := fun _ _ cs x => cs = [.int .i64 x.tag, .int .i64 x.at_]
structure DAgent where
  kind : Int
  level : Int
  value : Int
  data : List Int
  ports : List DPort
deriving DecidableEq, Inhabited
def agentRd : Rd DAgent := fun w B cs x => ∃(A1 : Option Addr) (n1 c1 : Nat) (A2 : Option Addr) (n2 c2 : Nat), cs = [.int .i64 x.kind, .int .i64 x.level, .int .i64 x.value, .slice A1 n1 c1, .slice A2 n2 c2] ∧ (SlAt intRd 1 w B A1 n1 x.data ∧ n1 ≤ c1 ∧ c1 ≤ maxLen) ∧ (SlAt portRd 2 w B A2 n2 x.ports ∧ n2 ≤ c2 ∧ c2 ≤ maxLen)
theorem SlAt.agent {w : World} {B n : Nat} {A : Option Addr} {xs : List DAgent} (h : SlAt agentRd 5 w B A n xs) {k : Nat} (hk : k < n) :
    ∃ b off x A1 n1 c1 A2 n2 c2, A = some ⟨b, off, none⟩ ∧ b < B ∧ xs[k]? = some x ∧ w.cell? ⟨b, off + k * 5, none⟩ = some (.int .i64 x.kind) ∧ w.cell? ⟨b, off + k * 5 + 1, none⟩ = some (.int .i64 x.level) ∧ w.cell? ⟨b, off + k * 5 + 2, none⟩ = some (.int .i64 x.value) ∧ w.cell? ⟨b, off + k * 5 + 3, none⟩ = some (.slice A1 n1 c1) ∧ w.cell? ⟨b, off + k * 5 + 4, none⟩ = some (.slice A2 n2 c2) ∧ (SlAt intRd 1 w B A1 n1 x.data ∧ n1 ≤ c1 ∧ c1 ≤ maxLen) ∧ (SlAt portRd 2 w B A2 n2 x.ports ∧ n2 ≤ c2 ∧ c2 ≤ maxLen) := by
  obtain ⟨b, off, x, cs, e, hb, hx, ⟨A1, n1, c1, A2, n2, c2, rfl, h1, h2⟩, hc⟩ := h.at_ hk
  exact ⟨b, off, x, A1, n1, c1, A2, n2, c2, e, hb, hx, (by simpa using hc 0 _ rfl), (by simpa using hc 1 _ rfl), (by simpa using hc 2 _ rfl), (by simpa using hc 3 _ rfl), (by simpa using hc 4 _ rfl), h1, h2⟩
def szAgent (x : DAgent) : Nat := x.data.length + x.ports.length
def szAgentS (xs : List DAgent) : Nat := xs.length + (xs.map szAgent).sum
structure DNet where
  agents : List DAgent
deriving DecidableEq, Inhabited
def netRd : Rd DNet := fun w B cs x => ∃(A1 : Option Addr) (n1 c1 : Nat), cs = [.slice A1 n1 c1] ∧ (SlAt agentRd 5 w B A1 n1 x.agents ∧ n1 ≤ c1 ∧ c1 ≤ maxLen)
theorem SlAt.net {w : World} {B n : Nat} {A : Option Addr} {xs : List DNet} (h : SlAt netRd 1 w B A n xs) {k : Nat} (hk : k < n) :
    ∃ b off x A1 n1 c1, A = some ⟨b, off, none⟩ ∧ b < B ∧ xs[k]? = some x ∧ w.cell? ⟨b, off + k, none⟩ = some (.slice A1 n1 c1) ∧ (SlAt agentRd 5 w B A1 n1 x.agents ∧ n1 ≤ c1 ∧ c1 ≤ maxLen) := by
  obtain ⟨b, off, x, cs, e, hb, hx, ⟨A1, n1, c1, rfl, h1⟩, hc⟩ := h.at_ hk
  exact ⟨b, off, x, A1, n1, c1, e, hb, hx, (by simpa using hc 0 _ rfl), h1⟩
structure DCell where
  kind : Int
  level : Int
  value : Int
  data : List Int
  words : List DWord
deriving DecidableEq, Inhabited
def cellRd : Rd DCell := fun w B cs x => ∃(A1 : Option Addr) (n1 c1 : Nat) (A2 : Option Addr) (n2 c2 : Nat), cs = [.int .i64 x.kind, .int .i64 x.level, .int .i64 x.value, .slice A1 n1 c1, .slice A2 n2 c2] ∧ (SlAt intRd 1 w B A1 n1 x.data ∧ n1 ≤ c1 ∧ c1 ≤ maxLen) ∧ (SlAt wordRd 2 w B A2 n2 x.words ∧ n2 ≤ c2 ∧ c2 ≤ maxLen)
theorem SlAt.cell {w : World} {B n : Nat} {A : Option Addr} {xs : List DCell} (h : SlAt cellRd 5 w B A n xs) {k : Nat} (hk : k < n) :
    ∃ b off x A1 n1 c1 A2 n2 c2, A = some ⟨b, off, none⟩ ∧ b < B ∧ xs[k]? = some x ∧ w.cell? ⟨b, off + k * 5, none⟩ = some (.int .i64 x.kind) ∧ w.cell? ⟨b, off + k * 5 + 1, none⟩ = some (.int .i64 x.level) ∧ w.cell? ⟨b, off + k * 5 + 2, none⟩ = some (.int .i64 x.value) ∧ w.cell? ⟨b, off + k * 5 + 3, none⟩ = some (.slice A1 n1 c1) ∧ w.cell? ⟨b, off + k * 5 + 4, none⟩ = some (.slice A2 n2 c2) ∧ (SlAt intRd 1 w B A1 n1 x.data ∧ n1 ≤ c1 ∧ c1 ≤ maxLen) ∧ (SlAt wordRd 2 w B A2 n2 x.words ∧ n2 ≤ c2 ∧ c2 ≤ maxLen) := by
  obtain ⟨b, off, x, cs, e, hb, hx, ⟨A1, n1, c1, A2, n2, c2, rfl, h1, h2⟩, hc⟩ := h.at_ hk
  exact ⟨b, off, x, A1, n1, c1, A2, n2, c2, e, hb, hx, (by simpa using hc 0 _ rfl), (by simpa using hc 1 _ rfl), (by simpa using hc 2 _ rfl), (by simpa using hc 3 _ rfl), (by simpa using hc 4 _ rfl), h1, h2⟩
end
section
open Go.RowKit
set_option linter.unusedVariables false
set_option linter.unusedSimpArgs false
def getI {α : Type} (xs : List α) (i : Int) : Option α := if 0 ≤ i then xs[i.toNat]? else none
theorem getI_some {α : Type} {xs : List α} {i : Int} {x : α} (h : getI xs i = some x) : ∃ k : Nat, i = (k : Int) ∧ k < xs.length ∧ xs[k]? = some x := by
  unfold getI at h
  split at h
  · rename_i h0
    obtain ⟨k, rfl⟩ := Int.eq_ofNat_of_zero_le h0
    exact ⟨k, rfl, lt_of_some h, h⟩
  · cases h
theorem getI_nat {α : Type} {xs : List α} {k : Nat} {x : α} (h : xs[k]? = some x) : getI xs (k : Int) = some x := by simp [getI, h]
/-- A number that fits an int64. -/
def ck (n : Int) : Option Int := if -9223372036854775808 ≤ n ∧ n ≤ 9223372036854775807 then some n else none
theorem ck_some {n m : Int} (h : ck n = some m) : m = n ∧ -9223372036854775808 ≤ n ∧ n ≤ 9223372036854775807 := by
  unfold ck at h
  split at h
  · rename_i h0; injection h with h; exact ⟨h.symm, h0⟩
  · cases h
theorem ck_ok {n : Int} (h : -9223372036854775808 ≤ n ∧ n ≤ 9223372036854775807) : ck n = some n := if_pos h
/-- What must hold. -/
def mustP (p : Prop) [Decidable p] : Option Unit := if p then some () else none
theorem mustP_some {p : Prop} [Decidable p] {u : Unit} (h : mustP p = some u) : p := by
  unfold mustP at h
  split at h
  · assumption
  · cases h
theorem mustP_ok {p : Prop} [Decidable p] (h : p) : mustP p = some () := if_pos h
theorem bnd {α β : Type} {x : Option α} {k : α → Option β} {r : β} (h : x.bind k = some r) : ∃ a, x = some a ∧ k a = some r := Option.bind_eq_some_iff.1 h
theorem cT {β : Type} {b : Bool} {x y : β} {r : β} (c : b = true) (h : (bif b then x else y) = r) : x = r := by rw [c] at h; exact h
theorem cF {β : Type} {b : Bool} {x y : β} {r : β} (c : b = false) (h : (bif b then x else y) = r) : y = r := by rw [c] at h; exact h
theorem wrap_ok {n : Int} (h : -9223372036854775808 ≤ n ∧ n ≤ 9223372036854775807) : IntKind.i64.wrap n = n := IntWalk.i64_in n h
theorem binI_add {m n : Int} (h : -9223372036854775808 ≤ m + n ∧ m + n ≤ 9223372036854775807) : binI .add .i64 m n = some (.int .i64 (m + n)) := by unfold binI; simp only; rw [wrap_ok h]
theorem binI_sub {m n : Int} (h : -9223372036854775808 ≤ m - n ∧ m - n ≤ 9223372036854775807) : binI .sub .i64 m n = some (.int .i64 (m - n)) := by unfold binI; simp only; rw [wrap_ok h]
section
variable {f : Nat → Value} {ops : Array Oper} {d : Option Tmp} {op : Op} {ty : TypeId} {pos : String} {af : Array Edge} {j dj : Nat} {want have_ : Bool}
theorem wantT (hj : (ops[j]?).bind (·.dst) = some dj) (hv : f dj = .bool want) : wantF f ops ⟨d, op, ty, pos, af, some (j, want)⟩ = true := by
  simp only [wantF, gval, hj, hv]; simp
theorem wantN (hj : (ops[j]?).bind (·.dst) = some dj) (hv : f dj = .bool have_) (hne : (have_ == want) = false) : wantF f ops ⟨d, op, ty, pos, af, some (j, want)⟩ = false := by
  simp only [wantF, gval, hj, hv]
  cases have_ <;> cases want <;> first | rfl | cases hne
end
theorem bcases (b : Bool) : b = false ∨ b = true := by cases b <;> simp
theorem vb {v : Value} {b b' : Bool} (h : v = .bool b) (c : b = b') : v = .bool b' := by rw [h, c]
theorem vbn {v : Value} {b b' b'' : Bool} (h : v = .bool (!b)) (c : b = b') (e : (!b') = b'') : v = .bool b'' := by rw [h, c, e]
section
variable {α : Type} {R : Rd α} {O : Ow α} {sz : Nat} {w w' : World} {v : Value} {xs : List α} {x : α}
theorem cellT {A : Addr} {u : Value} (T : Below w.heap.size w w') (h : w.cell? A = some u) : w'.cell? A = some u := (T.cell (World.block_lt_of_cell? w A h)).trans h
/-- At the present world: a slice, a struct, a pointer to a struct. -/
def Sl (R : Rd α) (sz : Nat) (w : World) (v : Value) (xs : List α) : Prop := RdS R sz w w.heap.size v xs
def St (R : Rd α) (w : World) (v : Value) (x : α) : Prop := RdT R w w.heap.size v x
def Pt (R : Rd α) (w : World) (v : Value) (x : α) : Prop := ∃ b o cs, v = .pointer (some ⟨b, o, none⟩) ∧ b < w.heap.size ∧ R w w.heap.size cs x ∧ ∀ j v, cs[j]? = some v → w.cell? ⟨b, o + j, none⟩ = some v
theorem Sl.at_ (ok : RdOk R sz) (h : Sl R sz w v xs) (T : Below w.heap.size w w') : Sl R sz w' v xs := (RdS.below ok h T).more ok T.size
theorem St.at_ (ok : RdOk R sz) (h : St R w v x) (T : Below w.heap.size w w') : St R w' v x := (RdT.below ok h T).more ok T.size
theorem Pt.at_ (ok : RdOk R sz) (h : Pt R w v x) (T : Below w.heap.size w w') : Pt R w' v x := by
  obtain ⟨b, o, cs, e, hb, hR, hc⟩ := h
  exact ⟨b, o, cs, e, Nat.lt_of_lt_of_le hb T.size, ok.more T.size (ok.keep (fun p hp => T.cell hp) hR), fun j v hj => cellT T (hc j v hj)⟩
theorem SlAt.addr {B n : Nat} {A : Option Addr} (h : SlAt R sz w B A n xs) (hn : 0 < n) : ∃ b o, A = some ⟨b, o, none⟩ ∧ b < B := by
  obtain ⟨b, o, e, hb, _⟩ := h.2 hn
  exact ⟨b, o, e, hb⟩
theorem SlAt.el {B n b o : Nat} (h : SlAt R sz w B (some ⟨b, o, none⟩) n xs) {k : Nat} (hx : xs[k]? = some x) : ∃ cs, R w B cs x ∧ ∀ j v, cs[j]? = some v → w.cell? ⟨b, o + k * sz + j, none⟩ = some v := by
  have hl := lt_of_some hx
  obtain ⟨b', o', e, hb, hc⟩ := h.2 (by have := h.1; omega)
  injection e with e
  injection e with e1 e2
  subst e1 e2
  exact hc k x hx
theorem SlAt.now (ok : RdOk R sz) {B n : Nat} {A : Option Addr} (h : SlAt R sz w B A n xs) (hB : B ≤ w.heap.size) (T : Below w.heap.size w w') : SlAt R sz w' w'.heap.size A n xs :=
  (h.below ok (T.mono hB)).more ok (Nat.le_trans hB T.size)
/-- A slice that was read, as an argument. -/
theorem slArg (ok : RdOk R sz) {n c : Nat} {A : Option Addr} (h : SlAt R sz w w.heap.size A n xs) (r : n ≤ c ∧ c ≤ maxLen) (T : Below w.heap.size w w') : Sl R sz w' (.slice A n c) xs :=
  ⟨A, n, c, rfl, h.now ok (Nat.le_refl _) T, r⟩
theorem ptArg (ok : RdOk R sz) {b o : Nat} {cs : List Value} (hb : b < w.heap.size) (hR : R w w.heap.size cs x) (hc : ∀ j v, cs[j]? = some v → w.cell? ⟨b, o + j, none⟩ = some v) (T : Below w.heap.size w w') : Pt R w' (.pointer (some ⟨b, o, none⟩)) x :=
  Pt.at_ ok ⟨b, o, cs, rfl, hb, hR, hc⟩ T
theorem ptBox {g : Nat} {t : TypeId} {cs : List Value} (hb : Blk w g t cs.toArray) (hR : R w w.heap.size cs x) : Pt R w (.pointer (some ⟨g, 0, none⟩)) x :=
  ⟨g, 0, cs, rfl, hb.lt, hR, fun j v hj => by rw [hb.cell]; simpa using hj⟩
theorem stArg {cs : List Value} (hR : R w w.heap.size cs x) : St R w (.agg cs.toArray) x := ⟨cs, rfl, hR⟩
theorem len_le {n c : Nat} (r : n ≤ c ∧ c ≤ maxLen) : n ≤ 9223372036854775807 := by have := r.1; have := r.2; unfold maxLen at this; omega
theorem blkCell {g : Nat} {t : TypeId} {cs : Array Value} {i : Nat} {u : Value} (hb : Blk w g t cs) (hu : cs[i]? = some u) : w.cell? ⟨g, 0 + i, none⟩ = some u := by rw [Nat.zero_add, hb.cell]; exact hu
theorem blkT {g : Nat} {t : TypeId} {cs : Array Value} (hb : Blk w g t cs) (T : Below w.heap.size w w') : Blk w' g t cs := hb.below T hb.lt
theorem blkCells {g : Nat} {t : TypeId} {cs : List Value} (hb : Blk w g t cs.toArray) : ∀ j v, cs[j]? = some v → w.cell? ⟨g, 0 + j, none⟩ = some v := fun j v hj => blkCell hb (by simpa using hj)
theorem Tt {w w1 w2 : World} (T : Below w.heap.size w w1) (h : Below w1.heap.size w1 w2) : Below w.heap.size w w2 := T.trans (h.mono T.size)
theorem callB {P : Program} {gf : FuncId} {vals : Array Value} {v : Value} (h : Calls P gf vals w fun e w' => e = .returned v ∧ w = w') : Calls P gf vals w fun e w' => e = .returned v ∧ Below w.heap.size w w' := h.mono fun e w' ⟨he, hw⟩ => ⟨he, by subst hw; exact Below.refl _ _⟩
section
variable {C : World → Prop} {b o : Nat} {v0 v1 v2 v3 v4 : Value}
theorem cells2 (h0 : CellIn C ⟨b, o + 0, none⟩ v0) (h1 : CellIn C ⟨b, o + 1, none⟩ v1) : CellsIn C b o [v0, v1] := fun w hw j v hj => by
  rcases j with _ | _ | j <;> simp at hj <;> subst hj
  · exact h0 w hw
  · exact h1 w hw
end
end
section
variable {P : Program} {w : World} {f : Nat → Value} {n xid id' : Nat} {Q : Exit → Act → World → Prop} {J : (Nat → Value) → World → Prop}
/-- What stands behind a loop's body: at the loop's own exit J is asked. -/
def hitJ (n xid : Nat) (J : (Nat → Value) → World → Prop) (Q : Exit → Act → World → Prop) : Exit → Act → World → Prop
  | .exit id, a, w => if id = xid then ∃ f, a = Fr n f ∧ J f w else Q (.exit id) a w
  | e, a, w => Q e a w
theorem hit_r {a : Act} (h : Q .ret a w) : hitJ n xid J Q .ret a w := h
theorem hit_x {a : Act} (h : ∃ f, a = Fr n f ∧ J f w) : hitJ n xid J Q (.exit xid) a w := by simp only [hitJ, if_true]; exact h
theorem wp_loopX {cd : Code} (I : Nat → (Nat → Value) → World → Prop) (xid : Nat) (J : (Nat → Value) → World → Prop) (g0 : Nat) (h0 : I g0 f w) (hJ : ∀ f w, J f w → Q (.exit xid) (Fr n f) w)
    (round : ∀ g f w, I g f w → cd.wp P (Exit.then (fun a' w' => ∃ g' f', g' < g ∧ a' = Fr n f' ∧ I g' f' w') (hitJ n xid J Q)) (Fr n f) w) : (Code.loop cd).wp P Q (Fr n f) w := by
  refine wp_loopF I g0 h0 fun g f w h => Code.wp_mono ?_ (round g f w h)
  intro e a w hq
  cases e with
  | exit id =>
    have hq : hitJ n xid J Q (.exit id) a w := hq
    show Q (.exit id) a w
    by_cases hid : id = xid
    · subst hid
      simp only [hitJ, if_true] at hq
      obtain ⟨f, rfl, hj⟩ := hq
      exact hJ f w hj
    · simp only [hitJ, hid, if_false] at hq
      exact hq
  | _ => exact hq
end
end
section
open Go.RowKit
set_option linter.unusedVariables false
set_option linter.unusedSimpArgs false
def encS (x : ByteArray) : List Value := [.string x]
/-- How the elements of a type of plain cells are laid. -/
structure FlatT {α : Type} (R : Rd α) (O : Ow α) (enc : α → List Value) (sz : Nat) : Prop where
  pos : 0 < sz
  len : ∀ x, (enc x).length = sz
  rd : ∀ {w B cs x}, R w B cs x ↔ cs = enc x
  ow : ∀ {w x}, O w (enc x) x []
  one : ∀ x, ∀ v ∈ enc x, v.oneCell' = true
theorem fS : FlatT strRd strOw encS 1 := ⟨by decide, fun _ => rfl, Iff.rfl, ⟨rfl, rfl⟩, fun x v hv => by simp [encS] at hv; subst hv; rfl⟩
section
variable {α : Type} {R : Rd α} {O : Ow α} {enc : α → List Value} {sz : Nat} {w w' : World} {lo lo' : Nat} {v : Value} {xs ys : List α} {e : TypeId}
theorem FlatT.flen (F : FlatT R O enc sz) : ∀ xs : List α, (xs.flatMap enc).length = xs.length * sz
  | [] => by simp
  | x :: xs => by simp [F.len, F.flen xs, Nat.add_mul]; omega
theorem FlatT.fone (F : FlatT R O enc sz) {xs : List α} : ∀ u ∈ xs.flatMap enc, u.oneCell' = true := fun u hu => by
  obtain ⟨x, _, hx⟩ := List.mem_flatMap.1 hu
  exact F.one x u hx
theorem FlatT.fget (F : FlatT R O enc sz) : ∀ {xs : List α} {i j : Nat} {x : α} {u : Value}, xs[i]? = some x → (enc x)[j]? = some u → (xs.flatMap enc)[i * sz + j]? = some u
  | [], i, j, x, u, h, _ => by simp at h
  | y :: ys, 0, j, x, u, h, hu => by
    have : y = x := by simpa using h
    subst this
    have hj := lt_of_some hu
    simp only [Nat.zero_mul, Nat.zero_add, List.flatMap_cons]
    rw [List.getElem?_append_left hj]; exact hu
  | y :: ys, i + 1, j, x, u, h, hu => by
    have h' : ys[i]? = some x := by simpa using h
    have hl : (enc y).length = sz := F.len y
    simp only [List.flatMap_cons]
    rw [List.getElem?_append_right (by rw [hl, Nat.add_mul]; omega), hl, show (i + 1) * sz + j - sz = i * sz + j by rw [Nat.add_mul]; omega]
    exact F.fget h' hu
/-- A slice of the call's own from block lo on, whole (it may be appended to). -/
def OwF (e : TypeId) (enc : α → List Value) (sz : Nat) (w : World) (lo : Nat) (v : Value) (xs : List α) : Prop := w.ownsRow lo e sz v xs.length (xs.flatMap enc)
theorem OwF.below (h : OwF e enc sz w lo v xs) (hb : Below w.heap.size w w') : OwF e enc sz w' lo v xs := by
  refine ⟨h.1, ?_⟩
  rcases h.2 with h2 | ⟨g, cap, cur, hv, hg, hh, r⟩
  · exact .inl h2
  · exact .inr ⟨g, cap, cur, hv, hg, (hb.block g (Array.getElem?_eq_some_iff.1 hh).1).trans hh, r⟩
theorem OwF.mono (h : OwF e enc sz w lo v xs) (hl : lo' ≤ lo) : OwF e enc sz w lo' v xs := by
  refine ⟨h.1, ?_⟩
  rcases h.2 with h2 | ⟨g, cap, cur, hv, hg, r⟩
  · exact .inl h2
  · exact .inr ⟨g, cap, cur, hv, by omega, r⟩
theorem OwF.nil : OwF e enc sz w lo (.slice none 0 0) ([] : List α) := ⟨by simp, .inl ⟨rfl, rfl⟩⟩
theorem OwF.lit {g n : Nat} {cells : Array Value} (B : Blk w g e cells) (hg : lo ≤ g) (hc : cells.toList = xs.flatMap enc) (hn : n = xs.length) (hm : Nat.ble n 9223372036854775807 = true) (hs : cells.size = n * sz) : OwF e enc sz w lo (.slice (some ⟨g, 0, none⟩) n n) xs := by
  subst hn
  exact ⟨by rw [← hc]; simpa using hs, .inr ⟨g, xs.length, cells, rfl, hg, B, Nat.le_refl _, by have := Nat.le_of_ble_eq_true hm; unfold maxLen; omega, hs, by rw [hc, List.take_of_length_le]; rw [← hc]; simp [hs]⟩⟩
theorem OwF.form (h : OwF e enc sz w lo v xs) : ∃ A c, v = .slice A xs.length c := by
  rcases h.2 with ⟨rfl, h0⟩ | ⟨g, cap, cur, hv, _⟩
  · exact ⟨none, 0, by rw [h0]⟩
  · exact ⟨_, _, hv⟩
theorem OwF.bound (h : OwF e enc sz w lo v xs) : xs.length ≤ 9223372036854775807 := by
  rcases h.2 with ⟨_, h0⟩ | ⟨g, cap, cur, hv, hg, hh, h1, h2, _⟩
  · omega
  · unfold maxLen at h2; omega
theorem OwF.own (F : FlatT R O enc sz) (h : OwF e enc sz w lo v xs) : OwS O sz w v xs lo w.heap.size := by
  rcases h.2 with ⟨rfl, h0⟩ | ⟨g, cap, cur, rfl, hg, hh, h1, h2, h3, h4⟩
  · have : xs = [] := List.eq_nil_of_length_eq_zero h0
    subst this
    exact ⟨none, 0, 0, [], rfl, ⟨rfl, .inl ⟨rfl, rfl⟩⟩, List.nodup_nil, fun b hb => by simp at hb, Nat.le_refl _, Nat.zero_le _⟩
  · have hblk : Blk w g e cur := hh
    refine ⟨some ⟨g, 0, none⟩, _, cap, [g], rfl, ⟨rfl, .inr ⟨g, 0, [], rfl, rfl, ?_⟩⟩, by simp, fun b hb => by simp at hb; subst hb; exact ⟨hg, hblk.lt⟩, h1, h2⟩
    have key : ∀ (l : List α) (o : Nat), (∀ j u, (l.flatMap enc)[j]? = some u → cur[o + j]? = some u) → ElAt O sz w g o l [] := by
      intro l
      induction l with
      | nil => intro o _; rfl
      | cons x l ih =>
        intro o hl
        refine ⟨enc x, [], [], F.ow, hblk.csAt (fun j u hj => hl j u ?_), rfl, ih (o + sz) (fun j u hj => ?_)⟩
        · simp only [List.flatMap_cons]
          rw [List.getElem?_append_left (lt_of_some hj)]; exact hj
        · have := hl (sz + j) u (by
            simp only [List.flatMap_cons]
            rw [List.getElem?_append_right (by rw [F.len]; omega), F.len, show sz + j - sz = j by omega]; exact hj)
          rwa [show o + (sz + j) = o + sz + j by omega] at this
    refine key xs 0 (fun j u hj => ?_)
    rw [← h4, List.getElem?_take] at hj
    split at hj
    · simpa using hj
    · cases hj
theorem OwF.rdS (F : FlatT R O enc sz) (h : OwF e enc sz w lo v xs) : RdS R sz w w.heap.size v xs := by
  rcases h.2 with ⟨rfl, h0⟩ | ⟨g, cap, cur, rfl, hg, hh, h1, h2, h3, h4⟩
  · have : xs = [] := List.eq_nil_of_length_eq_zero h0
    subst this
    exact ⟨none, 0, 0, rfl, SlAt.none_, Nat.le_refl _, Nat.zero_le _⟩
  · have hblk : Blk w g e cur := hh
    refine ⟨some ⟨g, 0, none⟩, _, cap, rfl, ⟨rfl, fun _ => ⟨g, 0, rfl, hblk.lt, fun i x hx => ⟨enc x, F.rd.2 rfl, fun j u hj => ?_⟩⟩⟩, h1, h2⟩
    have hk := F.fget hx hj
    rw [← h4, List.getElem?_take] at hk
    split at hk
    · rw [hblk.cell, Nat.zero_add]; simpa using hk
    · cases hk
theorem OwF.arg (F : FlatT R O enc sz) (h : OwF e enc sz w lo v xs) : Sl R sz w v xs := h.rdS F
theorem OwF.lt (h : OwF e enc sz w lo v xs) : ∀ b, v.ownBlock = some b → lo ≤ b ∧ b < w.heap.size := World.ownsRow.lt h
/-- Another slice of the call's own while row 'row' grows. -/
theorem OwF.kept {row : Option Nat} (h : OwF e enc sz w lo v xs) (hg : w.grownBy w' row) (hne : v.ownBlock = none ∨ v.ownBlock ≠ row) : OwF e enc sz w' lo v xs := World.ownsRow.kept h hg hne
theorem OwF.only {b : Nat} (h : OwF e enc sz w lo v xs) (ho : Only [b] w w') (hne : v.ownBlock ≠ some b) : OwF e enc sz w' lo v xs := by
  refine ⟨h.1, ?_⟩
  rcases h.2 with h2 | ⟨g, cap, cur, hv, hg, hh, r⟩
  · exact .inl h2
  · exact .inr ⟨g, cap, cur, hv, hg, (ho.block g (by intro hin; simp at hin; subst hin; exact hne (by rw [hv]; rfl))).trans hh, r⟩
theorem OwF.far {b : Nat} (h : OwF e enc sz w lo v xs) (hb : w.heap.size ≤ b) : v.ownBlock ≠ some b := fun hv => by have := (h.lt b hv).2; omega
theorem SlAt.flat (F : FlatT R O enc sz) {B n b o : Nat} (h : SlAt R sz w B (some ⟨b, o, none⟩) n xs) : ∀ j u, (xs.flatMap enc)[j]? = some u → w.cell? ⟨b, o + j, none⟩ = some u := fun j u hj => by
  have hp := F.pos
  have hlt := lt_of_some hj
  rw [F.flen] at hlt
  have hi : j / sz < xs.length := (Nat.div_lt_iff_lt_mul hp).2 hlt
  have hx : xs[j / sz]? = some xs[j / sz] := List.getElem?_eq_getElem hi
  obtain ⟨cs, hR, hc⟩ := h.el hx
  obtain rfl := F.rd.1 hR
  have hm : j % sz < (enc xs[j / sz]).length := by rw [F.len]; exact Nat.mod_lt _ hp
  have h2 := F.fget hx (List.getElem?_eq_getElem hm)
  have e : j / sz * sz + j % sz = j := Nat.div_add_mod' j sz
  rw [e] at h2
  rw [h2] at hj
  injection hj with hj
  have h3 := hc (j % sz) _ (List.getElem?_eq_getElem hm)
  rw [Nat.add_assoc, e, hj] at h3
  exact h3
end
/-- What is asked of a slice type that is appended to. -/
structure AppT (P : Program) (t e : TypeId) (z : Value) (sz bb : Nat) : Prop where
  und : P.underlying t = some (.slice e)
  info : (P.info? e).map (fun i => (i.zero, i.size, i.bytes)) = some (some z, sz, bb)
  zs : z.cells.size = sz
  bb : bb ≤ 256
section
variable {P : Program} {t e : TypeId} {z : Value} {sz bb : Nat} {w : World} {base : Nat}
theorem append_own2 (A : AppT P t e z sz bb) (hsz : 0 < sz) {v : Value} {k : Nat} {xs : List Value} (hown : w.ownsRow base e sz v k xs) (hb : base ≤ w.heap.size) (ad : Addr) (m c : Nat) (news : List Value) (hl : news.length = m * sz)
    (hnews : ∀ j u, news[j]? = some u → w.cell? (ad.add j) = some u) (h1 : ∀ u ∈ news, u.oneCell' = true) (hk : k + m ≤ 4294967296) (ty : TypeId) :
    ∃ v' w', (Builtin.append_ #[t, t] ty #[v, .slice (some ad) m c]).run P w = .ok v' w' ∧ w'.ownsRow base e sz v' (k + m) (xs ++ news) ∧ w.grownBy w' v.ownBlock ∧ (∀ b, v'.ownBlock = some b → v.ownBlock = some b ∨ w.heap.size ≤ b) := by
  obtain ⟨i0, hi, hz0, hz1, hz2⟩ := info_parts A.info
  have hby : (k + m) * bb ≤ 140737488355328 := Nat.le_trans (Nat.mul_le_mul hk A.bb) (by decide)
  have hsm : k + m ≤ 9223372036854775807 := by omega
  obtain ⟨v', w', hr, h2, h3, _⟩ := run_append_own (P := P) w base t ty e i0 z sz bb A.und hi hz0 hz1 hz2 A.zs hsz v k xs hown ad m c news hl hnews h1 (by unfold maxLen; omega) hby hb
  refine ⟨v', w', hr, h2, h3, ?_⟩
  subst hz1
  subst hz2
  have hxl := hown.1
  have hl' := hl
  rcases hown.2 with ⟨rfl, rfl⟩ | ⟨g, cap, cur, rfl, hbg, hg, hnc, hcm, hcs, htake⟩
  · by_cases hm : m = 0
    · subst hm
      have hn : news = [] := List.eq_nil_of_length_eq_zero (by simpa using hl)
      subst hn
      have hr2 : (Builtin.append_ #[t, t] ty #[.slice none 0 0, .slice (some ad) 0 c]).run P w = .ok (.slice none 0 0) w := by
        simp [Builtin.append_, run_underlying A.und, sizeOf, typeInfo, hi, Builtin.lenOf, Builtin.firstCells, loadCells, loadCellsFrom]
      rw [hr2] at hr
      injection hr with e1 e2
      subst e1
      intro b hbk; simp [Value.ownBlock] at hbk
    · have hr2 := run_append_nil (P := P) w t ty e i0 z A.und hi hz0 ad m c news hl hnews (by omega) (by omega) (by have hb := hby; simp only [Nat.zero_add] at hb; omega)
      rw [hr2] at hr
      injection hr with e1 e2
      subst e1
      intro b hbk
      simp [Value.ownBlock] at hbk
      exact .inr (by omega)
  · by_cases hroom : k + m ≤ cap
    · have hfit : k * i0.size + news.length ≤ cur.size := by rw [hl, hcs, ← Nat.add_mul]; exact Nat.mul_le_mul_right _ hroom
      have hr2 := run_append_room (P := P) w t ty e i0 A.und hi g k cap cur hg ad m c news hl hnews h1 hroom hfit
      rw [hr2] at hr
      injection hr with e1 e2
      subst e1
      intro b hbk
      exact .inl hbk
    · have holds : ∀ j u, xs[j]? = some u → w.cell? ((⟨g, 0, none⟩ : Addr).add j) = some u := hown.cells (g := g) rfl
      have hr2 := run_append_grow (P := P) w t ty e i0 z A.und hi hz0 ⟨g, 0, none⟩ k cap xs hown.1 holds ad m c news hl hnews (by omega) (by omega) (growslice_fits (by omega) hby)
      rw [hr2] at hr
      injection hr with e1 e2
      subst e1
      intro b hbk
      simp [Value.ownBlock] at hbk
      exact .inr (by omega)
theorem append_none (A : AppT P t e z sz bb) {v : Value} {k c : Nat} {xs : List Value} (hown : w.ownsRow base e sz v k xs) (ty : TypeId) : (Builtin.append_ #[t, t] ty #[v, .slice none 0 c]).run P w = .ok v w := by
  obtain ⟨i0, hi, hz0, hz1, hz2⟩ := info_parts A.info
  rcases hown.2 with ⟨rfl, rfl⟩ | ⟨g, cap, cur, rfl, _, _, hnc, _⟩
  · simp [Builtin.append_, run_underlying A.und, sizeOf, typeInfo, hi, Builtin.lenOf, Builtin.firstCells]
  · simp [Builtin.append_, run_underlying A.und, sizeOf, typeInfo, hi, Builtin.lenOf, Builtin.firstCells, hnc, storeCells]
end
section
variable {P : Program} {ops : Array Oper} {f : Nat → Value} {rest : List Oper} {Q : (Nat → Value) → World → Prop} {w : World} {d : Option Tmp} {ty : TypeId} {pos : String} {af : Array Edge} {g : Option (Nat × Bool)} {x y : Operand} {t e : TypeId} {z : Value} {sz bb : Nat}
theorem RL.append {α : Type} {R : Rd α} {O : Ow α} {enc : α → List Value} {v vy : Value} {xs ys : List α} {lo : Nat} (F : FlatT R O enc sz) (A : AppT P t e z sz bb) (hg : wantF f ops ⟨d, .call ⟨.builtin .append, #[x, y], #[t, t]⟩, ty, pos, af, g⟩ = true)
    (hx : ev f x = v) (hy : ev f y = vy) (hv : OwF e enc sz w lo v xs) (hr : Sl R sz w vy ys) (hlo : lo ≤ w.heap.size) (hk : xs.length + ys.length ≤ 4294967296)
    (h : ∀ v' w1, OwF e enc sz w1 lo v' (xs ++ ys) → w.grownBy w1 v.ownBlock → Below lo w w1 → (∀ b, v'.ownBlock = some b → v.ownBlock = some b ∨ w.heap.size ≤ b) → RL P ops Q rest (upo f d v') w1) : RL P ops Q (⟨d, .call ⟨.builtin .append, #[x, y], #[t, t]⟩, ty, pos, af, g⟩ :: rest) f w := by
  have hrun : ∀ v' w1, (Builtin.append_ #[t, t] ty #[v, vy]).run P w = .ok v' w1 → (execOp (ev f) ⟨d, .call ⟨.builtin .append, #[x, y], #[t, t]⟩, ty, pos, af, g⟩).run P w = .ok (.value v') w1 := fun v' w1 h0 => by
    simp [execOp, resolve, invoke, builtin, hx, hy, h0]
  obtain ⟨Ay, n, c, rfl, hs, hnc, hcm⟩ := hr
  obtain rfl := hs.len
  cases Ay with
  | none =>
    have h0 : ys = [] := by
      cases ys with
      | nil => rfl
      | cons y0 ys => obtain ⟨b, o, e0, _⟩ := hs.addr (by simp); cases e0
    subst h0
    refine .inl ⟨hg, ?_⟩
    rw [hrun v w (append_none A hv ty)]
    exact h v w (by simpa using hv) ⟨rfl, rfl, rfl, Nat.le_refl _, fun _ _ _ => rfl⟩ (Below.refl _ _) (fun b hb => .inl hb)
  | some ad =>
    have hcells : ∀ j u, (ys.flatMap enc)[j]? = some u → w.cell? (ad.add j) = some u := fun j u hj => by
      have hlt := lt_of_some hj
      rw [F.flen] at hlt
      have hpos : 0 < ys.length := by
        rcases Nat.eq_zero_or_pos ys.length with h0 | h0
        · rw [h0] at hlt; simp at hlt
        · exact h0
      obtain ⟨b, o, e0, _⟩ := hs.addr hpos
      injection e0 with e0
      subst e0
      rw [Addr.add_eq]
      exact hs.flat F j u hj
    obtain ⟨v', w1, h0, h1, h2, h3⟩ := append_own2 A F.pos hv hlo ad ys.length c (ys.flatMap enc) (F.flen ys) hcells F.fone hk ty
    refine .inl ⟨hg, ?_⟩
    rw [hrun v' w1 h0]
    refine h v' w1 ?_ h2 ?_ h3
    · unfold OwF
      rw [List.length_append, List.flatMap_append]
      exact h1
    · exact (Below.refl lo w).grown h2 hlo (fun b hb => (hv.lt b hb).1)
end
section
variable {α : Type} {R : Rd α} {O : Ow α} {enc : α → List Value} {sz n c lo : Nat} {w w' : World} {v v' vx vy : Value} {xs ys : List α} {e : TypeId} {A : Option Addr}
theorem OwF.sl (F : FlatT R O enc sz) (h : OwF e enc sz w lo (.slice A n c) xs) : SlAt R sz w w.heap.size A n xs ∧ n ≤ c ∧ c ≤ maxLen := by
  obtain ⟨A', n', c', he, h1, h2⟩ := h.rdS F
  injection he with e1 e2 e3
  subst e1 e2 e3
  exact ⟨h1, h2⟩
theorem OwF.cell {b k j : Nat} {x : α} {u : Value} (F : FlatT R O enc sz) (h : OwF e enc sz w lo (.slice (some ⟨b, 0, none⟩) n c) xs) (hx : xs[k]? = some x) (hu : (enc x)[j]? = some u) : w.cell? ⟨b, 0 + k * sz + j, none⟩ = some u := by
  obtain ⟨cs, hR, hc⟩ := (h.sl F).1.el hx
  obtain rfl := F.rd.1 hR
  exact hc j u hu
theorem OwF.addr0 (h : OwF e enc sz w lo (.slice A n c) xs) (hn : 0 < n) : ∃ b, A = some ⟨b, 0, none⟩ := by
  rcases h.2 with ⟨h0, _⟩ | ⟨g, cap, cur, hv, _⟩
  · injection h0 with h1 h2; omega
  · injection hv with h1; exact ⟨g, h1⟩
theorem ne_app {b m : Nat} (hn : ∀ b, v'.ownBlock = some b → v.ownBlock = some b ∨ m ≤ b) (h : v.ownBlock ≠ some b) (hb : b < m) : v'.ownBlock ≠ some b := fun hv => by
  rcases hn b hv with h1 | h1
  · exact h h1
  · omega
/-- Two slices of the call's own lie apart. -/
def Dj (v u : Value) : Prop := ∀ b, v.ownBlock = some b → u.ownBlock = some b → False
theorem Dj.symm (h : Dj vx vy) : Dj vy vx := fun b h1 h2 => h b h2 h1
theorem Dj.new {m : Nat} (hv : ∀ b, v.ownBlock = some b → m ≤ b) (hx : ∀ b, vx.ownBlock = some b → b < m) : Dj v vx := fun b h1 h2 => by have := hv b h1; have := hx b h2; omega
theorem Dj.nil : Dj (.slice none 0 0) vx := fun b h1 _ => by simp [Value.ownBlock] at h1
theorem Blk.kept {b : Nat} {t : TypeId} {cs : Array Value} (h : Blk w b t cs) (hg : w.grownBy w' v.ownBlock) (hn : v.ownBlock ≠ some b) : Blk w' b t cs := (hg.block b h.lt (fun e => hn e.symm)).trans h
theorem litNe {b g n c : Nat} (h : b < g) : (Value.slice (some ⟨g, 0, none⟩) n c).ownBlock ≠ some b := by intro e; simp [Value.ownBlock] at e; omega
theorem litGe {g n c : Nat} : ∀ b, (Value.slice (some ⟨g, 0, none⟩) n c).ownBlock = some b → g ≤ b := by intro b e; simp [Value.ownBlock] at e; omega
theorem OwF.hi (h : OwF e enc sz w lo v xs) : ∀ b, v.ownBlock = some b → b < w.heap.size := fun b hb => (h.lt b hb).2
theorem OwF.lo_ (h : OwF e enc sz w lo v xs) : ∀ b, v.ownBlock = some b → lo ≤ b := fun b hb => (h.lt b hb).1
def setI {α : Type} (xs : List α) (i : Int) (x : α) : List α := xs.set i.toNat x
theorem setI_nat {α : Type} (xs : List α) (k : Nat) (x : α) : setI xs (k : Int) x = xs.set k x := rfl
end
section
variable {P : Program} {ops : Array Oper} {f : Nat → Value} {rest : List Oper} {Q : (Nat → Value) → World → Prop} {w : World} {d : Option Tmp} {ty : TypeId} {pos : String} {af : Array Edge} {g : Option (Nat × Bool)} {x y : Operand} {t e : TypeId} {z : Value} {sz bb : Nat}
theorem splice_take {β : Type} {A E : List β} {p L : Nat} (hp : p + E.length ≤ L) (hL : L ≤ A.length) : (A.take p ++ E ++ A.drop (p + E.length)).take L = (A.take L).take p ++ E ++ (A.take L).drop (p + E.length) := by
  rw [List.take_take, Nat.min_eq_left (by omega), List.take_append, List.take_of_length_le (by simp; omega), List.drop_take]
  congr 2
  simp
  omega
theorem flat_replicate {α : Type} {enc : α → List Value} {z0 : α} (hz : z.cells.toList = enc z0) (hzs : z.cells.size = sz) (hp : 0 < sz) : ∀ n : Nat, (madeCells z.cells (n * sz)).toList = (List.replicate n z0).flatMap enc := by
  intro n
  apply List.ext_getElem?
  intro i
  have hlen : ∀ m : Nat, ((List.replicate m z0).flatMap enc).length = m * sz := fun m => by
    induction m with
    | zero => simp
    | succ m ih => rw [List.replicate_succ, List.flatMap_cons, List.length_append, ih, ← hz, Array.length_toList, hzs, Nat.add_mul]; omega
  have hget : ∀ (m i : Nat), i < m * sz → ((List.replicate m z0).flatMap enc)[i]? = (enc z0)[i % sz]? := fun m => by
    induction m with
    | zero => intro i hi; simp at hi
    | succ m ih =>
      intro i hi
      rw [List.replicate_succ, List.flatMap_cons]
      have hle : (enc z0).length = sz := by rw [← hz, Array.length_toList, hzs]
      by_cases h : i < sz
      · rw [List.getElem?_append_left (by omega), Nat.mod_eq_of_lt h]
      · rw [List.getElem?_append_right (by omega), hle, ih (i - sz) (by rw [Nat.add_mul] at hi; omega)]
        congr 1
        conv => rhs; rw [show i = i - sz + sz by omega, Nat.add_mod_right]
  by_cases hi : i < n * sz
  · rw [hget n i hi, ← hz]
    simp [madeCells, hi, hzs]
    have hm : i % sz < z.cells.size := by rw [hzs]; exact Nat.mod_lt _ hp
    simp [hm]
  · rw [List.getElem?_eq_none (by simp [madeCells]; omega), List.getElem?_eq_none (by rw [hlen]; omega)]
end
end
section
open Go.RowKit
set_option linter.unusedVariables false
set_option linter.unusedSimpArgs false
section
variable {P : Program} {ops : Array Oper} {S : World → Prop}
/-- Along an order: (number, does it only look?). -/
def RG (P : Program) (ops : Array Oper) (S : World → Prop) (Q : (Nat → Value) → World → Prop) : List (Nat × Bool) → (Nat → Value) → World → Prop
  | [], f, w => Q f w
  | (i, q) :: rest, f, w => match ops[i]? with
    | none => False
    | some o => match q with
      | true => ∃ v, ((wantF f ops o = true ∧ ∀ w, S w → (execOp (ev f) o).run P w = .ok (.value v) w) ∨ (wantF f ops o = false ∧ v = undef)) ∧ RG P ops S Q rest (upo f o.dst v) w
      | false => (wantF f ops o = true ∧ OpX P (fun v w' => S w' ∧ RG P ops S Q rest (upo f o.dst v) w') ((execOp (ev f) o).run P w)) ∨ (wantF f ops o = false ∧ S w ∧ RG P ops S Q rest (upo f o.dst undef) w)
variable {Q : (Nat → Value) → World → Prop} {rest : List (Nat × Bool)} {f : Nat → Value} {w : World} {i : Nat} {o : Oper}
theorem RG.nil (h : Q f w) : RG P ops S Q [] f w := h
theorem RG.y {v : Value} (ho : ops[i]? = some o) (hg : wantF f ops o = true) (hy : Y P S f o v) (h : RG P ops S Q rest (upo f o.dst v) w) : RG P ops S Q ((i, true) :: rest) f w := by
  unfold RG; rw [ho]; exact ⟨v, .inl ⟨hg, hy⟩, h⟩
theorem RG.skip (ho : ops[i]? = some o) (hg : wantF f ops o = false) (h : RG P ops S Q rest (upo f o.dst undef) w) : RG P ops S Q ((i, true) :: rest) f w := by
  unfold RG; rw [ho]; exact ⟨undef, .inr ⟨hg, rfl⟩, h⟩
end
end
section
open Go.RowKit
set_option linter.unusedVariables false
theorem spec_l00In (n lo hi : Int) (w : World) : Calls Try.prog 120 #[.int .i64 n, .int .i64 lo, .int .i64 hi] w fun e w' => e = .returned (.bool (inR n lo hi)) ∧ w = w' := by
  go_enter Try.func120, Try.ntmps120
  go_wp2
  all_goals go_ret
  all_goals refine ⟨retB ?_, rfl⟩
  all_goals (rw [Bool.eq_iff_iff]; simp_all [inR]; try omega)
end
section
open Go.RowKit
set_option linter.unusedVariables false
set_option linter.unusedSimpArgs false
@[go_sem] theorem eqPort_run (a b c d : Int) (w : World) : (Op.equalIn 10000 81 (.agg #[.int .i64 a, .int .i64 b]) (.agg #[.int .i64 c, .int .i64 d])).run Try.prog w = .ok (a == c && b == d) w := by
  have u3 := Try.underlying2
  have hS : Try.prog.underlying 81 = some (.struct (Try.prog.fieldsOf 81)) := by kernel_rfl
  have hp : Try.prog.stoodInHeld 81 = false := by kernel_rfl
  rw [show (10000 : Nat) = 9999 + 1 from rfl, run_equalIn_agg w 9999 81 _ _ hS hp]
  simp only [Program.fieldsOf, Try.underlying81]
  go_simp
  by_cases h1 : a = c <;> by_cases h2 : b = d <;> simp [h1, h2]
@[go_sem] theorem eqGuardPort_run (op : BinOp) (x y : Operand) (xs ys : Array Value) (w : World) : (eqGuard op 81 x y (.agg xs) (.agg ys)).run Try.prog w = .ok () w := run_eqGuard_agg w op 81 x y xs ys (by kernel_rfl)
end
section
open Go.RowKit
set_option linter.unusedVariables false
set_option linter.unusedSimpArgs false
inductive OT where
  | nil | q (i : Nat) (r : OT) | a (i : Nat) (r : OT) | two (i : Nat) (r1 : OT) (j : Nat) (r2 : OT)
def OT.len : OT → Nat
  | .nil => 0
  | .q _ r => r.len + 1
  | .a _ r => r.len + 1
  | .two _ r1 _ _ => r1.len + 1
section
variable {P : Program} {ops : Array Oper} {S : World → Prop}
def ActAt (P : Program) (ops : Array Oper) (K : (Nat → Value) → World → Prop) (i : Nat) (f : Nat → Value) (w : World) : Prop :=
  match ops[i]? with
  | none => False
  | some o => (wantF f ops o = true ∧ OpX P (fun v w' => K (upo f o.dst v) w') ((execOp (ev f) o).run P w)) ∨ (wantF f ops o = false ∧ K (upo f o.dst undef) w)
def RT (P : Program) (ops : Array Oper) (S : World → Prop) (Q : (Nat → Value) → World → Prop) : OT → (Nat → Value) → World → Prop
  | .nil, f, w => Q f w
  | .q i r, f, w => match ops[i]? with
    | none => False
    | some o => ∃ v, ((wantF f ops o = true ∧ ∀ w, S w → (execOp (ev f) o).run P w = .ok (.value v) w) ∨ (wantF f ops o = false ∧ v = undef)) ∧ RT P ops S Q r (upo f o.dst v) w
  | .a i r, f, w => ActAt P ops (fun f' w' => S w' ∧ RT P ops S Q r f' w') i f w
  | .two i r1 j r2, f, w => ActAt P ops (fun f' w' => S w' ∧ RT P ops S Q r1 f' w') i f w ∧ ActAt P ops (fun f' w' => S w' ∧ RT P ops S Q r2 f' w') j f w
variable {Q : (Nat → Value) → World → Prop} {rest r2 : OT} {f : Nat → Value} {w : World} {i j : Nat} {o o2 : Oper}
theorem RT.y {v : Value} (ho : ops[i]? = some o) (hg : wantF f ops o = true) (hy : Y P S f o v) (h : RT P ops S Q rest (upo f o.dst v) w) : RT P ops S Q (.q i rest) f w := by
  unfold RT; rw [ho]; exact ⟨v, .inl ⟨hg, hy⟩, h⟩
theorem RT.skip (ho : ops[i]? = some o) (hg : wantF f ops o = false) (h : RT P ops S Q rest (upo f o.dst undef) w) : RT P ops S Q (.q i rest) f w := by
  unfold RT; rw [ho]; exact ⟨undef, .inr ⟨hg, rfl⟩, h⟩
theorem ActAt.of {K : (Nat → Value) → World → Prop} (ho : ops[i]? = some o) (h : RL P ops K [o] f w) : ActAt P ops K i f w := by
  unfold ActAt
  rw [ho]
  unfold RL at h
  exact h
theorem RT.both (ho : ops[i]? = some o) (ho2 : ops[j]? = some o2) (h : RL P ops (fun f' w' => S w' ∧ RT P ops S Q rest f' w') [o] f w) (h2 : RL P ops (fun f' w' => S w' ∧ RT P ops S Q r2 f' w') [o2] f w) : RT P ops S Q (.two i rest j r2) f w :=
  ⟨ActAt.of ho h, ActAt.of ho2 h2⟩
end
end
section
open Go.RowKit Go.Maps
set_option linter.unusedVariables false
set_option linter.unusedSimpArgs false
set_option linter.unusedSectionVars false
/-- A map as data: how often it was written, and what it holds. -/
structure MapM (κ β : Type) where
  n : Nat
  get : κ → Option β
section
variable {κ β : Type}
def MapM.empty : MapM κ β := ⟨0, fun _ => none⟩
def MapM.put [DecidableEq κ] (m : MapM κ β) (x : κ) (v : β) : MapM κ β := ⟨m.n + 1, fun y => if y = x then some v else m.get y⟩
def MapM.look (m : MapM κ β) (x : κ) (z : β) : β := (m.get x).getD z
def rdVal (v : Value) : Option (DataW Value × List MemPlace) := some (.held v, [])
/-- A map type: its keys, its elements' zero value. -/
structure MapT (P : Program) (t k : TypeId) (key : κ → Value) (lit : κ → Lit) (good : κ → Prop) (z : Value) : Prop where
  keyed : Keyed P k
  ty : ∃ e, P.underlying t = some (.map k e) ∧ ∀ w, (zeroValue e).run P w = .ok z w
  of : ∀ x, good x → keyOf P k (key x) = some (lit x)
  inj : ∀ x y, lit x = lit y → x = y
def OwM (P : Program) (k : TypeId) (lit : κ → Lit) (enc : β → Value) (w : World) (lo b : Nat) (m : MapM κ β) : Prop :=
  lo ≤ b ∧ ∃ D, w.ownsMap P k rdVal b m.n D ∧ ∀ x zd, D.atKey (lit x) zd = match m.get x with | some v => .held (enc v) | none => zd
variable {P : Program} {t k : TypeId} {key : κ → Value} {lit : κ → Lit} {good : κ → Prop} {z : Value} {enc : β → Value} {w w' : World} {lo b : Nat} {m : MapM κ β}
theorem OwM.lt (h : OwM P k lit enc w lo b m) : b < w.heap.size := by obtain ⟨_, D, h, _⟩ := h; exact h.lt
theorem OwM.keep (h : OwM P k lit enc w lo b m) (hb : w'.heap[b]? = w.heap[b]?) : OwM P k lit enc w' lo b m := by
  obtain ⟨h0, D, ⟨es, clock, h1, F, hs, hD⟩, h2⟩ := h
  exact ⟨h0, D, ⟨es, clock, hb.trans h1, F, hs, hD⟩, h2⟩
theorem OwM.below (h : OwM P k lit enc w lo b m) (hb : Below w.heap.size w w') : OwM P k lit enc w' lo b m := h.keep (hb.block b h.lt)
theorem OwM.only {bs : List Nat} (h : OwM P k lit enc w lo b m) (ho : Only bs w w') (hn : b ∉ bs) : OwM P k lit enc w' lo b m := h.keep (ho.block b hn)
theorem OwM.lower {lo' : Nat} (h : OwM P k lit enc w lo b m) (hl : lo' ≤ lo) : OwM P k lit enc w lo' b m := ⟨Nat.le_trans hl h.1, h.2⟩
theorem OwM.new : OwM P k lit enc (w.alloc (.map #[] 0)) w.heap.size w.heap.size (MapM.empty : MapM κ β) :=
  ⟨Nat.le_refl _, .map [], World.ownsMap_made w P k rdVal, fun x zd => rfl⟩
theorem OwM.look {zb : β} (h : OwM P k lit enc w lo b m) (T : MapT P t k key lit good (enc zb)) {x : κ} (hx : good x) : (Instr.lookup t (.map (some b)) (key x) false).run P w = .ok (enc (m.look x zb)) w := by
  obtain ⟨_, D, h1, h2⟩ := h
  obtain ⟨e, ht, hz⟩ := T.ty
  obtain ⟨v, ps, hr, hv⟩ := h1.lookup T.keyed ht (hz w) (zd := .held (enc zb)) (zp := []) rfl (T.of x hx)
  rw [hr]
  have h3 := h2 x (.held (enc zb))
  rw [h3] at hv
  unfold MapM.look
  cases hg : m.get x with
  | none => rw [hg] at hv; simp only [rdVal, Option.some.injEq, Prod.mk.injEq, DataW.held.injEq] at hv; rw [hv.1]; rfl
  | some u => rw [hg] at hv; simp only [rdVal, Option.some.injEq, Prod.mk.injEq, DataW.held.injEq] at hv; rw [hv.1]; rfl
theorem OwM.set [DecidableEq κ] {v : β} (h : OwM P k lit enc w lo b m) (T : MapT P t k key lit good z) {x : κ} (hx : good x) (hn : m.n ≤ 4294967296) :
    ∃ w', (Instr.mapUpdate t (.map (some b)) (key x) (enc v)).run P w = .ok () w' ∧ OwM P k lit enc w' lo b (m.put x v) ∧ Only [b] w w' := by
  obtain ⟨h0, D, h1, h2⟩ := h
  obtain ⟨e, ht, hz⟩ := T.ty
  obtain ⟨w', hr, h3, h4⟩ := h1.store T.keyed ht (by unfold maxLen; omega) (T.of x hx) (d := .held (enc v)) (ps := []) rfl
  refine ⟨w', hr, ⟨h0, _, h3, fun y zd => ?_⟩, ?_⟩
  · unfold MapM.put
    by_cases hy : y = x
    · subst hy
      simp only [if_true]
      exact atKey_put_same h1.isMap (T.keyed.key (T.of y hx)) _ _
    · simp only [if_neg hy]
      rw [atKey_put_other (fun e => hy (T.inj _ _ e))]
      exact h2 y zd
  · obtain ⟨es, clock, es', clock', hb, rfl⟩ := h4
    refine ⟨rfl, rfl, rfl, by simp [ChangeMaps.setBlock], fun j hj => ?_⟩
    exact ChangeMaps.heap_setBlock_other hb _ (by simpa using hj)
end
section
variable {κ β : Type} [DecidableEq κ] {P : Program} {t k : TypeId} {key : κ → Value} {lit : κ → Lit} {good : κ → Prop} {enc : β → Value} {w : World} {lo b : Nat} {m : MapM κ β}
variable {C : World → Prop} {f : Nat → Value} {d : Option Tmp} {ty : TypeId} {pos : String} {af : Array Edge} {g : Option (Nat × Bool)} {x y u : Operand} {ops : Array Oper} {rest : List Oper} {Q : (Nat → Value) → World → Prop}
theorem Y.look {a : κ} {zb : β} (T : MapT P t k key lit good (enc zb)) (hx : ev f x = .map (some b)) (hy : ev f y = key a) (ha : good a) (hC : ∀ w, C w → OwM P k lit enc w lo b m) : Y P C f ⟨d, .lookup t x y false, ty, pos, af, g⟩ (enc (m.look a zb)) := fun w hw => by
  simp [execOp, hx, hy, (hC w hw).look T ha]
theorem RL.mapSet {a : κ} {v : β} {z : Value} (T : MapT P t k key lit good z) (hg : wantF f ops ⟨d, .mapUpdate t x y u, ty, pos, af, g⟩ = true) (hx : ev f x = .map (some b)) (hy : ev f y = key a) (hu : ev f u = enc v) (ha : good a) (hm : OwM P k lit enc w lo b m) (hn : m.n ≤ 4294967296)
    (h : ∀ w1, OwM P k lit enc w1 lo b (m.put a v) → Only [b] w w1 → RL P ops Q rest (upo f d undef) w1) : RL P ops Q (⟨d, .mapUpdate t x y u, ty, pos, af, g⟩ :: rest) f w := by
  refine .inl ⟨hg, ?_⟩
  obtain ⟨w1, hr, h1, h2⟩ := hm.set (v := v) T ha hn
  have hr : (execOp (ev f) ⟨d, .mapUpdate t x y u, ty, pos, af, g⟩).run P w = .ok .skip w1 := by simp [execOp, hx, hy, hu, hr]
  rw [hr]
  exact h _ h1 h2
theorem RL.makeMap (k : TypeId) (lit : κ → Lit) (enc : β → Value) (hg : wantF f ops ⟨d, .makeMap t none, ty, pos, af, g⟩ = true)
    (h : ∀ w1, OwM P k lit enc w1 w.heap.size w.heap.size (MapM.empty : MapM κ β) → Below w.heap.size w w1 → w1.heap.size = w.heap.size + 1 → RL P ops Q rest (upo f d (.map (some w.heap.size))) w1) : RL P ops Q (⟨d, .makeMap t none, ty, pos, af, g⟩ :: rest) f w := by
  refine .inl ⟨hg, ?_⟩
  have hr : (execOp (ev f) ⟨d, .makeMap t none, ty, pos, af, g⟩).run P w = .ok (.value (.map (some w.heap.size))) (w.alloc (.map #[] 0)) := by
    simp [execOp, run_makeMap]
  rw [hr]
  exact h _ OwM.new (below_alloc _ _) (World.size_alloc _ _)
end
section
variable {f : Nat → Value}
theorem pm8 {i1 i2 i3 i4 i5 i6 i7 i8 : Nat} {x1 x2 x3 x4 x5 x6 x7 x8 : Operand} {v1 v2 v3 v4 v5 v6 v7 v8 : Value} (h1 : ev f x1 = v1) (h2 : ev f x2 = v2) (h3 : ev f x3 = v3) (h4 : ev f x4 = v4) (h5 : ev f x5 = v5) (h6 : ev f x6 = v6) (h7 : ev f x7 = v7) (h8 : ev f x8 = v8) : #[(i1, x1), (i2, x2), (i3, x3), (i4, x4), (i5, x5), (i6, x6), (i7, x7), (i8, x8)].map (fun p => (p.1, ev f p.2)) = #[(i1, v1), (i2, v2), (i3, v3), (i4, v4), (i5, v5), (i6, v6), (i7, v7), (i8, v8)] := by simp [h1, h2, h3, h4, h5, h6, h7, h8]
end
section
variable {P : Program} {C : World → Prop} {f : Nat → Value} {d : Option Tmp} {ty : TypeId} {pos : String} {af : Array Edge} {g : Option (Nat × Bool)} {x y : Operand} {ats : Array TypeId} {k : IntKind} {a b : Int}
theorem Y.max (hx : ev f x = .int k a) (hy : ev f y = .int k b) : Y P C f ⟨d, .call ⟨.builtin .max, #[x, y], ats⟩, ty, pos, af, g⟩ (.int k (if b > a then b else a)) := fun w _ => by
  simp [execOp, resolve, invoke, builtin, hx, hy, Builtin.max_, Builtin.max2]
end
end
section
open Go.RowKit
set_option maxRecDepth 100000
def encVB (x : Bool) : Value := .bool x
end
section
open Go.RowKit
set_option linter.unusedVariables false
theorem app_impl_Type : AppT Try.prog 64 110 (.agg #[.int .i64 0, .string ByteArray.empty, .slice none 0 0]) 3 48 := ⟨by kernel_rfl, by kernel_rfl, rfl, by decide⟩
theorem app_impl_Constructor : AppT Try.prog 103 107 (.agg #[.string ByteArray.empty, .slice none 0 0]) 2 40 := ⟨by kernel_rfl, by kernel_rfl, rfl, by decide⟩
theorem app_impl_Data : AppT Try.prog 63 105 (.agg #[.string ByteArray.empty, .slice none 0 0]) 2 40 := ⟨by kernel_rfl, by kernel_rfl, rfl, by decide⟩
end
section
open Go.RowKit
set_option linter.unusedVariables false
set_option linter.unusedSimpArgs false
/-- The block of a slice's row. -/
def fb (v : Value) : List Nat := v.ownBlock.toList
/-- Two lists of blocks lie apart. -/
def Ap (l m : List Nat) : Prop := ∀ b ∈ l, b ∉ m
section
variable {l m x l' l2 : List Nat} {k g : Nat} {v u v' : Value}
theorem mem_fb {b : Nat} : b ∈ fb v ↔ v.ownBlock = some b := by simp [fb]
theorem Ap.symm (h : Ap l m) : Ap m l := fun b h1 h2 => h b h2 h1
theorem Ap.nil : Ap [] m := fun b h => by simp at h
theorem Ap.new (h1 : ∀ b ∈ l, k ≤ b) (h2 : ∀ b ∈ x, b < k) : Ap l x := fun b h h' => by have := h1 b h; have := h2 b h'; omega
theorem Ap.one (h : Ap l [g]) : g ∉ l := fun hg => h g hg (by simp)
theorem Ap.far (h : ∀ b ∈ l, b < g) : Ap l [g] := fun b hb h' => by simp at h'; subst h'; exact absurd (h b hb) (Nat.lt_irrefl _)
theorem Ap.cons (h1 : Ap [g] x) (h2 : Ap l x) : Ap (g :: l) x := fun b hb h' => by
  rcases List.mem_cons.1 hb with rfl | hb
  · exact h1 b (by simp) h'
  · exact h2 b hb h'
theorem Ap.append (h1 : Ap l x) (h2 : Ap m x) : Ap (l ++ m) x := fun b hb h' => by
  rcases List.mem_append.1 hb with hb | hb
  · exact h1 b hb h'
  · exact h2 b hb h'
theorem Ap.dj (h : Ap (fb v) (fb u)) : Dj v u := fun b h1 h2 => h b (mem_fb.2 h1) (mem_fb.2 h2)
theorem ne_ap (h : v.ownBlock ≠ some g) : Ap (fb v) [g] := fun b h1 h2 => by simp at h2; subst h2; exact h (mem_fb.1 h1)
theorem ap_ne (h : Ap (fb v) [g]) : v.ownBlock ≠ some g := fun h1 => h g (mem_fb.2 h1) (by simp)
end
/-- Elements one behind the other, with what they own. -/
def Parts {α : Type} (O : Ow α) (w : World) : List Value → List α → List Nat → Prop
  | cells, [], ib => cells = [] ∧ ib = []
  | cells, x :: xs, ib => ∃ cs rest b1 b2, cells = cs ++ rest ∧ O w cs x b1 ∧ ib = b1 ++ b2 ∧ Parts O w rest xs b2
/-- A slice of the call's own: its row from block lo on, its elements' blocks (no two alike, none the row's), all among bs. -/
def OwN {α : Type} (e : TypeId) (O : Ow α) (sz : Nat) (w : World) (lo : Nat) (v : Value) (xs : List α) (bs : List Nat) : Prop :=
  ∃ cells ib, w.ownsRow lo e sz v xs.length cells ∧ Parts O w cells xs ib ∧ ib.Nodup ∧ (∀ b ∈ ib, b ∈ bs) ∧ (∀ b, v.ownBlock = some b → b ∈ bs ∧ b ∉ ib) ∧ (∀ b ∈ bs, lo ≤ b ∧ b < w.heap.size)
/-- What an element's cells are: one value each. -/
def OneC {α : Type} (O : Ow α) : Prop := ∀ {w cs x bs}, O w cs x bs → ∀ u ∈ cs, u.oneCell' = true
section
variable {α : Type} {O : Ow α} {R : Rd α} {sz : Nat} {w w' : World} {lo lo' : Nat} {v : Value} {xs ys : List α} {x : α} {bs : List Nat} {e : TypeId}
theorem Parts.keep (ok : OwOk O sz) : ∀ {xs : List α} {cells : List Value} {ib : List Nat}, (∀ b ∈ ib, w'.heap[b]? = w.heap[b]?) → Parts O w cells xs ib → Parts O w' cells xs ib
  | [], _, _, _, h => h
  | x :: xs, _, _, hb, ⟨cs, rest, b1, b2, e1, hO, e2, hr⟩ => by
    subst e1 e2
    exact ⟨cs, rest, b1, b2, rfl, ok.keep (fun b h => hb b (by simp [h])) hO, rfl, Parts.keep ok (fun b h => hb b (by simp [h])) hr⟩
theorem Parts.append : ∀ {xs ys : List α} {c1 c2 : List Value} {i1 i2 : List Nat}, Parts O w c1 xs i1 → Parts O w c2 ys i2 → Parts O w (c1 ++ c2) (xs ++ ys) (i1 ++ i2)
  | [], _, _, _, _, _, ⟨e1, e2⟩, h2 => by subst e1 e2; exact h2
  | x :: xs, _, _, _, _, _, ⟨cs, rest, b1, b2, e1, hO, e2, hr⟩, h2 => by
    subst e1 e2
    exact ⟨cs, _, b1, _, by rw [List.append_assoc], hO, by rw [List.append_assoc], Parts.append hr h2⟩
theorem Parts.one {cs : List Value} {b : List Nat} (h : O w cs x b) : Parts O w cs [x] b := ⟨cs, [], b, [], by simp, h, by simp, rfl, rfl⟩
theorem Parts.len (ok : OwOk O sz) : ∀ {xs : List α} {cells : List Value} {ib : List Nat}, Parts O w cells xs ib → cells.length = xs.length * sz
  | [], _, _, ⟨e, _⟩ => by rw [e]; simp
  | x :: xs, _, _, ⟨cs, rest, b1, b2, e1, hO, e2, hr⟩ => by
    subst e1
    rw [List.length_append, ok.len hO, Parts.len ok hr, List.length_cons, Nat.add_mul]; omega
theorem Parts.elAt (ok : OwOk O sz) {g : Nat} {cur : Array Value} (hb : Blk w g e cur) : ∀ {xs : List α} {cells : List Value} {ib : List Nat} (o : Nat), (∀ (j : Nat) (u : Value), cells[j]? = some u → cur[o + j]? = some u) → Parts O w cells xs ib → ElAt O sz w g o xs ib
  | [], _, _, o, _, ⟨_, e⟩ => e
  | x :: xs, _, _, o, hc, ⟨cs, rest, b1, b2, e1, hO, e2, hr⟩ => by
    subst e1 e2
    have hl := ok.len hO
    refine ⟨cs, b1, b2, hO, hb.csAt (fun j u hj => hc j u ?_), rfl, Parts.elAt ok hb (o + sz) (fun j u hj => ?_) hr⟩
    · rw [List.getElem?_append_left (lt_of_some hj)]; exact hj
    · have := hc (sz + j) u (by rw [List.getElem?_append_right (by omega), hl, show sz + j - sz = j by omega]; exact hj)
      rwa [show o + (sz + j) = o + sz + j by omega] at this
/-- One element of many. -/
theorem Parts.split (ok : OwOk O sz) : ∀ {xs : List α} {cells : List Value} {ib : List Nat} {k : Nat} {x : α}, Parts O w cells xs ib → xs[k]? = some x →
    ∃ c1 cs c2 i1 b1 i2, cells = c1 ++ cs ++ c2 ∧ c1.length = k * sz ∧ O w cs x b1 ∧ ib = i1 ++ (b1 ++ i2) ∧ ∀ w' cs' x' b1', (∀ b ∈ i1 ++ i2, w'.heap[b]? = w.heap[b]?) → O w' cs' x' b1' → Parts O w' (c1 ++ cs' ++ c2) (xs.set k x') (i1 ++ (b1' ++ i2))
  | [], _, _, _, _, _, h => by simp at h
  | y :: ys, _, _, 0, x, ⟨cs, rest, b1, b2, e1, hO, e2, hr⟩, h => by
    have : y = x := by simpa using h
    subst this
    subst e1 e2
    exact ⟨[], cs, rest, [], b1, b2, by simp, by simp, hO, by simp, fun w' cs' x' b1' hb hO' => ⟨cs', rest, b1', b2, by simp, hO', by simp, Parts.keep ok (fun b h => hb b (by simp [h])) hr⟩⟩
  | y :: ys, _, _, k + 1, x, ⟨cs, rest, b1, b2, e1, hO, e2, hr⟩, h => by
    subst e1 e2
    obtain ⟨c1, cs2, c2, i1, b3, i2, f1, f2, f3, f4, f5⟩ := Parts.split ok hr (by simpa using h)
    subst f1 f4
    refine ⟨cs ++ c1, cs2, c2, b1 ++ i1, b3, i2, by simp, by rw [List.length_append, ok.len hO, f2, Nat.add_mul]; omega, f3, by simp, fun w' cs' x' b1' hb hO' => ?_⟩
    refine ⟨cs, _, b1, _, by simp [List.append_assoc], ok.keep (fun b h => hb b (by simp [h])) hO, by simp [List.append_assoc], f5 w' cs' x' b1' (fun b h => hb b (by simp at h ⊢; rcases h with h | h <;> simp [h])) hO'⟩
theorem OwN.keep (ok : OwOk O sz) (h : OwN e O sz w lo v xs bs) (hk : ∀ b ∈ bs, w'.heap[b]? = w.heap[b]?) (hs : w.heap.size ≤ w'.heap.size) : OwN e O sz w' lo v xs bs := by
  obtain ⟨cells, ib, h1, h2, h3, h4, h5, h6⟩ := h
  refine ⟨cells, ib, ?_, h2.keep ok (fun b hb => hk b (h4 b hb)), h3, h4, h5, fun b hb => by have := h6 b hb; omega⟩
  refine ⟨h1.1, ?_⟩
  rcases h1.2 with h | ⟨g, cap, cur, hv, hg, hh, r⟩
  · exact .inl h
  · exact .inr ⟨g, cap, cur, hv, hg, (hk g (h5 g (by rw [hv]; rfl)).1).trans hh, r⟩
theorem OwN.hi (h : OwN e O sz w lo v xs bs) : ∀ b ∈ bs, b < w.heap.size := by obtain ⟨cells, ib, h1, h2, h3, h4, h5, h6⟩ := h; exact fun b hb => (h6 b hb).2
theorem OwN.lo_ (h : OwN e O sz w lo v xs bs) : ∀ b ∈ bs, lo ≤ b := by obtain ⟨cells, ib, h1, h2, h3, h4, h5, h6⟩ := h; exact fun b hb => (h6 b hb).1
theorem OwN.row (h : OwN e O sz w lo v xs bs) {b : Nat} (hb : v.ownBlock = some b) : b ∈ bs := by obtain ⟨cells, ib, h1, h2, h3, h4, h5, h6⟩ := h; exact (h5 b hb).1
theorem OwN.below (ok : OwOk O sz) (h : OwN e O sz w lo v xs bs) (hb : Below w.heap.size w w') : OwN e O sz w' lo v xs bs := h.keep ok (fun b hin => hb.block b (h.hi b hin)) hb.size
theorem OwN.only {b : Nat} (ok : OwOk O sz) (h : OwN e O sz w lo v xs bs) (ho : Only [b] w w') (hn : b ∉ bs) : OwN e O sz w' lo v xs bs := h.keep ok (fun k hk => ho.block k (by intro hin; simp at hin; subst hin; exact hn hk)) (Nat.le_of_eq ho.size.symm)
theorem OwN.mono (h : OwN e O sz w lo v xs bs) (hl : lo' ≤ lo) : OwN e O sz w lo' v xs bs := by
  obtain ⟨cells, ib, h1, h2, h3, h4, h5, h6⟩ := h
  refine ⟨cells, ib, ?_, h2, h3, h4, h5, fun b hb => by have := h6 b hb; omega⟩
  refine ⟨h1.1, ?_⟩
  rcases h1.2 with h | ⟨g, cap, cur, hv, hg, r⟩
  · exact .inl h
  · exact .inr ⟨g, cap, cur, hv, by omega, r⟩
theorem OwN.nil : OwN e O sz w lo (.slice none 0 0) ([] : List α) [] := ⟨[], [], ⟨by simp, .inl ⟨rfl, rfl⟩⟩, ⟨rfl, rfl⟩, List.nodup_nil, fun b hb => by simp at hb, fun b hb => by simp [Value.ownBlock] at hb, fun b hb => by simp at hb⟩
theorem OwN.form (h : OwN e O sz w lo v xs bs) : ∃ A c, v = .slice A xs.length c := by
  obtain ⟨cells, ib, h1, _⟩ := h
  rcases h1.2 with ⟨rfl, h0⟩ | ⟨g, cap, cur, hv, _⟩
  · exact ⟨none, 0, by rw [h0]⟩
  · exact ⟨_, _, hv⟩
theorem OwN.bound (h : OwN e O sz w lo v xs bs) : xs.length ≤ 9223372036854775807 := by
  obtain ⟨cells, ib, h1, _⟩ := h
  rcases h1.2 with ⟨_, h0⟩ | ⟨g, cap, cur, hv, hg, hh, h1, h2, _⟩
  · omega
  · unfold maxLen at h2; omega
theorem OwN.addr0 {A : Option Addr} {n c : Nat} (h : OwN e O sz w lo (.slice A n c) xs bs) (hn : 0 < n) : ∃ b, A = some ⟨b, 0, none⟩ := by
  obtain ⟨cells, ib, h1, _⟩ := h
  rcases h1.2 with ⟨h0, _⟩ | ⟨g, cap, cur, hv, _⟩
  · injection h0 with h1 h2; omega
  · injection hv with h1; exact ⟨g, h1⟩
theorem OwN.own1 (ok : OwOk O sz) (h : OwN e O sz w lo v xs bs) : ∃ A n c l, v = .slice A n c ∧ OwAt O sz w A n xs l ∧ l.Nodup ∧ (∀ b ∈ l, b ∈ bs) ∧ n ≤ c ∧ c ≤ maxLen := by
  obtain ⟨cells, ib, h1, h2, h3, h4, h5, h6⟩ := h
  rcases h1.2 with ⟨rfl, h0⟩ | ⟨g, cap, cur, rfl, hg, hh, k1, k2, k3, k4⟩
  · have : xs = [] := List.eq_nil_of_length_eq_zero h0
    subst this
    exact ⟨none, 0, 0, [], rfl, ⟨rfl, .inl ⟨rfl, rfl⟩⟩, List.nodup_nil, fun b hb => by simp at hb, Nat.le_refl _, Nat.zero_le _⟩
  · obtain ⟨hg1, hg2⟩ := h5 g rfl
    refine ⟨some ⟨g, 0, none⟩, _, cap, g :: ib, rfl, ⟨rfl, .inr ⟨g, 0, ib, rfl, rfl, ?_⟩⟩, List.nodup_cons.2 ⟨hg2, h3⟩, fun b hb => by
      rcases List.mem_cons.1 hb with rfl | hb
      · exact hg1
      · exact h4 b hb, k1, k2⟩
    refine h2.elAt (e := e) ok (cur := cur) hh 0 (fun j u hj => ?_)
    rw [← k4, List.getElem?_take] at hj
    split at hj
    · simpa using hj
    · cases hj
theorem OwN.own (ok : OwOk O sz) (h : OwN e O sz w lo v xs bs) : OwS O sz w v xs lo w.heap.size := by
  obtain ⟨A, n, c, l, e1, h1, h2, h3, r⟩ := h.own1 ok
  exact ⟨A, n, c, l, e1, h1, h2, fun b hb => ⟨h.lo_ b (h3 b hb), h.hi b (h3 b hb)⟩, r⟩
theorem OwN.rdS (ok : OwOk O sz) (hR : Gives O R w.heap.size) (h : OwN e O sz w lo v xs bs) : RdS R sz w w.heap.size v xs := (h.own ok).reads hR (Nat.le_refl _)
theorem OwN.arg (ok : OwOk O sz) (hR : Gives O R w.heap.size) (h : OwN e O sz w lo v xs bs) : Sl R sz w v xs := h.rdS ok hR
end
theorem toN {t : Int} {v : Value} (h : 0 ≤ t) (e : v = .int .i64 t) : v = .int .i64 (t.toNat : Int) := by rw [e, Int.toNat_of_nonneg h]
section
variable {α : Type} {R : Rd α} {O : Ow α} {enc : α → List Value} {sz : Nat} {w w' : World} {lo lo' : Nat} {v : Value} {xs ys : List α} {e : TypeId}
theorem one_hi {g : Nat} (h : g < w.heap.size) : ∀ b ∈ [g], b < w.heap.size := fun b hb => by simp at hb; subst hb; exact h
variable {O' : Ow α} {bs : List Nat} {u : Value}
/-- Another slice of the call's own, while the row of v grows or is written. -/
theorem OwN.dj (h : OwN e O' sz w lo v xs bs) (A : Ap bs (fb u)) : Dj u v := fun b h1 h2 => A b (h.row h2) (mem_fb.2 h1)
theorem OwN.both (h : OwN e O' sz w lo v xs bs) {g : Nat} (hg : w.heap.size ≤ g) : ∀ b ∈ bs, lo ≤ b ∧ b < g := fun b hb => ⟨h.lo_ b hb, Nat.lt_of_lt_of_le (h.hi b hb) hg⟩
end
end
section
open Go.RowKit
set_option linter.unusedVariables false
set_option linter.unusedSimpArgs false
section
variable {C : World → Prop} {b o : Nat} {v0 v1 v2 : Value}
theorem cells3 (h0 : CellIn C ⟨b, o + 0, none⟩ v0) (h1 : CellIn C ⟨b, o + 1, none⟩ v1) (h2 : CellIn C ⟨b, o + 2, none⟩ v2) : CellsIn C b o [v0, v1, v2] := fun w hw j v hj => by
  match j, hj with
  | 0, hj => obtain rfl : v0 = v := by simpa using hj
             exact h0 w hw
  | 1, hj => obtain rfl : v1 = v := by simpa using hj
             exact h1 w hw
  | 2, hj => obtain rfl : v2 = v := by simpa using hj
             exact h2 w hw
  | _ + 3, hj => simp at hj
end
end
section
open Go.RowKit
set_option linter.unusedVariables false
set_option linter.unusedSimpArgs false
theorem setI_eq {α : Type} {xs : List α} {i : Int} {k : Nat} {x : α} (h : i = (k : Int)) : setI xs i x = xs.set k x := by subst h; rfl
/-- Only the rows of v1 and v2 may have turned, of what was there. -/
structure KeepV (v1 v2 : Value) (w w' : World) : Prop where
  size : w.heap.size ≤ w'.heap.size
  block : ∀ b, b < w.heap.size → v1.ownBlock ≠ some b → v2.ownBlock ≠ some b → w'.heap[b]? = w.heap[b]?
section
variable {v1 v2 v : Value} {w w' w2 : World} {b : Nat}
theorem KeepV.refl (v1 v2 : Value) (w : World) : KeepV v1 v2 w w := ⟨Nat.le_refl _, fun _ _ _ _ => rfl⟩
theorem KeepV.below (K : KeepV v1 v2 w w') (hb : Below w'.heap.size w' w2) : KeepV v1 v2 w w2 := ⟨Nat.le_trans K.size hb.size, fun b h1 h2 h3 => (hb.block b (Nat.lt_of_lt_of_le h1 K.size)).trans (K.block b h1 h2 h3)⟩
theorem KeepV.far (K : KeepV v1 v2 w w') (ho : Only [b] w' w2) (hg : w.heap.size ≤ b) : KeepV v1 v2 w w2 := ⟨Nat.le_trans K.size (Nat.le_of_eq ho.size.symm), fun k h1 h2 h3 => (ho.block k (by simp; omega)).trans (K.block k h1 h2 h3)⟩
end
end
section
open Go.RowKit
set_option linter.unusedVariables false
set_option linter.unusedSimpArgs false
section
variable {P : Program} {C : World → Prop} {f : Nat → Value} {d : Option Tmp} {ty : TypeId} {pos : String} {af : Array Edge} {g : Option (Nat × Bool)} {x y : Operand} {t t' : TypeId} {a b : ByteArray}
theorem str_of {P : Program} {t : TypeId} (h : stringT P t = true) : P.underlying t = some .string := by
  unfold stringT at h
  split at h
  · assumption
  · cases h
theorem Y.eqStr (hx : ev f x = .string a) (hy : ev f y = .string b) (ht : stringT P t = true) : Y P C f ⟨d, .binOp .eql t x y t', ty, pos, af, g⟩ (.bool (a.toList == b.toList)) := fun w _ => by
  simp only [execOp, hx, hy, Sem.run_bind, eqGuard, Result.andThen_ok]
  simp [binOp, Op.stringOp]
theorem Y.neStr (hx : ev f x = .string a) (hy : ev f y = .string b) (ht : stringT P t = true) : Y P C f ⟨d, .binOp .neq t x y t', ty, pos, af, g⟩ (.bool (!(a.toList == b.toList))) := fun w _ => by
  simp only [execOp, hx, hy, Sem.run_bind, eqGuard, Result.andThen_ok]
  simp [binOp, Op.stringOp]
end
end
section
open Go.RowKit
set_option linter.unusedVariables false
set_option linter.unusedSimpArgs false
theorem Parts.rep {α : Type} {O : Ow α} {w : World} {zc : List Value} {x0 : α} (hO : O w zc x0 []) : ∀ n : Nat, Parts O w ((List.replicate n ()).flatMap fun _ => zc) (List.replicate n x0) []
  | 0 => ⟨rfl, rfl⟩
  | n + 1 => ⟨zc, (List.replicate n ()).flatMap fun _ => zc, [], [], by rw [List.replicate_succ, List.flatMap_cons], hO, rfl, Parts.rep hO n⟩
section
variable {P : Program} {ops : Array Oper} {f : Nat → Value} {rest : List Oper} {Q : (Nat → Value) → World → Prop} {w : World} {d : Option Tmp} {ty : TypeId} {pos : String} {af : Array Edge} {g : Option (Nat × Bool)} {x y : Operand} {t e : TypeId} {z : Value} {sz bb : Nat}
theorem RL.makeN {α : Type} {O : Ow α} {x0 : α} {n : Nat} (A : AppT P t e z sz bb) (hp : 0 < sz) (hO : ∀ w, O w z.cells.toList x0 []) (hg : wantF f ops ⟨d, .makeSlice t x y, ty, pos, af, g⟩ = true)
    (hx : ev f x = .int .i64 n) (hy : ev f y = .int .i64 n) (hn : n ≤ 4294967296)
    (h : ∀ w1, OwN e O sz w1 w.heap.size (.slice (some ⟨w.heap.size, 0, none⟩) n n) (List.replicate n x0) [w.heap.size] → Below w.heap.size w w1 → w1.heap.size = w.heap.size + 1 → RL P ops Q rest (upo f d (.slice (some ⟨w.heap.size, 0, none⟩) n n)) w1) : RL P ops Q (⟨d, .makeSlice t x y, ty, pos, af, g⟩ :: rest) f w := by
  refine .inl ⟨hg, ?_⟩
  have hb : bb * n ≤ 281474976710656 := Nat.le_trans (Nat.mul_le_mul A.bb hn) (by decide)
  have hr : (execOp (ev f) ⟨d, .makeSlice t x y, ty, pos, af, g⟩).run P w = .ok (.value (.slice (some ⟨w.heap.size, 0, none⟩) n n)) (w.alloc (.cells (madeCells z.cells (n * sz)) e)) := by
    simp [execOp, hx, hy, run_make_sz t e A.und A.info n hb hn w]
  rw [hr]
  have hB := Blk.new w e (madeCells z.cells (n * sz))
  have hF := flat_replicate (enc := fun _ : Unit => z.cells.toList) (z0 := ()) (z := z) rfl A.zs hp n
  refine h _ ?_ (below_alloc _ _) (World.size_alloc _ _)
  refine ⟨(List.replicate n ()).flatMap fun _ => z.cells.toList, [], ⟨?_, .inr ⟨w.heap.size, n, _, by simp, Nat.le_refl _, hB, by simp, by unfold maxLen; omega, madeCells_size _ _, ?_⟩⟩, Parts.rep (hO _) n, List.nodup_nil, fun b hb => by simp at hb, fun b hb => ?_, fun b hb => ?_⟩
  · rw [← hF]; simp [madeCells]
  · rw [← hF, List.take_of_length_le (by simp [madeCells])]
  · simp [Value.ownBlock] at hb; subst hb; simp
  · simp at hb; subst hb; rw [World.size_alloc]; omega
theorem RL.storeNW {α : Type} {O : Ow α} {v : Value} {xs : List α} {lo k n c b : Nat} {a a' : α} {bs l fp : List Nat} (ok : OwOk O sz) (one : OneC O) (hg : wantF f ops ⟨d, .store t x y, ty, pos, af, g⟩ = true) (hx : ev f x = .pointer (some ⟨b, 0 + k * sz, none⟩)) (hy : ev f y = v)
    (hv : OwN e O sz w lo (.slice (some ⟨b, 0, none⟩) n c) xs bs) (hk : xs[k]? = some a) (hO : O w v.cells.toList a' l) (nd : l.Nodup) (sub : ∀ q ∈ l, q ∈ fp) (D : Ap bs fp) (hf : ∀ q ∈ fp, lo ≤ q ∧ q < w.heap.size) (hs : (P.info? t).map (·.size) = some sz)
    (h : ∀ w1, OwN e O sz w1 lo (.slice (some ⟨b, 0, none⟩) n c) (xs.set k a') (bs ++ fp) → Only [b] w w1 → RL P ops Q rest (upo f d undef) w1) : RL P ops Q (⟨d, .store t x y, ty, pos, af, g⟩ :: rest) f w := by
  refine .inl ⟨hg, ?_⟩
  cases hi : P.info? t with
  | none => rw [hi] at hs; cases hs
  | some inf =>
    rw [hi] at hs
    simp only [Option.map_some, Option.some.injEq] at hs
    obtain ⟨cells, ib, q1, q2, q3, q4, q5, q6⟩ := hv
    rcases q1.2 with ⟨h0, hl0⟩ | ⟨b', cap, cur, hv, hlo, hh, m1, m2, m3, m4⟩
    · cases h0
    · injection hv with e1 e2 e3
      injection e1 with e1
      injection e1 with e1
      subst e1 e2 e3
      obtain ⟨c1, cs, c2, i1, b1, i2, f1, f2, f3, f4, f5⟩ := q2.split ok hk
      have hkl := lt_of_some hk
      have hcl := ok.len f3
      have hlen : v.cells.toList.length = sz := ok.len hO
      have hcs : cells.length = xs.length * sz := q1.1
      have hkc : k * sz + sz ≤ xs.length * sz := by
        have := Nat.mul_le_mul_right sz (show k + 1 ≤ xs.length from hkl)
        rw [Nat.add_mul] at this; omega
      have hcc : xs.length * sz ≤ cur.size := by rw [m3]; exact Nat.mul_le_mul_right _ m1
      have hst := run_storeCells_at (P := P) b (k * sz) e v.cells.toList 0 cur w hh (by rw [hlen]; omega) (fun u hu => one hO u hu)
      have hr : (execOp (ev f) ⟨d, .store t x y, ty, pos, af, g⟩).run P w = .ok .skip (w.setRow b (cur.toList.take (k * sz) ++ v.cells.toList ++ cur.toList.drop (k * sz + v.cells.toList.length)).toArray) := by
        simp only [Nat.add_zero] at hst
        have hsz : v.cells.size = inf.size := by rw [hs, ← hlen]; simp
        simp [execOp, hx, hy, Instr.storeAt, Instr.sureAddr, storeVar, sizeOf, typeInfo, hi, hsz, hst]
      rw [hr]
      have hb0 := q5 b rfl
      have hon := setRow_only w b (cur.toList.take (k * sz) ++ v.cells.toList ++ cur.toList.drop (k * sz + v.cells.toList.length)).toArray
      have hbl : b ∉ l := fun hin => D b hb0.1 (sub b hin)
      rw [f4] at q3 q4
      have hi1 : ∀ q ∈ i1, q ∈ bs := fun q hq => q4 q (by simp [hq])
      have hi2 : ∀ q ∈ i2, q ∈ bs := fun q hq => q4 q (by simp [hq])
      obtain ⟨n1, n2, n3⟩ := List.nodup_append.1 q3
      obtain ⟨n4, n5, n6⟩ := List.nodup_append.1 n2
      have hbb : b ∉ i1 ∧ b ∉ i2 := by
        have := hb0.2
        rw [f4] at this
        simp at this
        exact ⟨this.1, this.2.2⟩
      refine h _ ⟨c1 ++ v.cells.toList ++ c2, i1 ++ (l ++ i2), ⟨?_, .inr ⟨b, c, _, by rw [List.length_set], hlo, setRow_heap w b cur _ e _ hh, by rw [List.length_set]; exact m1, m2, ?_, ?_⟩⟩, ?_, ?_, ?_, ?_, ?_⟩ hon
      · rw [f1] at hcs
        simp only [List.length_append, List.length_set] at hcs ⊢
        omega
      · simp only [List.size_toArray, List.length_append, List.length_take, List.length_drop, Array.length_toList, hlen]
        rw [← m3]; omega
      · rw [List.length_set]
        have hsp := splice_take (A := cur.toList) (E := v.cells.toList) (p := k * sz) (L := xs.length * sz) (by rw [hlen]; omega) (by simpa using hcc)
        rw [hlen] at hsp ⊢
        show List.take (xs.length * sz) (cur.toList.take (k * sz) ++ v.cells.toList ++ cur.toList.drop (k * sz + sz)) = _
        rw [hsp, m4, f1]
        have e5 : (c1 ++ cs ++ c2).take (k * sz) = c1 := by
          rw [List.append_assoc, ← f2, List.take_left]
        have e6 : (c1 ++ cs ++ c2).drop (k * sz + sz) = c2 := by
          rw [← f2, ← hcl, ← List.length_append, List.drop_left]
        rw [e5, e6]
      · refine f5 _ _ _ _ (fun b' hb' => hon.block b' (by
          intro hin; simp at hin; subst hin
          rcases List.mem_append.1 hb' with h | h
          · exact hbb.1 h
          · exact hbb.2 h)) (ok.keep (fun b' hb' => hon.block b' (by intro hin; simp at hin; subst hin; exact hbl hb')) hO)
      · refine List.nodup_append.2 ⟨n1, List.nodup_append.2 ⟨nd, n5, fun a ha b hb e => ?_⟩, fun a ha b hb e => ?_⟩
        · subst e; exact D a (hi2 a hb) (sub a ha)
        · subst e
          rcases List.mem_append.1 hb with h | h
          · exact D a (hi1 a ha) (sub a h)
          · exact n3 a ha a (by simp [h]) rfl
      · intro q hq
        rcases List.mem_append.1 hq with h | h
        · exact List.mem_append.2 (.inl (hi1 q h))
        · rcases List.mem_append.1 h with h | h
          · exact List.mem_append.2 (.inr (sub q h))
          · exact List.mem_append.2 (.inl (hi2 q h))
      · intro q hq
        have hqb : q = b := by simp [Value.ownBlock] at hq; exact hq.symm
        subst hqb
        refine ⟨List.mem_append.2 (.inl hb0.1), fun hin => ?_⟩
        rcases List.mem_append.1 hin with h | h
        · exact hbb.1 h
        · rcases List.mem_append.1 h with h | h
          · exact hbl h
          · exact hbb.2 h
      · intro q hq
        rw [hon.size]
        rcases List.mem_append.1 hq with h | h
        · exact q6 q h
        · exact hf q h
end
end
section
open Go.RowKit
set_option linter.unusedVariables false
set_option linter.unusedSimpArgs false
section
variable {α : Type} {R R' : Rd α} {O O' : Ow α} {sz : Nat} {w : World} {B n b : Nat} {A : Option Addr}
theorem SlAt.congr {xs : List α} (hc : ∀ y ∈ xs, ∀ cs, R w B cs y → R' w B cs y) (h : SlAt R sz w B A n xs) : SlAt R' sz w B A n xs :=
  ⟨h.1, fun hn => by
    obtain ⟨b, off, e, hb, hs⟩ := h.2 hn
    exact ⟨b, off, e, hb, fun i x hx => by
      obtain ⟨cs, hR, hv⟩ := hs i x hx
      exact ⟨cs, hc x (List.mem_of_getElem? hx) cs hR, hv⟩⟩⟩
theorem ElAt.congr : ∀ {xs : List α} {o : Nat} {bs : List Nat}, (∀ y ∈ xs, ∀ cs bs, O w cs y bs → O' w cs y bs) → ElAt O sz w b o xs bs → ElAt O' sz w b o xs bs
  | [], _, _, _, h => h
  | x :: xs, o, _, hc, ⟨cs, b1, b2, hO, hcs, e, hr⟩ => ⟨cs, b1, b2, hc x (by simp) cs b1 hO, hcs, e, ElAt.congr (fun y hy => hc y (by simp [hy])) hr⟩
theorem OwAt.congr {xs : List α} {bs : List Nat} (hc : ∀ y ∈ xs, ∀ cs bs, O w cs y bs → O' w cs y bs) (h : OwAt O sz w A n xs bs) : OwAt O' sz w A n xs bs := by
  refine ⟨h.1, ?_⟩
  rcases h.2 with h2 | ⟨b, o, b2, e, e2, h2⟩
  · exact .inl h2
  · exact .inr ⟨b, o, b2, e, e2, h2.congr hc⟩
end
structure DType where
  kind : Int
  name : ByteArray
  kids : List DType
instance : Inhabited DType := ⟨⟨0, ByteArray.empty, []⟩⟩
def typeRdN : Nat → Rd DType
  | 0 => fun _ _ _ _ => False
  | n + 1 => fun w B cs x => ∃ (A1 : Option Addr) (n1 c1 : Nat), cs = [.int .i64 x.kind, .string x.name, .slice A1 n1 c1] ∧ (SlAt (typeRdN n) 3 w B A1 n1 x.kids ∧ n1 ≤ c1 ∧ c1 ≤ maxLen)
def typeRd : Rd DType := fun w B cs x => typeRdN (SizeOf.sizeOf x) w B cs x
def typeOwN : Nat → Ow DType
  | 0 => fun _ _ _ _ => False
  | n + 1 => fun w cs x bs => ∃ (A1 : Option Addr) (n1 c1 : Nat) (b1 : List Nat), cs = [.int .i64 x.kind, .string x.name, .slice A1 n1 c1] ∧ (OwAt (typeOwN n) 3 w A1 n1 x.kids b1 ∧ n1 ≤ c1 ∧ c1 ≤ maxLen) ∧ bs = b1
def typeOw : Ow DType := fun w cs x bs => typeOwN (SizeOf.sizeOf x) w cs x bs
theorem DType.kid_lt {x y : DType} (h : y ∈ x.kids) : SizeOf.sizeOf y < SizeOf.sizeOf x := by
  have h1 := List.sizeOf_lt_of_mem h
  obtain ⟨a0, a1, a2⟩ := x
  simp only [DType.mk.sizeOf_spec] at *
  omega
theorem DType.pos (x : DType) : 0 < SizeOf.sizeOf x := by
  obtain ⟨a0, a1, a2⟩ := x
  simp only [DType.mk.sizeOf_spec]
  omega
theorem typeRdN_same {w : World} {B : Nat} : ∀ (n m : Nat) (cs : List Value) (x : DType), SizeOf.sizeOf x ≤ n → SizeOf.sizeOf x ≤ m → typeRdN n w B cs x → typeRdN m w B cs x
  | 0, _, _, x, h, _, _ => by have := x.pos; omega
  | _ + 1, 0, _, x, _, h, _ => by have := x.pos; omega
  | n + 1, m + 1, cs, x, h, h', ⟨A1, n1, c1, e, ⟨h1, r1⟩⟩ => ⟨A1, n1, c1, e, ⟨SlAt.congr (fun y hy cs hR => typeRdN_same n m cs y (by have := DType.kid_lt hy; omega) (by have := DType.kid_lt hy; omega) hR) h1, r1⟩⟩
theorem typeOwN_same {w : World} : ∀ (n m : Nat) (cs : List Value) (x : DType) (bs : List Nat), SizeOf.sizeOf x ≤ n → SizeOf.sizeOf x ≤ m → typeOwN n w cs x bs → typeOwN m w cs x bs
  | 0, _, _, x, _, h, _, _ => by have := x.pos; omega
  | _ + 1, 0, _, x, _, _, h, _ => by have := x.pos; omega
  | n + 1, m + 1, cs, x, bs, h, h', ⟨A1, n1, c1, b1, e, ⟨h1, r1⟩, eb⟩ => ⟨A1, n1, c1, b1, e, ⟨OwAt.congr (fun y hy cs bs hR => typeOwN_same n m cs y bs (by have := DType.kid_lt hy; omega) (by have := DType.kid_lt hy; omega) hR) h1, r1⟩, eb⟩
section
variable {w : World} {B : Nat} {cs : List Value} {x : DType} {bs : List Nat}
theorem typeRd_out (h : typeRd w B cs x) : ∃ (A1 : Option Addr) (n1 c1 : Nat), cs = [.int .i64 x.kind, .string x.name, .slice A1 n1 c1] ∧ (SlAt typeRd 3 w B A1 n1 x.kids ∧ n1 ≤ c1 ∧ c1 ≤ maxLen) := by
  obtain ⟨A1, n1, c1, e, ⟨h1, r1⟩⟩ := typeRdN_same (SizeOf.sizeOf x) (SizeOf.sizeOf x + 1) cs x (Nat.le_refl _) (Nat.le_succ _) h
  exact ⟨A1, n1, c1, e, ⟨SlAt.congr (fun y hy cs hR => typeRdN_same _ _ cs y (Nat.le_of_lt (DType.kid_lt hy)) (Nat.le_refl _) hR) h1, r1⟩⟩
theorem typeRd_in (h : ∃ (A1 : Option Addr) (n1 c1 : Nat), cs = [.int .i64 x.kind, .string x.name, .slice A1 n1 c1] ∧ (SlAt typeRd 3 w B A1 n1 x.kids ∧ n1 ≤ c1 ∧ c1 ≤ maxLen)) : typeRd w B cs x := by
  obtain ⟨A1, n1, c1, e, ⟨h1, r1⟩⟩ := h
  have h : typeRdN (SizeOf.sizeOf x + 1) w B cs x := ⟨A1, n1, c1, e, ⟨SlAt.congr (fun y hy cs hR => typeRdN_same _ _ cs y (Nat.le_refl _) (Nat.le_of_lt (DType.kid_lt hy)) hR) h1, r1⟩⟩
  exact typeRdN_same _ _ cs x (Nat.le_succ _) (Nat.le_refl _) h
theorem typeOw_out (h : typeOw w cs x bs) : ∃ (A1 : Option Addr) (n1 c1 : Nat) (b1 : List Nat), cs = [.int .i64 x.kind, .string x.name, .slice A1 n1 c1] ∧ (OwAt typeOw 3 w A1 n1 x.kids b1 ∧ n1 ≤ c1 ∧ c1 ≤ maxLen) ∧ bs = b1 := by
  obtain ⟨A1, n1, c1, b1, e, ⟨h1, r1⟩, eb⟩ := typeOwN_same (SizeOf.sizeOf x) (SizeOf.sizeOf x + 1) cs x bs (Nat.le_refl _) (Nat.le_succ _) h
  exact ⟨A1, n1, c1, b1, e, ⟨OwAt.congr (fun y hy cs bs hR => typeOwN_same _ _ cs y bs (Nat.le_of_lt (DType.kid_lt hy)) (Nat.le_refl _) hR) h1, r1⟩, eb⟩
theorem typeOw_in (h : ∃ (A1 : Option Addr) (n1 c1 : Nat) (b1 : List Nat), cs = [.int .i64 x.kind, .string x.name, .slice A1 n1 c1] ∧ (OwAt typeOw 3 w A1 n1 x.kids b1 ∧ n1 ≤ c1 ∧ c1 ≤ maxLen) ∧ bs = b1) : typeOw w cs x bs := by
  obtain ⟨A1, n1, c1, b1, e, ⟨h1, r1⟩, eb⟩ := h
  have h : typeOwN (SizeOf.sizeOf x + 1) w cs x bs := ⟨A1, n1, c1, b1, e, ⟨OwAt.congr (fun y hy cs bs hR => typeOwN_same _ _ cs y bs (Nat.le_refl _) (Nat.le_of_lt (DType.kid_lt hy)) hR) h1, r1⟩, eb⟩
  exact typeOwN_same _ _ cs x bs (Nat.le_succ _) (Nat.le_refl _) h
end
theorem typeRdN_ok : ∀ n, RdOk (typeRdN n) 3
  | 0 => ⟨fun h => h.elim, fun _ h => h.elim, fun _ h => h.elim⟩
  | n + 1 => ⟨fun ⟨A1, n1, c1, e, _⟩ => by rw [e]; rfl,
   fun hk ⟨A1, n1, c1, e, ⟨h1, r1⟩⟩ => ⟨A1, n1, c1, e, ⟨h1.keep (typeRdN_ok n) hk, r1⟩⟩,
   fun hB ⟨A1, n1, c1, e, ⟨h1, r1⟩⟩ => ⟨A1, n1, c1, e, ⟨h1.more (typeRdN_ok n) hB, r1⟩⟩⟩
theorem typeRd_ok : RdOk typeRd 3 := ⟨fun h => (typeRdN_ok _).len h, fun hk h => (typeRdN_ok _).keep hk h, fun hB h => (typeRdN_ok _).more hB h⟩
theorem typeOwN_ok : ∀ n, OwOk (typeOwN n) 3
  | 0 => ⟨fun h => h.elim, fun _ h => h.elim⟩
  | n + 1 => ⟨fun ⟨A1, n1, c1, b1, e, _⟩ => by rw [e]; rfl,
   fun hb ⟨A1, n1, c1, b1, e, ⟨h1, r1⟩, eb⟩ => ⟨A1, n1, c1, b1, e, ⟨h1.keep (typeOwN_ok n) (fun k hk => hb k (by rw [eb]; simp [hk])), r1⟩, eb⟩⟩
theorem typeOw_ok : OwOk typeOw 3 := ⟨fun h => (typeOwN_ok _).len h, fun hb h => (typeOwN_ok _).keep hb h⟩
theorem typeOwN_reads (B : Nat) : ∀ n, Gives (typeOwN n) (typeRdN n) B
  | 0 => fun _ _ _ _ h _ => h.elim
  | n + 1 => fun _ _ _ _ ⟨A1, n1, c1, b1, e, ⟨h1, r1⟩, eb⟩ hb => ⟨A1, n1, c1, e, ⟨h1.reads (typeOwN_reads B n) (fun k hk => hb k (by rw [eb]; simp [hk])), r1⟩⟩
theorem typeOw_reads (B : Nat) : Gives typeOw typeRd B := fun w cs x bs h hb => typeOwN_reads B _ w cs x bs h hb
theorem typeOw_one : OneC typeOw := fun h u hu => by
  obtain ⟨A1, n1, c1, b1, e, _⟩ := (typeOw_out h)
  rw [e] at hu
  simp at hu
  rcases hu with rfl | rfl | rfl <;> rfl
structure DConstructor where
  name : ByteArray
  fields : List DType
instance : Inhabited DConstructor := ⟨⟨ByteArray.empty, []⟩⟩
def constructorRd : Rd DConstructor := fun w B cs x => ∃ (A1 : Option Addr) (n1 c1 : Nat), cs = [.string x.name, .slice A1 n1 c1] ∧ (SlAt typeRd 3 w B A1 n1 x.fields ∧ n1 ≤ c1 ∧ c1 ≤ maxLen)
def constructorOw : Ow DConstructor := fun w cs x bs => ∃ (A1 : Option Addr) (n1 c1 : Nat) (b1 : List Nat), cs = [.string x.name, .slice A1 n1 c1] ∧ (OwAt typeOw 3 w A1 n1 x.fields b1 ∧ n1 ≤ c1 ∧ c1 ≤ maxLen) ∧ bs = b1
theorem constructorRd_ok : RdOk constructorRd 2 :=
  ⟨fun h => by obtain ⟨A1, n1, c1, e, _⟩ := h; rw [e]; rfl,
   fun hk h => by obtain ⟨A1, n1, c1, e, ⟨h1, r1⟩⟩ := h; exact  ⟨A1, n1, c1, e, ⟨h1.keep typeRd_ok hk, r1⟩⟩,
   fun hB h => by obtain ⟨A1, n1, c1, e, ⟨h1, r1⟩⟩ := h; exact  ⟨A1, n1, c1, e, ⟨h1.more typeRd_ok hB, r1⟩⟩⟩
theorem constructorOw_ok : OwOk constructorOw 2 :=
  ⟨fun h => by obtain ⟨A1, n1, c1, b1, e, _⟩ := h; rw [e]; rfl,
   fun hb h => by obtain ⟨A1, n1, c1, b1, e, ⟨h1, r1⟩, eb⟩ := h; exact  ⟨A1, n1, c1, b1, e, ⟨h1.keep typeOw_ok (fun k hk => hb k (by rw [eb]; simp [hk])), r1⟩, eb⟩⟩
theorem constructorOw_reads (B : Nat) : Gives constructorOw constructorRd B := fun _ _ _ _ h hb => by
  obtain ⟨A1, n1, c1, b1, e, ⟨h1, r1⟩, eb⟩ := h
  exact  ⟨A1, n1, c1, e, ⟨h1.reads (typeOw_reads B) (fun k hk => hb k (by rw [eb]; simp [hk])), r1⟩⟩
theorem constructorOw_one : OneC constructorOw := fun h u hu => by
  obtain ⟨A1, n1, c1, b1, e, _⟩ := h
  rw [e] at hu
  simp at hu
  rcases hu with rfl | rfl <;> rfl
structure DData where
  name : ByteArray
  cons : List DConstructor
instance : Inhabited DData := ⟨⟨ByteArray.empty, []⟩⟩
def dataRd : Rd DData := fun w B cs x => ∃ (A1 : Option Addr) (n1 c1 : Nat), cs = [.string x.name, .slice A1 n1 c1] ∧ (SlAt constructorRd 2 w B A1 n1 x.cons ∧ n1 ≤ c1 ∧ c1 ≤ maxLen)
def dataOw : Ow DData := fun w cs x bs => ∃ (A1 : Option Addr) (n1 c1 : Nat) (b1 : List Nat), cs = [.string x.name, .slice A1 n1 c1] ∧ (OwAt constructorOw 2 w A1 n1 x.cons b1 ∧ n1 ≤ c1 ∧ c1 ≤ maxLen) ∧ bs = b1
theorem dataRd_ok : RdOk dataRd 2 :=
  ⟨fun h => by obtain ⟨A1, n1, c1, e, _⟩ := h; rw [e]; rfl,
   fun hk h => by obtain ⟨A1, n1, c1, e, ⟨h1, r1⟩⟩ := h; exact  ⟨A1, n1, c1, e, ⟨h1.keep constructorRd_ok hk, r1⟩⟩,
   fun hB h => by obtain ⟨A1, n1, c1, e, ⟨h1, r1⟩⟩ := h; exact  ⟨A1, n1, c1, e, ⟨h1.more constructorRd_ok hB, r1⟩⟩⟩
theorem dataOw_ok : OwOk dataOw 2 :=
  ⟨fun h => by obtain ⟨A1, n1, c1, b1, e, _⟩ := h; rw [e]; rfl,
   fun hb h => by obtain ⟨A1, n1, c1, b1, e, ⟨h1, r1⟩, eb⟩ := h; exact  ⟨A1, n1, c1, b1, e, ⟨h1.keep constructorOw_ok (fun k hk => hb k (by rw [eb]; simp [hk])), r1⟩, eb⟩⟩
theorem dataOw_reads (B : Nat) : Gives dataOw dataRd B := fun _ _ _ _ h hb => by
  obtain ⟨A1, n1, c1, b1, e, ⟨h1, r1⟩, eb⟩ := h
  exact  ⟨A1, n1, c1, e, ⟨h1.reads (constructorOw_reads B) (fun k hk => hb k (by rw [eb]; simp [hk])), r1⟩⟩
theorem dataOw_one : OneC dataOw := fun h u hu => by
  obtain ⟨A1, n1, c1, b1, e, _⟩ := h
  rw [e] at hu
  simp at hu
  rcases hu with rfl | rfl <;> rfl
structure DSignature where
  datas : List DData
  defs : List DType
instance : Inhabited DSignature := ⟨⟨[], []⟩⟩
def signatureRd : Rd DSignature := fun w B cs x => ∃ (A1 : Option Addr) (n1 c1 : Nat) (A2 : Option Addr) (n2 c2 : Nat), cs = [.slice A1 n1 c1, .slice A2 n2 c2] ∧ (SlAt dataRd 2 w B A1 n1 x.datas ∧ n1 ≤ c1 ∧ c1 ≤ maxLen) ∧ (SlAt typeRd 3 w B A2 n2 x.defs ∧ n2 ≤ c2 ∧ c2 ≤ maxLen)
def signatureOw : Ow DSignature := fun w cs x bs => ∃ (A1 : Option Addr) (n1 c1 : Nat) (A2 : Option Addr) (n2 c2 : Nat) (b1 b2 : List Nat), cs = [.slice A1 n1 c1, .slice A2 n2 c2] ∧ (OwAt dataOw 2 w A1 n1 x.datas b1 ∧ n1 ≤ c1 ∧ c1 ≤ maxLen) ∧ (OwAt typeOw 3 w A2 n2 x.defs b2 ∧ n2 ≤ c2 ∧ c2 ≤ maxLen) ∧ bs = b1 ++ b2
theorem signatureRd_ok : RdOk signatureRd 2 :=
  ⟨fun h => by obtain ⟨A1, n1, c1, A2, n2, c2, e, _⟩ := h; rw [e]; rfl,
   fun hk h => by obtain ⟨A1, n1, c1, A2, n2, c2, e, ⟨h1, r1⟩, ⟨h2, r2⟩⟩ := h; exact  ⟨A1, n1, c1, A2, n2, c2, e, ⟨h1.keep dataRd_ok hk, r1⟩, ⟨h2.keep typeRd_ok hk, r2⟩⟩,
   fun hB h => by obtain ⟨A1, n1, c1, A2, n2, c2, e, ⟨h1, r1⟩, ⟨h2, r2⟩⟩ := h; exact  ⟨A1, n1, c1, A2, n2, c2, e, ⟨h1.more dataRd_ok hB, r1⟩, ⟨h2.more typeRd_ok hB, r2⟩⟩⟩
theorem signatureOw_ok : OwOk signatureOw 2 :=
  ⟨fun h => by obtain ⟨A1, n1, c1, A2, n2, c2, b1, b2, e, _⟩ := h; rw [e]; rfl,
   fun hb h => by obtain ⟨A1, n1, c1, A2, n2, c2, b1, b2, e, ⟨h1, r1⟩, ⟨h2, r2⟩, eb⟩ := h; exact  ⟨A1, n1, c1, A2, n2, c2, b1, b2, e, ⟨h1.keep dataOw_ok (fun k hk => hb k (by rw [eb]; simp [hk])), r1⟩, ⟨h2.keep typeOw_ok (fun k hk => hb k (by rw [eb]; simp [hk])), r2⟩, eb⟩⟩
theorem signatureOw_reads (B : Nat) : Gives signatureOw signatureRd B := fun _ _ _ _ h hb => by
  obtain ⟨A1, n1, c1, A2, n2, c2, b1, b2, e, ⟨h1, r1⟩, ⟨h2, r2⟩, eb⟩ := h
  exact  ⟨A1, n1, c1, A2, n2, c2, e, ⟨h1.reads (dataOw_reads B) (fun k hk => hb k (by rw [eb]; simp [hk])), r1⟩, ⟨h2.reads (typeOw_reads B) (fun k hk => hb k (by rw [eb]; simp [hk])), r2⟩⟩
structure DTypedNet where
  net : DNet
  types : List (List DType)
instance : Inhabited DTypedNet := ⟨⟨⟨[]⟩, []⟩⟩
structure DCore where
  kind : Int
  value : Int
  data : List Int
  kids : List DCore
instance : Inhabited DCore := ⟨⟨0, 0, [], []⟩⟩
theorem DCore.kid_lt {x y : DCore} (h : y ∈ x.kids) : SizeOf.sizeOf y < SizeOf.sizeOf x := by
  have h1 := List.sizeOf_lt_of_mem h
  obtain ⟨a0, a1, a2, a3⟩ := x
  simp only [DCore.mk.sizeOf_spec] at *
  omega
theorem DCore.pos (x : DCore) : 0 < SizeOf.sizeOf x := by
  obtain ⟨a0, a1, a2, a3⟩ := x
  simp only [DCore.mk.sizeOf_spec]
  omega
end
section
open Go.RowKit
set_option linter.unusedVariables false
set_option linter.unusedSimpArgs false
set_option maxRecDepth 100000
noncomputable def m_laws_szTypeS_A1 (i3 : Int) : Option Int :=
  some i3
noncomputable def m_laws_szTypeS_B1 (self1 : DType → Int → Option Int) (d0 : List DType) (rec1 : Int → Int → Option Int) (K1 : Int → Option Int) (i5 : Int) (i6 : Int) : Option Int :=
  (bif (decide (i6 < (d0.length : Int))) then ((getI d0 i6).bind fun x9 => ((self1 x9 i5).bind fun y19 => (bif (decide (y19 < 0)) then some (-1) else (rec1 y19 (i6 + 1))))) else (K1 i5))
noncomputable def m_laws_szTypeS_L1 (self1 : DType → Int → Option Int) (d0 : List DType) (K1 : Int → Option Int) : Nat → Int → Int → Option Int
  | 0, _, _ => none
  | g + 1, i5, i6 => m_laws_szTypeS_B1 self1 d0 (m_laws_szTypeS_L1 self1 d0 K1 g) K1 i5 i6
noncomputable def m_laws_szTypeS_R (self0 : (List DType) → Int → Option Int) (self1 : DType → Int → Option Int) (d0 : List DType) (d1 : Int) : Option Int :=
  ((ck (d1 - (d0.length : Int))).bind fun s1 => (bif (decide (s1 < 0)) then some (-1) else (m_laws_szTypeS_L1 self1 d0 m_laws_szTypeS_A1 (d0.length + 1) s1 0)))
set_option maxHeartbeats 2000000 in
theorem c_m_laws_szTypeS_S (self0 : (List DType) → Int → Option Int) (self1 : DType → Int → Option Int) (ih0 : ∀ (d0 : List DType) (d1 : Int) (r : Int) (hm : self0 d0 d1 = some r) (v0 : Value) (w : World) (hv0 : Sl typeRd 3 w v0 d0), Calls Try.prog 60 #[v0, .int .i64 d1] w fun e w' => e = .returned (.int .i64 r) ∧ Below w.heap.size w w') (ih1 : ∀ (d0 : DType) (d1 : Int) (r : Int) (hm : self1 d0 d1 = some r) (v0 : Value) (w : World) (hv0 : St typeRd w v0 d0), Calls Try.prog 107 #[v0, .int .i64 d1] w fun e w' => e = .returned (.int .i64 r) ∧ Below w.heap.size w w') : ∀ (d0 : List DType) (d1 : Int) (r : Int) (hm : m_laws_szTypeS_R self0 self1 d0 d1 = some r) (v0 : Value) (w : World) (hv0 : Sl typeRd 3 w v0 d0),
    Calls Try.prog 60 #[v0, .int .i64 d1] w fun e w' => e = .returned (.int .i64 r) ∧ Below w.heap.size w w' := by
  intro d0 d1 r hm v0 w hv0
  obtain ⟨Aa0, na0, ca0, rfl, ha0, ra0⟩ := hv0
  have ea0 := ha0.len; subst ea0
  have qa0 := len_le ra0
  have T := Below.refl w.heap.size w
  unfold m_laws_szTypeS_R at hm
  refine enter 27 Try.func60 rfl rfl rfl ?_
  intro f hf
  have s0 : f 0 = .slice Aa0 d0.length ca0 := hf 0 _ rfl
  have s1 : f 1 = .int .i64 d1 := hf 1 _ rfl
  refine wp_seq ?_
  refine wp_rs rfl ?_
  refine RQ.y rfl (Y.assign (v := .int .i64 0) rfl) ?_
  refine RQ.nil ?_
  refine then_n ?_
  refine wp_seq ?_
  refine wp_rs rfl ?_
  refine RQ.y rfl (Y.move (v := .int .i64 d1) s1) ?_
  refine RQ.y rfl (Y.move (v := .slice Aa0 d0.length ca0) s0) ?_
  refine RQ.y rfl (Y.len (by kernel_rfl) rfl) ?_
  obtain ⟨s1, ks1, hm⟩ := bnd hm
  replace ks1 := ck_some ks1
  refine RQ.y rfl (Y.binI (v := .int .i64 s1) rfl rfl (by rw [binI_sub ks1.2, ks1.1])) ?_
  refine RQ.y rfl (Y.assign (v := .int .i64 s1) rfl) ?_
  refine RQ.nil ?_
  refine then_n ?_
  refine wp_seq ?_
  refine wp_seq ?_
  refine wp_rs rfl ?_
  refine RQ.y rfl (Y.move (v := .int .i64 s1) rfl) ?_
  refine RQ.y rfl (Y.binI (v := .bool (decide (s1 < 0))) rfl rfl rfl) ?_
  refine RQ.nil ?_
  refine then_n ?_
  rcases bcases (decide (s1 < 0)) with c2 | c2
  · replace hm := cF c2 hm
    have pc2 := of_decide_eq_false c2
    refine cond_f rfl (vb rfl c2) ?_
    refine wp_skip ?_
    refine then_n ?_
    refine wp_seq ?_
    refine wp_seq ?_
    refine wp_rs rfl ?_
    refine RQ.y rfl (Y.assign (v := .int .i64 0) rfl) ?_
    refine RQ.nil ?_
    refine then_n ?_
    refine wp_block ?_
    obtain ⟨K1, hK1, hm⟩ : ∃ K, K = m_laws_szTypeS_A1 ∧ m_laws_szTypeS_L1 self1 d0 K (d0.length + 1) s1 0 = some r := ⟨_, rfl, hm⟩
    refine wp_loopX (fun g f w' => ∃ (i5 : Int) (i6 : Int), f 0 = .slice Aa0 d0.length ca0 ∧ f 1 = .int .i64 i5 ∧ f 5 = .int .i64 i6 ∧ 0 ≤ i6 ∧ Below w.heap.size w w' ∧ m_laws_szTypeS_L1 self1 d0 K1 g i5 i6 = some r) 0 (fun f w' => ∃ (i3 : Int), f 1 = .int .i64 i3 ∧ Below w.heap.size w w' ∧ m_laws_szTypeS_A1 i3 = some r) (d0.length + 1) ⟨s1, 0, s0, rfl, rfl, (by omega), T, hm⟩ ?_ ?_
    · rintro f w4 ⟨i3, s1_1x, T, hm⟩
      unfold m_laws_szTypeS_A1 at hm
      refine blk_hit (then_n ?_)
      refine wp_seq ?_
      refine wp_rs rfl ?_
      refine RQ.y rfl (Y.move (v := .int .i64 i3) s1_1x) ?_
      refine RQ.y rfl (Y.assign (v := .int .i64 i3) rfl) ?_
      refine RQ.nil ?_
      refine then_n ?_
      refine wp_ret ?_
      obtain rfl := Option.some.inj hm
      exact (ret1 rfl rfl rfl ⟨rfl, T⟩)
    · rintro g f w7 ⟨i5, i6, s0_1, s1_1, s5_1, nn5_1, T, hm⟩
      rcases g with _ | g
      · simp only [m_laws_szTypeS_L1] at hm; cases hm
      obtain ⟨rec1, hrec1, hm⟩ : ∃ z, z = m_laws_szTypeS_L1 self1 d0 K1 g ∧ m_laws_szTypeS_B1 self1 d0 z K1 i5 i6 = some r := ⟨_, rfl, hm⟩
      unfold m_laws_szTypeS_B1 at hm
      refine wp_seq ?_
      refine wp_seq ?_
      refine wp_rs rfl ?_
      refine RQ.y rfl (Y.move (v := .int .i64 i6) s5_1) ?_
      refine RQ.y rfl (Y.move (v := .slice Aa0 d0.length ca0) s0_1) ?_
      refine RQ.y rfl (Y.len (by kernel_rfl) rfl) ?_
      refine RQ.y rfl (Y.binI (v := .bool (decide (i6 < (d0.length : Int)))) rfl rfl rfl) ?_
      refine RQ.nil ?_
      refine then_n ?_
      rcases bcases (decide (i6 < (d0.length : Int))) with c8 | c8
      · replace hm := cF c8 hm
        have pc8 := of_decide_eq_false c8
        refine cond_f rfl (vb rfl c8) ?_
        refine wp_exit ?_
        exact (then_x (then_x (hit_x ⟨_, rfl, ⟨i5, s1_1, T, (by rw [hK1] at hm; exact hm)⟩⟩)))
      · replace hm := cT c8 hm
        have pc8 := of_decide_eq_true c8
        refine cond_t rfl (vb rfl c8) ?_
        refine wp_skip ?_
        refine then_n ?_
        refine wp_seq ?_
        refine wp_block ?_
        refine wp_seq ?_
        refine wp_rb rfl ?_
        refine RQ.y rfl (Y.move (v := .slice Aa0 d0.length ca0) s0_1) ?_
        refine RQ.y rfl (Y.move (v := .int .i64 i6) s5_1) ?_
        obtain ⟨x9, hx12, hm⟩ := bnd hm
        obtain ⟨k10, hk13, hl14, hx12⟩ := getI_some hx12
        obtain ⟨b16, o17, rfl, hbb16⟩ := ha0.addr (by omega)
        obtain ⟨cs11, hRcs11, hc15⟩ := ha0.el hx12
        have hScs11 := hRcs11
        obtain ⟨A18, n18, c18, rfl, ⟨h18, r18⟩⟩ := (typeRd_out hRcs11)
        have e18 := h18.len; subst e18
        have q18 := len_le r18
        refine RQ.y rfl (Y.indexAddr (m := k10) (sz := 3) rfl rfl hk13 hl14 (by kernel_rfl)) ?_
        refine RQ.y rfl (Y.loadN (cs := [.int .i64 x9.kind, .string x9.name, .slice A18 x9.kids.length c18]) rfl (by kernel_rfl) (cells3 (beC (cellT T (hc15 0 _ rfl))) (beC (cellT T (hc15 1 _ rfl))) (beC (cellT T (hc15 2 _ rfl))))) ?_
        refine RQ.y rfl (Y.move (v := .int .i64 i5) s1_1) ?_
        obtain ⟨y19, e20, hm⟩ := bnd hm
        refine RQ.call rfl (am2 rfl rfl) (by kernel_rfl) (v := .int .i64 y19) (bel (K := fun _ => True) fun w' hb' => (ih1 x9 i5 _ e20 _ w' (stArg (R := typeRd) (typeRd_in ⟨_, _, _, rfl, ⟨SlAt.now typeRd_ok h18 (Nat.le_refl _) (Tt T hb'), r18⟩⟩)))) ?_
        refine RQ.y rfl (Y.assign (v := .int .i64 y19) rfl) ?_
        refine RQ.nil ?_
        intro w21 hb22
        have szw21 := hb22.size
        have T := Tt T hb22
        refine then_n ?_
        refine wp_seq ?_
        refine wp_rs rfl ?_
        refine RQ.y rfl (Y.move (v := .int .i64 y19) rfl) ?_
        refine RQ.y rfl (Y.binI (v := .bool (decide (y19 < 0))) rfl rfl rfl) ?_
        refine RQ.nil ?_
        refine then_n ?_
        rcases bcases (decide (y19 < 0)) with c23 | c23
        · replace hm := cF c23 hm
          have pc23 := of_decide_eq_false c23
          refine cond_f rfl (vb rfl c23) ?_
          refine wp_skip ?_
          refine blk_n (then_n ?_)
          refine wp_rs rfl ?_
          refine RQ.y rfl (Y.move (v := .int .i64 i6) s5_1) ?_
          refine RQ.y rfl (Y.binI rfl rfl (binI_add (m := i6) (by omega))) ?_
          refine RQ.y rfl (Y.assign (v := .int .i64 (i6 + 1)) rfl) ?_
          refine RQ.nil ?_
          exact (then_n ⟨g, _, Nat.lt_succ_self _, rfl, ⟨y19, (i6 + 1), s0_1, rfl, rfl, (by omega), T, (by rw [← hrec1]; exact hm)⟩⟩)
        · replace hm := cT c23 hm
          have pc23 := of_decide_eq_true c23
          refine cond_t rfl (vb rfl c23) ?_
          refine wp_seq ?_
          refine wp_rs rfl ?_
          refine RQ.y rfl (Y.assign (v := .int .i64 (-1)) rfl) ?_
          refine RQ.nil ?_
          refine then_n ?_
          refine wp_ret ?_
          obtain rfl := Option.some.inj hm
          exact (blk_r (then_r (then_r (hit_r (blk_r (then_r (ret1 rfl rfl rfl ⟨rfl, T⟩)))))))
  · replace hm := cT c2 hm
    have pc2 := of_decide_eq_true c2
    refine cond_t rfl (vb rfl c2) ?_
    refine wp_seq ?_
    refine wp_rs rfl ?_
    refine RQ.y rfl (Y.assign (v := .int .i64 (-1)) rfl) ?_
    refine RQ.nil ?_
    refine then_n ?_
    refine wp_ret ?_
    obtain rfl := Option.some.inj hm
    exact (then_r (ret1 rfl rfl rfl ⟨rfl, T⟩))
noncomputable def m_laws_szType_R (self0 : (List DType) → Int → Option Int) (self1 : DType → Int → Option Int) (d0 : DType) (d1 : Int) : Option Int :=
  ((ck (d1 - (d0.name.size : Int))).bind fun s6 => (bif (decide (s6 < 0)) then some (-1) else ((self0 d0.kids s6).bind fun y8 => (bif (decide (y8 < 0)) then some (-1) else some y8))))
set_option maxHeartbeats 2000000 in
theorem c_m_laws_szType_S (self0 : (List DType) → Int → Option Int) (self1 : DType → Int → Option Int) (ih0 : ∀ (d0 : List DType) (d1 : Int) (r : Int) (hm : self0 d0 d1 = some r) (v0 : Value) (w : World) (hv0 : Sl typeRd 3 w v0 d0), Calls Try.prog 60 #[v0, .int .i64 d1] w fun e w' => e = .returned (.int .i64 r) ∧ Below w.heap.size w w') (ih1 : ∀ (d0 : DType) (d1 : Int) (r : Int) (hm : self1 d0 d1 = some r) (v0 : Value) (w : World) (hv0 : St typeRd w v0 d0), Calls Try.prog 107 #[v0, .int .i64 d1] w fun e w' => e = .returned (.int .i64 r) ∧ Below w.heap.size w w') : ∀ (d0 : DType) (d1 : Int) (r : Int) (hm : m_laws_szType_R self0 self1 d0 d1 = some r) (v0 : Value) (w : World) (hv0 : St typeRd w v0 d0),
    Calls Try.prog 107 #[v0, .int .i64 d1] w fun e w' => e = .returned (.int .i64 r) ∧ Below w.heap.size w w' := by
  intro d0 d1 r hm v0 w hv0
  obtain ⟨csa0, rfl, hRR0⟩ := hv0
  obtain ⟨A1, n1, c1, rfl, ⟨h1, r1⟩⟩ := (typeRd_out hRR0)
  have e1 := h1.len; subst e1
  have q1 := len_le r1
  have T := Below.refl w.heap.size w
  unfold m_laws_szType_R at hm
  refine enter 19 Try.func107 rfl rfl rfl ?_
  intro f hf
  have s0 : f 0 = .agg #[.int .i64 d0.kind, .string d0.name, .slice A1 d0.kids.length c1] := hf 0 _ rfl
  have s1 : f 1 = .int .i64 d1 := hf 1 _ rfl
  refine wp_seq ?_
  refine wp_rl rfl ?_
  refine RL.box rfl s0 (fun w2 B3 hb4 szw2 => ?_)
  replace B3 : Blk w2 w.heap.size 155 #[.int .i64 d0.kind, .string d0.name, .slice A1 d0.kids.length c1] := B3
  have GB3 : w.heap.size ≤ w.heap.size := T.size
  have T := Tt T hb4
  refine RL.y rfl (Y.assign (v := .int .i64 0) rfl) ?_
  refine RL.nil ?_
  refine then_n ?_
  refine wp_seq ?_
  refine wp_rs rfl ?_
  refine RQ.y rfl (Y.move (v := .int .i64 d1) s1) ?_
  refine RQ.y rfl (Y.fieldAddr (off := 1) rfl (by kernel_rfl)) ?_
  refine RQ.y rfl (Y.load (v := .string d0.name) rfl (by kernel_rfl) (eqC (blkCell B3 (i := 1) rfl))) ?_
  refine RQ.y rfl (Y.lenS (by kernel_rfl) rfl) ?_
  obtain ⟨s6, ks6, hm⟩ := bnd hm
  replace ks6 := ck_some ks6
  refine RQ.y rfl (Y.binI (v := .int .i64 s6) rfl rfl (by rw [binI_sub ks6.2, ks6.1])) ?_
  refine RQ.y rfl (Y.assign (v := .int .i64 s6) rfl) ?_
  refine RQ.nil ?_
  refine then_n ?_
  refine wp_seq ?_
  refine wp_seq ?_
  refine wp_rs rfl ?_
  refine RQ.y rfl (Y.move (v := .int .i64 s6) rfl) ?_
  refine RQ.y rfl (Y.binI (v := .bool (decide (s6 < 0))) rfl rfl rfl) ?_
  refine RQ.nil ?_
  refine then_n ?_
  rcases bcases (decide (s6 < 0)) with c7 | c7
  · replace hm := cF c7 hm
    have pc7 := of_decide_eq_false c7
    refine cond_f rfl (vb rfl c7) ?_
    refine wp_skip ?_
    refine then_n ?_
    refine wp_seq ?_
    refine wp_rb rfl ?_
    refine RQ.y rfl (Y.fieldAddr (off := 2) rfl (by kernel_rfl)) ?_
    refine RQ.y rfl (Y.load (v := .slice A1 d0.kids.length c1) rfl (by kernel_rfl) (beC (blkCell B3 (i := 2) rfl))) ?_
    refine RQ.y rfl (Y.move (v := .int .i64 s6) rfl) ?_
    obtain ⟨y8, e9, hm⟩ := bnd hm
    refine RQ.call rfl (am2 rfl rfl) (by kernel_rfl) (v := .int .i64 y8) (bel (K := fun _ => True) fun w' hb' => (ih0 d0.kids s6 _ e9 _ w' (slArg typeRd_ok h1 r1 (Tt T hb')))) ?_
    refine RQ.y rfl (Y.assign (v := .int .i64 y8) rfl) ?_
    refine RQ.nil ?_
    intro w10 hb11
    have szw10 := hb11.size
    have T := Tt T hb11
    refine then_n ?_
    refine wp_seq ?_
    refine wp_seq ?_
    refine wp_rs rfl ?_
    refine RQ.y rfl (Y.move (v := .int .i64 y8) rfl) ?_
    refine RQ.y rfl (Y.binI (v := .bool (decide (y8 < 0))) rfl rfl rfl) ?_
    refine RQ.nil ?_
    refine then_n ?_
    rcases bcases (decide (y8 < 0)) with c12 | c12
    · replace hm := cF c12 hm
      have pc12 := of_decide_eq_false c12
      refine cond_f rfl (vb rfl c12) ?_
      refine wp_skip ?_
      refine then_n ?_
      refine wp_seq ?_
      refine wp_rs rfl ?_
      refine RQ.y rfl (Y.move (v := .int .i64 y8) rfl) ?_
      refine RQ.y rfl (Y.assign (v := .int .i64 y8) rfl) ?_
      refine RQ.nil ?_
      refine then_n ?_
      refine wp_ret ?_
      obtain rfl := Option.some.inj hm
      exact (ret1 rfl rfl rfl ⟨rfl, T⟩)
    · replace hm := cT c12 hm
      have pc12 := of_decide_eq_true c12
      refine cond_t rfl (vb rfl c12) ?_
      refine wp_seq ?_
      refine wp_rs rfl ?_
      refine RQ.y rfl (Y.assign (v := .int .i64 (-1)) rfl) ?_
      refine RQ.nil ?_
      refine then_n ?_
      refine wp_ret ?_
      obtain rfl := Option.some.inj hm
      exact (then_r (ret1 rfl rfl rfl ⟨rfl, T⟩))
  · replace hm := cT c7 hm
    have pc7 := of_decide_eq_true c7
    refine cond_t rfl (vb rfl c7) ?_
    refine wp_seq ?_
    refine wp_rs rfl ?_
    refine RQ.y rfl (Y.assign (v := .int .i64 (-1)) rfl) ?_
    refine RQ.nil ?_
    refine then_n ?_
    refine wp_ret ?_
    obtain rfl := Option.some.inj hm
    exact (then_r (ret1 rfl rfl rfl ⟨rfl, T⟩))
noncomputable def g_m_laws_szTypeS : Nat → ((List DType) → Int → Option Int) × (DType → Int → Option Int)
  | 0 => (fun _ _ => none, fun _ _ => none)
  | gas + 1 => (m_laws_szTypeS_R (g_m_laws_szTypeS gas).1 (g_m_laws_szTypeS gas).2, m_laws_szType_R (g_m_laws_szTypeS gas).1 (g_m_laws_szTypeS gas).2)
noncomputable def m_laws_szTypeS (gas : Nat) : (List DType) → Int → Option Int := (g_m_laws_szTypeS gas).1
noncomputable def m_laws_szType (gas : Nat) : DType → Int → Option Int := (g_m_laws_szTypeS gas).2
theorem c_g_m_laws_szTypeS : ∀ gas : Nat, (∀ (d0 : List DType) (d1 : Int) (r : Int) (hm : m_laws_szTypeS gas d0 d1 = some r) (v0 : Value) (w : World) (hv0 : Sl typeRd 3 w v0 d0), Calls Try.prog 60 #[v0, .int .i64 d1] w fun e w' => e = .returned (.int .i64 r) ∧ Below w.heap.size w w') ∧ (∀ (d0 : DType) (d1 : Int) (r : Int) (hm : m_laws_szType gas d0 d1 = some r) (v0 : Value) (w : World) (hv0 : St typeRd w v0 d0), Calls Try.prog 107 #[v0, .int .i64 d1] w fun e w' => e = .returned (.int .i64 r) ∧ Below w.heap.size w w') := by
  intro gas
  induction gas with
  | zero => exact ⟨(fun _ _ r hm => by have h0 : (none : Option _) = some r := hm; cases h0), (fun _ _ r hm => by have h0 : (none : Option _) = some r := hm; cases h0)⟩
  | succ gas ih => exact ⟨c_m_laws_szTypeS_S _ _ (ih).1 (ih).2, c_m_laws_szType_S _ _ (ih).1 (ih).2⟩
theorem c_m_laws_szTypeS (gas : Nat) : ∀ (d0 : List DType) (d1 : Int) (r : Int) (hm : m_laws_szTypeS gas d0 d1 = some r) (v0 : Value) (w : World) (hv0 : Sl typeRd 3 w v0 d0), Calls Try.prog 60 #[v0, .int .i64 d1] w fun e w' => e = .returned (.int .i64 r) ∧ Below w.heap.size w w' := (c_g_m_laws_szTypeS gas).1
noncomputable def m_laws_eqTypeS_A1 : Option Bool :=
  some true
noncomputable def m_laws_eqTypeS_B1 (self1 : DType → DType → Option Bool) (d0 : List DType) (d1 : List DType) (rec1 : Int → Option Bool) (K1 : Option Bool) (i3 : Int) : Option Bool :=
  (bif (decide (i3 < (d0.length : Int))) then ((getI d0 i3).bind fun x6 => ((getI d1 i3).bind fun x16 => ((self1 x6 x16).bind fun y26 => (bif y26 then (rec1 (i3 + 1)) else some false)))) else (K1))
noncomputable def m_laws_eqTypeS_L1 (self1 : DType → DType → Option Bool) (d0 : List DType) (d1 : List DType) (K1 : Option Bool) : Nat → Int → Option Bool
  | 0, _ => none
  | g + 1, i3 => m_laws_eqTypeS_B1 self1 d0 d1 (m_laws_eqTypeS_L1 self1 d0 d1 K1 g) K1 i3
noncomputable def m_laws_eqTypeS_R (self0 : (List DType) → (List DType) → Option Bool) (self1 : DType → DType → Option Bool) (d0 : List DType) (d1 : List DType) : Option Bool :=
  (bif ((d0.length : Int) != (d1.length : Int)) then some false else (m_laws_eqTypeS_L1 self1 d0 d1 m_laws_eqTypeS_A1 (d0.length + 1) 0))
set_option maxHeartbeats 2000000 in
theorem c_m_laws_eqTypeS_S (self0 : (List DType) → (List DType) → Option Bool) (self1 : DType → DType → Option Bool) (ih0 : ∀ (d0 : List DType) (d1 : List DType) (r : Bool) (hm : self0 d0 d1 = some r) (v0 : Value) (v1 : Value) (w : World) (hv0 : Sl typeRd 3 w v0 d0) (hv1 : Sl typeRd 3 w v1 d1), Calls Try.prog 70 #[v0, v1] w fun e w' => e = .returned (.bool r) ∧ Below w.heap.size w w') (ih1 : ∀ (d0 : DType) (d1 : DType) (r : Bool) (hm : self1 d0 d1 = some r) (v0 : Value) (v1 : Value) (w : World) (hv0 : St typeRd w v0 d0) (hv1 : St typeRd w v1 d1), Calls Try.prog 117 #[v0, v1] w fun e w' => e = .returned (.bool r) ∧ Below w.heap.size w w') : ∀ (d0 : List DType) (d1 : List DType) (r : Bool) (hm : m_laws_eqTypeS_R self0 self1 d0 d1 = some r) (v0 : Value) (v1 : Value) (w : World) (hv0 : Sl typeRd 3 w v0 d0) (hv1 : Sl typeRd 3 w v1 d1),
    Calls Try.prog 70 #[v0, v1] w fun e w' => e = .returned (.bool r) ∧ Below w.heap.size w w' := by
  intro d0 d1 r hm v0 v1 w hv0 hv1
  obtain ⟨Aa0, na0, ca0, rfl, ha0, ra0⟩ := hv0
  have ea0 := ha0.len; subst ea0
  have qa0 := len_le ra0
  obtain ⟨Aa1, na1, ca1, rfl, ha1, ra1⟩ := hv1
  have ea1 := ha1.len; subst ea1
  have qa1 := len_le ra1
  have T := Below.refl w.heap.size w
  unfold m_laws_eqTypeS_R at hm
  refine enter 27 Try.func70 rfl rfl rfl ?_
  intro f hf
  have s0 : f 0 = .slice Aa0 d0.length ca0 := hf 0 _ rfl
  have s1 : f 1 = .slice Aa1 d1.length ca1 := hf 1 _ rfl
  refine wp_seq ?_
  refine wp_rs rfl ?_
  refine RQ.y rfl (Y.assign (v := .bool false) rfl) ?_
  refine RQ.nil ?_
  refine then_n ?_
  refine wp_seq ?_
  refine wp_seq ?_
  refine wp_rs rfl ?_
  refine RQ.y rfl (Y.move (v := .slice Aa0 d0.length ca0) s0) ?_
  refine RQ.y rfl (Y.len (by kernel_rfl) rfl) ?_
  refine RQ.y rfl (Y.move (v := .slice Aa1 d1.length ca1) s1) ?_
  refine RQ.y rfl (Y.len (by kernel_rfl) rfl) ?_
  refine RQ.y rfl (Y.binI (v := .bool ((d0.length : Int) != (d1.length : Int))) rfl rfl rfl) ?_
  refine RQ.nil ?_
  refine then_n ?_
  rcases bcases ((d0.length : Int) != (d1.length : Int)) with c1 | c1
  · replace hm := cF c1 hm
    refine cond_f rfl (vb rfl c1) ?_
    refine wp_skip ?_
    refine then_n ?_
    refine wp_seq ?_
    refine wp_seq ?_
    refine wp_rs rfl ?_
    refine RQ.y rfl (Y.assign (v := .int .i64 0) rfl) ?_
    refine RQ.nil ?_
    refine then_n ?_
    refine wp_block ?_
    obtain ⟨K1, hK1, hm⟩ : ∃ K, K = m_laws_eqTypeS_A1 ∧ m_laws_eqTypeS_L1 self1 d0 d1 K (d0.length + 1) 0 = some r := ⟨_, rfl, hm⟩
    refine wp_loopX (fun g f w' => ∃ (i3 : Int), f 0 = .slice Aa0 d0.length ca0 ∧ f 1 = .slice Aa1 d1.length ca1 ∧ f 5 = .int .i64 i3 ∧ 0 ≤ i3 ∧ Below w.heap.size w w' ∧ m_laws_eqTypeS_L1 self1 d0 d1 K1 g i3 = some r) 0 (fun f w' => Below w.heap.size w w' ∧ m_laws_eqTypeS_A1  = some r) (d0.length + 1) ⟨0, s0, s1, rfl, (by omega), T, hm⟩ ?_ ?_
    · rintro f w2 ⟨T, hm⟩
      unfold m_laws_eqTypeS_A1 at hm
      refine blk_hit (then_n ?_)
      refine wp_seq ?_
      refine wp_rs rfl ?_
      refine RQ.y rfl (Y.assign (v := .bool true) rfl) ?_
      refine RQ.nil ?_
      refine then_n ?_
      refine wp_ret ?_
      obtain rfl := Option.some.inj hm
      exact (ret1 rfl rfl rfl ⟨rfl, T⟩)
    · rintro g f w4 ⟨i3, s0_1, s1_1, s5_1, nn5_1, T, hm⟩
      rcases g with _ | g
      · simp only [m_laws_eqTypeS_L1] at hm; cases hm
      obtain ⟨rec1, hrec1, hm⟩ : ∃ z, z = m_laws_eqTypeS_L1 self1 d0 d1 K1 g ∧ m_laws_eqTypeS_B1 self1 d0 d1 z K1 i3 = some r := ⟨_, rfl, hm⟩
      unfold m_laws_eqTypeS_B1 at hm
      refine wp_seq ?_
      refine wp_seq ?_
      refine wp_rs rfl ?_
      refine RQ.y rfl (Y.move (v := .int .i64 i3) s5_1) ?_
      refine RQ.y rfl (Y.move (v := .slice Aa0 d0.length ca0) s0_1) ?_
      refine RQ.y rfl (Y.len (by kernel_rfl) rfl) ?_
      refine RQ.y rfl (Y.binI (v := .bool (decide (i3 < (d0.length : Int)))) rfl rfl rfl) ?_
      refine RQ.nil ?_
      refine then_n ?_
      rcases bcases (decide (i3 < (d0.length : Int))) with c5 | c5
      · replace hm := cF c5 hm
        have pc5 := of_decide_eq_false c5
        refine cond_f rfl (vb rfl c5) ?_
        refine wp_exit ?_
        exact (then_x (then_x (hit_x ⟨_, rfl, ⟨T, (by rw [hK1] at hm; exact hm)⟩⟩)))
      · replace hm := cT c5 hm
        have pc5 := of_decide_eq_true c5
        refine cond_t rfl (vb rfl c5) ?_
        refine wp_skip ?_
        refine then_n ?_
        refine wp_seq ?_
        refine wp_block ?_
        refine wp_seq ?_
        refine wp_rbd (by kernel_rfl) (by kernel_rfl) ?_
        refine RQ.y rfl (Y.move (v := .slice Aa0 d0.length ca0) s0_1) ?_
        refine RQ.y rfl (Y.move (v := .int .i64 i3) s5_1) ?_
        obtain ⟨x6, hx9, hm⟩ := bnd hm
        obtain ⟨k7, hk10, hl11, hx9⟩ := getI_some hx9
        obtain ⟨b13, o14, rfl, hbb13⟩ := ha0.addr (by omega)
        obtain ⟨cs8, hRcs8, hc12⟩ := ha0.el hx9
        have hScs8 := hRcs8
        obtain ⟨A15, n15, c15, rfl, ⟨h15, r15⟩⟩ := (typeRd_out hRcs8)
        have e15 := h15.len; subst e15
        have q15 := len_le r15
        refine RQ.y rfl (Y.indexAddr (m := k7) (sz := 3) rfl rfl hk10 hl11 (by kernel_rfl)) ?_
        refine RQ.y rfl (Y.loadN (cs := [.int .i64 x6.kind, .string x6.name, .slice A15 x6.kids.length c15]) rfl (by kernel_rfl) (cells3 (beC (cellT T (hc12 0 _ rfl))) (beC (cellT T (hc12 1 _ rfl))) (beC (cellT T (hc12 2 _ rfl))))) ?_
        refine RQ.y rfl (Y.move (v := .slice Aa1 d1.length ca1) s1_1) ?_
        refine RQ.y rfl (Y.move (v := .int .i64 i3) s5_1) ?_
        obtain ⟨x16, hx19, hm⟩ := bnd hm
        obtain ⟨k17, hk20, hl21, hx19⟩ := getI_some hx19
        obtain ⟨b23, o24, rfl, hbb23⟩ := ha1.addr (by omega)
        obtain ⟨cs18, hRcs18, hc22⟩ := ha1.el hx19
        have hScs18 := hRcs18
        obtain ⟨A25, n25, c25, rfl, ⟨h25, r25⟩⟩ := (typeRd_out hRcs18)
        have e25 := h25.len; subst e25
        have q25 := len_le r25
        refine RQ.y rfl (Y.indexAddr (m := k17) (sz := 3) rfl rfl hk20 hl21 (by kernel_rfl)) ?_
        refine RQ.y rfl (Y.loadN (cs := [.int .i64 x16.kind, .string x16.name, .slice A25 x16.kids.length c25]) rfl (by kernel_rfl) (cells3 (beC (cellT T (hc22 0 _ rfl))) (beC (cellT T (hc22 1 _ rfl))) (beC (cellT T (hc22 2 _ rfl))))) ?_
        obtain ⟨y26, e27, hm⟩ := bnd hm
        refine RQ.call rfl (am2 rfl rfl) (by kernel_rfl) (v := .bool y26) (bel (K := fun _ => True) fun w' hb' => (ih1 x6 x16 _ e27 _ _ w' (stArg (R := typeRd) (typeRd_in ⟨_, _, _, rfl, ⟨SlAt.now typeRd_ok h15 (Nat.le_refl _) (Tt T hb'), r15⟩⟩)) (stArg (R := typeRd) (typeRd_in ⟨_, _, _, rfl, ⟨SlAt.now typeRd_ok h25 (Nat.le_refl _) (Tt T hb'), r25⟩⟩)))) ?_
        refine RQ.y rfl (Y.not (b' := (!y26)) rfl rfl) ?_
        refine RQ.nil ?_
        intro w28 hb29
        have szw28 := hb29.size
        have T := Tt T hb29
        refine then_n ?_
        rcases bcases y26 with c30 | c30
        · replace hm := cF c30 hm
          refine cond_t rfl (vbn rfl c30 rfl) ?_
          refine wp_seq ?_
          refine wp_rs rfl ?_
          refine RQ.y rfl (Y.assign (v := .bool false) rfl) ?_
          refine RQ.nil ?_
          refine then_n ?_
          refine wp_ret ?_
          obtain rfl := Option.some.inj hm
          exact (blk_r (then_r (then_r (hit_r (blk_r (then_r (ret1 rfl rfl rfl ⟨rfl, T⟩)))))))
        · replace hm := cT c30 hm
          refine cond_f rfl (vbn rfl c30 rfl) ?_
          refine wp_skip ?_
          refine blk_n (then_n ?_)
          refine wp_rs rfl ?_
          refine RQ.y rfl (Y.move (v := .int .i64 i3) s5_1) ?_
          refine RQ.y rfl (Y.binI rfl rfl (binI_add (m := i3) (by omega))) ?_
          refine RQ.y rfl (Y.assign (v := .int .i64 (i3 + 1)) rfl) ?_
          refine RQ.nil ?_
          exact (then_n ⟨g, _, Nat.lt_succ_self _, rfl, ⟨(i3 + 1), s0_1, s1_1, rfl, (by omega), T, (by rw [← hrec1]; exact hm)⟩⟩)
  · replace hm := cT c1 hm
    refine cond_t rfl (vb rfl c1) ?_
    refine wp_seq ?_
    refine wp_rs rfl ?_
    refine RQ.y rfl (Y.assign (v := .bool false) rfl) ?_
    refine RQ.nil ?_
    refine then_n ?_
    refine wp_ret ?_
    obtain rfl := Option.some.inj hm
    exact (then_r (ret1 rfl rfl rfl ⟨rfl, T⟩))
noncomputable def m_laws_eqType_R (self0 : (List DType) → (List DType) → Option Bool) (self1 : DType → DType → Option Bool) (d0 : DType) (d1 : DType) : Option Bool :=
  (bif (d0.kind != d1.kind) then some false else (bif (d0.name.toList == d1.name.toList) then ((self0 d0.kids d1.kids).bind fun y13 => (bif y13 then some true else some false)) else some false))
set_option maxHeartbeats 2000000 in
theorem c_m_laws_eqType_S (self0 : (List DType) → (List DType) → Option Bool) (self1 : DType → DType → Option Bool) (ih0 : ∀ (d0 : List DType) (d1 : List DType) (r : Bool) (hm : self0 d0 d1 = some r) (v0 : Value) (v1 : Value) (w : World) (hv0 : Sl typeRd 3 w v0 d0) (hv1 : Sl typeRd 3 w v1 d1), Calls Try.prog 70 #[v0, v1] w fun e w' => e = .returned (.bool r) ∧ Below w.heap.size w w') (ih1 : ∀ (d0 : DType) (d1 : DType) (r : Bool) (hm : self1 d0 d1 = some r) (v0 : Value) (v1 : Value) (w : World) (hv0 : St typeRd w v0 d0) (hv1 : St typeRd w v1 d1), Calls Try.prog 117 #[v0, v1] w fun e w' => e = .returned (.bool r) ∧ Below w.heap.size w w') : ∀ (d0 : DType) (d1 : DType) (r : Bool) (hm : m_laws_eqType_R self0 self1 d0 d1 = some r) (v0 : Value) (v1 : Value) (w : World) (hv0 : St typeRd w v0 d0) (hv1 : St typeRd w v1 d1),
    Calls Try.prog 117 #[v0, v1] w fun e w' => e = .returned (.bool r) ∧ Below w.heap.size w w' := by
  intro d0 d1 r hm v0 v1 w hv0 hv1
  obtain ⟨csa0, rfl, hRR0⟩ := hv0
  obtain ⟨A1, n1, c1, rfl, ⟨h1, r1⟩⟩ := (typeRd_out hRR0)
  have e1 := h1.len; subst e1
  have q1 := len_le r1
  obtain ⟨csa1, rfl, hRR1⟩ := hv1
  obtain ⟨A2, n2, c2, rfl, ⟨h2, r2⟩⟩ := (typeRd_out hRR1)
  have e2 := h2.len; subst e2
  have q2 := len_le r2
  have T := Below.refl w.heap.size w
  unfold m_laws_eqType_R at hm
  refine enter 21 Try.func117 rfl rfl rfl ?_
  intro f hf
  have s0 : f 0 = .agg #[.int .i64 d0.kind, .string d0.name, .slice A1 d0.kids.length c1] := hf 0 _ rfl
  have s1 : f 1 = .agg #[.int .i64 d1.kind, .string d1.name, .slice A2 d1.kids.length c2] := hf 1 _ rfl
  refine wp_seq ?_
  refine wp_rl rfl ?_
  refine RL.box rfl s0 (fun w3 B4 hb5 szw3 => ?_)
  replace B4 : Blk w3 w.heap.size 110 #[.int .i64 d0.kind, .string d0.name, .slice A1 d0.kids.length c1] := B4
  have GB4 : w.heap.size ≤ w.heap.size := T.size
  have T := Tt T hb5
  refine RL.box rfl s1 (fun w7 B8 hb9 szw7 => ?_)
  replace B8 : Blk w7 w3.heap.size 110 #[.int .i64 d1.kind, .string d1.name, .slice A2 d1.kids.length c2] := B8
  have GB8 : w.heap.size ≤ w3.heap.size := T.size
  have Eob10_ob6 := Nat.ne_of_lt B4.lt
  have B4 := blkT B4 hb9
  have T := Tt T hb9
  refine RL.y rfl (Y.assign (v := .bool false) rfl) ?_
  refine RL.nil ?_
  refine then_n ?_
  refine wp_seq ?_
  refine wp_seq ?_
  refine wp_rs rfl ?_
  refine RQ.y rfl (Y.fieldAddr (off := 0) rfl (by kernel_rfl)) ?_
  refine RQ.y rfl (Y.load (v := .int .i64 d0.kind) rfl (by kernel_rfl) (eqC (blkCell B4 (i := 0) rfl))) ?_
  refine RQ.y rfl (Y.fieldAddr (off := 0) rfl (by kernel_rfl)) ?_
  refine RQ.y rfl (Y.load (v := .int .i64 d1.kind) rfl (by kernel_rfl) (eqC (blkCell B8 (i := 0) rfl))) ?_
  refine RQ.y rfl (Y.binI (v := .bool (d0.kind != d1.kind)) rfl rfl rfl) ?_
  refine RQ.nil ?_
  refine then_n ?_
  rcases bcases (d0.kind != d1.kind) with c11 | c11
  · replace hm := cF c11 hm
    refine cond_f rfl (vb rfl c11) ?_
    refine wp_skip ?_
    refine then_n ?_
    refine wp_seq ?_
    refine wp_seq ?_
    refine wp_rs rfl ?_
    refine RQ.y rfl (Y.fieldAddr (off := 1) rfl (by kernel_rfl)) ?_
    refine RQ.y rfl (Y.load (v := .string d0.name) rfl (by kernel_rfl) (eqC (blkCell B4 (i := 1) rfl))) ?_
    refine RQ.y rfl (Y.fieldAddr (off := 1) rfl (by kernel_rfl)) ?_
    refine RQ.y rfl (Y.load (v := .string d1.name) rfl (by kernel_rfl) (eqC (blkCell B8 (i := 1) rfl))) ?_
    refine RQ.y rfl (Y.neStr rfl rfl (by kernel_rfl)) ?_
    refine RQ.nil ?_
    refine then_n ?_
    rcases bcases (d0.name.toList == d1.name.toList) with c12 | c12
    · replace hm := cF c12 hm
      refine cond_t rfl (vbn rfl c12 rfl) ?_
      refine wp_seq ?_
      refine wp_rs rfl ?_
      refine RQ.y rfl (Y.assign (v := .bool false) rfl) ?_
      refine RQ.nil ?_
      refine then_n ?_
      refine wp_ret ?_
      obtain rfl := Option.some.inj hm
      exact (then_r (ret1 rfl rfl rfl ⟨rfl, T⟩))
    · replace hm := cT c12 hm
      refine cond_f rfl (vbn rfl c12 rfl) ?_
      refine wp_skip ?_
      refine then_n ?_
      refine wp_seq ?_
      refine wp_seq ?_
      refine wp_rb rfl ?_
      refine RQ.y rfl (Y.fieldAddr (off := 2) rfl (by kernel_rfl)) ?_
      refine RQ.y rfl (Y.load (v := .slice A1 d0.kids.length c1) rfl (by kernel_rfl) (beC (blkCell B4 (i := 2) rfl))) ?_
      refine RQ.y rfl (Y.fieldAddr (off := 2) rfl (by kernel_rfl)) ?_
      refine RQ.y rfl (Y.load (v := .slice A2 d1.kids.length c2) rfl (by kernel_rfl) (beC (blkCell B8 (i := 2) rfl))) ?_
      obtain ⟨y13, e14, hm⟩ := bnd hm
      refine RQ.call rfl (am2 rfl rfl) (by kernel_rfl) (v := .bool y13) (bel (K := fun _ => True) fun w' hb' => (ih0 d0.kids d1.kids _ e14 _ _ w' (slArg typeRd_ok h1 r1 (Tt T hb')) (slArg typeRd_ok h2 r2 (Tt T hb')))) ?_
      refine RQ.y rfl (Y.not (b' := (!y13)) rfl rfl) ?_
      refine RQ.nil ?_
      intro w15 hb16
      have szw15 := hb16.size
      have T := Tt T hb16
      refine then_n ?_
      rcases bcases y13 with c17 | c17
      · replace hm := cF c17 hm
        refine cond_t rfl (vbn rfl c17 rfl) ?_
        refine wp_seq ?_
        refine wp_rs rfl ?_
        refine RQ.y rfl (Y.assign (v := .bool false) rfl) ?_
        refine RQ.nil ?_
        refine then_n ?_
        refine wp_ret ?_
        obtain rfl := Option.some.inj hm
        exact (then_r (ret1 rfl rfl rfl ⟨rfl, T⟩))
      · replace hm := cT c17 hm
        refine cond_f rfl (vbn rfl c17 rfl) ?_
        refine wp_skip ?_
        refine then_n ?_
        refine wp_seq ?_
        refine wp_rs rfl ?_
        refine RQ.y rfl (Y.assign (v := .bool true) rfl) ?_
        refine RQ.nil ?_
        refine then_n ?_
        refine wp_ret ?_
        obtain rfl := Option.some.inj hm
        exact (ret1 rfl rfl rfl ⟨rfl, T⟩)
  · replace hm := cT c11 hm
    refine cond_t rfl (vb rfl c11) ?_
    refine wp_seq ?_
    refine wp_rs rfl ?_
    refine RQ.y rfl (Y.assign (v := .bool false) rfl) ?_
    refine RQ.nil ?_
    refine then_n ?_
    refine wp_ret ?_
    obtain rfl := Option.some.inj hm
    exact (then_r (ret1 rfl rfl rfl ⟨rfl, T⟩))
noncomputable def g_m_laws_eqTypeS : Nat → ((List DType) → (List DType) → Option Bool) × (DType → DType → Option Bool)
  | 0 => (fun _ _ => none, fun _ _ => none)
  | gas + 1 => (m_laws_eqTypeS_R (g_m_laws_eqTypeS gas).1 (g_m_laws_eqTypeS gas).2, m_laws_eqType_R (g_m_laws_eqTypeS gas).1 (g_m_laws_eqTypeS gas).2)
noncomputable def m_laws_eqTypeS (gas : Nat) : (List DType) → (List DType) → Option Bool := (g_m_laws_eqTypeS gas).1
noncomputable def m_laws_eqType (gas : Nat) : DType → DType → Option Bool := (g_m_laws_eqTypeS gas).2
theorem c_g_m_laws_eqTypeS : ∀ gas : Nat, (∀ (d0 : List DType) (d1 : List DType) (r : Bool) (hm : m_laws_eqTypeS gas d0 d1 = some r) (v0 : Value) (v1 : Value) (w : World) (hv0 : Sl typeRd 3 w v0 d0) (hv1 : Sl typeRd 3 w v1 d1), Calls Try.prog 70 #[v0, v1] w fun e w' => e = .returned (.bool r) ∧ Below w.heap.size w w') ∧ (∀ (d0 : DType) (d1 : DType) (r : Bool) (hm : m_laws_eqType gas d0 d1 = some r) (v0 : Value) (v1 : Value) (w : World) (hv0 : St typeRd w v0 d0) (hv1 : St typeRd w v1 d1), Calls Try.prog 117 #[v0, v1] w fun e w' => e = .returned (.bool r) ∧ Below w.heap.size w w') := by
  intro gas
  induction gas with
  | zero => exact ⟨(fun _ _ r hm => by have h0 : (none : Option _) = some r := hm; cases h0), (fun _ _ r hm => by have h0 : (none : Option _) = some r := hm; cases h0)⟩
  | succ gas ih => exact ⟨c_m_laws_eqTypeS_S _ _ (ih).1 (ih).2, c_m_laws_eqType_S _ _ (ih).1 (ih).2⟩
theorem c_m_laws_eqTypeS (gas : Nat) : ∀ (d0 : List DType) (d1 : List DType) (r : Bool) (hm : m_laws_eqTypeS gas d0 d1 = some r) (v0 : Value) (v1 : Value) (w : World) (hv0 : Sl typeRd 3 w v0 d0) (hv1 : Sl typeRd 3 w v1 d1), Calls Try.prog 70 #[v0, v1] w fun e w' => e = .returned (.bool r) ∧ Below w.heap.size w w' := (c_g_m_laws_eqTypeS gas).1
noncomputable def m_laws_toTypeS_A1 (xs8 : List DType) : Option (List DType) :=
  some xs8
noncomputable def m_laws_toTypeS_B1 (self1 : DType → Option DType) (d0 : List DType) (rec1 : List DType → Int → Option (List DType)) (K1 : List DType → Option (List DType)) (xs10 : List DType) (i11 : Int) : Option (List DType) :=
  (bif (decide (i11 < (d0.length : Int))) then ((getI d0 i11).bind fun x14 => ((self1 x14).bind fun y24 => ((getI xs10 i11).bind fun x34 => (rec1 (setI xs10 i11 y24) (i11 + 1))))) else (K1 xs10))
noncomputable def m_laws_toTypeS_L1 (self1 : DType → Option DType) (d0 : List DType) (K1 : List DType → Option (List DType)) : Nat → List DType → Int → Option (List DType)
  | 0, _, _ => none
  | g + 1, xs10, i11 => m_laws_toTypeS_B1 self1 d0 (m_laws_toTypeS_L1 self1 d0 K1 g) K1 xs10 i11
noncomputable def m_laws_toTypeS_R (self0 : (List DType) → Option (List DType)) (self1 : DType → Option DType) (d0 : List DType) : Option (List DType) :=
  ((mustP (d0.length ≤ 4294967296)).bind fun _ => (m_laws_toTypeS_L1 self1 d0 m_laws_toTypeS_A1 (d0.length + 1) (List.replicate d0.length ((⟨0, ByteArray.empty, []⟩ : DType) : DType)) 0))
set_option maxHeartbeats 2000000 in
theorem c_m_laws_toTypeS_S (self0 : (List DType) → Option (List DType)) (self1 : DType → Option DType) (ih0 : ∀ (d0 : List DType) (r : List DType) (hm : self0 d0 = some r) (v0 : Value) (w : World) (hv0 : Sl typeRd 3 w v0 d0), Calls Try.prog 63 #[v0] w fun e w' => (∃ (v0 : Value) (bs0 : List Nat), e = .returned (v0) ∧ OwN 110 typeOw 3 w' w.heap.size v0 r bs0) ∧ Below w.heap.size w w') (ih1 : ∀ (d0 : DType) (r : DType) (hm : self1 d0 = some r) (v0 : Value) (w : World) (hv0 : St typeRd w v0 d0), Calls Try.prog 111 #[v0] w fun e w' => (∃ (v0 : Value) (bs0 : List Nat), e = .returned (.agg #[.int .i64 r.kind, .string r.name, v0]) ∧ OwN 110 typeOw 3 w' w.heap.size v0 r.kids bs0) ∧ Below w.heap.size w w') : ∀ (d0 : List DType) (r : List DType) (hm : m_laws_toTypeS_R self0 self1 d0 = some r) (v0 : Value) (w : World) (hv0 : Sl typeRd 3 w v0 d0),
    Calls Try.prog 63 #[v0] w fun e w' => (∃ (v0 : Value) (bs0 : List Nat), e = .returned (v0) ∧ OwN 110 typeOw 3 w' w.heap.size v0 r bs0) ∧ Below w.heap.size w w' := by
  intro d0 r hm v0 w hv0
  obtain ⟨Aa0, na0, ca0, rfl, ha0, ra0⟩ := hv0
  have ea0 := ha0.len; subst ea0
  have qa0 := len_le ra0
  have T := Below.refl w.heap.size w
  unfold m_laws_toTypeS_R at hm
  refine enter 23 Try.func63 rfl rfl rfl ?_
  intro f hf
  have s0 : f 0 = .slice Aa0 d0.length ca0 := hf 0 _ rfl
  refine wp_seq ?_
  refine wp_rs rfl ?_
  refine RQ.y rfl (Y.assign (v := .slice none 0 0) rfl) ?_
  refine RQ.nil ?_
  refine then_n ?_
  refine wp_seq ?_
  refine wp_rl rfl ?_
  refine RL.y rfl (Y.move (v := .slice Aa0 d0.length ca0) s0) ?_
  refine RL.y rfl (Y.len (by kernel_rfl) rfl) ?_
  obtain ⟨_, m1, hm⟩ := bnd hm
  have hk2 := mustP_some m1
  refine RL.makeN (O := typeOw) (x0 := (⟨0, ByteArray.empty, []⟩ : DType)) (n := d0.length) app_impl_Type (by decide) (fun w => (typeOw_in ⟨none, 0, 0, [], rfl, ⟨⟨rfl, .inl ⟨rfl, rfl⟩⟩, Nat.le_refl _, Nat.zero_le _⟩, rfl⟩)) rfl rfl rfl hk2 (fun w3 G4 hb5 szw3 => ?_)
  replace G4 := OwN.mono G4 T.size
  have T := Tt T hb5
  refine RL.y rfl (Y.assign (v := .slice (some ⟨w.heap.size, 0, none⟩) d0.length d0.length) rfl) ?_
  refine RL.nil ?_
  refine then_n ?_
  refine wp_seq ?_
  refine wp_seq ?_
  refine wp_rs rfl ?_
  refine RQ.y rfl (Y.assign (v := .int .i64 0) rfl) ?_
  refine RQ.nil ?_
  refine then_n ?_
  refine wp_block ?_
  obtain ⟨K1, hK1, hm⟩ : ∃ K, K = m_laws_toTypeS_A1 ∧ m_laws_toTypeS_L1 self1 d0 K (d0.length + 1) (List.replicate d0.length ((⟨0, ByteArray.empty, []⟩ : DType) : DType)) 0 = some r := ⟨_, rfl, hm⟩
  refine wp_loopX (fun g f w' => ∃ (xs10 : List DType) (i11 : Int) (uxs10 : Value) (bsxs10 : List Nat), f 0 = .slice Aa0 d0.length ca0 ∧ f 3 = uxs10 ∧ OwN 110 typeOw 3 w' w.heap.size uxs10 xs10 bsxs10 ∧ f 4 = .int .i64 i11 ∧ 0 ≤ i11 ∧ Below w.heap.size w w' ∧ m_laws_toTypeS_L1 self1 d0 K1 g xs10 i11 = some r) 0 (fun f w' => ∃ (xs8 : List DType) (uxs8 : Value) (bsxs8 : List Nat), f 3 = uxs8 ∧ OwN 110 typeOw 3 w' w.heap.size uxs8 xs8 bsxs8 ∧ Below w.heap.size w w' ∧ m_laws_toTypeS_A1 xs8 = some r) (d0.length + 1) ⟨(List.replicate d0.length ((⟨0, ByteArray.empty, []⟩ : DType) : DType)), 0, (.slice (some ⟨w.heap.size, 0, none⟩) d0.length d0.length), ([w.heap.size]), s0, rfl, G4, rfl, (by omega), T, hm⟩ ?_ ?_
  · rintro f w9 ⟨xs8, uxs8, bsxs8, s3_1x, Guxs8, T, hm⟩
    unfold m_laws_toTypeS_A1 at hm
    refine blk_hit (then_n ?_)
    refine wp_seq ?_
    refine wp_rs rfl ?_
    refine RQ.y rfl (Y.move (v := uxs8) s3_1x) ?_
    refine RQ.y rfl (Y.assign (v := uxs8) rfl) ?_
    refine RQ.nil ?_
    refine then_n ?_
    refine wp_ret ?_
    obtain rfl := Option.some.inj hm
    exact (ret1 rfl rfl rfl ⟨⟨_, _, rfl, Guxs8⟩, T⟩)
  · rintro g f w12 ⟨xs10, i11, uxs10, bsxs10, s0_1, s3_1, Guxs10, s4_1, nn4_1, T, hm⟩
    rcases g with _ | g
    · simp only [m_laws_toTypeS_L1] at hm; cases hm
    obtain ⟨rec1, hrec1, hm⟩ : ∃ z, z = m_laws_toTypeS_L1 self1 d0 K1 g ∧ m_laws_toTypeS_B1 self1 d0 z K1 xs10 i11 = some r := ⟨_, rfl, hm⟩
    unfold m_laws_toTypeS_B1 at hm
    refine wp_seq ?_
    refine wp_seq ?_
    refine wp_rs rfl ?_
    refine RQ.y rfl (Y.move (v := .int .i64 i11) s4_1) ?_
    refine RQ.y rfl (Y.move (v := .slice Aa0 d0.length ca0) s0_1) ?_
    refine RQ.y rfl (Y.len (by kernel_rfl) rfl) ?_
    refine RQ.y rfl (Y.binI (v := .bool (decide (i11 < (d0.length : Int)))) rfl rfl rfl) ?_
    refine RQ.nil ?_
    refine then_n ?_
    rcases bcases (decide (i11 < (d0.length : Int))) with c13 | c13
    · replace hm := cF c13 hm
      have pc13 := of_decide_eq_false c13
      refine cond_f rfl (vb rfl c13) ?_
      refine wp_exit ?_
      exact (then_x (then_x (hit_x ⟨_, rfl, ⟨xs10, (uxs10), bsxs10, s3_1, Guxs10, T, (by rw [hK1] at hm; exact hm)⟩⟩)))
    · replace hm := cT c13 hm
      have pc13 := of_decide_eq_true c13
      refine cond_t rfl (vb rfl c13) ?_
      refine wp_skip ?_
      refine then_n ?_
      refine wp_seq ?_
      refine wp_block ?_
      refine wp_rl rfl ?_
      refine RL.y rfl (Y.move (v := uxs10) s3_1) ?_
      refine RL.y rfl (Y.move (v := .int .i64 i11) s4_1) ?_
      refine RL.y rfl (Y.move (v := .slice Aa0 d0.length ca0) s0_1) ?_
      refine RL.y rfl (Y.move (v := .int .i64 i11) s4_1) ?_
      obtain ⟨x14, hx17, hm⟩ := bnd hm
      obtain ⟨k15, hk18, hl19, hx17⟩ := getI_some hx17
      obtain ⟨b21, o22, rfl, hbb21⟩ := ha0.addr (by omega)
      obtain ⟨cs16, hRcs16, hc20⟩ := ha0.el hx17
      have hScs16 := hRcs16
      obtain ⟨A23, n23, c23, rfl, ⟨h23, r23⟩⟩ := (typeRd_out hRcs16)
      have e23 := h23.len; subst e23
      have q23 := len_le r23
      refine RL.y rfl (Y.indexAddr (m := k15) (sz := 3) rfl rfl hk18 hl19 (by kernel_rfl)) ?_
      refine RL.y rfl (Y.loadN (cs := [.int .i64 x14.kind, .string x14.name, .slice A23 x14.kids.length c23]) rfl (by kernel_rfl) (cells3 (eqC (cellT T (hc20 0 _ rfl))) (eqC (cellT T (hc20 1 _ rfl))) (eqC (cellT T (hc20 2 _ rfl))))) ?_
      obtain ⟨y24, e25, hm⟩ := bnd hm
      refine RL.call rfl (am1 rfl) (by kernel_rfl) ((ih1 x14 _ e25 _ _ (stArg (R := typeRd) (typeRd_in ⟨_, _, _, rfl, ⟨SlAt.now typeRd_ok h23 (Nat.le_refl _) T, r23⟩⟩))).mono ?_)
      rintro _ w30 ⟨⟨v26, bs29, rfl, G27⟩, hb31⟩
      refine ⟨_, rfl, ?_⟩
      have szw30 := hb31.size
      have T0w30 := T.size
      have Zo28_oxs10 : Ap bs29 bsxs10 := (Ap.new (OwN.lo_ G27) (OwN.hi Guxs10))
      have Guxs10 := OwN.below typeOw_ok Guxs10 hb31
      have T := Tt T hb31
      replace G27 := OwN.mono G27 T0w30
      obtain ⟨A32, c33, rfl⟩ := OwN.form Guxs10
      have qbA32 := OwN.bound Guxs10
      obtain ⟨x34, hx36, hm⟩ := bnd hm
      obtain ⟨k35, hk37, hl38, hx36⟩ := getI_some hx36
      obtain ⟨b39, rfl⟩ := OwN.addr0 Guxs10 (by omega)
      refine RL.y rfl (Y.indexAddr (m := k35) (sz := 3) rfl rfl hk37 hl38 (by kernel_rfl)) ?_
      obtain ⟨A40, c41, rfl⟩ := OwN.form G27
      have qbA40 := OwN.bound G27
      obtain ⟨_, _, _, l43, hea42, a42, nd44, sb45, r46⟩ := OwN.own1 typeOw_ok G27
      injection hea42 with e1 e2 e3; subst e1 e2 e3
      refine RL.storeNW (k := k35) (a' := y24) (l := l43) (fp := bs29) typeOw_ok typeOw_one rfl rfl rfl Guxs10 hx36 (typeOw_in ⟨_, _, _, l43, rfl, ⟨a42, r46⟩, rfl⟩) nd44 sb45 (Ap.symm Zo28_oxs10) (OwN.both G27 (Nat.le_refl _)) (by kernel_rfl) (fun w47 G48 ho49 => ?_)
      have szw47 := ho49.size
      have T := T.trans (ho49.below (by intro b hb; simp at hb; subst hb; exact OwN.lo_ Guxs10 _ (OwN.row Guxs10 rfl)))
      have G48 : OwN 110 typeOw 3 w47 w.heap.size (.slice (some ⟨b39, 0, none⟩) xs10.length c33) (setI xs10 i11 y24) (bsxs10 ++ bs29) := by rw [setI_eq hk37]; exact G48
      refine RL.nil ?_
      refine blk_n (then_n ?_)
      refine wp_rs rfl ?_
      refine RQ.y rfl (Y.move (v := .int .i64 i11) s4_1) ?_
      refine RQ.y rfl (Y.binI rfl rfl (binI_add (m := i11) (by omega))) ?_
      refine RQ.y rfl (Y.assign (v := .int .i64 (i11 + 1)) rfl) ?_
      refine RQ.nil ?_
      exact (then_n ⟨g, _, Nat.lt_succ_self _, rfl, ⟨(setI xs10 i11 y24), (i11 + 1), (.slice (some ⟨b39, 0, none⟩) xs10.length c33), (bsxs10 ++ bs29), s0_1, s3_1, G48, rfl, (by omega), T, (by rw [← hrec1]; exact hm)⟩⟩)
noncomputable def m_laws_toType_R (self0 : (List DType) → Option (List DType)) (self1 : DType → Option DType) (d0 : DType) : Option DType :=
  ((self0 d0.kids).bind fun y20 => some (⟨d0.kind, d0.name, y20⟩ : DType))
set_option maxHeartbeats 2000000 in
theorem c_m_laws_toType_S (self0 : (List DType) → Option (List DType)) (self1 : DType → Option DType) (ih0 : ∀ (d0 : List DType) (r : List DType) (hm : self0 d0 = some r) (v0 : Value) (w : World) (hv0 : Sl typeRd 3 w v0 d0), Calls Try.prog 63 #[v0] w fun e w' => (∃ (v0 : Value) (bs0 : List Nat), e = .returned (v0) ∧ OwN 110 typeOw 3 w' w.heap.size v0 r bs0) ∧ Below w.heap.size w w') (ih1 : ∀ (d0 : DType) (r : DType) (hm : self1 d0 = some r) (v0 : Value) (w : World) (hv0 : St typeRd w v0 d0), Calls Try.prog 111 #[v0] w fun e w' => (∃ (v0 : Value) (bs0 : List Nat), e = .returned (.agg #[.int .i64 r.kind, .string r.name, v0]) ∧ OwN 110 typeOw 3 w' w.heap.size v0 r.kids bs0) ∧ Below w.heap.size w w') : ∀ (d0 : DType) (r : DType) (hm : m_laws_toType_R self0 self1 d0 = some r) (v0 : Value) (w : World) (hv0 : St typeRd w v0 d0),
    Calls Try.prog 111 #[v0] w fun e w' => (∃ (v0 : Value) (bs0 : List Nat), e = .returned (.agg #[.int .i64 r.kind, .string r.name, v0]) ∧ OwN 110 typeOw 3 w' w.heap.size v0 r.kids bs0) ∧ Below w.heap.size w w' := by
  intro d0 r hm v0 w hv0
  obtain ⟨csa0, rfl, hRR0⟩ := hv0
  obtain ⟨A1, n1, c1, rfl, ⟨h1, r1⟩⟩ := (typeRd_out hRR0)
  have e1 := h1.len; subst e1
  have q1 := len_le r1
  have T := Below.refl w.heap.size w
  unfold m_laws_toType_R at hm
  refine enter 15 Try.func111 rfl rfl rfl ?_
  intro f hf
  have s0 : f 0 = .agg #[.int .i64 d0.kind, .string d0.name, .slice A1 d0.kids.length c1] := hf 0 _ rfl
  refine wp_seq ?_
  refine wp_rl rfl ?_
  refine RL.box rfl s0 (fun w2 B3 hb4 szw2 => ?_)
  replace B3 : Blk w2 w.heap.size 155 #[.int .i64 d0.kind, .string d0.name, .slice A1 d0.kids.length c1] := B3
  have GB3 : w.heap.size ≤ w.heap.size := T.size
  have T := Tt T hb4
  refine RL.alloc (z := .agg #[.int .i64 0, .string ByteArray.empty, .slice none 0 0]) rfl (by kernel_rfl) (fun w6 B7 hb8 szw6 => ?_)
  replace B7 : Blk w6 w2.heap.size 110 #[.int .i64 0, .string ByteArray.empty, .slice none 0 0] := B7
  have GB7 : w.heap.size ≤ w2.heap.size := T.size
  have Eob9_ob5 := Nat.ne_of_lt B3.lt
  have B3 := blkT B3 hb8
  have T := Tt T hb8
  refine RL.nil ?_
  refine then_n ?_
  refine wp_seq ?_
  refine wp_rl rfl ?_
  refine RL.alloc (z := .agg #[.int .i64 0, .string ByteArray.empty, .slice none 0 0]) rfl (by kernel_rfl) (fun w10 B11 hb12 szw10 => ?_)
  replace B11 : Blk w10 w6.heap.size 110 #[.int .i64 0, .string ByteArray.empty, .slice none 0 0] := B11
  have GB11 : w.heap.size ≤ w6.heap.size := T.size
  have Eob13_ob5 := Nat.ne_of_lt B3.lt
  have Eob13_ob9 := Nat.ne_of_lt B7.lt
  have B3 := blkT B3 hb12
  have B7 := blkT B7 hb12
  have T := Tt T hb12
  refine RL.nil ?_
  refine then_n ?_
  refine wp_seq ?_
  refine wp_rl rfl ?_
  refine RL.y rfl (Y.fieldAddr (off := 0) rfl (by kernel_rfl)) ?_
  refine RL.y rfl (Y.load (v := .int .i64 d0.kind) rfl (by kernel_rfl) (eqC (blkCell B3 (i := 0) rfl))) ?_
  refine RL.y rfl (Y.fieldAddr (off := 0) rfl (by kernel_rfl)) ?_
  refine RL.store (v := .int .i64 d0.kind) (cs' := #[.int .i64 d0.kind, .string ByteArray.empty, .slice none 0 0]) rfl rfl rfl B11 (by kernel_rfl) (by rfl) (by rfl) (by rfl) (fun w14 B15 ho16 => ?_)
  have szw14 := ho16.size
  have B3 := B3.only_ ho16 (by intro hin; simp at hin; exact Eob13_ob5 hin)
  have B7 := B7.only_ ho16 (by intro hin; simp at hin; exact Eob13_ob9 hin)
  have T := T.trans (ho16.below (by first | (simp; done) | (simp; omega)))
  refine RL.nil ?_
  refine then_n ?_
  refine wp_seq ?_
  refine wp_rl rfl ?_
  refine RL.y rfl (Y.fieldAddr (off := 1) rfl (by kernel_rfl)) ?_
  refine RL.y rfl (Y.load (v := .string d0.name) rfl (by kernel_rfl) (eqC (blkCell B3 (i := 1) rfl))) ?_
  refine RL.y rfl (Y.fieldAddr (off := 1) rfl (by kernel_rfl)) ?_
  refine RL.store (v := .string d0.name) (cs' := #[.int .i64 d0.kind, .string d0.name, .slice none 0 0]) rfl rfl rfl B15 (by kernel_rfl) (by rfl) (by rfl) (by rfl) (fun w17 B18 ho19 => ?_)
  have szw17 := ho19.size
  have B3 := B3.only_ ho19 (by intro hin; simp at hin; exact Eob13_ob5 hin)
  have B7 := B7.only_ ho19 (by intro hin; simp at hin; exact Eob13_ob9 hin)
  have T := T.trans (ho19.below (by first | (simp; done) | (simp; omega)))
  refine RL.nil ?_
  refine then_n ?_
  refine wp_seq ?_
  refine wp_rl rfl ?_
  refine RL.y rfl (Y.fieldAddr (off := 2) rfl (by kernel_rfl)) ?_
  refine RL.y rfl (Y.load (v := .slice A1 d0.kids.length c1) rfl (by kernel_rfl) (eqC (blkCell B3 (i := 2) rfl))) ?_
  obtain ⟨y20, e21, hm⟩ := bnd hm
  refine RL.call rfl (am1 rfl) (by kernel_rfl) ((ih0 d0.kids _ e21 _ _ (slArg typeRd_ok h1 r1 T)).mono ?_)
  rintro _ w26 ⟨⟨v22, bs25, rfl, G23⟩, hb27⟩
  refine ⟨_, rfl, ?_⟩
  have szw26 := hb27.size
  have T0w26 := T.size
  have Zo24_ob5 : Ap bs25 [w.heap.size] := (Ap.new (OwN.lo_ G23) (one_hi B3.lt))
  have Zo24_ob9 : Ap bs25 [w2.heap.size] := (Ap.new (OwN.lo_ G23) (one_hi B7.lt))
  have Zo24_ob13 : Ap bs25 [w6.heap.size] := (Ap.new (OwN.lo_ G23) (one_hi B18.lt))
  have B3 := blkT B3 hb27
  have B7 := blkT B7 hb27
  have B18 := blkT B18 hb27
  have T := Tt T hb27
  replace G23 := OwN.mono G23 T0w26
  refine RL.y rfl (Y.fieldAddr (off := 2) rfl (by kernel_rfl)) ?_
  obtain ⟨A28, c29, rfl⟩ := OwN.form G23
  have qbA28 := OwN.bound G23
  refine RL.store (v := .slice A28 y20.length c29) (cs' := #[.int .i64 d0.kind, .string d0.name, .slice A28 y20.length c29]) rfl rfl rfl B18 (by kernel_rfl) (by rfl) (by rfl) (by rfl) (fun w30 B31 ho32 => ?_)
  have szw30 := ho32.size
  have B3 := B3.only_ ho32 (by intro hin; simp at hin; exact Eob13_ob5 hin)
  have B7 := B7.only_ ho32 (by intro hin; simp at hin; exact Eob13_ob9 hin)
  have G23 := OwN.only typeOw_ok G23 ho32 (Ap.one Zo24_ob13)
  have T := T.trans (ho32.below (by first | (simp; done) | (simp; omega)))
  refine RL.nil ?_
  refine then_n ?_
  refine wp_seq ?_
  refine wp_rl rfl ?_
  refine RL.y rfl (Y.loadN (cs := [.int .i64 d0.kind, .string d0.name, .slice A28 y20.length c29]) rfl (by kernel_rfl) (cells3 (eqC (blkCell B31 (i := 0) rfl)) (eqC (blkCell B31 (i := 1) rfl)) (eqC (blkCell B31 (i := 2) rfl)))) ?_
  refine RL.store (v := .agg #[.int .i64 d0.kind, .string d0.name, .slice A28 y20.length c29]) (cs' := #[.int .i64 d0.kind, .string d0.name, .slice A28 y20.length c29]) rfl rfl rfl B7 (by kernel_rfl) (by rfl) (by rfl) (by rfl) (fun w33 B34 ho35 => ?_)
  have szw33 := ho35.size
  have B31 := B31.only_ ho35 (by intro hin; simp at hin; exact Eob13_ob9.symm hin)
  have G23 := OwN.only typeOw_ok G23 ho35 (Ap.one Zo24_ob9)
  have T := T.trans (ho35.below (by first | (simp; done) | (simp; omega)))
  refine RL.nil ?_
  refine then_n ?_
  refine wp_ret ?_
  obtain rfl := Option.some.inj hm
  exact (retc (cs := [.int .i64 d0.kind, .string d0.name, .slice A28 y20.length c29]) rfl rfl rfl (by kernel_rfl) (blkCells B34) ⟨⟨_, _, rfl, G23⟩, T⟩)
noncomputable def g_m_laws_toTypeS : Nat → ((List DType) → Option (List DType)) × (DType → Option DType)
  | 0 => (fun _ => none, fun _ => none)
  | gas + 1 => (m_laws_toTypeS_R (g_m_laws_toTypeS gas).1 (g_m_laws_toTypeS gas).2, m_laws_toType_R (g_m_laws_toTypeS gas).1 (g_m_laws_toTypeS gas).2)
noncomputable def m_laws_toTypeS (gas : Nat) : (List DType) → Option (List DType) := (g_m_laws_toTypeS gas).1
noncomputable def m_laws_toType (gas : Nat) : DType → Option DType := (g_m_laws_toTypeS gas).2
theorem c_g_m_laws_toTypeS : ∀ gas : Nat, (∀ (d0 : List DType) (r : List DType) (hm : m_laws_toTypeS gas d0 = some r) (v0 : Value) (w : World) (hv0 : Sl typeRd 3 w v0 d0), Calls Try.prog 63 #[v0] w fun e w' => (∃ (v0 : Value) (bs0 : List Nat), e = .returned (v0) ∧ OwN 110 typeOw 3 w' w.heap.size v0 r bs0) ∧ Below w.heap.size w w') ∧ (∀ (d0 : DType) (r : DType) (hm : m_laws_toType gas d0 = some r) (v0 : Value) (w : World) (hv0 : St typeRd w v0 d0), Calls Try.prog 111 #[v0] w fun e w' => (∃ (v0 : Value) (bs0 : List Nat), e = .returned (.agg #[.int .i64 r.kind, .string r.name, v0]) ∧ OwN 110 typeOw 3 w' w.heap.size v0 r.kids bs0) ∧ Below w.heap.size w w') := by
  intro gas
  induction gas with
  | zero => exact ⟨(fun _ r hm => by have h0 : (none : Option _) = some r := hm; cases h0), (fun _ r hm => by have h0 : (none : Option _) = some r := hm; cases h0)⟩
  | succ gas ih => exact ⟨c_m_laws_toTypeS_S _ _ (ih).1 (ih).2, c_m_laws_toType_S _ _ (ih).1 (ih).2⟩
theorem c_m_laws_toTypeS (gas : Nat) : ∀ (d0 : List DType) (r : List DType) (hm : m_laws_toTypeS gas d0 = some r) (v0 : Value) (w : World) (hv0 : Sl typeRd 3 w v0 d0), Calls Try.prog 63 #[v0] w fun e w' => (∃ (v0 : Value) (bs0 : List Nat), e = .returned (v0) ∧ OwN 110 typeOw 3 w' w.heap.size v0 r bs0) ∧ Below w.heap.size w w' := (c_g_m_laws_toTypeS gas).1
end
section
open Go.RowKit
set_option linter.unusedVariables false
/-- A loop that goes through the states st 0, st 1, .. and ends at st n. -/
theorem traj {σ ρ : Type} {L : Nat → σ → Option ρ} {st : Nat → σ} {n : Nat} {r : Option ρ} (h : ∀ g k, k < n → L (g + 1) (st k) = L g (st (k + 1))) (he : ∀ g, L (g + 1) (st n) = r) : ∀ g, n < g → L g (st 0) = r := by
  have key : ∀ d k g, k + d = n → d < g → L g (st k) = r := by
    intro d
    induction d with
    | zero =>
      intro k g hk hg
      obtain ⟨g, rfl⟩ : ∃ g', g = g' + 1 := ⟨g - 1, by omega⟩
      obtain rfl : k = n := by omega
      exact he g
    | succ d ih =>
      intro k g hk hg
      obtain ⟨g, rfl⟩ : ∃ g', g = g' + 1 := ⟨g - 1, by omega⟩
      rw [h g k (by omega)]
      exact ih (k + 1) g (by omega) (by omega)
  intro g hg
  exact key n 0 g (by omega) hg
/-- A loop over an index. -/
theorem trajI {ρ : Type} {L : Nat → Int → Option ρ} {n : Nat} {r : Option ρ} (h : ∀ g (k : Nat), k < n → L (g + 1) (k : Int) = L g ((k : Int) + 1)) (he : ∀ g, L (g + 1) (n : Int) = r) (g : Nat) (hg : n < g) : L g 0 = r :=
  traj (L := fun g (k : Nat) => L g (k : Int)) (st := fun k => k) (fun g k hk => by simpa using h g k hk) he g hg
open Classical in
/-- A loop that asks p of each index. -/
theorem allI {ρ : Type} {L : Nat → Int → Option ρ} {n : Nat} {p : Nat → Prop} {no K : Option ρ} (h1 : ∀ g (k : Nat), k < n → p k → L (g + 1) (k : Int) = L g ((k : Int) + 1)) (h2 : ∀ g (k : Nat), k < n → ¬ p k → L (g + 1) (k : Int) = no) (h3 : ∀ g, L (g + 1) (n : Int) = K) (g : Nat) (hg : n < g) :
    L g 0 = if ∀ k, k < n → p k then K else no := by
  by_cases ha : ∀ k, k < n → p k
  · rw [if_pos ha]
    exact trajI (fun g k hk => h1 g k hk (ha k hk)) h3 g hg
  · rw [if_neg ha]
    have hex : ∃ k, k < n ∧ ¬ p k := by
      apply Classical.byContradiction
      intro hn
      exact ha fun k hk => Classical.byContradiction fun hp => hn ⟨k, hk, hp⟩
    obtain ⟨m, ⟨hm, hpm⟩, hleast⟩ : ∃ m, (m < n ∧ ¬ p m) ∧ ∀ k, k < m → k < n → p k := by
      obtain ⟨k0, hk0⟩ := hex
      induction k0 using Nat.strongRecOn with
      | _ k0 ih =>
        by_cases h : ∃ k, k < k0 ∧ k < n ∧ ¬ p k
        · obtain ⟨k, hk, hk1⟩ := h
          exact ih k hk hk1
        · exact ⟨k0, hk0, fun k hk hkn => Classical.byContradiction fun hp => h ⟨k, hk, hkn, hp⟩⟩
    exact trajI (n := m) (fun g k hk => h1 g k (by omega) (hleast k hk (by omega))) (fun g => h2 g m hm hpm) g (by omega)
theorem allO {ρ : Type} {L : Nat → Int → Option ρ} {n : Nat} {p : Nat → Prop} {no K : Option ρ} (h1 : ∀ g (k : Nat), k < n → p k → L (g + 1) (k : Int) = L g ((k : Int) + 1)) (h2 : ∀ g (k : Nat), k < n → ¬ p k → L (g + 1) (k : Int) = no) (h3 : ∀ g, L (g + 1) (n : Int) = K) (g : Nat) (hg : n < g) :
    ((∀ k, k < n → p k) ∧ L g 0 = K) ∨ ((¬ ∀ k, k < n → p k) ∧ L g 0 = no) := by
  have h := allI h1 h2 h3 g hg
  by_cases ha : ∀ k, k < n → p k
  · rw [if_pos ha] at h; exact .inl ⟨ha, h⟩
  · rw [if_neg ha] at h; exact .inr ⟨ha, h⟩
theorem getI_lt {α : Type} {xs : List α} {k : Nat} (h : k < xs.length) : getI xs (k : Int) = some xs[k] := by simp [getI, h]
theorem dlt {k n : Nat} (h : k < n) : decide ((k : Int) < (n : Int)) = true := by simp; omega
theorem dge {n : Nat} : decide ((n : Int) < (n : Int)) = false := by simp
end
section
open Go.RowKit
set_option linter.unusedVariables false
def fieldsN (k : Int) (p : Nat) : Int := if k = 9 then (p : Int) - 1 else 0
def defIx (n : Int) : Bool := decide (0 ≤ n) && decide (n ≤ 23)
def int32B (n : Int) : Bool := decide (-2147483648 ≤ n) && decide (n ≤ 2147483647)
def operB (n : Int) : Bool := decide (1 ≤ n) && decide (n ≤ 6)
def content (k v : Int) (d : List Int) : Bool :=
  if k = 6 then decide (d.length = 0) && int32B v
  else if k = 7 then decide (d.length = 0) && operB v
  else if k = 8 then decide (d.length = 1) && operB v && int32B (d.getD 0 0)
  else if k = 9 then decide (d.length = 0) && (decide (0 ≤ v) && decide (v ≤ 3))
  else if k = 12 then decide (d.length = 0) && defIx v
  else if k = 10 then decide (v = 0) && (decide (1 ≤ d.length) && decide (d.length ≤ 4)) && d.all defIx
  else if k = 11 then decide (v = 0) && decide (d.length = 2) && d.all defIx
  else decide (v = 0) && decide (d.length = 0)
def agentOk (x : DAgent) : Bool := decide (0 < portsOf x.kind (fieldsN x.kind x.ports.length)) && decide ((x.ports.length : Int) = portsOf x.kind (fieldsN x.kind x.ports.length)) && allowed x.kind x.level && content x.kind x.value x.data
def AgentsOk (xs : List DAgent) : Prop := 1 ≤ xs.length ∧ xs.length ≤ 600 ∧ ∀ (i : Nat) (x : DAgent), xs[i]? = some x → agentOk x = true ∧ decide (x.kind = 1) = decide (i = 0)
def agentAt (xs : List DAgent) (i : Int) : DAgent := xs.getD i.toNat default
def hasPort (xs : List DAgent) (p : DPort) : Bool := decide (0 ≤ p.agent) && decide (p.agent < xs.length) && decide (0 ≤ p.slot) && decide (p.slot < (agentAt xs p.agent).ports.length)
def peer (xs : List DAgent) (p : DPort) : DPort := (agentAt xs p.agent).ports.getD p.slot.toNat default
def badPort (xs : List DAgent) (p : DPort) : Bool := decide (peer xs p = p) || !hasPort xs (peer xs p) || !decide (peer xs (peer xs p) = p)
def PortsOk (xs : List DAgent) : Prop := ∀ (i : Nat) (x : DAgent), xs[i]? = some x → ∀ k : Nat, k < x.ports.length → badPort xs ⟨i, k⟩ = false
open Classical in
noncomputable def validNet (x : DNet) : Bool := decide (AgentsOk x.agents ∧ PortsOk x.agents)
/-- All ports in order. -/
def agentPorts (i : Nat) (x : DAgent) : List DPort := (List.range x.ports.length).map fun (k : Nat) => ⟨i, k⟩
def portsFrom : Nat → List DAgent → List DPort
  | _, [] => []
  | i, x :: xs => agentPorts i x ++ portsFrom (i + 1) xs
def allPorts (xs : List DAgent) : List DPort := portsFrom 0 xs
end
section
open Go.RowKit
set_option linter.unusedVariables false
set_option linter.unusedSimpArgs false
/-- No list is longer than what a net of the laws may hold. -/
def Small (xs : List DAgent) : Prop := szAgentS xs ≤ 1048576
theorem Small.len {xs : List DAgent} (h : Small xs) : xs.length ≤ 1048576 := by unfold Small szAgentS at h; omega
theorem sum_mem {α : Type} {f : α → Nat} {xs : List α} {x : α} (h : x ∈ xs) : f x ≤ (xs.map f).sum := by
  induction xs with
  | nil => cases h
  | cons y ys ih =>
    rcases List.mem_cons.1 h with rfl | h
    · simp
    · have := ih h; simp; omega
theorem Small.ports {xs : List DAgent} (h : Small xs) {x : DAgent} (hx : x ∈ xs) : x.ports.length ≤ 1048576 := by
  have := sum_mem (f := szAgent) hx
  have e : szAgent x = x.data.length + x.ports.length := rfl
  unfold Small szAgentS at h; omega
theorem Small.data {xs : List DAgent} (h : Small xs) {x : DAgent} (hx : x ∈ xs) : x.data.length ≤ 1048576 := by
  have := sum_mem (f := szAgent) hx
  have e : szAgent x = x.data.length + x.ports.length := rfl
  unfold Small szAgentS at h; omega
theorem portsFrom_len : ∀ (i : Nat) (xs : List DAgent), (portsFrom i xs).length ≤ (xs.map szAgent).sum
  | _, [] => by simp [portsFrom]
  | i, x :: xs => by have := portsFrom_len (i + 1) xs; simp [portsFrom, agentPorts, szAgent]; omega
theorem Small.all {xs : List DAgent} (h : Small xs) : (allPorts xs).length ≤ 1048576 := by
  have := portsFrom_len 0 xs
  unfold Small szAgentS at h; unfold allPorts; omega
theorem validNet_iff {x : DNet} : validNet x = true ↔ AgentsOk x.agents ∧ PortsOk x.agents := by unfold validNet; simp
end
section
open Go.RowKit
set_option linter.unusedVariables false
theorem copy_set {α : Type} {xs : List α} {z : α} {k : Nat} (hk : k < xs.length) : setI (xs.take k ++ List.replicate (xs.length - k) z) (k : Int) xs[k] = xs.take (k + 1) ++ List.replicate (xs.length - (k + 1)) z := by
  rw [setI_nat]
  obtain ⟨m, hm⟩ : ∃ m, xs.length - k = m + 1 := ⟨xs.length - k - 1, by omega⟩
  have hm2 : xs.length - (k + 1) = m := by omega
  have hl : (xs.take k).length = k := by simp; omega
  rw [hm, hm2, List.replicate_succ, List.set_append_right _ _ (by omega), hl, Nat.sub_self, List.set_cons_zero, List.take_succ_eq_append_getElem hk, List.append_assoc]
  rfl
theorem copy_get {α : Type} {xs : List α} {z : α} {k : Nat} (hk : k < xs.length) : getI (xs.take k ++ List.replicate (xs.length - k) z) (k : Int) = some z := by
  have hl : (xs.take k).length = k := by simp; omega
  refine getI_nat ?_
  rw [List.getElem?_append_right (by omega), hl, Nat.sub_self, List.getElem?_replicate]
  simp; omega
theorem copyI {α ρ : Type} {L : Nat → List α → Int → Option ρ} {xs : List α} {z : α} {K : List α → Option ρ} (h : ∀ g (k : Nat) acc (hk : k < xs.length), getI acc (k : Int) = some z → L (g + 1) acc (k : Int) = L g (setI acc (k : Int) xs[k]) ((k : Int) + 1)) (he : ∀ g acc, L (g + 1) acc (xs.length : Int) = K acc) :
    L (xs.length + 1) (List.replicate xs.length z) 0 = K xs := by
  have := traj (L := fun g (s : List α × Int) => L g s.1 s.2) (st := fun k => (xs.take k ++ List.replicate (xs.length - k) z, (k : Int))) (n := xs.length) (r := K xs)
    (fun g k hk => by
      simp only
      rw [h g k _ hk (copy_get hk), copy_set hk]
      simp only [Int.natCast_add, Int.cast_ofNat_Int])
    (fun g => by simp only; rw [he]; simp) (xs.length + 1) (Nat.lt_succ_self _)
  simpa using this
theorem eqI {α ρ : Type} [DecidableEq α] {L : Nat → Int → Option ρ} {xs ys : List α} {no yes : Option ρ} (hl : xs.length = ys.length) (h : ∀ g (k : Nat) (hx : k < xs.length) (hy : k < ys.length), L (g + 1) (k : Int) = if xs[k] = ys[k] then L g ((k : Int) + 1) else no) (he : ∀ g, L (g + 1) (xs.length : Int) = yes) (g : Nat) (hg : xs.length < g) :
    L g 0 = if xs = ys then yes else no := by
  have key := allO (L := L) (n := xs.length) (p := fun k => xs[k]? = ys[k]?) (no := no) (K := yes)
    (fun g k hk hp => by
      have hy : k < ys.length := by omega
      rw [h g k hk hy, if_pos]
      rw [List.getElem?_eq_getElem hk, List.getElem?_eq_getElem hy] at hp
      injection hp)
    (fun g k hk hp => by
      have hy : k < ys.length := by omega
      rw [h g k hk hy, if_neg]
      intro e
      rw [List.getElem?_eq_getElem hk, List.getElem?_eq_getElem hy, e] at hp
      exact hp rfl) he g hg
  rcases key with ⟨h1, h2⟩ | ⟨h1, h2⟩
  · have e : xs = ys := List.ext_getElem? fun k => by
      by_cases hk : k < xs.length
      · exact h1 k hk
      · rw [List.getElem?_eq_none (by omega), List.getElem?_eq_none (by omega)]
    rw [if_pos e, h2]
  · rw [if_neg, h2]
    intro e
    exact h1 fun k _ => by rw [e]
end
section
open Go.RowKit
set_option linter.unusedVariables false
set_option linter.unusedSimpArgs false
theorem bne_nat {n m : Nat} : ((n : Int) != (m : Int)) = !decide (n = m) := by
  by_cases h : n = m
  · subst h; simp
  · simp [h]; omega
theorem ite_dec {p : Prop} [Decidable p] : (if p then some true else some false : Option Bool) = some (decide p) := by
  by_cases h : p <;> simp [h]
theorem decide_len {α : Type} [DecidableEq α] {xs ys : List α} (h : ¬ xs.length = ys.length) : decide (xs = ys) = false := decide_eq_false fun e => h (by rw [e])
end
section
open Go.RowKit
set_option linter.unusedVariables false
set_option linter.unusedSimpArgs false
noncomputable instance : DecidableEq DType := fun a b => Classical.propDecidable (a = b)
noncomputable instance : DecidableEq DTypedNet := fun a b => Classical.propDecidable (a = b)
/-- Names and rows are not longer than Go's largest length. -/
inductive OkTy : DType → Prop
  | mk {x : DType} (h : x.name.size ≤ maxLen) (hl : x.kids.length ≤ maxLen) (hk : ∀ y, y ∈ x.kids → OkTy y) : OkTy x
theorem OkTy.name {x : DType} (h : OkTy x) : x.name.size ≤ maxLen := by cases h; assumption
theorem OkTy.len {x : DType} (h : OkTy x) : x.kids.length ≤ maxLen := by cases h; assumption
theorem OkTy.kids {x : DType} (h : OkTy x) : ∀ y ∈ x.kids, OkTy y := by cases h; assumption
def OkTyS (xs : List DType) : Prop := xs.length ≤ maxLen ∧ ∀ y ∈ xs, OkTy y
theorem maxLen_le {n : Nat} (h : n ≤ maxLen) : n ≤ 9223372036854775807 := by unfold maxLen at h; omega
mutual
def szType : DType → Nat
  | ⟨_, n, ks⟩ => n.size + (ks.length + szTypeL ks)
def szTypeL : List DType → Nat
  | [] => 0
  | x :: xs => szType x + szTypeL xs
end
def szTypeS (xs : List DType) : Nat := xs.length + szTypeL xs
theorem szType_eq (x : DType) : szType x = x.name.size + szTypeS x.kids := by
  obtain ⟨a, b, c⟩ := x
  rw [szType]; rfl
theorem szTypeL_eq : ∀ xs : List DType, szTypeL xs = (xs.map szType).sum
  | [] => by rw [szTypeL]; rfl
  | x :: xs => by rw [szTypeL, szTypeL_eq xs, List.map_cons, List.sum_cons]
theorem szTypeS_eq (xs : List DType) : szTypeS xs = xs.length + (xs.map szType).sum := by unfold szTypeS; rw [szTypeL_eq]
theorem sz_kids (x : DType) : SizeOf.sizeOf x.kids < SizeOf.sizeOf x := by
  obtain ⟨a, b, c⟩ := x
  simp only [DType.mk.sizeOf_spec]
  omega
theorem sz_posS (xs : List DType) : 0 < SizeOf.sizeOf xs := by cases xs <;> simp <;> omega
theorem szL_step {left : Int} {a b : Nat} : (if szL left a < 0 then -1 else szL (szL left a) b) = szL left (a + b) := by
  unfold szL
  by_cases h : left - a < 0
  · rw [if_pos h, if_pos (by decide), if_pos (by omega)]
  · rw [if_neg h, if_neg h]
    by_cases h2 : left - a - b < 0
    · rw [if_pos h2, if_pos (by omega)]
    · rw [if_neg h2, if_neg (by omega)]; omega
/-- A loop that takes sizes away. -/
theorem subI {α : Type} {L : Nat → Int → Int → Option Int} {d : List α} {s : α → Nat} {ok : α → Prop} (h : ∀ g (k : Nat) x left, d[k]? = some x → 0 ≤ left → left ≤ 1048576 → L (g + 1) left (k : Int) = bif decide (szL left (s x) < 0) then some (-1) else L g (szL left (s x)) ((k : Int) + 1)) (he : ∀ g left, L (g + 1) left (d.length : Int) = some left) :
    ∀ (m k g : Nat) (left : Int), k + m = d.length → m < g → 0 ≤ left → left ≤ 1048576 → L g left (k : Int) = some (szL left ((d.drop k).map s).sum) := by
  intro m
  induction m with
  | zero =>
    intro k g left hk hg h0 h1
    obtain ⟨g, rfl⟩ : ∃ g', g = g' + 1 := ⟨g - 1, by omega⟩
    rw [show k = d.length by omega, he, List.drop_length]
    simp [szL]; omega
  | succ m ih =>
    intro k g left hk hg h0 h1
    obtain ⟨g, rfl⟩ : ∃ g', g = g' + 1 := ⟨g - 1, by omega⟩
    have hx := List.getElem?_eq_getElem (show k < d.length by omega)
    rw [h g k _ left hx h0 h1, List.drop_eq_getElem_cons (show k < d.length by omega), List.map_cons, List.sum_cons, ← szL_step]
    by_cases hn : szL left (s d[k]) < 0
    · rw [decide_eq_true hn, cond_true, if_pos hn]
    · rw [decide_eq_false hn, cond_false, if_neg hn]
      have hle : szL left (s d[k]) ≤ 1048576 := by unfold szL; split <;> omega
      exact ih (k + 1) g _ (by omega) (by omega) (by omega) hle
theorem p_szTy : ∀ gas : Nat, (∀ (xs : List DType) (left : Int), SizeOf.sizeOf xs ≤ gas → OkTyS xs → 0 ≤ left → left ≤ 1048576 → m_laws_szTypeS gas xs left = some (szL left (szTypeS xs))) ∧ (∀ (x : DType) (left : Int), SizeOf.sizeOf x ≤ gas → OkTy x → 0 ≤ left → left ≤ 1048576 → m_laws_szType gas x left = some (szL left (szType x)))
  | 0 => ⟨fun xs left h => by have := sz_posS xs; omega, fun x left h => by have := x.pos; omega⟩
  | gas + 1 => by
    obtain ⟨i1, i2⟩ := p_szTy gas
    refine ⟨fun xs left hg ho h0 h1 => ?_, fun x left hg ho h0 h1 => ?_⟩
    · have e : m_laws_szTypeS (gas + 1) xs left = m_laws_szTypeS_R (m_laws_szTypeS gas) (m_laws_szType gas) xs left := rfl
      rw [e, szTypeS_eq]
      unfold m_laws_szTypeS_R
      have hl := maxLen_le ho.1
      rw [ck_ok (by omega), Option.bind_some]
      by_cases hn : left - (xs.length : Int) < 0
      · rw [decide_eq_true hn, cond_true, szL_neg (by omega)]
      · rw [decide_eq_false hn, cond_false]
        have key := subI (L := m_laws_szTypeS_L1 (m_laws_szType gas) xs m_laws_szTypeS_A1) (d := xs) (s := szType) (ok := OkTy)
          (fun g k x left hx h0 h1 => by
            have hm := List.mem_of_getElem? hx
            have hs := List.sizeOf_lt_of_mem hm
            simp -implicitDefEqProofs only [m_laws_szTypeS_L1, m_laws_szTypeS_B1, dlt (lt_of_some hx), cond_true, getI_nat hx, Option.bind_some, i2 x left (by omega) (ho.2 x hm) h0 h1])
          (fun g left => by simp -implicitDefEqProofs only [m_laws_szTypeS_L1, m_laws_szTypeS_B1, dge, cond_false, m_laws_szTypeS_A1])
          xs.length 0 (xs.length + 1) (left - xs.length) (by omega) (by omega) (by omega) (by omega)
        refine key.trans ?_
        rw [List.drop_zero]
        congr 1
        rw [← szL_step, szL_pos hn, if_neg hn]
    · have e : m_laws_szType (gas + 1) x left = m_laws_szType_R (m_laws_szTypeS gas) (m_laws_szType gas) x left := rfl
      rw [e, szType_eq]
      unfold m_laws_szType_R
      have hl := maxLen_le ho.name
      have hk := sz_kids x
      rw [ck_ok (by omega), Option.bind_some]
      by_cases hn : left - (x.name.size : Int) < 0
      · rw [decide_eq_true hn, cond_true, szL_neg (by omega)]
      · rw [decide_eq_false hn, cond_false, i1 _ _ (by omega) ⟨ho.len, ho.kids⟩ (by omega) (by omega), Option.bind_some, ← szL_step, szL_pos hn, if_neg hn]
        by_cases h2 : szL (left - (x.name.size : Int)) (szTypeS x.kids) < 0
        · rw [decide_eq_true h2, cond_true]
          congr 1
          unfold szL at h2 ⊢
          split at h2
          · rename_i h3; rw [if_pos h3]
          · rename_i h3; omega
        · rw [decide_eq_false h2, cond_false]
theorem nameEq (a b : ByteArray) : (a.toList == b.toList) = decide (a = b) := by
  by_cases h : a = b
  · subst h; simp
  · rw [decide_eq_false h, beq_eq_false_iff_ne]
    intro e
    rw [ByteArray.toList_eq, ByteArray.toList_eq] at e
    exact h (Go.WideShapes.bytes_inj e)
theorem typeEq (x y : DType) : (x = y) ↔ (x.kind = y.kind ∧ x.name = y.name ∧ x.kids = y.kids) := by
  obtain ⟨a, b, c⟩ := x
  obtain ⟨a', b', c'⟩ := y
  simp
theorem typeDec (x y : DType) : decide (x = y) = (x.kind == y.kind && decide (x.name = y.name) && decide (x.kids = y.kids)) := by
  rw [Bool.eq_iff_iff]
  simp only [decide_eq_true_eq, Bool.and_eq_true, beq_iff_eq]
  rw [typeEq, and_assoc]
/-- A loop that asks whether two rows are equal, element by element. -/
theorem rowEq {α : Type} [DecidableEq α] {L : Nat → Int → Option Bool} {xs ys : List α} {q : α → α → Option Bool} (hl : xs.length = ys.length) (hq : ∀ x ∈ xs, ∀ y, q x y = some (decide (x = y)))
    (h : ∀ g (k : Nat) (hx : k < xs.length) (hy : k < ys.length), L (g + 1) (k : Int) = (q xs[k] ys[k]).bind fun b => bif b then L g ((k : Int) + 1) else some false) (he : ∀ g, L (g + 1) (xs.length : Int) = some true) : L (xs.length + 1) 0 = some (decide (xs = ys)) := by
  rw [← ite_dec]
  refine eqI hl (fun g k hx hy => ?_) he _ (Nat.lt_succ_self _)
  rw [h g k hx hy, hq _ (List.getElem_mem hx), Option.bind_some]
  by_cases h2 : xs[k] = ys[k]
  · rw [if_pos h2, decide_eq_true h2, cond_true]
  · rw [if_neg h2, decide_eq_false h2, cond_false]
theorem p_eqTy : ∀ gas : Nat, (∀ (xs ys : List DType), SizeOf.sizeOf xs ≤ gas → m_laws_eqTypeS gas xs ys = some (decide (xs = ys))) ∧ (∀ (x y : DType), SizeOf.sizeOf x ≤ gas → m_laws_eqType gas x y = some (decide (x = y)))
  | 0 => ⟨fun xs ys h => by have := sz_posS xs; omega, fun x y h => by have := x.pos; omega⟩
  | gas + 1 => by
    obtain ⟨i1, i2⟩ := p_eqTy gas
    refine ⟨fun xs ys hg => ?_, fun x y hg => ?_⟩
    · have e : m_laws_eqTypeS (gas + 1) xs ys = m_laws_eqTypeS_R (m_laws_eqTypeS gas) (m_laws_eqType gas) xs ys := rfl
      rw [e]
      unfold m_laws_eqTypeS_R
      rw [bne_nat]
      by_cases hl : xs.length = ys.length
      · rw [decide_eq_true hl, Bool.not_true, cond_false]
        exact rowEq (L := m_laws_eqTypeS_L1 (m_laws_eqType gas) xs ys m_laws_eqTypeS_A1) (q := m_laws_eqType gas) hl (fun x hx y => i2 x y (by have := List.sizeOf_lt_of_mem hx; omega))
          (fun g k hx hy => by simp -implicitDefEqProofs only [m_laws_eqTypeS_L1, m_laws_eqTypeS_B1, dlt hx, cond_true, getI_nat (List.getElem?_eq_getElem hx), getI_nat (List.getElem?_eq_getElem hy), Option.bind_some])
          (fun g => by simp -implicitDefEqProofs only [m_laws_eqTypeS_L1, m_laws_eqTypeS_B1, dge, cond_false, m_laws_eqTypeS_A1])
      · rw [decide_eq_false hl, Bool.not_false, cond_true, decide_len hl]
    · have e : m_laws_eqType (gas + 1) x y = m_laws_eqType_R (m_laws_eqTypeS gas) (m_laws_eqType gas) x y := rfl
      have hk := sz_kids x
      rw [e, typeDec]
      unfold m_laws_eqType_R
      rw [i1 _ _ (by omega), Option.bind_some, nameEq, show (x.kind != y.kind) = !(x.kind == y.kind) from rfl]
      cases h1 : x.kind == y.kind <;> cases decide (x.name = y.name) <;> cases decide (x.kids = y.kids) <;> rfl
theorem p_toTy : ∀ gas : Nat, (∀ (xs : List DType), SizeOf.sizeOf xs ≤ gas → szTypeS xs ≤ 1048576 → m_laws_toTypeS gas xs = some xs) ∧ (∀ (x : DType), SizeOf.sizeOf x ≤ gas → szType x ≤ 1048576 → m_laws_toType gas x = some x)
  | 0 => ⟨fun xs h => by have := sz_posS xs; omega, fun x h => by have := x.pos; omega⟩
  | gas + 1 => by
    obtain ⟨i1, i2⟩ := p_toTy gas
    refine ⟨fun xs hg hs => ?_, fun x hg hs => ?_⟩
    · have e : m_laws_toTypeS (gas + 1) xs = m_laws_toTypeS_R (m_laws_toTypeS gas) (m_laws_toType gas) xs := rfl
      rw [szTypeS_eq] at hs
      rw [e]
      unfold m_laws_toTypeS_R
      rw [mustP_ok (by omega), Option.bind_some]
      refine copyI (L := m_laws_toTypeS_L1 (m_laws_toType gas) xs m_laws_toTypeS_A1) (K := some)
        (fun g k acc hk hg2 => ?_)
        (fun g acc => by simp -implicitDefEqProofs only [m_laws_toTypeS_L1, m_laws_toTypeS_B1, dge, cond_false, m_laws_toTypeS_A1])
      have hm := List.getElem_mem hk
      have h1 := List.sizeOf_lt_of_mem hm
      have h2 := sum_mem (f := szType) hm
      simp -implicitDefEqProofs only [m_laws_toTypeS_L1, m_laws_toTypeS_B1, dlt hk, cond_true, getI_nat (List.getElem?_eq_getElem hk), Option.bind_some, hg2, i2 xs[k] (by omega) (by omega)]
    · have e : m_laws_toType (gas + 1) x = m_laws_toType_R (m_laws_toTypeS gas) (m_laws_toType gas) x := rfl
      have hk := sz_kids x
      rw [szType_eq] at hs
      rw [e]
      unfold m_laws_toType_R
      rw [i1 _ (by omega) (by omega), Option.bind_some]
      cases x; rfl
end
end Go.Proofs.Ytpbobilkejblgaa
