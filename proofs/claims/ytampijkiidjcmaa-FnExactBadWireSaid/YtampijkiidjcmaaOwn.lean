/- Memory of the call's own: 'ElAt': elements laid in one block, none frozen, each with the blocks that it leads to; 'OwAt': a slice of such. Laws: what stays, what a store does, how it reads. -/
import Derived.Test.YtampijkiidjcmaaMem
import Derived.Laws.Rows
import Derived.Laws.MakeOwn
import Derived.Laws.Entries
namespace Go.Proofs.Ytampijkiidjcmaa
open Go.RowKit
set_option linter.unusedVariables false
set_option linter.unusedSimpArgs false

abbrev Ow (α : Type) := World → List Value → α → List Nat → Prop
structure OwOk {α : Type} (O : Ow α) (sz : Nat) : Prop where
  len : ∀ {w cs x bs}, O w cs x bs → cs.length = sz
  keep : ∀ {w w' : World} {cs x bs}, (∀ b ∈ bs, w'.heap[b]? = w.heap[b]?) → O w cs x bs → O w' cs x bs

/-- The cells cs lie at b, o and may be written. -/
def CsAt (w : World) (b o : Nat) (cs : List Value) : Prop := ∀ j v, cs[j]? = some v → w.cell? ⟨b, o + j, none⟩ = some v ∧ w.frozen? ⟨b, o + j, none⟩ = false

def ElAt {α : Type} (O : Ow α) (sz : Nat) (w : World) (b : Nat) : Nat → List α → List Nat → Prop
  | _, [], bs => bs = []
  | o, x :: xs, bs => ∃ cs b1 b2, O w cs x b1 ∧ CsAt w b o cs ∧ bs = b1 ++ b2 ∧ ElAt O sz w b (o + sz) xs b2

def OwAt {α : Type} (O : Ow α) (sz : Nat) (w : World) (A : Option Addr) (n : Nat) (xs : List α) (bs : List Nat) : Prop :=
  n = xs.length ∧ ((xs = [] ∧ bs = []) ∨ ∃ b o b2, A = some ⟨b, o, none⟩ ∧ bs = b :: b2 ∧ ElAt O sz w b o xs b2)

def slOw {α : Type} (O : Ow α) (sz : Nat) : Ow (List α) := fun w cs xs bs => ∃ A n c, cs = [.slice A n c] ∧ OwAt O sz w A n xs bs ∧ n ≤ c ∧ c ≤ maxLen

def intOw : Ow Int := fun _ cs n bs => cs = [.int .i64 n] ∧ bs = []
def boolOw : Ow Bool := fun _ cs n bs => cs = [.bool n] ∧ bs = []
def strOw : Ow ByteArray := fun _ cs n bs => cs = [.string n] ∧ bs = []
theorem intOw_ok : OwOk intOw 1 := ⟨fun h => by rw [h.1]; rfl, fun _ h => h⟩
theorem boolOw_ok : OwOk boolOw 1 := ⟨fun h => by rw [h.1]; rfl, fun _ h => h⟩
theorem strOw_ok : OwOk strOw 1 := ⟨fun h => by rw [h.1]; rfl, fun _ h => h⟩

def Gives {α : Type} (O : Ow α) (R : Rd α) (B : Nat) : Prop := ∀ w cs x bs, O w cs x bs → (∀ k ∈ bs, k < B) → R w B cs x
/-- Only the blocks of bs may have turned. -/
structure Only (bs : List Nat) (w w' : World) : Prop where
  os : w'.os = w.os
  tape : w'.tape = w.tape
  output : w'.output = w.output
  size : w'.heap.size = w.heap.size
  block : ∀ k, k ∉ bs → w'.heap[k]? = w.heap[k]?

section
variable {w w' w'' : World} {bs bs' : List Nat}
theorem Only.refl (bs : List Nat) (w : World) : Only bs w w := ⟨rfl, rfl, rfl, rfl, fun _ _ => rfl⟩
theorem Only.trans (h : Only bs w w') (h' : Only bs w' w'') : Only bs w w'' :=
  ⟨h'.os.trans h.os, h'.tape.trans h.tape, h'.output.trans h.output, h'.size.trans h.size, fun k hk => (h'.block k hk).trans (h.block k hk)⟩
theorem Only.mono (h : Only bs w w') (hb : ∀ b ∈ bs, b ∈ bs') : Only bs' w w' := ⟨h.os, h.tape, h.output, h.size, fun k hk => h.block k (fun hin => hk (hb k hin))⟩
theorem Only.setCell (h : Only bs w w') {p : Addr} (hp : p.block ∈ bs) (u : Value) : Only bs w (w'.setCell p u) :=
  h.trans ⟨rfl, rfl, rfl, by simp [World.setCell], fun k hk => Below.heap_setCell _ _ _ _ (fun e => hk (by rw [e]; exact hp))⟩
theorem Only.drew (h : Only bs w w') : Only bs w w'.drew := ⟨h.os, h.tape, h.output, h.size, h.block⟩
theorem Only.drewN (h : Only bs w w') (n : Nat) : Only bs w (w'.drewN n) := ⟨h.os, h.tape, h.output, h.size, h.block⟩
theorem Only.below {B : Nat} (h : Only bs w w') (hb : ∀ b ∈ bs, B ≤ b) : Below B w w' :=
  ⟨h.os, h.tape, h.output, by rw [h.size]; exact Nat.le_refl _, fun k hk => h.block k (fun hin => by have := hb k hin; omega)⟩
theorem CsAt.keep {b o : Nat} {cs : List Value} (h : CsAt w b o cs) (hb : w'.heap[b]? = w.heap[b]?) : CsAt w' b o cs := fun j v hj =>
  ⟨(World.cell?_of_block (w := w) (a := ⟨b, o + j, none⟩) hb).trans (h j v hj).1, (World.frozen?_of_block (w := w) (a := ⟨b, o + j, none⟩) hb).trans (h j v hj).2⟩
end

section
variable {α : Type} {O : Ow α} {sz : Nat} {w w' : World} {b o n : Nat} {A : Option Addr} {xs ys : List α} {bs : List Nat}
theorem ElAt.keep (ok : OwOk O sz) : ∀ {xs : List α} {o : Nat} {bs : List Nat}, (w'.heap[b]? = w.heap[b]?) → (∀ k ∈ bs, w'.heap[k]? = w.heap[k]?) → ElAt O sz w b o xs bs → ElAt O sz w' b o xs bs
  | [], _, _, _, _, h => h
  | x :: xs, o, _, hb, hbs, ⟨cs, b1, b2, hO, hc, e, hr⟩ => by
    subst e
    exact ⟨cs, b1, b2, ok.keep (fun k hk => hbs k (by simp [hk])) hO, hc.keep hb, rfl, ElAt.keep ok hb (fun k hk => hbs k (by simp [hk])) hr⟩
theorem ElAt.append : ∀ {xs ys : List α} {o : Nat} {b1 b2 : List Nat}, ElAt O sz w b o xs b1 → ElAt O sz w b (o + xs.length * sz) ys b2 → ElAt O sz w b o (xs ++ ys) (b1 ++ b2)
  | [], ys, o, b1, b2, h1, h2 => by
    have h1 : b1 = [] := h1
    subst h1
    simpa using h2
  | x :: xs, ys, o, b1, b2, ⟨cs, c1, c2, hO, hc, e, hr⟩, h2 => by
    subst e
    refine ⟨cs, c1, c2 ++ b2, hO, hc, by simp, ElAt.append hr ?_⟩
    have e : o + sz + xs.length * sz = o + (x :: xs).length * sz := by simp [Nat.add_mul]; omega
    rw [e]
    exact h2
theorem ElAt.split : ∀ {xs ys : List α} {o : Nat} {bs : List Nat}, ElAt O sz w b o (xs ++ ys) bs → ∃ b1 b2, bs = b1 ++ b2 ∧ ElAt O sz w b o xs b1 ∧ ElAt O sz w b (o + xs.length * sz) ys b2
  | [], ys, o, bs, h => ⟨[], bs, rfl, rfl, by simpa using h⟩
  | x :: xs, ys, o, bs, ⟨cs, c1, c2, hO, hc, e, hr⟩ => by
    obtain ⟨b1, b2, e2, h1, h2⟩ := ElAt.split hr
    subst e2
    subst e
    refine ⟨c1 ++ b1, b2, by simp, ⟨cs, c1, b1, hO, hc, rfl, h1⟩, ?_⟩
    have e : o + sz + xs.length * sz = o + (x :: xs).length * sz := by simp [Nat.add_mul]; omega
    rw [e] at h2
    exact h2
theorem ElAt.one {x : α} {cs : List Value} {b1 : List Nat} (hO : O w cs x b1) (hc : CsAt w b o cs) : ElAt O sz w b o [x] b1 := ⟨cs, b1, [], hO, hc, by simp, rfl⟩
/-- It reads: elements by their index. -/
theorem ElAt.reads {R : Rd α} {B : Nat} (hR : Gives O R B) : ∀ {xs : List α} {o : Nat} {bs : List Nat}, ElAt O sz w b o xs bs → (∀ k ∈ bs, k < B) →
    ∀ i x, xs[i]? = some x → ∃ cs, R w B cs x ∧ ∀ j v, cs[j]? = some v → w.cell? ⟨b, o + i * sz + j, none⟩ = some v
  | [], _, _, _, _, i, x, hx => by simp at hx
  | y :: ys, o, _, ⟨cs, b1, b2, hO, hc, e, hr⟩, hlt, i, x, hx => by
    subst e
    cases i with
    | zero =>
      have hx : y = x := by simpa using hx
      subst hx
      exact ⟨cs, hR _ _ _ _ hO (fun k hk => hlt k (by simp [hk])), fun j v hj => by simpa using (hc j v hj).1⟩
    | succ i =>
      obtain ⟨cs', h1, h2⟩ := ElAt.reads hR hr (fun k hk => hlt k (by simp [hk])) i x (by simpa using hx)
      refine ⟨cs', h1, fun j v hj => ?_⟩
      have := h2 j v hj
      have e : o + sz + i * sz + j = o + (i + 1) * sz + j := by simp [Nat.add_mul]; omega
      rw [e] at this
      exact this
theorem OwAt.len (h : OwAt O sz w A n xs bs) : n = xs.length := h.1
theorem OwAt.keep (ok : OwOk O sz) (hb : ∀ k ∈ bs, w'.heap[k]? = w.heap[k]?) (h : OwAt O sz w A n xs bs) : OwAt O sz w' A n xs bs := by
  refine ⟨h.1, ?_⟩
  rcases h.2 with h2 | ⟨b, o, b2, e, e2, h2⟩
  · exact .inl h2
  · subst e2
    exact .inr ⟨b, o, b2, e, rfl, h2.keep ok (hb b (by simp)) (fun k hk => hb k (by simp [hk]))⟩
theorem OwAt.reads {R : Rd α} {B : Nat} (hR : Gives O R B) (h : OwAt O sz w A n xs bs) (hlt : ∀ k ∈ bs, k < B) : SlAt R sz w B A n xs := by
  refine ⟨h.1, fun hn => ?_⟩
  rcases h.2 with ⟨e, _⟩ | ⟨b, o, b2, e, e2, h2⟩
  · have := h.1; rw [e] at this; simp at this; omega
  · subst e2
    exact ⟨b, o, e, hlt b (by simp), h2.reads hR (fun k hk => hlt k (by simp [hk]))⟩
theorem slOw_ok (ok : OwOk O sz) : OwOk (slOw O sz) 1 :=
  ⟨fun ⟨_, _, _, e, _⟩ => by rw [e]; rfl, fun hb ⟨A, n, c, e, h, r⟩ => ⟨A, n, c, e, h.keep ok hb, r⟩⟩
theorem slOw_reads {R : Rd α} {B : Nat} (hR : Gives O R B) : Gives (slOw O sz) (slRd R sz) B := fun _ _ _ _ ⟨A, n, c, e, h, r⟩ hlt => ⟨A, n, c, e, h.reads hR hlt, r⟩
theorem intOw_reads (B : Nat) : Gives intOw intRd B := fun _ _ _ _ h _ => h.1
theorem boolOw_reads (B : Nat) : Gives boolOw boolRd B := fun _ _ _ _ h _ => h.1
theorem strOw_reads (B : Nat) : Gives strOw strRd B := fun _ _ _ _ h _ => h.1
end

/-! ### Stores; blocks known whole -/
def Blk (w : World) (g : Nat) (t : TypeId) (cs : Array Value) : Prop := w.heap[g]? = some (.cells cs t (0, 0))
section
variable {w w' : World} {g : Nat} {t : TypeId} {cs : Array Value}
theorem Blk.lt (h : Blk w g t cs) : g < w.heap.size := by
  rcases Nat.lt_or_ge g w.heap.size with hlt | hge
  · exact hlt
  · unfold Blk at h; rw [Array.getElem?_eq_none hge] at h; cases h
theorem Blk.cell (h : Blk w g t cs) (i : Nat) : w.cell? ⟨g, i, none⟩ = cs[i]? := cell_of_row w g i cs t (0, 0) h
theorem Blk.some_ (h : Blk w g t cs) {i : Nat} (hi : i < cs.size) : ∃ v, w.cell? ⟨g, i, none⟩ = some v := ⟨cs[i], by rw [h.cell]; simp [hi]⟩
theorem Blk.frozen (h : Blk w g t cs) (i : Nat) : w.frozen? ⟨g, i, none⟩ = false := by
  unfold Blk at h
  simp [World.frozen?, h]
theorem Blk.new (w : World) (t : TypeId) (cs : Array Value) : Blk (w.alloc (.cells cs t)) w.heap.size t cs := heap_alloc_new w _
theorem Blk.alloc (h : Blk w g t cs) (o : Obj) : Blk (w.alloc o) g t cs := (Below.heap_alloc w o g h.lt).trans h
theorem Blk.drew (h : Blk w g t cs) : Blk w.drew g t cs := h
theorem Blk.drewN (h : Blk w g t cs) (n : Nat) : Blk (w.drewN n) g t cs := h
theorem Blk.set_ (h : Blk w g t cs) (i : Nat) (u : Value) : Blk (w.setCell ⟨g, i, none⟩ u) g t (cs.setIfInBounds i u) := by
  unfold Blk at h ⊢
  simp [World.setCell, Array.getElem?_modify, h]
theorem Blk.far (h : Blk w g t cs) {p : Addr} (hp : g ≠ p.block) (u : Value) : Blk (w.setCell p u) g t cs := (Below.heap_setCell w p u g hp).trans h
theorem Blk.below {B : Nat} (h : Blk w g t cs) (hb : Below B w w') (hg : g < B) : Blk w' g t cs := (hb.block g hg).trans h
theorem Blk.csAt (h : Blk w g t cs) {o : Nat} {l : List Value} (hl : ∀ j v, l[j]? = some v → cs[o + j]? = some v) : CsAt w g o l := fun j v hj =>
  ⟨by rw [h.cell]; exact hl j v hj, h.frozen _⟩
end
theorem CsAt.nil {w : World} {b o : Nat} : CsAt w b o [] := fun j v hj => by simp at hj
theorem CsAt.cons {w : World} {b o : Nat} {v : Value} {vs : List Value} (h1 : w.cell? ⟨b, o, none⟩ = some v) (h2 : w.frozen? ⟨b, o, none⟩ = false) (h : CsAt w b (o + 1) vs) : CsAt w b o (v :: vs) := fun j u hj => by
  cases j with
  | zero => have hj : v = u := by simpa using hj
            subst hj; exact ⟨h1, h2⟩
  | succ j => have := h j u (by simpa using hj)
              rwa [show o + 1 + j = o + (j + 1) by omega] at this
theorem CsAt.keepC {w w' : World} {b o : Nat} {cs : List Value} (h : CsAt w b o cs) (hk : ∀ j, j < cs.length → w'.cell? ⟨b, o + j, none⟩ = w.cell? ⟨b, o + j, none⟩ ∧ w'.frozen? ⟨b, o + j, none⟩ = w.frozen? ⟨b, o + j, none⟩) : CsAt w' b o cs := fun j v hj => by
  obtain ⟨e1, e2⟩ := hk j (lt_of_some hj)
  rw [e1, e2]
  exact h j v hj
theorem CsAt.set_other {w : World} {b o p : Nat} {cs : List Value} (h : CsAt w b o cs) (hp : p < o ∨ o + cs.length ≤ p) (u : Value) : CsAt (w.setCell ⟨b, p, none⟩ u) b o cs :=
  h.keepC fun j hj => ⟨World.cell?_setCell_other _ _ _ _ (fun e => by injection e with _ e2; omega), World.frozen?_setCell _ _ _ _⟩
/-- The cells of an element are stored one behind the other. -/
def setRun (w : World) (b : Nat) : Nat → List Value → World
  | _, [] => w
  | o, v :: vs => setRun (w.setCell ⟨b, o, none⟩ v) b (o + 1) vs
theorem setRun_block {b : Nat} : ∀ {vs : List Value} {w : World} {o k : Nat}, k ≠ b → (setRun w b o vs).heap[k]? = w.heap[k]?
  | [], _, _, _, _ => rfl
  | v :: vs, w, o, k, h => (setRun_block (vs := vs) h).trans (Below.heap_setCell w ⟨b, o, none⟩ v k h)
theorem setRun_size {b : Nat} : ∀ {vs : List Value} {w : World} {o : Nat}, (setRun w b o vs).heap.size = w.heap.size
  | [], _, _ => rfl
  | v :: vs, w, o => (setRun_size (vs := vs)).trans (by simp [World.setCell])
theorem setRun_only {b : Nat} : ∀ {vs : List Value} {w : World} {o : Nat}, Only [b] w (setRun w b o vs)
  | [], w, _ => Only.refl _ w
  | v :: vs, w, o => ((Only.refl _ w).setCell (p := ⟨b, o, none⟩) (by simp) v).trans (setRun_only (vs := vs))
theorem setRun_frozen {b : Nat} {a : Addr} : ∀ {vs : List Value} {w : World} {o : Nat}, (setRun w b o vs).frozen? a = w.frozen? a
  | [], _, _ => rfl
  | v :: vs, w, o => (setRun_frozen (vs := vs)).trans (World.frozen?_setCell _ _ _ _)
theorem setRun_other {b : Nat} {p : Nat} : ∀ {vs : List Value} {w : World} {o : Nat}, p < o ∨ o + vs.length ≤ p → (setRun w b o vs).cell? ⟨b, p, none⟩ = w.cell? ⟨b, p, none⟩
  | [], _, _, _ => rfl
  | v :: vs, w, o, h => by
    have h1 : (setRun (w.setCell ⟨b, o, none⟩ v) b (o + 1) vs).cell? ⟨b, p, none⟩ = (w.setCell ⟨b, o, none⟩ v).cell? ⟨b, p, none⟩ := setRun_other (by simp at h; omega)
    refine h1.trans (World.cell?_setCell_other _ _ _ _ (fun e => ?_))
    injection e with _ e2
    simp at h
    omega
theorem setRun_csAt {b : Nat} : ∀ {vs : List Value} {w : World} {o : Nat}, (∀ j, j < vs.length → ∃ u, w.cell? ⟨b, o + j, none⟩ = some u) → (∀ j, j < vs.length → w.frozen? ⟨b, o + j, none⟩ = false) → CsAt (setRun w b o vs) b o vs
  | [], _, _, _, _ => CsAt.nil
  | v :: vs, w, o, h, hf => by
    obtain ⟨u, hu⟩ := h 0 (by simp)
    refine CsAt.cons ?_ ?_ (setRun_csAt (fun j hj => ?_) (fun j hj => ?_))
    · have h1 : (setRun (w.setCell ⟨b, o, none⟩ v) b (o + 1) vs).cell? ⟨b, o, none⟩ = (w.setCell ⟨b, o, none⟩ v).cell? ⟨b, o, none⟩ := setRun_other (by omega)
      exact h1.trans (World.cell?_setCell_same _ _ _ hu)
    · have h0 : w.frozen? ⟨b, o, none⟩ = false := by simpa using hf 0 (by simp)
      exact setRun_frozen.trans h0
    · obtain ⟨u', hu'⟩ := h (j + 1) (by simp; omega)
      rw [show o + (j + 1) = o + 1 + j by omega] at hu'
      refine ⟨u', (World.cell?_setCell_other _ _ _ _ (fun e => ?_)).trans hu'⟩
      injection e with _ e2
      omega
    · have := hf (j + 1) (by simp; omega)
      rw [show o + (j + 1) = o + 1 + j by omega] at this
      exact (World.frozen?_setCell _ _ _ _).trans this
section
variable {α : Type} {O : Ow α} {sz : Nat} {w w' : World} {b o n : Nat}
theorem ElAt.keepC (ok : OwOk O sz) : ∀ {xs : List α} {o : Nat} {bs : List Nat}, (∀ p, o ≤ p → p < o + xs.length * sz → w'.cell? ⟨b, p, none⟩ = w.cell? ⟨b, p, none⟩ ∧ w'.frozen? ⟨b, p, none⟩ = w.frozen? ⟨b, p, none⟩) →
    (∀ k ∈ bs, w'.heap[k]? = w.heap[k]?) → ElAt O sz w b o xs bs → ElAt O sz w' b o xs bs
  | [], _, _, _, _, h => h
  | x :: xs, o, _, hb, hbs, ⟨cs, b1, b2, hO, hc, e, hr⟩ => by
    subst e
    have hl := ok.len hO
    have e : (x :: xs).length * sz = xs.length * sz + sz := by simp [Nat.add_mul]
    exact ⟨cs, b1, b2, ok.keep (fun k hk => hbs k (by simp [hk])) hO, hc.keepC (fun j hj => hb _ (by omega) (by omega)), rfl,
      ElAt.keepC ok (fun p h1 h2 => hb p (by omega) (by omega)) (fun k hk => hbs k (by simp [hk])) hr⟩
theorem ElAt.setRun (ok : OwOk O sz) {xs : List α} {o : Nat} {bs : List Nat} {p : Nat} {vs : List Value} (h : ElAt O sz w b o xs bs) (hb : b ∉ bs) (hp : p + vs.length ≤ o ∨ o + xs.length * sz ≤ p) :
    ElAt O sz (setRun w b p vs) b o xs bs :=
  h.keepC ok (fun q h1 h2 => ⟨setRun_other (by omega), setRun_frozen⟩) (fun k hk => setRun_block (fun e => hb (by rw [← e]; exact hk)))
end
theorem run_make_rowN {P : Program} (t e : TypeId) (i : TypeInfo) (z : Value) (ht : P.underlying t = some (.slice e)) (hi : P.info? e = some i) (hz : i.zero = some z)
    (kl kc : IntKind) (n c : Nat) (hnc : n ≤ c) (hbytes : i.bytes * c ≤ 281474976710656) (h63 : c ≤ 9223372036854775807) (w : World) :
    (Instr.makeSlice t (.int kl (n : Int)) (.int kc (c : Int))).run P w = .ok (.slice (some ⟨w.heap.size, 0, none⟩) n c) (w.alloc (.cells (madeCells z.cells (c * i.size)) e)) := by
  have hb : (i.bytes : Int) * (c : Int) ≤ 281474976710656 := by
    have h : ((i.bytes * c : Nat) : Int) ≤ 281474976710656 := by omega
    rwa [Int.natCast_mul] at h
  have hr := run_make (P := P) w t e i z ht hi hz kl kc n c (by omega) (by omega) hb (by omega)
  simp only [Int.toNat_natCast] at hr
  exact hr
theorem run_make_sz {P : Program} (t e : TypeId) {z : Value} {sz bb : Nat} (ht : P.underlying t = some (.slice e)) (hinfo : (P.info? e).map (fun i => (i.zero, i.size, i.bytes)) = some (some z, sz, bb))
    (n : Nat) (hb : bb * n ≤ 281474976710656) (hn : n ≤ 4294967296) (w : World) :
    (Instr.makeSlice t (.int .i64 (n : Int)) (.int .i64 (n : Int))).run P w = .ok (.slice (some ⟨w.heap.size, 0, none⟩) n n) (w.alloc (.cells (madeCells z.cells (n * sz)) e)) := by
  obtain ⟨i0, hi, hz0, hz1, hz2⟩ := info_parts hinfo
  have h := run_make_rowN t e i0 z ht hi hz0 .i64 .i64 n n (Nat.le_refl _) (by rw [hz2]; exact hb) (by omega) w
  rw [hz1] at h
  exact h
theorem madeCells_size (z : Array Value) (n : Nat) : (madeCells z n).size = n := by simp [madeCells]

/-! ### A slice of the call's own in the middle of a loop that writes it: 'done' lies before, 'rest' behind -/
def MidAt {α : Type} (O : Ow α) (sz : Nat) (w : World) (A : Option Addr) (done rest : List α) (bs : List Nat) : Prop :=
  (done = [] ∧ rest = [] ∧ bs = []) ∨ ∃ b o b1 b2, A = some ⟨b, o, none⟩ ∧ bs = b :: (b1 ++ b2) ∧ ElAt O sz w b o done b1 ∧ ElAt O sz w b (o + done.length * sz) rest b2
section
variable {α : Type} {O : Ow α} {sz : Nat} {w w' : World} {A : Option Addr} {n : Nat} {done rest xs : List α} {x x' : α} {bs : List Nat}
theorem OwAt.mid (h : OwAt O sz w A n xs bs) : MidAt O sz w A [] xs bs := by
  rcases h.2 with ⟨e1, e2⟩ | ⟨b, o, b2, e1, e2, h⟩
  · exact .inl ⟨rfl, e1, e2⟩
  · exact .inr ⟨b, o, [], b2, e1, by simpa using e2, rfl, by simpa using h⟩
theorem MidAt.whole (h : MidAt O sz w A done [] bs) (hn : n = done.length) : OwAt O sz w A n done bs := by
  refine ⟨hn, ?_⟩
  rcases h with ⟨e1, _, e2⟩ | ⟨b, o, b1, b2, e1, e2, h, h2⟩
  · exact .inl ⟨e1, e2⟩
  · have h2 : b2 = [] := h2
    subst h2
    exact .inr ⟨b, o, b1, e1, by simpa using e2, h⟩
/-- The element that stands next: its cells, its own blocks, and how the step is closed when it has been written. -/
theorem MidAt.next (h : MidAt O sz w A done (x :: rest) bs) : ∃ b o cs b1 bx b2, A = some ⟨b, o, none⟩ ∧ bs = b :: (b1 ++ (bx ++ b2)) ∧ O w cs x bx ∧ CsAt w b (o + done.length * sz) cs ∧
    ElAt O sz w b o done b1 ∧ ElAt O sz w b (o + done.length * sz + sz) rest b2 := by
  rcases h with ⟨_, e, _⟩ | ⟨b, o, b1, b2, e1, e2, h1, cs, bx, b3, hO, hc, e3, h2⟩
  · cases e
  · subst e3
    exact ⟨b, o, cs, b1, bx, b3, e1, e2, hO, hc, h1, h2⟩
theorem MidAt.step {b o : Nat} {cs : List Value} {b1 bx b2 : List Nat} (hA : A = some ⟨b, o, none⟩) (h1 : ElAt O sz w b o done b1) (hO : O w cs x' bx) (hc : CsAt w b (o + done.length * sz) cs)
    (h2 : ElAt O sz w b (o + done.length * sz + sz) rest b2) : MidAt O sz w A (done ++ [x']) rest (b :: (b1 ++ (bx ++ b2))) := by
  refine .inr ⟨b, o, b1 ++ bx, b2, hA, by simp, ElAt.append h1 (ElAt.one hO hc), ?_⟩
  have e : o + (done ++ [x']).length * sz = o + done.length * sz + sz := by simp [Nat.add_mul]; omega
  rw [e]
  exact h2
end
def marks (k n : Nat) : List Int := (List.range n).map fun i => ((k + i : Nat) : Int)
theorem marks_len (k n : Nat) : (marks k n).length = n := by simp [marks]
theorem marks_succ (k n : Nat) : marks k (n + 1) = marks k n ++ [((k + n : Nat) : Int)] := by simp [marks, List.range_succ]
theorem drop_some {α : Type} {l : List α} {k : Nat} {x : α} (h : l[k]? = some x) : l.drop k = x :: l.drop (k + 1) := by
  have hl := lt_of_some h
  rw [List.drop_eq_getElem_cons hl]
  congr 1
  rw [List.getElem?_eq_getElem hl] at h
  injection h
theorem marks_get {k n i : Nat} (hi : i < n) : (marks k n)[i]? = some ((k + i : Nat) : Int) := by simp [marks, hi]
end Go.Proofs.Ytampijkiidjcmaa
