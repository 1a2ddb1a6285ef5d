/- Values that a law holds: what they read as ('RdS'), what is the call's own in a range of blocks ('OwS'), what may have turned ('OnlyIn'). -/
import Derived.Test.YtampijkiidjcmaaApp
namespace Go.Proofs.Ytampijkiidjcmaa
open Go.RowKit
set_option linter.unusedVariables false
/-- A slice value that reads as a list. -/
def RdS {α : Type} (R : Rd α) (sz : Nat) (w : World) (B : Nat) (v : Value) (xs : List α) : Prop := ∃ A n c, v = .slice A n c ∧ SlAt R sz w B A n xs ∧ n ≤ c ∧ c ≤ maxLen
/-- A slice value of the call's own whose blocks lie from lo to hi. -/
def OwS {α : Type} (O : Ow α) (sz : Nat) (w : World) (v : Value) (xs : List α) (lo hi : Nat) : Prop := ∃ A n c bs, v = .slice A n c ∧ OwAt O sz w A n xs bs ∧ bs.Nodup ∧ (∀ b ∈ bs, lo ≤ b ∧ b < hi) ∧ n ≤ c ∧ c ≤ maxLen
/-- A struct value. -/
def RdT {α : Type} (R : Rd α) (w : World) (B : Nat) (v : Value) (x : α) : Prop := ∃ cs, v = .agg cs.toArray ∧ R w B cs x
def OwT {α : Type} (O : Ow α) (w : World) (v : Value) (x : α) (lo hi : Nat) : Prop := ∃ cs bs, v = .agg cs.toArray ∧ O w cs x bs ∧ bs.Nodup ∧ ∀ b ∈ bs, lo ≤ b ∧ b < hi
structure OnlyIn (lo hi : Nat) (w w' : World) : Prop where
  os : w'.os = w.os
  tape : w'.tape = w.tape
  output : w'.output = w.output
  size : w'.heap.size = w.heap.size
  block : ∀ k, k < lo ∨ hi ≤ k → w'.heap[k]? = w.heap[k]?
section
variable {w w' w'' : World} {lo hi lo' hi' B : Nat}
theorem OnlyIn.refl (lo hi : Nat) (w : World) : OnlyIn lo hi w w := ⟨rfl, rfl, rfl, rfl, fun _ _ => rfl⟩
theorem Only.in_ {bs : List Nat} (h : Only bs w w') (hb : ∀ b ∈ bs, lo ≤ b ∧ b < hi) : OnlyIn lo hi w w' :=
  ⟨h.os, h.tape, h.output, h.size, fun k hk => h.block k (fun hin => by have := hb k hin; omega)⟩
theorem OnlyIn.trans (h : OnlyIn lo hi w w') (h' : OnlyIn lo hi w' w'') : OnlyIn lo hi w w'' :=
  ⟨h'.os.trans h.os, h'.tape.trans h.tape, h'.output.trans h.output, h'.size.trans h.size, fun k hk => (h'.block k hk).trans (h.block k hk)⟩
theorem OnlyIn.wide (h : OnlyIn lo hi w w') (h1 : lo' ≤ lo) (h2 : hi ≤ hi') : OnlyIn lo' hi' w w' := ⟨h.os, h.tape, h.output, h.size, fun k hk => h.block k (by omega)⟩
theorem OnlyIn.setCell (h : OnlyIn lo hi w w') {p : Addr} (hp : lo ≤ p.block ∧ p.block < hi) (u : Value) : OnlyIn lo hi w (w'.setCell p u) :=
  h.trans ⟨rfl, rfl, rfl, by simp [World.setCell], fun k hk => Below.heap_setCell _ _ _ _ (fun e => by omega)⟩
theorem OnlyIn.drew (h : OnlyIn lo hi w w') : OnlyIn lo hi w w'.drew := ⟨h.os, h.tape, h.output, h.size, h.block⟩
theorem OnlyIn.below (h : OnlyIn lo hi w w') : Below lo w w' := ⟨h.os, h.tape, h.output, by rw [h.size]; exact Nat.le_refl _, fun k hk => h.block k (.inl hk)⟩
section
variable {α : Type} {O : Ow α} {R : Rd α} {sz : Nat} {v : Value} {xs : List α} {x : α}
theorem RdS.below (ok : RdOk R sz) (h : RdS R sz w B v xs) (hb : Below B w w') : RdS R sz w' B v xs := let ⟨A, n, c, e, h, r⟩ := h; ⟨A, n, c, e, h.below ok hb, r⟩
theorem RdS.more (ok : RdOk R sz) (h : RdS R sz w B v xs) {B' : Nat} (hB : B ≤ B') : RdS R sz w B' v xs := let ⟨A, n, c, e, h, r⟩ := h; ⟨A, n, c, e, h.more ok hB, r⟩
theorem RdT.below (ok : RdOk R sz) (h : RdT R w B v x) (hb : Below B w w') : RdT R w' B v x := let ⟨cs, e, h⟩ := h; ⟨cs, e, ok.keep (fun p hp => hb.cell hp) h⟩
theorem RdT.more (ok : RdOk R sz) (h : RdT R w B v x) {B' : Nat} (hB : B ≤ B') : RdT R w B' v x := let ⟨cs, e, h⟩ := h; ⟨cs, e, ok.more hB h⟩
theorem OwS.keep (ok : OwOk O sz) (h : OwS O sz w v xs lo hi) (hk : ∀ k, lo ≤ k → k < hi → w'.heap[k]? = w.heap[k]?) : OwS O sz w' v xs lo hi :=
  let ⟨A, n, c, bs, e, h, h1, h2, r⟩ := h; ⟨A, n, c, bs, e, h.keep ok (fun k hin => hk k (h2 k hin).1 (h2 k hin).2), h1, h2, r⟩
theorem OwS.below (ok : OwOk O sz) (h : OwS O sz w v xs lo hi) (hb : Below B w w') (hB : hi ≤ B) : OwS O sz w' v xs lo hi := h.keep ok fun k _ hk => hb.block k (by omega)
theorem OwS.only (ok : OwOk O sz) (h : OwS O sz w v xs lo hi) (ho : OnlyIn lo' hi' w w') (hd : hi ≤ lo' ∨ hi' ≤ lo) : OwS O sz w' v xs lo hi := h.keep ok fun k h1 h2 => ho.block k (by omega)
theorem OwS.wide (h : OwS O sz w v xs lo hi) (h1 : lo' ≤ lo) (h2 : hi ≤ hi') : OwS O sz w v xs lo' hi' := let ⟨A, n, c, bs, e, h, hn, hb, r⟩ := h; ⟨A, n, c, bs, e, h, hn, fun b hin => by have := hb b hin; omega, r⟩
theorem OwS.reads (hR : Gives O R B) (h : OwS O sz w v xs lo hi) (hB : hi ≤ B) : RdS R sz w B v xs := let ⟨A, n, c, bs, e, h, h1, h2, r⟩ := h; ⟨A, n, c, e, h.reads hR (fun k hk => by have := h2 k hk; omega), r⟩
theorem OwT.keep (ok : OwOk O sz) (h : OwT O w v x lo hi) (hk : ∀ k, lo ≤ k → k < hi → w'.heap[k]? = w.heap[k]?) : OwT O w' v x lo hi :=
  let ⟨cs, bs, e, h, h1, h2⟩ := h; ⟨cs, bs, e, ok.keep (fun k hin => hk k (h2 k hin).1 (h2 k hin).2) h, h1, h2⟩
theorem OwT.below (ok : OwOk O sz) (h : OwT O w v x lo hi) (hb : Below B w w') (hB : hi ≤ B) : OwT O w' v x lo hi := h.keep ok fun k _ hk => hb.block k (by omega)
theorem OwT.only (ok : OwOk O sz) (h : OwT O w v x lo hi) (ho : OnlyIn lo' hi' w w') (hd : hi ≤ lo' ∨ hi' ≤ lo) : OwT O w' v x lo hi := h.keep ok fun k h1 h2 => ho.block k (by omega)
theorem OwT.wide (h : OwT O w v x lo hi) (h1 : lo' ≤ lo) (h2 : hi ≤ hi') : OwT O w v x lo' hi' := let ⟨cs, bs, e, h, hn, hb⟩ := h; ⟨cs, bs, e, h, hn, fun b hin => by have := hb b hin; omega⟩
theorem OwT.reads (hR : Gives O R B) (h : OwT O w v x lo hi) (hB : hi ≤ B) : RdT R w B v x := let ⟨cs, bs, e, h, h1, h2⟩ := h; ⟨cs, e, hR _ _ _ _ h (fun k hk => by have := h2 k hk; omega)⟩
end
end
theorem blk3_0 {w : World} {t : TypeId} {cs : Array Value} {o2 o3 : Obj} : Blk (((w.alloc (.cells cs t)).alloc o2).alloc o3) w.heap.size t cs := ((Blk.new w t cs).alloc _).alloc _
theorem blk3_1 {w : World} {t : TypeId} {cs : Array Value} {o1 o3 : Obj} : Blk (((w.alloc o1).alloc (.cells cs t)).alloc o3) (w.heap.size + 1) t cs := by
  have h := (Blk.new (w.alloc o1) t cs).alloc o3
  rwa [World.size_alloc] at h
theorem blk3_2 {w : World} {t : TypeId} {cs : Array Value} {o1 o2 : Obj} : Blk (((w.alloc o1).alloc o2).alloc (.cells cs t)) (w.heap.size + 1 + 1) t cs := by
  have h := Blk.new ((w.alloc o1).alloc o2) t cs
  rwa [World.size_alloc, World.size_alloc] at h
theorem blk2_0 {w : World} {t : TypeId} {cs : Array Value} {o2 : Obj} : Blk ((w.alloc (.cells cs t)).alloc o2) w.heap.size t cs := (Blk.new w t cs).alloc _
theorem blk2_1 {w : World} {t : TypeId} {cs : Array Value} {o1 : Obj} : Blk ((w.alloc o1).alloc (.cells cs t)) (w.heap.size + 1) t cs := by
  have h := Blk.new (w.alloc o1) t cs
  rwa [World.size_alloc] at h
theorem nodup_two {b1 b2 : List Nat} {lo mid hi : Nat} (h1 : b1.Nodup) (h2 : b2.Nodup) (i1 : ∀ b ∈ b1, lo ≤ b ∧ b < mid) (i2 : ∀ b ∈ b2, mid ≤ b ∧ b < hi) (e1 : lo ≤ mid) (e2 : mid ≤ hi) :
    (b1 ++ b2).Nodup ∧ ∀ b ∈ b1 ++ b2, lo ≤ b ∧ b < hi := by
  refine ⟨List.nodup_append.2 ⟨h1, h2, fun a ha b hb e => by have := i1 a ha; have := i2 b hb; omega⟩, fun b hb => ?_⟩
  rcases List.mem_append.1 hb with h | h
  · have := i1 b h; omega
  · have := i2 b h; omega
/-- Marks of a list whose elements take several numbers each. -/
def mkL {α : Type} (mk : Nat → α → α) (cnt : α → Nat) : Nat → List α → List α
  | _, [] => []
  | k, x :: xs => mk k x :: mkL mk cnt (k + cnt x) xs
def cntL {α : Type} (cnt : α → Nat) (xs : List α) : Nat := (xs.map cnt).sum
section
variable {α : Type} {mk : Nat → α → α} {cnt : α → Nat}
theorem cntL_cons (x : α) (xs : List α) : cntL cnt (x :: xs) = cnt x + cntL cnt xs := by simp [cntL]
theorem cntL_append (xs ys : List α) : cntL cnt (xs ++ ys) = cntL cnt xs + cntL cnt ys := by simp [cntL]
theorem mkL_len : ∀ (xs : List α) (k : Nat), (mkL mk cnt k xs).length = xs.length
  | [], _ => rfl
  | x :: xs, k => by simp [mkL, mkL_len xs]
theorem mkL_append : ∀ (xs ys : List α) (k : Nat), mkL mk cnt k (xs ++ ys) = mkL mk cnt k xs ++ mkL mk cnt (k + cntL cnt xs) ys
  | [], ys, k => by simp [mkL, cntL]
  | x :: xs, ys, k => by simp [mkL, mkL_append xs ys, cntL_cons, Nat.add_assoc]
theorem cntL_take {xs : List α} {i : Nat} {x : α} (h : xs[i]? = some x) : cntL cnt (xs.take (i + 1)) = cntL cnt (xs.take i) + cnt x := by
  rw [take_succ_some h, cntL_append, cntL_cons]; simp [cntL]
theorem cntL_le (xs : List α) (i : Nat) : cntL cnt (xs.take i) ≤ cntL cnt xs := by
  have h : cntL cnt (xs.take i ++ xs.drop i) = cntL cnt xs := by rw [List.take_append_drop]
  rw [cntL_append] at h
  omega
theorem mkL_take {xs : List α} {i k : Nat} {x : α} (h : xs[i]? = some x) : mkL mk cnt k (xs.take (i + 1)) = mkL mk cnt k (xs.take i) ++ [mk (k + cntL cnt (xs.take i)) x] := by
  rw [take_succ_some h, mkL_append]; rfl
theorem mkL_get : ∀ {xs : List α} {i k : Nat} {x : α}, xs[i]? = some x → (mkL mk cnt k xs)[i]? = some (mk (k + cntL cnt (xs.take i)) x)
  | [], i, k, x, h => by simp at h
  | y :: ys, 0, k, x, h => by
    have : y = x := by simpa using h
    subst this
    simp [mkL, cntL]
  | y :: ys, i + 1, k, x, h => by
    have := mkL_get (k := k + cnt y) (x := x) (xs := ys) (i := i) (by simpa using h)
    simp only [mkL, List.getElem?_cons_succ, List.take_succ_cons, cntL_cons]
    rw [this, Nat.add_assoc]
end
/-- An element at b, p is being written: its own cells, and the blocks of bs. -/
structure Touch (b p sz : Nat) (bs : List Nat) (w w' : World) : Prop where
  os : w'.os = w.os
  tape : w'.tape = w.tape
  output : w'.output = w.output
  size : w'.heap.size = w.heap.size
  cell : ∀ q, q < p ∨ p + sz ≤ q → w'.cell? ⟨b, q, none⟩ = w.cell? ⟨b, q, none⟩
  frozen : ∀ q, w'.frozen? ⟨b, q, none⟩ = w.frozen? ⟨b, q, none⟩
  block : ∀ k, k ≠ b → k ∉ bs → w'.heap[k]? = w.heap[k]?
section
variable {w w' w'' : World} {b p sz : Nat} {bs bs' : List Nat}
theorem Touch.refl : Touch b p sz bs w w := ⟨rfl, rfl, rfl, rfl, fun _ _ => rfl, fun _ => rfl, fun _ _ _ => rfl⟩
theorem Touch.trans (h : Touch b p sz bs w w') (h' : Touch b p sz bs w' w'') : Touch b p sz bs w w'' :=
  ⟨h'.os.trans h.os, h'.tape.trans h.tape, h'.output.trans h.output, h'.size.trans h.size, fun q hq => (h'.cell q hq).trans (h.cell q hq), fun q => (h'.frozen q).trans (h.frozen q), fun k h1 h2 => (h'.block k h1 h2).trans (h.block k h1 h2)⟩
theorem Touch.set (h : Touch b p sz bs w w') {j : Nat} (h1 : p ≤ j) (h2 : j < p + sz) (v : Value) : Touch b p sz bs w (w'.setCell ⟨b, j, none⟩ v) :=
  h.trans ⟨rfl, rfl, rfl, by simp [World.setCell], fun q hq => World.cell?_setCell_other _ _ _ _ (fun e => by injection e with _ e2; omega), fun q => World.frozen?_setCell _ _ _ _, fun k hk _ => Below.heap_setCell _ _ _ _ hk⟩
theorem Touch.only (h : Touch b p sz bs w w') (ho : Only bs' w' w'') (hb : b ∉ bs') (hs : ∀ k ∈ bs', k ∈ bs) : Touch b p sz bs w w'' :=
  h.trans ⟨ho.os, ho.tape, ho.output, ho.size, fun q _ => World.cell?_of_block (w := w') (a := ⟨b, q, none⟩) (ho.block b hb), fun q => World.frozen?_of_block (w := w') (a := ⟨b, q, none⟩) (ho.block b hb), fun k _ hk => ho.block k (fun hin => hk (hs k hin))⟩
theorem Touch.only_ (h : Touch b p sz bs w w') : Only (b :: bs) w w' := ⟨h.os, h.tape, h.output, h.size, fun k hk => h.block k (by simp at hk; exact hk.1) (by simp at hk; exact hk.2)⟩
theorem Touch.el {α : Type} {O : Ow α} {s : Nat} (ok : OwOk O s) {xs : List α} {o : Nat} {bl : List Nat} (h : Touch b p sz bs w w') (hd : o + xs.length * s ≤ p ∨ p + sz ≤ o) (hbl : ∀ k ∈ bl, k ≠ b ∧ k ∉ bs) (hE : ElAt O s w b o xs bl) : ElAt O s w' b o xs bl :=
  hE.keepC ok (fun q h1 h2 => ⟨h.cell q (by omega), h.frozen q⟩) (fun k hk => h.block k (hbl k hk).1 (hbl k hk).2)
end
theorem SlAt.drew {α : Type} {R : Rd α} {sz : Nat} {w : World} {B n : Nat} {A : Option Addr} {xs : List α} (ok : RdOk R sz) (h : SlAt R sz w B A n xs) : SlAt R sz w.drew B A n xs := SlAt.keep (w := w) (w' := w.drew) ok (fun _ _ => rfl) h
/-- One result, or a result and codes. -/
def Ret1 (P : Value → Prop) (e : Ending) : Prop := ∃ v, e = .returned v ∧ P v
def Ret2 (P : Value → Prop) (k : Int) (e : Ending) : Prop := ∃ v, e = .returned (.tuple #[v, .int .i64 k]) ∧ P v
theorem RetInts.ret2 {B : Nat} {w' : World} {xs : List Int} {k : Int} {e : Ending} (h : RetInts B w' xs k e) : Ret2 (fun v => OwS intOw 1 w' v xs B w'.heap.size) k e := by
  obtain ⟨A, n, c, bs, e1, h1, h2, h3, h4⟩ := h
  exact ⟨_, e1, A, n, c, bs, rfl, h1, h2, h3, h4⟩
end Go.Proofs.Ytampijkiidjcmaa
