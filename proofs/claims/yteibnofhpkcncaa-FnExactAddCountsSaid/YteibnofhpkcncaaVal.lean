/- Values that a law holds: what they read as ('RdS'), what is the call's own in a range of blocks ('OwS'), what may have turned ('OnlyIn'). -/
import Derived.Test.YteibnofhpkcncaaApp
namespace Go.Proofs.Yteibnofhpkcncaa
open Go.RowKit
set_option linter.unusedVariables false
/-- A slice value that reads as a list. -/
def RdS {α : Type} (R : Rd α) (sz : Nat) (w : World) (B : Nat) (v : Value) (xs : List α) : Prop := ∃ A n c, v = .slice A n c ∧ SlAt R sz w B A n xs
/-- A slice value of the call's own whose blocks lie from lo to hi. -/
def OwS {α : Type} (O : Ow α) (sz : Nat) (w : World) (v : Value) (xs : List α) (lo hi : Nat) : Prop := ∃ A n c bs, v = .slice A n c ∧ OwAt O sz w A n xs bs ∧ bs.Nodup ∧ ∀ b ∈ bs, lo ≤ b ∧ b < hi
/-- A struct value. -/
def RdT {α : Type} (R : Rd α) (w : World) (B : Nat) (v : Value) (x : α) : Prop := ∃ cs, v = .agg cs.toArray ∧ R w B cs x
def OwT {α : Type} (O : Ow α) (w : World) (v : Value) (x : α) (lo hi : Nat) : Prop := ∃ cs bs, v = .agg cs.toArray ∧ O w cs x bs ∧ bs.Nodup ∧ ∀ b ∈ bs, lo ≤ b ∧ b < hi
structure OnlyIn (lo hi : Nat) (w w' : World) : Prop where
  os : w'.os = w.os
  tape : w'.tape = w.tape
  output : w'.output = w.output
  size : w'.heap.size = w.heap.size
  block : ∀ k, k < lo ∨ hi ≤ k → w'.heap[k]? = w.heap[k]?
section
variable {w w' w'' : World} {lo hi lo' hi' B : Nat}
theorem OnlyIn.refl (lo hi : Nat) (w : World) : OnlyIn lo hi w w := ⟨rfl, rfl, rfl, rfl, fun _ _ => rfl⟩
theorem Only.in_ {bs : List Nat} (h : Only bs w w') (hb : ∀ b ∈ bs, lo ≤ b ∧ b < hi) : OnlyIn lo hi w w' :=
  ⟨h.os, h.tape, h.output, h.size, fun k hk => h.block k (fun hin => by have := hb k hin; omega)⟩
theorem OnlyIn.below (h : OnlyIn lo hi w w') : Below lo w w' := ⟨h.os, h.tape, h.output, by rw [h.size]; exact Nat.le_refl _, fun k hk => h.block k (.inl hk)⟩
section
variable {α : Type} {O : Ow α} {R : Rd α} {sz : Nat} {v : Value} {xs : List α} {x : α}
theorem RdS.below (ok : RdOk R sz) (h : RdS R sz w B v xs) (hb : Below B w w') : RdS R sz w' B v xs := let ⟨A, n, c, e, h⟩ := h; ⟨A, n, c, e, h.below ok hb⟩
theorem RdS.more (ok : RdOk R sz) (h : RdS R sz w B v xs) {B' : Nat} (hB : B ≤ B') : RdS R sz w B' v xs := let ⟨A, n, c, e, h⟩ := h; ⟨A, n, c, e, h.more ok hB⟩
theorem RdT.below (ok : RdOk R sz) (h : RdT R w B v x) (hb : Below B w w') : RdT R w' B v x := let ⟨cs, e, h⟩ := h; ⟨cs, e, ok.keep (fun p hp => hb.cell hp) h⟩
theorem RdT.more (ok : RdOk R sz) (h : RdT R w B v x) {B' : Nat} (hB : B ≤ B') : RdT R w B' v x := let ⟨cs, e, h⟩ := h; ⟨cs, e, ok.more hB h⟩
theorem OwS.keep (ok : OwOk O sz) (h : OwS O sz w v xs lo hi) (hk : ∀ k, lo ≤ k → k < hi → w'.heap[k]? = w.heap[k]?) : OwS O sz w' v xs lo hi :=
  let ⟨A, n, c, bs, e, h, h1, h2⟩ := h; ⟨A, n, c, bs, e, h.keep ok (fun k hin => hk k (h2 k hin).1 (h2 k hin).2), h1, h2⟩
theorem OwS.below (ok : OwOk O sz) (h : OwS O sz w v xs lo hi) (hb : Below B w w') (hB : hi ≤ B) : OwS O sz w' v xs lo hi := h.keep ok fun k _ hk => hb.block k (by omega)
theorem OwS.only (ok : OwOk O sz) (h : OwS O sz w v xs lo hi) (ho : OnlyIn lo' hi' w w') (hd : hi ≤ lo' ∨ hi' ≤ lo) : OwS O sz w' v xs lo hi := h.keep ok fun k h1 h2 => ho.block k (by omega)
theorem OwS.wide (h : OwS O sz w v xs lo hi) (h1 : lo' ≤ lo) (h2 : hi ≤ hi') : OwS O sz w v xs lo' hi' := let ⟨A, n, c, bs, e, h, hn, hb⟩ := h; ⟨A, n, c, bs, e, h, hn, fun b hin => by have := hb b hin; omega⟩
theorem OwS.reads (hR : Gives O R B) (h : OwS O sz w v xs lo hi) (hB : hi ≤ B) : RdS R sz w B v xs := let ⟨A, n, c, bs, e, h, h1, h2⟩ := h; ⟨A, n, c, e, h.reads hR (fun k hk => by have := h2 k hk; omega)⟩
theorem OwT.keep (ok : OwOk O sz) (h : OwT O w v x lo hi) (hk : ∀ k, lo ≤ k → k < hi → w'.heap[k]? = w.heap[k]?) : OwT O w' v x lo hi :=
  let ⟨cs, bs, e, h, h1, h2⟩ := h; ⟨cs, bs, e, ok.keep (fun k hin => hk k (h2 k hin).1 (h2 k hin).2) h, h1, h2⟩
theorem OwT.below (ok : OwOk O sz) (h : OwT O w v x lo hi) (hb : Below B w w') (hB : hi ≤ B) : OwT O w' v x lo hi := h.keep ok fun k _ hk => hb.block k (by omega)
theorem OwT.only (ok : OwOk O sz) (h : OwT O w v x lo hi) (ho : OnlyIn lo' hi' w w') (hd : hi ≤ lo' ∨ hi' ≤ lo) : OwT O w' v x lo hi := h.keep ok fun k h1 h2 => ho.block k (by omega)
theorem OwT.wide (h : OwT O w v x lo hi) (h1 : lo' ≤ lo) (h2 : hi ≤ hi') : OwT O w v x lo' hi' := let ⟨cs, bs, e, h, hn, hb⟩ := h; ⟨cs, bs, e, h, hn, fun b hin => by have := hb b hin; omega⟩
theorem OwT.reads (hR : Gives O R B) (h : OwT O w v x lo hi) (hB : hi ≤ B) : RdT R w B v x := let ⟨cs, bs, e, h, h1, h2⟩ := h; ⟨cs, e, hR _ _ _ _ h (fun k hk => by have := h2 k hk; omega)⟩
end
end
/-- One result, or a result and codes. -/
def Ret1 (P : Value → Prop) (e : Ending) : Prop := ∃ v, e = .returned v ∧ P v
def Ret2 (P : Value → Prop) (k : Int) (e : Ending) : Prop := ∃ v, e = .returned (.tuple #[v, .int .i64 k]) ∧ P v
theorem RetInts.ret2 {B : Nat} {w' : World} {xs : List Int} {k : Int} {e : Ending} (h : RetInts B w' xs k e) : Ret2 (fun v => OwS intOw 1 w' v xs B w'.heap.size) k e := by
  obtain ⟨A, n, c, bs, e1, h1, h2, h3⟩ := h
  exact ⟨_, e1, A, n, c, bs, rfl, h1, h2, h3⟩
end Go.Proofs.Yteibnofhpkcncaa
