/- How a datum is read off memory: words and laws on them, over any program. 'Rd': a datum off a list of cells below a block number; 'SlAt': the elements of a slice; 'OwAt': a slice of the call's own, with its blocks. -/
import Derived.Test.YtampijkiidjcmaaDat
import Derived.WalkKit
import Derived.Deep.Draws
import Derived.Lib.Hide
namespace Go.Proofs.Ytampijkiidjcmaa
open Go.RowKit
set_option linter.unusedVariables false
set_option linter.unusedSimpArgs false

abbrev Rd (α : Type) := World → Nat → List Value → α → Prop

/-- What every reading meets: it is of 'sz' cells; it stays while the cells below B stay; it may look further up. -/
structure RdOk {α : Type} (R : Rd α) (sz : Nat) : Prop where
  len : ∀ {w B cs x}, R w B cs x → cs.length = sz
  keep : ∀ {w w' : World} {B cs x}, (∀ p : Addr, p.block < B → w'.cell? p = w.cell? p) → R w B cs x → R w' B cs x
  more : ∀ {w B B' cs x}, B ≤ B' → R w B cs x → R w B' cs x

/-- The elements of a slice at address A, n of them, each of 'sz' cells. -/
def SlAt {α : Type} (R : Rd α) (sz : Nat) (w : World) (B : Nat) (A : Option Addr) (n : Nat) (xs : List α) : Prop :=
  n = xs.length ∧ (0 < n → ∃ b off, A = some ⟨b, off, none⟩ ∧ b < B ∧
    ∀ i x, xs[i]? = some x → ∃ cs, R w B cs x ∧ ∀ j v, cs[j]? = some v → w.cell? ⟨b, off + i * sz + j, none⟩ = some v)

/-- A slice as one cell. -/
def slRd {α : Type} (R : Rd α) (sz : Nat) : Rd (List α) := fun w B cs xs => ∃ A n c, cs = [.slice A n c] ∧ SlAt R sz w B A n xs ∧ n ≤ c ∧ c ≤ maxLen

def intRd : Rd Int := fun _ _ cs n => cs = [.int .i64 n]
def boolRd : Rd Bool := fun _ _ cs b => cs = [.bool b]
def strRd : Rd ByteArray := fun _ _ cs s => cs = [.string s]
theorem intRd_ok : RdOk intRd 1 := ⟨fun h => by cases h; rfl, fun _ h => h, fun _ h => h⟩
theorem boolRd_ok : RdOk boolRd 1 := ⟨fun h => by cases h; rfl, fun _ h => h, fun _ h => h⟩
theorem strRd_ok : RdOk strRd 1 := ⟨fun h => by cases h; rfl, fun _ h => h, fun _ h => h⟩

section
variable {α : Type} {R : Rd α} {sz : Nat} {w w' : World} {B B' n : Nat} {A : Option Addr} {xs : List α}
theorem SlAt.len (h : SlAt R sz w B A n xs) : n = xs.length := h.1
theorem SlAt.none_ : SlAt R sz w B A 0 [] := ⟨rfl, fun h => absurd h (by omega)⟩
theorem SlAt.keep (ok : RdOk R sz) (hk : ∀ p : Addr, p.block < B → w'.cell? p = w.cell? p) (h : SlAt R sz w B A n xs) : SlAt R sz w' B A n xs :=
  ⟨h.1, fun hn => by
    obtain ⟨b, off, e, hb, hc⟩ := h.2 hn
    exact ⟨b, off, e, hb, fun i x hx => by
      obtain ⟨cs, hR, hv⟩ := hc i x hx
      exact ⟨cs, ok.keep hk hR, fun j v hj => (hk _ hb).trans (hv j v hj)⟩⟩⟩
theorem SlAt.more (ok : RdOk R sz) (hB : B ≤ B') (h : SlAt R sz w B A n xs) : SlAt R sz w B' A n xs :=
  ⟨h.1, fun hn => by
    obtain ⟨b, off, e, hb, hc⟩ := h.2 hn
    exact ⟨b, off, e, by omega, fun i x hx => by
      obtain ⟨cs, hR, hv⟩ := hc i x hx
      exact ⟨cs, ok.more hB hR, hv⟩⟩⟩
theorem SlAt.below (ok : RdOk R sz) (h : SlAt R sz w B A n xs) (hb : Below B w w') : SlAt R sz w' B A n xs := h.keep ok fun _ hp => hb.cell hp
theorem SlAt.at_ (h : SlAt R sz w B A n xs) {k : Nat} (hk : k < n) : ∃ b off x cs, A = some ⟨b, off, none⟩ ∧ b < B ∧ xs[k]? = some x ∧ R w B cs x ∧ ∀ j v, cs[j]? = some v → w.cell? ⟨b, off + k * sz + j, none⟩ = some v := by
  obtain ⟨b, off, e, hb, hc⟩ := h.2 (by omega)
  have hl : k < xs.length := by have := h.1; omega
  obtain ⟨cs, hR, hv⟩ := hc k xs[k] (List.getElem?_eq_getElem hl)
  exact ⟨b, off, xs[k], cs, e, hb, List.getElem?_eq_getElem hl, hR, hv⟩
theorem slRd_ok (ok : RdOk R sz) : RdOk (slRd R sz) 1 :=
  ⟨fun ⟨_, _, _, e, _⟩ => by rw [e]; rfl,
   fun hk ⟨A, n, c, e, h, r⟩ => ⟨A, n, c, e, h.keep ok hk, r⟩,
   fun hB ⟨A, n, c, e, h, r⟩ => ⟨A, n, c, e, h.more ok hB, r⟩⟩
end

theorem SlAt.int {w : World} {B n : Nat} {A : Option Addr} {xs : List Int} (h : SlAt intRd 1 w B A n xs) {k : Nat} (hk : k < n) :
    ∃ b off x, A = some ⟨b, off, none⟩ ∧ b < B ∧ xs[k]? = some x ∧ w.cell? ⟨b, off + k, none⟩ = some (.int .i64 x) := by
  obtain ⟨b, off, x, cs, e, hb, hx, rfl, hc⟩ := h.at_ hk
  exact ⟨b, off, x, e, hb, hx, by simpa using hc 0 _ rfl⟩
theorem SlAt.bool {w : World} {B n : Nat} {A : Option Addr} {xs : List Bool} (h : SlAt boolRd 1 w B A n xs) {k : Nat} (hk : k < n) :
    ∃ b off x, A = some ⟨b, off, none⟩ ∧ b < B ∧ xs[k]? = some x ∧ w.cell? ⟨b, off + k, none⟩ = some (.bool x) := by
  obtain ⟨b, off, x, cs, e, hb, hx, rfl, hc⟩ := h.at_ hk
  exact ⟨b, off, x, e, hb, hx, by simpa using hc 0 _ rfl⟩

/-- What is left of a bound behind a list of n; -1: too long. -/
def szL (left : Int) (n : Nat) : Int := if left - n < 0 then -1 else left - n
theorem szL_neg {left : Int} {n : Nat} (h : left - n < 0) : szL left n = -1 := if_pos h
theorem szL_pos {left : Int} {n : Nat} (h : ¬ left - n < 0) : szL left n = left - n := if_neg h
/-! ### lists -/
theorem take_succ_some {α : Type} {l : List α} {k : Nat} {x : α} (h : l[k]? = some x) : l.take (k + 1) = l.take k ++ [x] := by
  rw [List.take_add_one, h]; rfl
theorem lt_of_some {α : Type} {l : List α} {k : Nat} {x : α} (h : l[k]? = some x) : k < l.length := (List.getElem?_eq_some_iff.1 h).1
def eqL {α : Type} [DecidableEq α] (a b : List α) : Bool := decide (a = b)
theorem eqL_step {α : Type} {xs ys : List α} {k : Nat} {x y : α} (hx : xs[k]? = some x) (hy : ys[k]? = some y) (h : xs.take k = ys.take k) (e : x = y) : xs.take (k + 1) = ys.take (k + 1) := by
  rw [take_succ_some hx, take_succ_some hy, h, e]
theorem eqL_no {α : Type} [DecidableEq α] {xs ys : List α} {k : Nat} {x y : α} (hx : xs[k]? = some x) (hy : ys[k]? = some y) (e : x ≠ y) : eqL xs ys = false := by
  unfold eqL
  refine decide_eq_false fun he => e ?_
  subst he
  rw [hx] at hy
  injection hy
theorem eqL_len {α : Type} [DecidableEq α] {xs ys : List α} (h : xs.length ≠ ys.length) : eqL xs ys = false := decide_eq_false fun he => h (by rw [he])
theorem eqL_yes {α : Type} [DecidableEq α] {xs ys : List α} {k : Nat} (h : xs.take k = ys.take k) (h1 : xs.length ≤ k) (h2 : ys.length ≤ k) : eqL xs ys = true := by
  rw [List.take_of_length_le h1, List.take_of_length_le h2] at h
  exact decide_eq_true h
theorem eqL_nil {α : Type} [DecidableEq α] : eqL ([] : List α) [] = true := decide_eq_true rfl
end Go.Proofs.Ytampijkiidjcmaa
