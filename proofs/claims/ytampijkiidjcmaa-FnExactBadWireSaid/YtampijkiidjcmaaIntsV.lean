/- The helpers of the laws on lists of numbers, by the words of Val. -/
import Derived.Test.YtampijkiidjcmaaInts
import Derived.Test.YtampijkiidjcmaaVal
namespace Go.Proofs.Ytampijkiidjcmaa
open Go.RowKit
set_option linter.unusedVariables false
def lenOk {α : Type} (xs : List α) : Prop := xs.length ≤ 1048576

theorem toInt64S_v (v : Value) (xs : List Int) (w : World) {B : Nat} (h : RdS intRd 1 w B v xs) (hB : B ≤ w.heap.size) (hs : lenOk xs) :
    Calls Try.prog 32 #[v] w fun e w' => Ret1 (fun v' => OwS intOw 1 w' v' xs w.heap.size w'.heap.size) e ∧ Below w.heap.size w w' := by
  obtain ⟨A, n, c, rfl, h, hnc, hcm⟩ := h
  refine (toInt64S_c A n c xs w h hB (by have := h.len; unfold lenOk at hs; omega)).mono ?_
  rintro e w' ⟨rfl, h1, h2, h3⟩
  exact ⟨⟨_, rfl, _, n, n, _, rfl, h1, by simp, fun b hb => by simp at hb; omega, Nat.le_refl _, by unfold maxLen; have := h.len; unfold lenOk at hs; omega⟩, h2⟩

theorem eqInt64S_v (v u : Value) (xs ys : List Int) (w : World) {B B' : Nat} (h : RdS intRd 1 w B v xs) (h' : RdS intRd 1 w B' u ys) (hB : B ≤ w.heap.size) (hB' : B' ≤ w.heap.size) :
    Calls Try.prog 22 #[v, u] w fun e w' => e = .returned (.bool (eqL xs ys)) ∧ Below w.heap.size w w' := by
  obtain ⟨A, n, c, rfl, h, hnc, hcm⟩ := h
  obtain ⟨C, m, d, rfl, h', hmd, hdm⟩ := h'
  refine (eqInt64S_c A C n c m d xs ys w (h.more intRd_ok (Nat.le_max_left B B')) (h'.more intRd_ok (Nat.le_max_right B B')) (by unfold maxLen at hcm; omega) (by unfold maxLen at hdm; omega)).mono ?_
  rintro e w' ⟨rfl, q, rfl⟩
  exact ⟨rfl, ⟨rfl, rfl, rfl, Nat.le_refl _, fun _ _ => rfl⟩⟩

theorem markInt64S_v (v : Value) (xs : List Int) (w : World) (k : Int) (lo hi : Nat) (h : OwS intOw 1 w v xs lo hi) (hs : lenOk xs) (h0 : 0 ≤ k) (hk : k ≤ 4611686018427387904) :
    Calls Try.prog 24 #[v, .int .i64 k] w fun e w' => e = .returned (.int .i64 (k + xs.length)) ∧ OwS intOw 1 w' v (marks k.toNat xs.length) lo hi ∧ OnlyIn lo hi w w' := by
  obtain ⟨A, n, c, bs, rfl, h, h1, h2, r⟩ := h
  have hl := h.len
  obtain ⟨k0, rfl⟩ := Int.eq_ofNat_of_zero_le h0
  refine (markInt64S_c A n c k0 xs bs w h h1 (by unfold lenOk at hs; omega) (by omega)).mono ?_
  rintro e w' ⟨rfl, h3, h4⟩
  rw [← hl]
  exact ⟨retI (by omega), ⟨A, n, c, bs, rfl, h3, h1, h2, r⟩, h4.in_ h2⟩

theorem heldInt64S_v (v : Value) (xs : List Int) (w : World) (k : Int) {B : Nat} (h : RdS intRd 1 w B v (marks k.toNat xs.length)) (hs : lenOk xs) (h0 : 0 ≤ k) (hk : k ≤ 4611686018427387904) :
    Calls Try.prog 25 #[v, .int .i64 k] w fun e w' => e = .returned (.int .i64 (k + xs.length)) ∧ Below w.heap.size w w' := by
  obtain ⟨A, n, c, rfl, h, hnc, hcm⟩ := h
  have hl : n = xs.length := by have := h.len; rw [marks_len] at this; exact this
  rw [← hl] at h
  obtain ⟨k0, rfl⟩ := Int.eq_ofNat_of_zero_le h0
  refine (heldInt64S_c A n c k0 w h (by unfold lenOk at hs; omega) (by omega)).mono ?_
  rintro e w' ⟨rfl, rfl⟩
  exact ⟨retI (by omega), Below.refl _ _⟩

end Go.Proofs.Ytampijkiidjcmaa
