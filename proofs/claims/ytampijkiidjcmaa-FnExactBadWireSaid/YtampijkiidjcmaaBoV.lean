/- toBoolS, eqBoolS in the form that a law's walk asks. -/
import Derived.Test.YtampijkiidjcmaaWBo
import Derived.Test.YtampijkiidjcmaaPL
import Derived.Test.YtampijkiidjcmaaIntsV
namespace Go.Proofs.Ytampijkiidjcmaa
open Go.RowKit
set_option linter.unusedVariables false
theorem copy_set {α : Type} {xs : List α} {z : α} {k : Nat} (hk : k < xs.length) : setI (xs.take k ++ List.replicate (xs.length - k) z) (k : Int) xs[k] = xs.take (k + 1) ++ List.replicate (xs.length - (k + 1)) z := by
  rw [setI_nat]
  obtain ⟨m, hm⟩ : ∃ m, xs.length - k = m + 1 := ⟨xs.length - k - 1, by omega⟩
  have hm2 : xs.length - (k + 1) = m := by omega
  have hl : (xs.take k).length = k := by simp; omega
  rw [hm, hm2, List.replicate_succ, List.set_append_right _ _ (by omega), hl, Nat.sub_self, List.set_cons_zero, List.take_succ_eq_append_getElem hk, List.append_assoc]
  rfl
theorem copy_get {α : Type} {xs : List α} {z : α} {k : Nat} (hk : k < xs.length) : getI (xs.take k ++ List.replicate (xs.length - k) z) (k : Int) = some z := by
  have hl : (xs.take k).length = k := by simp; omega
  refine getI_nat ?_
  rw [List.getElem?_append_right (by omega), hl, Nat.sub_self, List.getElem?_replicate]
  simp; omega
theorem copyI {α ρ : Type} {L : Nat → List α → Int → Option ρ} {xs : List α} {z : α} {K : List α → Option ρ} (h : ∀ g (k : Nat) acc (hk : k < xs.length), getI acc (k : Int) = some z → L (g + 1) acc (k : Int) = L g (setI acc (k : Int) xs[k]) ((k : Int) + 1)) (he : ∀ g acc, L (g + 1) acc (xs.length : Int) = K acc) :
    L (xs.length + 1) (List.replicate xs.length z) 0 = K xs := by
  have := traj (L := fun g (s : List α × Int) => L g s.1 s.2) (st := fun k => (xs.take k ++ List.replicate (xs.length - k) z, (k : Int))) (n := xs.length) (r := K xs)
    (fun g k hk => by
      simp only
      rw [h g k _ hk (copy_get hk), copy_set hk]
      simp only [Int.natCast_add, Int.cast_ofNat_Int])
    (fun g => by simp only; rw [he]; simp) (xs.length + 1) (Nat.lt_succ_self _)
  simpa using this
theorem eqI {α ρ : Type} [DecidableEq α] {L : Nat → Int → Option ρ} {xs ys : List α} {no yes : Option ρ} (hl : xs.length = ys.length) (h : ∀ g (k : Nat) (hx : k < xs.length) (hy : k < ys.length), L (g + 1) (k : Int) = if xs[k] = ys[k] then L g ((k : Int) + 1) else no) (he : ∀ g, L (g + 1) (xs.length : Int) = yes) (g : Nat) (hg : xs.length < g) :
    L g 0 = if xs = ys then yes else no := by
  have key := allO (L := L) (n := xs.length) (p := fun k => xs[k]? = ys[k]?) (no := no) (K := yes)
    (fun g k hk hp => by
      have hy : k < ys.length := by omega
      rw [h g k hk hy, if_pos]
      rw [List.getElem?_eq_getElem hk, List.getElem?_eq_getElem hy] at hp
      injection hp)
    (fun g k hk hp => by
      have hy : k < ys.length := by omega
      rw [h g k hk hy, if_neg]
      intro e
      rw [List.getElem?_eq_getElem hk, List.getElem?_eq_getElem hy, e] at hp
      exact hp rfl) he g hg
  rcases key with ⟨h1, h2⟩ | ⟨h1, h2⟩
  · have e : xs = ys := List.ext_getElem? fun k => by
      by_cases hk : k < xs.length
      · exact h1 k hk
      · rw [List.getElem?_eq_none (by omega), List.getElem?_eq_none (by omega)]
    rw [if_pos e, h2]
  · rw [if_neg, h2]
    intro e
    exact h1 fun k _ => by rw [e]

theorem p_toBoolS (xs : List Bool) (hs : lenOk xs) : m_laws_toBoolS xs = some xs := by
  unfold m_laws_toBoolS
  rw [mustP_ok (by unfold lenOk at hs; omega), Option.bind_some]
  exact copyI (L := m_laws_toBoolS_L1 xs m_laws_toBoolS_A1) (K := some) (z := false)
    (fun g k acc hk hg => by simp -implicitDefEqProofs only [m_laws_toBoolS_L1, m_laws_toBoolS_B1, dlt hk, cond_true, getI_lt hk, Option.bind_some, hg])
    (fun g acc => by simp -implicitDefEqProofs only [m_laws_toBoolS_L1, m_laws_toBoolS_B1, dge, cond_false, m_laws_toBoolS_A1])
theorem toBoolS_v (v : Value) (xs : List Bool) (w : World) {B : Nat} (h : RdS boolRd 1 w B v xs) (hB : B ≤ w.heap.size) (hs : lenOk xs) :
    Calls Try.prog 35 #[v] w fun e w' => Ret1 (fun v' => OwS boolOw 1 w' v' xs w.heap.size w'.heap.size) e ∧ Below w.heap.size w w' :=
  (c_m_laws_toBoolS xs _ (p_toBoolS xs hs) v w (h.more boolRd_ok hB)).mono fun e w' ⟨⟨v', he, ho⟩, hb⟩ => ⟨⟨v', he, ho.own fB⟩, hb⟩

theorem p_eqBoolS (xs ys : List Bool) : m_laws_eqBoolS xs ys = some (eqL xs ys) := by
  unfold m_laws_eqBoolS eqL
  by_cases hl : xs.length = ys.length
  · have e : ((xs.length : Int) != (ys.length : Int)) = false := by simp [hl]
    rw [e, cond_false]
    rw [eqI (L := m_laws_eqBoolS_L1 xs ys m_laws_eqBoolS_A1) hl (no := some false) (yes := some true)
      (fun g k hx hy => by
        simp -implicitDefEqProofs only [m_laws_eqBoolS_L1, m_laws_eqBoolS_B1, dlt hx, cond_true, getI_lt hx, getI_lt hy, Option.bind_some]
        cases xs[k] <;> cases ys[k] <;> rfl)
      (fun g => by simp -implicitDefEqProofs only [m_laws_eqBoolS_L1, m_laws_eqBoolS_B1, dge, cond_false, m_laws_eqBoolS_A1]) _ (Nat.lt_succ_self _)]
    by_cases he : xs = ys
    · rw [if_pos he, decide_eq_true he]
    · rw [if_neg he, decide_eq_false he]
  · have e : ((xs.length : Int) != (ys.length : Int)) = true := by simp; omega
    rw [e, cond_true, decide_eq_false (fun he => hl (by rw [he]))]
theorem eqBoolS_v (v u : Value) (xs ys : List Bool) (w : World) {B B' : Nat} (h : RdS boolRd 1 w B v xs) (h' : RdS boolRd 1 w B' u ys) (hB : B ≤ w.heap.size) (hB' : B' ≤ w.heap.size) :
    Calls Try.prog 37 #[v, u] w fun e w' => e = .returned (.bool (eqL xs ys)) ∧ Below w.heap.size w w' :=
  c_m_laws_eqBoolS xs ys _ (p_eqBoolS xs ys) v u w (h.more boolRd_ok hB) (h'.more boolRd_ok hB')

end Go.Proofs.Ytampijkiidjcmaa
