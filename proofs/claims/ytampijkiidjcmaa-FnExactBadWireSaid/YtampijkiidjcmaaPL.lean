/- Plain laws on loops of models. -/
import Derived.Test.YtampijkiidjcmaaWkF
namespace Go.Proofs.Ytampijkiidjcmaa
open Go.RowKit
set_option linter.unusedVariables false
/-- A loop that goes through the states st 0, st 1, .. and ends at st n. -/
theorem traj {σ ρ : Type} {L : Nat → σ → Option ρ} {st : Nat → σ} {n : Nat} {r : Option ρ} (h : ∀ g k, k < n → L (g + 1) (st k) = L g (st (k + 1))) (he : ∀ g, L (g + 1) (st n) = r) : ∀ g, n < g → L g (st 0) = r := by
  have key : ∀ d k g, k + d = n → d < g → L g (st k) = r := by
    intro d
    induction d with
    | zero =>
      intro k g hk hg
      obtain ⟨g, rfl⟩ : ∃ g', g = g' + 1 := ⟨g - 1, by omega⟩
      obtain rfl : k = n := by omega
      exact he g
    | succ d ih =>
      intro k g hk hg
      obtain ⟨g, rfl⟩ : ∃ g', g = g' + 1 := ⟨g - 1, by omega⟩
      rw [h g k (by omega)]
      exact ih (k + 1) g (by omega) (by omega)
  intro g hg
  exact key n 0 g (by omega) hg
/-- A loop over an index. -/
theorem trajI {ρ : Type} {L : Nat → Int → Option ρ} {n : Nat} {r : Option ρ} (h : ∀ g (k : Nat), k < n → L (g + 1) (k : Int) = L g ((k : Int) + 1)) (he : ∀ g, L (g + 1) (n : Int) = r) (g : Nat) (hg : n < g) : L g 0 = r :=
  traj (L := fun g (k : Nat) => L g (k : Int)) (st := fun k => k) (fun g k hk => by simpa using h g k hk) he g hg
open Classical in
/-- A loop that asks p of each index. -/
theorem allI {ρ : Type} {L : Nat → Int → Option ρ} {n : Nat} {p : Nat → Prop} {no K : Option ρ} (h1 : ∀ g (k : Nat), k < n → p k → L (g + 1) (k : Int) = L g ((k : Int) + 1)) (h2 : ∀ g (k : Nat), k < n → ¬ p k → L (g + 1) (k : Int) = no) (h3 : ∀ g, L (g + 1) (n : Int) = K) (g : Nat) (hg : n < g) :
    L g 0 = if ∀ k, k < n → p k then K else no := by
  by_cases ha : ∀ k, k < n → p k
  · rw [if_pos ha]
    exact trajI (fun g k hk => h1 g k hk (ha k hk)) h3 g hg
  · rw [if_neg ha]
    have hex : ∃ k, k < n ∧ ¬ p k := by
      apply Classical.byContradiction
      intro hn
      exact ha fun k hk => Classical.byContradiction fun hp => hn ⟨k, hk, hp⟩
    obtain ⟨m, ⟨hm, hpm⟩, hleast⟩ : ∃ m, (m < n ∧ ¬ p m) ∧ ∀ k, k < m → k < n → p k := by
      obtain ⟨k0, hk0⟩ := hex
      induction k0 using Nat.strongRecOn with
      | _ k0 ih =>
        by_cases h : ∃ k, k < k0 ∧ k < n ∧ ¬ p k
        · obtain ⟨k, hk, hk1⟩ := h
          exact ih k hk hk1
        · exact ⟨k0, hk0, fun k hk hkn => Classical.byContradiction fun hp => h ⟨k, hk, hkn, hp⟩⟩
    exact trajI (n := m) (fun g k hk => h1 g k (by omega) (hleast k hk (by omega))) (fun g => h2 g m hm hpm) g (by omega)
theorem allO {ρ : Type} {L : Nat → Int → Option ρ} {n : Nat} {p : Nat → Prop} {no K : Option ρ} (h1 : ∀ g (k : Nat), k < n → p k → L (g + 1) (k : Int) = L g ((k : Int) + 1)) (h2 : ∀ g (k : Nat), k < n → ¬ p k → L (g + 1) (k : Int) = no) (h3 : ∀ g, L (g + 1) (n : Int) = K) (g : Nat) (hg : n < g) :
    ((∀ k, k < n → p k) ∧ L g 0 = K) ∨ ((¬ ∀ k, k < n → p k) ∧ L g 0 = no) := by
  have h := allI h1 h2 h3 g hg
  by_cases ha : ∀ k, k < n → p k
  · rw [if_pos ha] at h; exact .inl ⟨ha, h⟩
  · rw [if_neg ha] at h; exact .inr ⟨ha, h⟩
theorem getI_lt {α : Type} {xs : List α} {k : Nat} (h : k < xs.length) : getI xs (k : Int) = some xs[k] := by simp [getI, h]
theorem dlt {k n : Nat} (h : k < n) : decide ((k : Int) < (n : Int)) = true := by simp; omega
theorem dge {n : Nat} : decide ((n : Int) < (n : Int)) = false := by simp
theorem ckN {k n : Nat} (h : k < n) (hn : n ≤ 9223372036854775807) : ck ((k : Int) + 1) = some ((k : Int) + 1) := ck_ok (by omega)
end Go.Proofs.Ytampijkiidjcmaa
