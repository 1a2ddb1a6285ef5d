/- From the form's reading of an argument ('DataW.trod') to the words of Mem: over any program. -/
import Derived.Test.YtampijkiidjcmaaMem
import Derived.ProofKit
import Derived.OpenShut
import Derived.Deep.Slices
import Derived.Deep.Fields
namespace Go.Proofs.Ytampijkiidjcmaa
open Go.RowKit Go.ChangeShapes Go.WideShapes Go.Deep Go.WideMaps
set_option linter.unusedVariables false

def Opens {α : Type} (P : Program) (t : TypeId) (R : Rd α) : Prop := ∀ (H : Type) (enc : TypeId × Value → H) (W : World) (fuel : Nat) (cs : List Value) (x : DataW H × List MemPlace),
  DataW.trod enc P W 0 (fun _ => true) true fuel t cs = some x → ∃ d, R W W.heap.size cs d

theorem opens_int {P : Program} {t : TypeId} (ht : P.underlying t = some (.int .i64)) : Opens P t intRd := fun H enc W fuel cs x h => by
  obtain ⟨n, hc, _, _⟩ := DataW.trod_int ht h
  exact ⟨n, hc⟩
theorem opens_bool {P : Program} {t : TypeId} (ht : P.underlying t = some .bool) : Opens P t boolRd := fun H enc W fuel cs x h => by
  obtain ⟨n, hc, _⟩ := DataW.trod_bool ht h
  exact ⟨n, hc⟩
theorem opens_string {P : Program} {t : TypeId} (ht : P.underlying t = some .string) : Opens P t strRd := fun H enc W fuel cs x h => by
  obtain ⟨n, hc, _, _⟩ := DataW.trod_string ht h
  exact ⟨n, hc⟩
theorem spot_none {w : World} {a : Addr} {v : Value} (h : w.cell? a = some v) : a.spot = none := by
  unfold World.cell? at h
  split at h
  · cases hs : a.spot with
    | none => rfl
    | some s => simp [hs] at h
  · simp at h
theorem opens_slice {α : Type} {P : Program} {t e : TypeId} {R : Rd α} {sz : Nat} (ht : P.underlying t = some (.slice e)) (hsz : P.cellsOf e = sz) (hpos : 0 < sz) (ok : RdOk R sz) (he : Opens P e R) : Opens P t (slRd R sz) := fun H enc W fuel cs x h => by
  rcases open_slice ht h with ⟨rfl, rfl⟩ | ⟨a, len, cap, m, n, D, Pl, rfl, hb, hl, hm, hmm, hx, hel⟩
  · exact ⟨[], none, 0, 0, rfl, SlAt.none_, Nat.le_refl _, Nat.zero_le _⟩
  · have hmc : len ≤ m := by rw [hmm]; simp; omega
    have hel' : ∀ i, i < len → ∃ p : List Value × α, R W W.heap.size p.1 p.2 ∧ ∀ j, j < sz → W.cell? (a.add (i * sz + j)) = p.1[j]? := fun i hi => by
      obtain ⟨cs', hc, htr⟩ := hel i (by omega)
      obtain ⟨d, hd⟩ := he H enc W n cs' (D i, Pl i) htr
      obtain ⟨_, hlen, hat⟩ := World.cells?_some hc
      exact ⟨(cs', d), hd, fun j hj => by
        have := hat j (by rw [hsz]; exact hj)
        rw [hsz, Go.Deep.add_add] at this
        exact this⟩
    rcases Nat.eq_zero_or_pos len with h0 | h0
    · subst h0
      exact ⟨[], some a, 0, cap, rfl, SlAt.none_, Nat.zero_le _, hm⟩
    · have hne : Nonempty (List Value × α) := let ⟨p, _⟩ := hel' 0 h0; ⟨p⟩
      have hf : ∃ f : Nat → List Value × α, ∀ i, i < len → R W W.heap.size (f i).1 (f i).2 ∧ ∀ j, j < sz → W.cell? (a.add (i * sz + j)) = (f i).1[j]? := by
        classical
        refine ⟨fun i => if hi : i < len then Classical.choose (hel' i hi) else Classical.choice hne, fun i hi => ?_⟩
        simp only [dif_pos hi]
        exact Classical.choose_spec (hel' i hi)
      obtain ⟨f, hf⟩ := hf
      have hc0 : ∃ v, W.cell? a = some v := by
        obtain ⟨hR, hc⟩ := hf 0 h0
        have hlR := ok.len hR
        have h1 := hc 0 hpos
        have h2 : a.add (0 * sz + 0) = a := by simp [Addr.add]
        rw [h2, List.getElem?_eq_getElem (by omega)] at h1
        exact ⟨_, h1⟩
      obtain ⟨v0, hv0⟩ := hc0
      have hsp := spot_none hv0
      have hbl := World.block_lt_of_cell? _ _ hv0
      have ea : a = ⟨a.block, a.off, none⟩ := by cases a; simp_all
      refine ⟨(List.range len).map fun i => (f i).2, some a, len, cap, rfl, ⟨by simp, fun _ => ⟨a.block, a.off, by rw [← ea], hbl, fun i x hx => ?_⟩⟩, hl, hm⟩
      have hi : i < len := by simpa using lt_of_some hx
      have hx' : (f i).2 = x := by simpa [hi] using hx
      subst hx'
      obtain ⟨hR, hc⟩ := hf i hi
      refine ⟨_, hR, fun j v hj => ?_⟩
      have hj' : j < sz := by have := lt_of_some hj; rw [ok.len hR] at this; exact this
      have h1 := hc j hj'
      rw [hj] at h1
      have e2 : a.add (i * sz + j) = ⟨a.block, a.off + i * sz + j, none⟩ := by
        rw [ea]; simp only [Addr.add_lit]; congr 1; omega
      rw [← e2]
      exact h1
/-- An argument's value as its cells. -/
theorem opens_arg {α : Type} {P : Program} {t : TypeId} {R : Rd α} (h : Opens P t R) {H : Type} {enc : TypeId × Value → H} {W : World} {v : Value} {d : DataW H} {ps : List MemPlace} (ht : DataW.Trod enc P W 0 (fun _ => true) true t v d ps) : ∃ x, R W W.heap.size v.cells.toList x := by
  obtain ⟨fuel, hf⟩ := ht
  exact h H enc W fuel _ _ hf
/-- A slice argument. -/
theorem open_sl {α : Type} {P : Program} {t e : TypeId} {R : Rd α} {sz : Nat} (h : Opens P t (slRd R sz)) (ht : P.underlying t = some (.slice e)) {r : Reach} {b0 : Nat} {H : Type} {enc : TypeId × Value → H} {W : World} {v : Value} {d : DataW H} {ps : List MemPlace}
    (hv : Value.okWide P W r b0 t v) (hd : DataW.Trod enc P W 0 (fun _ => true) true t v d ps) : ∃ A n c x, v = .slice A n c ∧ SlAt R sz W W.heap.size A n x ∧ n ≤ c ∧ c ≤ maxLen := by
  obtain ⟨A, n, c, rfl⟩ := okWide_slice ht hv
  obtain ⟨x, A', n', c', e, h1, h2, h3⟩ := opens_arg h hd
  simp [Value.cells] at e
  obtain ⟨rfl, rfl, rfl⟩ := e
  exact ⟨A, n, c, x, rfl, h1, h2, h3⟩
end Go.Proofs.Ytampijkiidjcmaa
