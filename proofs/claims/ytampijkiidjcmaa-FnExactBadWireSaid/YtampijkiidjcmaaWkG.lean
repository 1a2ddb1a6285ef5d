/- A region that draws its order and acts: one walk along a chosen order serves, if what only looks may be taken first and of what acts one at a time may come up. -/
import Derived.Test.YtampijkiidjcmaaWkF
import Derived.OrdersHeld
namespace Go.Proofs.Ytampijkiidjcmaa
open Go.RowKit
set_option linter.unusedVariables false
set_option linter.unusedSimpArgs false
section
variable {P : Program} {ops : Array Oper} {S : World → Prop}
/-- Along an order: (number, does it only look?). -/
def RG (P : Program) (ops : Array Oper) (S : World → Prop) (Q : (Nat → Value) → World → Prop) : List (Nat × Bool) → (Nat → Value) → World → Prop
  | [], f, w => Q f w
  | (i, q) :: rest, f, w => match ops[i]? with
    | none => False
    | some o => match q with
      | true => ∃ v, ((wantF f ops o = true ∧ ∀ w, S w → (execOp (ev f) o).run P w = .ok (.value v) w) ∨ (wantF f ops o = false ∧ v = undef)) ∧ RG P ops S Q rest (upo f o.dst v) w
      | false => (wantF f ops o = true ∧ OpX P (fun v w' => S w' ∧ RG P ops S Q rest (upo f o.dst v) w') ((execOp (ev f) o).run P w)) ∨ (wantF f ops o = false ∧ S w ∧ RG P ops S Q rest (upo f o.dst undef) w)
def ordB (ops : Array Oper) : List (Nat × Bool) → Array Bool → Bool
  | [], listed => (Region.ready .any ops listed).isEmpty
  | (i, q) :: rest, listed => (match q with
      | true => (Region.ready .any ops listed).contains i && Region.free .any ops listed i
      | false => decide (Region.ready .any ops listed = [i])) && ordB ops rest (listed.setIfInBounds i true)
theorem RG_H {n : Nat} {Q : (Nat → Value) → World → Prop} {Q' : Exit → Act → World → Prop} (hQ : ∀ f w, Q f w → Q' .normal (Fr n f) w) (hP : ∀ c a w, ¬ Q' (.panic c) a w) (hsel : Region.noSelect ops = true) (hok : ∀ (i : Nat) (o : Oper), ops[i]? = some o → okOp n ops o = true) :
    ∀ (l : List (Nat × Bool)) (listed : Array Bool) (f : Nat → Value) (w : World), ordB ops l listed = true → S w → RG P ops S Q l f w → wpAnyH P .any ops Q' S l.length listed (Fr n f) w
  | [], listed, f, w, hB, hS, h => ⟨by simpa [ordB] using hB, hQ f w h⟩
  | (i, true) :: rest, listed, f, w, hB, hS, h => by
    simp only [ordB, Bool.and_eq_true] at hB
    obtain ⟨⟨hr, hf⟩, hB⟩ := hB
    unfold RG at h
    cases ho : ops[i]? with
    | none => rw [ho] at h; exact h.elim
    | some o =>
      rw [ho] at h
      obtain ⟨v, h1, h2⟩ := h
      have hk := hok i o ho
      refine wpAnyH_take ho hsel hf hr (fun c a w h => absurd h (hP c _ w)) ?_ hS (v := v) ?_
      · rcases h1 with ⟨hw, h1⟩ | ⟨hw, e⟩
        · exact .inl ⟨by rw [Fr_wanted hk]; exact hw, fun w hw' => by rw [Fr_exec hk]; exact h1 w hw'⟩
        · exact .inr ⟨by rw [Fr_wanted hk]; exact hw, e⟩
      · rw [Fr_put]
        exact RG_H hQ hP hsel hok rest _ _ w hB hS h2
  | (i, false) :: rest, listed, f, w, hB, hS, h => by
    simp only [ordB, Bool.and_eq_true, decide_eq_true_eq] at hB
    obtain ⟨hr, hB⟩ := hB
    unfold RG at h
    cases ho : ops[i]? with
    | none => rw [ho] at h; exact h.elim
    | some o =>
      rw [ho] at h
      have hk := hok i o ho
      refine wpAnyH_all hr (by simp) fun j hj => ?_
      obtain rfl : j = i := by simpa using hj
      unfold wpOp
      rw [ho]
      simp only
      rw [Fr_wanted hk]
      have key : ∀ v w', S w' ∧ RG P ops S Q rest (upo f o.dst v) w' → S w' ∧ wpAnyH P .any ops Q' S rest.length (listed.setIfInBounds j true) ((Fr n f).put o.dst v) w' := fun v w' ⟨h1, h2⟩ =>
        ⟨h1, by rw [Fr_put]; exact RG_H hQ hP hsel hok rest _ _ w' hB h1 h2⟩
      rcases h with ⟨hw, h⟩ | ⟨hw, h1, h2⟩
      · rw [hw, if_pos rfl]
        left
        unfold Oper.wp
        rw [Fr_exec hk]
        refine OpX_wp ?_
        revert h
        generalize (execOp (ev f) o).run P w = r
        intro h
        cases r with
        | ok nx w' =>
          cases nx <;> simp only [OpX] at h ⊢ <;> try exact key _ _ h
          case enter g args => exact h.mono fun e w'' ⟨v, he, hk⟩ => ⟨v, he, key _ _ hk⟩
        | halt x w' => simp only [OpX] at h
      · rw [hw, if_neg (by decide)]
        exact key _ _ ⟨h1, h2⟩
/-- Q, but 'False' at a panic. -/
def noP (Q : Exit → Act → World → Prop) : Exit → Act → World → Prop
  | .panic _, _, _ => False
  | e, a, w => Q e a w
theorem wp_rg {id n : Nat} {l : List Oper} {f : Nat → Value} {w : World} {Q : Exit → Act → World → Prop} (S : World → Prop) (ord : List (Nat × Bool)) (hm : P.follows .mixedOrders = true)
    (hin : (okAll n l && Region.noSelect l.toArray && decide (ord.length = l.length) && ordB l.toArray ord (Array.replicate l.length false)) = true)
    (h : ∀ w1, Below w.heap.size w w1 → w1.heap.size = w.heap.size → S w1 ∧ RG P l.toArray S (fun f' w' => Q .normal (Fr n f') w') ord f w1) : (Code.region id l.toArray true).wp P Q (Fr n f) w := by
  simp only [Bool.and_eq_true, decide_eq_true_eq] at hin
  obtain ⟨⟨⟨h1, h2⟩, h3⟩, h4⟩ := hin
  refine Code.wp_mono (Q := noP Q) (fun e a w hq => by cases e <;> first | exact hq | exact hq.elim) ?_
  refine wp_region_held (S := S) hm ?_
  obtain ⟨hS, hR⟩ := h { w with drawn := w.drawn + 1 } ⟨rfl, rfl, rfl, Nat.le_refl _, fun _ _ => rfl⟩ rfl
  have := RG_H (Q' := noP Q) (n := n) (fun f w h => h) (fun c a w h => h) h2 (fun i o ho => List.all_eq_true.1 h1 o (by
    have : l[i]? = some o := by simpa using ho
    exact List.mem_of_getElem? this)) ord _ f _ h4 hS hR
  rw [h3] at this
  simpa using this
variable {Q : (Nat → Value) → World → Prop} {rest : List (Nat × Bool)} {f : Nat → Value} {w : World} {i : Nat} {o : Oper}
theorem RG.nil (h : Q f w) : RG P ops S Q [] f w := h
theorem RG.y {v : Value} (ho : ops[i]? = some o) (hg : wantF f ops o = true) (hy : Y P S f o v) (h : RG P ops S Q rest (upo f o.dst v) w) : RG P ops S Q ((i, true) :: rest) f w := by
  unfold RG; rw [ho]; exact ⟨v, .inl ⟨hg, hy⟩, h⟩
theorem RG.skip (ho : ops[i]? = some o) (hg : wantF f ops o = false) (h : RG P ops S Q rest (upo f o.dst undef) w) : RG P ops S Q ((i, true) :: rest) f w := by
  unfold RG; rw [ho]; exact ⟨undef, .inr ⟨hg, rfl⟩, h⟩
/-- An operation that acts: by its law for lists, what follows with S shown anew. -/
theorem RG.act (ho : ops[i]? = some o) (h : RL P ops (fun f' w' => S w' ∧ RG P ops S Q rest f' w') [o] f w) : RG P ops S Q ((i, false) :: rest) f w := by
  unfold RG
  rw [ho]
  unfold RL at h
  rcases h with ⟨hw, h⟩ | ⟨hw, h⟩
  · exact .inl ⟨hw, h⟩
  · exact .inr ⟨hw, h.1, h.2⟩
end
end Go.Proofs.Ytampijkiidjcmaa
