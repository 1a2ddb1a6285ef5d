/- A walk by explicit steps: frames as functions of the slot's number; a region of a function's code, operation by operation, in the order of the text ('RQ': operations that only read, and calls that leave old memory alone, in whatever order; 'RL': one world at a time). -/
import Derived.Test.YtampijkiidjcmaaVal
import Derived.WalkKit
import Derived.Deep.Quiet
import Derived.Deep.LoopGhost
import Derived.StillTail
namespace Go.Proofs.Ytampijkiidjcmaa
open Go.RowKit
set_option linter.unusedVariables false
set_option linter.unusedSimpArgs false
/-- A frame of n slots. -/
def Fr (n : Nat) (f : Nat → Value) : Act := ⟨((List.range n).map f).toArray, []⟩
def up (f : Nat → Value) (d : Nat) (v : Value) : Nat → Value := fun k => bif Nat.beq k d then v else f k
def upo (f : Nat → Value) : Option Tmp → Value → Nat → Value
  | some d, v => up f d v
  | none, _ => f
def ev (f : Nat → Value) : Operand → Value
  | .tmp t => f t
  | .const v => v
  | .global g => .pointer (some ⟨g, 0, none⟩)
  | .func g => .func (.func g) #[] #[]
def opIn (n : Nat) : Operand → Bool
  | .tmp t => Nat.blt t n
  | _ => true
def okOp (n : Nat) (ops : Array Oper) (o : Oper) : Bool :=
  o.op.operands.toList.all (opIn n) && (match o.op with | .select .. => false | _ => true) &&
  (match o.guard with | none => true | some (j, _) => match (ops[j]?).bind (·.dst) with | some d => Nat.blt d n | none => true)
def gval (f : Nat → Value) (ops : Array Oper) (j : Nat) : Option Bool :=
  match (ops[j]?).bind (·.dst) with
  | some d => match f d with | .bool b => some b | _ => none
  | none => none
def wantF (f : Nat → Value) (ops : Array Oper) (o : Oper) : Bool :=
  match o.guard with
  | none => true
  | some (j, want) => gval f ops j == some want
theorem Fr_get {n : Nat} {f : Nat → Value} {t : Nat} (h : t < n) : (Fr n f).tmps[t]? = some (f t) := by simp [Fr, h]
theorem Fr_eval {n : Nat} {f : Nat → Value} {x : Operand} (h : opIn n x = true) : (Fr n f).eval x = ev f x := by
  cases x with
  | tmp t =>
    have ht : t < n := by simpa [opIn] using h
    simp [Act.eval, Fr, ev, ht]
  | _ => rfl
theorem Fr_put {n : Nat} {f : Nat → Value} {d : Option Tmp} {v : Value} : (Fr n f).put d v = Fr n (upo f d v) := by
  cases d with
  | none => rfl
  | some d =>
    simp only [Act.put, Fr, upo, Act.mk.injEq, and_true]
    apply Array.ext_getElem?
    intro i
    simp only [Array.getElem?_setIfInBounds, List.size_toArray, List.length_map, List.length_range, List.getElem?_toArray, List.getElem?_map]
    by_cases hi : i < n
    · by_cases hd : d = i
      · subst hd; simp [hi, up]
      · have h1 : i.beq d = false := by cases h : i.beq d with | false => rfl | true => exact absurd (Nat.eq_of_beq_eq_true h).symm hd
        simp [hi, hd, up, h1]
    · by_cases hd : d = i
      · subst hd; simp [hi]
      · simp [hd, hi]
theorem Fr_exec {n : Nat} {f : Nat → Value} {ops : Array Oper} {o : Oper} (h : okOp n ops o = true) : execOp (Fr n f).eval o = execOp (ev f) o := by
  simp only [okOp, Bool.and_eq_true, List.all_eq_true] at h
  refine execOp_congr o (fun cs b e => ?_) (fun x hx => Fr_eval (h.1.1 x (by simpa using hx)))
  have := h.1.2
  rw [e] at this
  cases this
theorem Fr_wanted {n : Nat} {f : Nat → Value} {ops : Array Oper} {o : Oper} (h : okOp n ops o = true) : Region.wanted o (yielded ops (Fr n f).tmps) = wantF f ops o := by
  simp only [okOp, Bool.and_eq_true] at h
  have h3 := h.2
  unfold Region.wanted wantF
  cases hg : o.guard with
  | none => rfl
  | some p =>
    obtain ⟨j, want⟩ := p
    rw [hg] at h3
    simp only at h3 ⊢
    congr 1
    unfold yielded gval
    cases hd : (ops[j]?).bind (·.dst) with
    | none => rfl
    | some d =>
      rw [hd] at h3
      have hlt : d < n := by simpa using h3
      simp only [Option.bind_some, Fr_get hlt]
      cases f d <;> rfl
section
variable {P : Program} {ops : Array Oper}
/-- The operations one by one, in every world of the class C. -/
def RQ (P : Program) (ops : Array Oper) (C : World → Prop) (Q : (Nat → Value) → Prop) : List Oper → (Nat → Value) → Prop
  | [], f => Q f
  | o :: rest, f => ∃ v, ((wantF f ops o = true ∧ ∀ w, C w → Oper.quietUpon P C w v ((execOp (ev f) o).run P w)) ∨ (wantF f ops o = false ∧ v = undef)) ∧ RQ P ops C Q rest (upo f o.dst v)
theorem RQ_quiet {n : Nat} {C : World → Prop} {Q : (Nat → Value) → Prop} : ∀ {l : List Oper} {f : Nat → Value}, (∀ o ∈ l, okOp n ops o = true) → RQ P ops C Q l f → wpQuiet P ops C (fun a => ∃ f', a = Fr n f' ∧ Q f') l (Fr n f)
  | [], f, _, h => ⟨f, rfl, h⟩
  | o :: rest, f, hin, ⟨v, h1, h2⟩ => by
    have ho := hin o (by simp)
    have ih := RQ_quiet (fun o' h' => hin o' (by simp [h'])) h2
    unfold wpQuiet
    rw [Fr_wanted ho]
    rcases h1 with ⟨hw, h1⟩ | ⟨hw, rfl⟩
    · rw [hw, if_pos rfl]
      exact ⟨v, fun w hw' => by unfold Oper.quietAt; rw [Fr_exec ho]; exact h1 w hw', by rw [Fr_put]; exact ih⟩
    · rw [hw, if_neg (by decide), Fr_put]
      exact ih
theorem quiet_list {C : World → Prop} {Q : Act → Prop} {Q' : Exit → Act → World → Prop} (hQ : ∀ a w, C w → Q a → Q' .normal a w) : ∀ {l : List Oper} {a : Act} {w : World}, C w → wpQuiet P ops C Q l a → wpList P ops Q' l a w
  | [], a, w, hw, h => hQ a w hw h
  | o :: rest, a, w, hw, h => by
    unfold wpQuiet at h
    unfold wpList
    split
    · rename_i hg
      rw [if_pos hg] at h
      exact .inl (Oper.wp_of_quiet hw (fun a' w' hw' h' => quiet_list hQ hw' h') h)
    · rename_i hg
      rw [if_neg hg] at h
      exact quiet_list hQ hw h
def okAll (n : Nat) (l : List Oper) : Bool := l.all (okOp n l.toArray)
theorem wp_rq {id n : Nat} {l : List Oper} {f : Nat → Value} {w : World} {Q : Exit → Act → World → Prop} (C : World → Prop) (hC : C w) (hin : okAll n l = true)
    (h : RQ P l.toArray C (fun f' => ∀ w', C w' → Q .normal (Fr n f') w') l f) : (Code.region id l.toArray false).wp P Q (Fr n f) w := by
  refine wp_region_lit (quiet_list (Q := fun a => ∃ f', a = Fr n f' ∧ ∀ w', C w' → Q .normal (Fr n f') w') ?_ hC (RQ_quiet (fun o ho => List.all_eq_true.1 hin o ho) h))
  rintro a w' hw' ⟨f', rfl, hq⟩
  exact hq w' hw'
theorem wp_rq_draw {id n : Nat} {l : List Oper} {f : Nat → Value} {w : World} {Q : Exit → Act → World → Prop} (C : World → Prop) (hC : C w.drew) (hm : P.follows .mixedOrders = true) (hin : (okAll n l && Region.lexB .any l.toArray) = true)
    (h : RQ P l.toArray C (fun f' => ∀ w', C w' → Q .normal (Fr n f') w') l f) : (Code.region id l.toArray true).wp P Q (Fr n f) w := by
  simp only [Bool.and_eq_true] at hin
  refine wp_region_quiet (C := C) hm hin.2 hC ?_
  have h1 := RQ_quiet (n := n) (fun o ho => List.all_eq_true.1 hin.1 o ho) h
  have mono : ∀ (l' : List Oper) (a : Act), wpQuiet P l.toArray C (fun a => ∃ f', a = Fr n f' ∧ ∀ w', C w' → Q .normal (Fr n f') w') l' a → wpQuiet P l.toArray C (fun a' => ∀ w', C w' → Q .normal a' w') l' a := by
    intro l'
    induction l' with
    | nil => rintro a ⟨f', rfl, hq⟩; exact hq
    | cons o rest ih =>
      intro a h
      unfold wpQuiet at h ⊢
      split
      · rename_i hg; rw [if_pos hg] at h; exact Oper.quiet_mono (fun a => ih a) h
      · rename_i hg; rw [if_neg hg] at h; exact ih _ h
  exact mono l (Fr n f) h1
/-- What one operation comes to in one world. -/
def OpX (P : Program) (K : Value → World → Prop) : Result Next → Prop
  | .ok (.value v) w' => K v w'
  | .ok .skip w' => K undef w'
  | .ok (.enter g args) w' => Calls P g args w' fun e w'' => ∃ v, e = .returned v ∧ K v w''
  | _ => False
def RL (P : Program) (ops : Array Oper) (Q : (Nat → Value) → World → Prop) : List Oper → (Nat → Value) → World → Prop
  | [], f, w => Q f w
  | o :: rest, f, w => (wantF f ops o = true ∧ OpX P (fun v w' => RL P ops Q rest (upo f o.dst v) w') ((execOp (ev f) o).run P w)) ∨ (wantF f ops o = false ∧ RL P ops Q rest (upo f o.dst undef) w)
theorem OpX_wp {o : Oper} {a : Act} {K : Act → World → Prop} {Q : Exit → Act → World → Prop} {r : Result Next} (h : OpX P (fun v w' => K (a.put o.dst v) w') r) : o.upon P a K Q r := by
  cases r with
  | ok n w' =>
    cases n <;> simp only [OpX] at h <;> simp only [Oper.upon] <;> try exact h
    case enter g args => exact h.mono fun e w'' ⟨v, he, hk⟩ => by subst he; exact hk
  | halt x w' => simp only [OpX] at h
theorem RL_list {n : Nat} {Q : (Nat → Value) → World → Prop} {Q' : Exit → Act → World → Prop} (hQ : ∀ f w, Q f w → Q' .normal (Fr n f) w) : ∀ {l : List Oper} {f : Nat → Value} {w : World}, (∀ o ∈ l, okOp n ops o = true) → RL P ops Q l f w → wpList P ops Q' l (Fr n f) w
  | [], f, w, _, h => hQ f w h
  | o :: rest, f, w, hin, h => by
    have ho := hin o (by simp)
    unfold wpList
    rw [Fr_wanted ho]
    rcases h with ⟨hw, h⟩ | ⟨hw, h⟩
    · rw [hw, if_pos rfl]
      left
      unfold Oper.wp
      rw [Fr_exec ho]
      refine OpX_wp ?_
      have e : (fun v w' => RL P ops Q rest (upo f o.dst v) w') = fun v w' => RL P ops Q rest (upo f o.dst v) w' := rfl
      revert h
      generalize (execOp (ev f) o).run P w = r
      intro h
      have key : ∀ v w', RL P ops Q rest (upo f o.dst v) w' → wpList P ops Q' rest ((Fr n f).put o.dst v) w' := fun v w' h' => by
        rw [Fr_put]; exact RL_list hQ (fun o' h'' => hin o' (by simp [h''])) h'
      cases r with
      | ok nx w' =>
        cases nx <;> simp only [OpX] at h ⊢ <;> try exact key _ _ h
        case enter g args => exact h.mono fun e w'' ⟨v, he, hk⟩ => ⟨v, he, key _ _ hk⟩
      | halt x w' => simp only [OpX] at h
    · rw [hw, if_neg (by decide), Fr_put]
      exact RL_list hQ (fun o' h' => hin o' (by simp [h'])) h
theorem wp_rl {id n : Nat} {l : List Oper} {f : Nat → Value} {w : World} {Q : Exit → Act → World → Prop} (hin : okAll n l = true)
    (h : RL P l.toArray (fun f' w' => Q .normal (Fr n f') w') l f w) : (Code.region id l.toArray false).wp P Q (Fr n f) w :=
  wp_region_lit (RL_list (fun f' w' h' => h') (fun o ho => List.all_eq_true.1 hin o ho) h)
end
end Go.Proofs.Ytampijkiidjcmaa
