/- The laws of the walk by explicit steps: checked reading of lists and numbers, what a walk holds of memory. -/
import Derived.Test.YtampijkiidjcmaaWkD
import Derived.Test.YtampijkiidjcmaaTyp
namespace Go.Proofs.Ytampijkiidjcmaa
open Go.RowKit
set_option linter.unusedVariables false
set_option linter.unusedSimpArgs false
def getI {α : Type} (xs : List α) (i : Int) : Option α := if 0 ≤ i then xs[i.toNat]? else none
theorem getI_some {α : Type} {xs : List α} {i : Int} {x : α} (h : getI xs i = some x) : ∃ k : Nat, i = (k : Int) ∧ k < xs.length ∧ xs[k]? = some x := by
  unfold getI at h
  split at h
  · rename_i h0
    obtain ⟨k, rfl⟩ := Int.eq_ofNat_of_zero_le h0
    exact ⟨k, rfl, lt_of_some h, h⟩
  · cases h
theorem getI_nat {α : Type} {xs : List α} {k : Nat} {x : α} (h : xs[k]? = some x) : getI xs (k : Int) = some x := by simp [getI, h]
/-- A number that fits an int64. -/
def ck (n : Int) : Option Int := if -9223372036854775808 ≤ n ∧ n ≤ 9223372036854775807 then some n else none
theorem ck_some {n m : Int} (h : ck n = some m) : m = n ∧ -9223372036854775808 ≤ n ∧ n ≤ 9223372036854775807 := by
  unfold ck at h
  split at h
  · rename_i h0; injection h with h; exact ⟨h.symm, h0⟩
  · cases h
theorem ck_ok {n : Int} (h : -9223372036854775808 ≤ n ∧ n ≤ 9223372036854775807) : ck n = some n := if_pos h
/-- What must hold. -/
def mustP (p : Prop) [Decidable p] : Option Unit := if p then some () else none
theorem mustP_some {p : Prop} [Decidable p] {u : Unit} (h : mustP p = some u) : p := by
  unfold mustP at h
  split at h
  · assumption
  · cases h
theorem mustP_ok {p : Prop} [Decidable p] (h : p) : mustP p = some () := if_pos h
theorem bnd {α β : Type} {x : Option α} {k : α → Option β} {r : β} (h : x.bind k = some r) : ∃ a, x = some a ∧ k a = some r := Option.bind_eq_some_iff.1 h
theorem cT {β : Type} {b : Bool} {x y : β} {r : β} (c : b = true) (h : (bif b then x else y) = r) : x = r := by rw [c] at h; exact h
theorem cF {β : Type} {b : Bool} {x y : β} {r : β} (c : b = false) (h : (bif b then x else y) = r) : y = r := by rw [c] at h; exact h
theorem wrap_ok {n : Int} (h : -9223372036854775808 ≤ n ∧ n ≤ 9223372036854775807) : IntKind.i64.wrap n = n := IntWalk.i64_in n h
theorem binI_add {m n : Int} (h : -9223372036854775808 ≤ m + n ∧ m + n ≤ 9223372036854775807) : binI .add .i64 m n = some (.int .i64 (m + n)) := by unfold binI; simp only; rw [wrap_ok h]
theorem binI_sub {m n : Int} (h : -9223372036854775808 ≤ m - n ∧ m - n ≤ 9223372036854775807) : binI .sub .i64 m n = some (.int .i64 (m - n)) := by unfold binI; simp only; rw [wrap_ok h]
theorem binI_mul {m n : Int} (h : -9223372036854775808 ≤ m * n ∧ m * n ≤ 9223372036854775807) : binI .mul .i64 m n = some (.int .i64 (m * n)) := by unfold binI; simp only; rw [wrap_ok h]
section
variable {f : Nat → Value} {ops : Array Oper} {d : Option Tmp} {op : Op} {ty : TypeId} {pos : String} {af : Array Edge} {j dj : Nat} {want have_ : Bool}
theorem wantT (hj : (ops[j]?).bind (·.dst) = some dj) (hv : f dj = .bool want) : wantF f ops ⟨d, op, ty, pos, af, some (j, want)⟩ = true := by
  simp only [wantF, gval, hj, hv]; simp
theorem wantN (hj : (ops[j]?).bind (·.dst) = some dj) (hv : f dj = .bool have_) (hne : (have_ == want) = false) : wantF f ops ⟨d, op, ty, pos, af, some (j, want)⟩ = false := by
  simp only [wantF, gval, hj, hv]
  cases have_ <;> cases want <;> first | rfl | cases hne
end
theorem bcases (b : Bool) : b = false ∨ b = true := by cases b <;> simp
theorem vb {v : Value} {b b' : Bool} (h : v = .bool b) (c : b = b') : v = .bool b' := by rw [h, c]
theorem vbn {v : Value} {b b' b'' : Bool} (h : v = .bool (!b)) (c : b = b') (e : (!b') = b'') : v = .bool b'' := by rw [h, c, e]
section
variable {α : Type} {R : Rd α} {O : Ow α} {sz : Nat} {w w' : World} {v : Value} {xs : List α} {x : α}
theorem cellT {A : Addr} {u : Value} (T : Below w.heap.size w w') (h : w.cell? A = some u) : w'.cell? A = some u := (T.cell (World.block_lt_of_cell? w A h)).trans h
/-- At the present world: a slice, a struct, a pointer to a struct. -/
def Sl (R : Rd α) (sz : Nat) (w : World) (v : Value) (xs : List α) : Prop := RdS R sz w w.heap.size v xs
def St (R : Rd α) (w : World) (v : Value) (x : α) : Prop := RdT R w w.heap.size v x
def Pt (R : Rd α) (w : World) (v : Value) (x : α) : Prop := ∃ b o cs, v = .pointer (some ⟨b, o, none⟩) ∧ b < w.heap.size ∧ R w w.heap.size cs x ∧ ∀ j v, cs[j]? = some v → w.cell? ⟨b, o + j, none⟩ = some v
theorem Sl.at_ (ok : RdOk R sz) (h : Sl R sz w v xs) (T : Below w.heap.size w w') : Sl R sz w' v xs := (RdS.below ok h T).more ok T.size
theorem St.at_ (ok : RdOk R sz) (h : St R w v x) (T : Below w.heap.size w w') : St R w' v x := (RdT.below ok h T).more ok T.size
theorem Pt.at_ (ok : RdOk R sz) (h : Pt R w v x) (T : Below w.heap.size w w') : Pt R w' v x := by
  obtain ⟨b, o, cs, e, hb, hR, hc⟩ := h
  exact ⟨b, o, cs, e, Nat.lt_of_lt_of_le hb T.size, ok.more T.size (ok.keep (fun p hp => T.cell hp) hR), fun j v hj => cellT T (hc j v hj)⟩
theorem SlAt.addr {B n : Nat} {A : Option Addr} (h : SlAt R sz w B A n xs) (hn : 0 < n) : ∃ b o, A = some ⟨b, o, none⟩ ∧ b < B := by
  obtain ⟨b, o, e, hb, _⟩ := h.2 hn
  exact ⟨b, o, e, hb⟩
theorem SlAt.el {B n b o : Nat} (h : SlAt R sz w B (some ⟨b, o, none⟩) n xs) {k : Nat} (hx : xs[k]? = some x) : ∃ cs, R w B cs x ∧ ∀ j v, cs[j]? = some v → w.cell? ⟨b, o + k * sz + j, none⟩ = some v := by
  have hl := lt_of_some hx
  obtain ⟨b', o', e, hb, hc⟩ := h.2 (by have := h.1; omega)
  injection e with e
  injection e with e1 e2
  subst e1 e2
  exact hc k x hx
theorem SlAt.now (ok : RdOk R sz) {B n : Nat} {A : Option Addr} (h : SlAt R sz w B A n xs) (hB : B ≤ w.heap.size) (T : Below w.heap.size w w') : SlAt R sz w' w'.heap.size A n xs :=
  (h.below ok (T.mono hB)).more ok (Nat.le_trans hB T.size)
/-- A slice that was read, as an argument. -/
theorem slArg (ok : RdOk R sz) {n c : Nat} {A : Option Addr} (h : SlAt R sz w w.heap.size A n xs) (r : n ≤ c ∧ c ≤ maxLen) (T : Below w.heap.size w w') : Sl R sz w' (.slice A n c) xs :=
  ⟨A, n, c, rfl, h.now ok (Nat.le_refl _) T, r⟩
theorem ptArg (ok : RdOk R sz) {b o : Nat} {cs : List Value} (hb : b < w.heap.size) (hR : R w w.heap.size cs x) (hc : ∀ j v, cs[j]? = some v → w.cell? ⟨b, o + j, none⟩ = some v) (T : Below w.heap.size w w') : Pt R w' (.pointer (some ⟨b, o, none⟩)) x :=
  Pt.at_ ok ⟨b, o, cs, rfl, hb, hR, hc⟩ T
theorem ptBox {g : Nat} {t : TypeId} {cs : List Value} (hb : Blk w g t cs.toArray) (hR : R w w.heap.size cs x) : Pt R w (.pointer (some ⟨g, 0, none⟩)) x :=
  ⟨g, 0, cs, rfl, hb.lt, hR, fun j v hj => by rw [hb.cell]; simpa using hj⟩
theorem stArg {cs : List Value} (hR : R w w.heap.size cs x) : St R w (.agg cs.toArray) x := ⟨cs, rfl, hR⟩
theorem rdAt (ok : RdOk R sz) {cs : List Value} (h : R w w.heap.size cs x) (T : Below w.heap.size w w') : R w' w'.heap.size cs x := ok.more T.size (ok.keep (fun p hp => T.cell hp) h)
theorem len_le {n c : Nat} (r : n ≤ c ∧ c ≤ maxLen) : n ≤ 9223372036854775807 := by have := r.1; have := r.2; unfold maxLen at this; omega
theorem csE {C : World → Prop} {b o : Nat} {cs : List Value} (h : ∀ j v, cs[j]? = some v → CellIn C ⟨b, o + j, none⟩ v) : CellsIn C b o cs := fun w hw j v hj => h j v hj w hw
theorem blkCell {g : Nat} {t : TypeId} {cs : Array Value} {i : Nat} {u : Value} (hb : Blk w g t cs) (hu : cs[i]? = some u) : w.cell? ⟨g, 0 + i, none⟩ = some u := by rw [Nat.zero_add, hb.cell]; exact hu
theorem blkT {g : Nat} {t : TypeId} {cs : Array Value} (hb : Blk w g t cs) (T : Below w.heap.size w w') : Blk w' g t cs := hb.below T hb.lt
theorem blkCells {g : Nat} {t : TypeId} {cs : List Value} (hb : Blk w g t cs.toArray) : ∀ j v, cs[j]? = some v → w.cell? ⟨g, 0 + j, none⟩ = some v := fun j v hj => blkCell hb (by simpa using hj)
theorem Tt {w w1 w2 : World} (T : Below w.heap.size w w1) (h : Below w1.heap.size w1 w2) : Below w.heap.size w w2 := T.trans (h.mono T.size)
theorem slNil : Sl R sz w (.slice none 0 0) [] := ⟨none, 0, 0, rfl, SlAt.none_, Nat.le_refl _, Nat.zero_le _⟩
theorem callS {P : Program} {gf : FuncId} {vals : Array Value} {v : Value} (h : Calls P gf vals w fun e w' => e = .returned v ∧ w = w') : Calls P gf vals w fun e w' => e = .returned v ∧ w' = w := h.mono fun e w' ⟨he, hw⟩ => ⟨he, hw.symm⟩
theorem callB {P : Program} {gf : FuncId} {vals : Array Value} {v : Value} (h : Calls P gf vals w fun e w' => e = .returned v ∧ w = w') : Calls P gf vals w fun e w' => e = .returned v ∧ Below w.heap.size w w' := h.mono fun e w' ⟨he, hw⟩ => ⟨he, by subst hw; exact Below.refl _ _⟩
section
variable {C : World → Prop} {b o : Nat} {v0 v1 v2 v3 v4 : Value}
theorem cells1 (h0 : CellIn C ⟨b, o + 0, none⟩ v0) : CellsIn C b o [v0] := fun w hw j v hj => by
  rcases j with _ | j <;> simp at hj; subst hj; exact h0 w hw
theorem cells2 (h0 : CellIn C ⟨b, o + 0, none⟩ v0) (h1 : CellIn C ⟨b, o + 1, none⟩ v1) : CellsIn C b o [v0, v1] := fun w hw j v hj => by
  rcases j with _ | _ | j <;> simp at hj <;> subst hj
  · exact h0 w hw
  · exact h1 w hw
theorem cells4 (h0 : CellIn C ⟨b, o + 0, none⟩ v0) (h1 : CellIn C ⟨b, o + 1, none⟩ v1) (h2 : CellIn C ⟨b, o + 2, none⟩ v2) (h3 : CellIn C ⟨b, o + 3, none⟩ v3) : CellsIn C b o [v0, v1, v2, v3] := fun w hw j v hj => by
  rcases j with _ | _ | _ | _ | j <;> simp at hj <;> subst hj
  · exact h0 w hw
  · exact h1 w hw
  · exact h2 w hw
  · exact h3 w hw
theorem cells5 (h0 : CellIn C ⟨b, o + 0, none⟩ v0) (h1 : CellIn C ⟨b, o + 1, none⟩ v1) (h2 : CellIn C ⟨b, o + 2, none⟩ v2) (h3 : CellIn C ⟨b, o + 3, none⟩ v3) (h4 : CellIn C ⟨b, o + 4, none⟩ v4) : CellsIn C b o [v0, v1, v2, v3, v4] := fun w hw j v hj => by
  rcases j with _ | _ | _ | _ | _ | j <;> simp at hj <;> subst hj
  · exact h0 w hw
  · exact h1 w hw
  · exact h2 w hw
  · exact h3 w hw
  · exact h4 w hw
end
end
section
variable {P : Program} {w : World} {f : Nat → Value} {n xid id' : Nat} {Q : Exit → Act → World → Prop} {J : (Nat → Value) → World → Prop}
/-- What stands behind a loop's body: at the loop's own exit J is asked. -/
def hitJ (n xid : Nat) (J : (Nat → Value) → World → Prop) (Q : Exit → Act → World → Prop) : Exit → Act → World → Prop
  | .exit id, a, w => if id = xid then ∃ f, a = Fr n f ∧ J f w else Q (.exit id) a w
  | e, a, w => Q e a w
theorem hit_r {a : Act} (h : Q .ret a w) : hitJ n xid J Q .ret a w := h
theorem hit_x {a : Act} (h : ∃ f, a = Fr n f ∧ J f w) : hitJ n xid J Q (.exit xid) a w := by simp only [hitJ, if_true]; exact h
theorem hit_m {a : Act} (hne : (id' == xid) = false) (h : Q (.exit id') a w) : hitJ n xid J Q (.exit id') a w := by
  have : ¬ id' = xid := by simpa using hne
  simp only [hitJ, this, if_false]; exact h
theorem wp_loopX {cd : Code} (I : Nat → (Nat → Value) → World → Prop) (xid : Nat) (J : (Nat → Value) → World → Prop) (g0 : Nat) (h0 : I g0 f w) (hJ : ∀ f w, J f w → Q (.exit xid) (Fr n f) w)
    (round : ∀ g f w, I g f w → cd.wp P (Exit.then (fun a' w' => ∃ g' f', g' < g ∧ a' = Fr n f' ∧ I g' f' w') (hitJ n xid J Q)) (Fr n f) w) : (Code.loop cd).wp P Q (Fr n f) w := by
  refine wp_loopF I g0 h0 fun g f w h => Code.wp_mono ?_ (round g f w h)
  intro e a w hq
  cases e with
  | exit id =>
    have hq : hitJ n xid J Q (.exit id) a w := hq
    show Q (.exit id) a w
    by_cases hid : id = xid
    · subst hid
      simp only [hitJ, if_true] at hq
      obtain ⟨f, rfl, hj⟩ := hq
      exact hJ f w hj
    · simp only [hitJ, hid, if_false] at hq
      exact hq
  | _ => exact hq
theorem retct {fn : Func} {R : Ending → World → Prop} {t t2 : Tmp} {b o : Nat} {ty : TypeId} {cs : List Value} {v2 : Value} (hr : fn.results = #[.cell t ty, .tmp t2]) (ht : (Nat.blt t n && Nat.blt t2 n) = true) (hv : f t = .pointer (some ⟨b, o, none⟩)) (hv2 : f t2 = v2) (hag : aggO P ty = some cs.length)
    (hc : ∀ j v, cs[j]? = some v → w.cell? ⟨b, o + j, none⟩ = some v) (h : R (.returned (.tuple #[.agg cs.toArray, v2])) w) : bodyPost P fn R .ret (Fr n f) w :=
  ⟨rfl, _, by
    simp only [Bool.and_eq_true] at ht
    have h1 : t < n := by simpa using ht.1
    have h2 : t2 < n := by simpa using ht.2
    have hl := run_loadN (P := P) (w := w) hag hc
    simp only [Instr.loadAt, Instr.sureAddr, Sem.run_bind, Sem.run_pure, Result.andThen_ok, bind_pure_comp, pure_bind] at hl
    simp only [results, hr]
    simp [Fr, h1, h2, hv, hv2, asAddr, hl], h⟩
end
section
variable {P : Program} {C : World → Prop} {f : Nat → Value} {d : Option Tmp} {ty : TypeId} {pos : String} {af : Array Edge} {g : Option (Nat × Bool)} {x y : Operand} {t t' : TypeId} {us vs : Array Value} {b : Bool}
theorem Y.eqS (hx : ev f x = .agg us) (hy : ev f y = .agg vs) (he : ∀ w, (Op.equalIn 10000 t (.agg us) (.agg vs)).run P w = .ok b w) (hgd : ∀ w, (eqGuard .eql t x y (.agg us) (.agg vs)).run P w = .ok () w) : Y P C f ⟨d, .binOp .eql t x y t', ty, pos, af, g⟩ (.bool b) := fun w _ => by
  simp only [execOp, hx, hy, Sem.run_bind, hgd w, Result.andThen_ok]
  simp [binOp, Op.equal, Op.maxDepth, he w]
theorem Y.neS (hx : ev f x = .agg us) (hy : ev f y = .agg vs) (he : ∀ w, (Op.equalIn 10000 t (.agg us) (.agg vs)).run P w = .ok b w) (hgd : ∀ w, (eqGuard .neq t x y (.agg us) (.agg vs)).run P w = .ok () w) : Y P C f ⟨d, .binOp .neq t x y t', ty, pos, af, g⟩ (.bool (!b)) := fun w _ => by
  simp only [execOp, hx, hy, Sem.run_bind, hgd w, Result.andThen_ok]
  simp [binOp, Op.equal, Op.maxDepth, he w]
end
end Go.Proofs.Ytampijkiidjcmaa
