/- Maps of the call's own; results one of which lies in memory. -/
import Derived.Test.YtampijkiidjcmaaWkH
import Derived.Maps.OwnSet
import Derived.Maps.Views
namespace Go.Proofs.Ytampijkiidjcmaa
open Go.RowKit Go.Maps
set_option linter.unusedVariables false
set_option linter.unusedSimpArgs false
set_option linter.unusedSectionVars false
/-- A map as data: how often it was written, and what it holds. -/
structure MapM (κ β : Type) where
  n : Nat
  get : κ → Option β
section
variable {κ β : Type}
def MapM.empty : MapM κ β := ⟨0, fun _ => none⟩
def MapM.put [DecidableEq κ] (m : MapM κ β) (x : κ) (v : β) : MapM κ β := ⟨m.n + 1, fun y => if y = x then some v else m.get y⟩
def MapM.look (m : MapM κ β) (x : κ) (z : β) : β := (m.get x).getD z
def rdVal (v : Value) : Option (DataW Value × List MemPlace) := some (.held v, [])
/-- A map type: its keys, its elements' zero value. -/
structure MapT (P : Program) (t k : TypeId) (key : κ → Value) (lit : κ → Lit) (good : κ → Prop) (z : Value) : Prop where
  keyed : Keyed P k
  ty : ∃ e, P.underlying t = some (.map k e) ∧ ∀ w, (zeroValue e).run P w = .ok z w
  of : ∀ x, good x → keyOf P k (key x) = some (lit x)
  inj : ∀ x y, lit x = lit y → x = y
def OwM (P : Program) (k : TypeId) (lit : κ → Lit) (enc : β → Value) (w : World) (lo b : Nat) (m : MapM κ β) : Prop :=
  lo ≤ b ∧ ∃ D, w.ownsMap P k rdVal b m.n D ∧ ∀ x zd, D.atKey (lit x) zd = match m.get x with | some v => .held (enc v) | none => zd
variable {P : Program} {t k : TypeId} {key : κ → Value} {lit : κ → Lit} {good : κ → Prop} {z : Value} {enc : β → Value} {w w' : World} {lo b : Nat} {m : MapM κ β}
theorem OwM.lt (h : OwM P k lit enc w lo b m) : b < w.heap.size := by obtain ⟨_, D, h, _⟩ := h; exact h.lt
theorem OwM.keep (h : OwM P k lit enc w lo b m) (hb : w'.heap[b]? = w.heap[b]?) : OwM P k lit enc w' lo b m := by
  obtain ⟨h0, D, ⟨es, clock, h1, F, hs, hD⟩, h2⟩ := h
  exact ⟨h0, D, ⟨es, clock, hb.trans h1, F, hs, hD⟩, h2⟩
theorem OwM.below (h : OwM P k lit enc w lo b m) (hb : Below w.heap.size w w') : OwM P k lit enc w' lo b m := h.keep (hb.block b h.lt)
theorem OwM.only {bs : List Nat} (h : OwM P k lit enc w lo b m) (ho : Only bs w w') (hn : b ∉ bs) : OwM P k lit enc w' lo b m := h.keep (ho.block b hn)
theorem OwM.grown {row : Option Nat} (h : OwM P k lit enc w lo b m) (hg : w.grownBy w' row) (hn : row ≠ some b) : OwM P k lit enc w' lo b m := h.keep (hg.block b h.lt (fun e => hn e.symm))
theorem OwM.lower {lo' : Nat} (h : OwM P k lit enc w lo b m) (hl : lo' ≤ lo) : OwM P k lit enc w lo' b m := ⟨Nat.le_trans hl h.1, h.2⟩
theorem OwM.new : OwM P k lit enc (w.alloc (.map #[] 0)) w.heap.size w.heap.size (MapM.empty : MapM κ β) :=
  ⟨Nat.le_refl _, .map [], World.ownsMap_made w P k rdVal, fun x zd => rfl⟩
theorem OwM.look {zb : β} (h : OwM P k lit enc w lo b m) (T : MapT P t k key lit good (enc zb)) {x : κ} (hx : good x) : (Instr.lookup t (.map (some b)) (key x) false).run P w = .ok (enc (m.look x zb)) w := by
  obtain ⟨_, D, h1, h2⟩ := h
  obtain ⟨e, ht, hz⟩ := T.ty
  obtain ⟨v, ps, hr, hv⟩ := h1.lookup T.keyed ht (hz w) (zd := .held (enc zb)) (zp := []) rfl (T.of x hx)
  rw [hr]
  have h3 := h2 x (.held (enc zb))
  rw [h3] at hv
  unfold MapM.look
  cases hg : m.get x with
  | none => rw [hg] at hv; simp only [rdVal, Option.some.injEq, Prod.mk.injEq, DataW.held.injEq] at hv; rw [hv.1]; rfl
  | some u => rw [hg] at hv; simp only [rdVal, Option.some.injEq, Prod.mk.injEq, DataW.held.injEq] at hv; rw [hv.1]; rfl
theorem OwM.set [DecidableEq κ] {v : β} (h : OwM P k lit enc w lo b m) (T : MapT P t k key lit good z) {x : κ} (hx : good x) (hn : m.n ≤ 4294967296) :
    ∃ w', (Instr.mapUpdate t (.map (some b)) (key x) (enc v)).run P w = .ok () w' ∧ OwM P k lit enc w' lo b (m.put x v) ∧ Only [b] w w' := by
  obtain ⟨h0, D, h1, h2⟩ := h
  obtain ⟨e, ht, hz⟩ := T.ty
  obtain ⟨w', hr, h3, h4⟩ := h1.store T.keyed ht (by unfold maxLen; omega) (T.of x hx) (d := .held (enc v)) (ps := []) rfl
  refine ⟨w', hr, ⟨h0, _, h3, fun y zd => ?_⟩, ?_⟩
  · unfold MapM.put
    by_cases hy : y = x
    · subst hy
      simp only [if_true]
      exact atKey_put_same h1.isMap (T.keyed.key (T.of y hx)) _ _
    · simp only [if_neg hy]
      rw [atKey_put_other (fun e => hy (T.inj _ _ e))]
      exact h2 y zd
  · obtain ⟨es, clock, es', clock', hb, rfl⟩ := h4
    refine ⟨rfl, rfl, rfl, by simp [ChangeMaps.setBlock], fun j hj => ?_⟩
    exact ChangeMaps.heap_setBlock_other hb _ (by simpa using hj)
end
section
variable {κ β : Type} [DecidableEq κ] {P : Program} {t k : TypeId} {key : κ → Value} {lit : κ → Lit} {good : κ → Prop} {enc : β → Value} {w : World} {lo b : Nat} {m : MapM κ β}
variable {C : World → Prop} {f : Nat → Value} {d : Option Tmp} {ty : TypeId} {pos : String} {af : Array Edge} {g : Option (Nat × Bool)} {x y u : Operand} {ops : Array Oper} {rest : List Oper} {Q : (Nat → Value) → World → Prop}
theorem Y.look {a : κ} {zb : β} (T : MapT P t k key lit good (enc zb)) (hx : ev f x = .map (some b)) (hy : ev f y = key a) (ha : good a) (hC : ∀ w, C w → OwM P k lit enc w lo b m) : Y P C f ⟨d, .lookup t x y false, ty, pos, af, g⟩ (enc (m.look a zb)) := fun w hw => by
  simp [execOp, hx, hy, (hC w hw).look T ha]
theorem RL.mapSet {a : κ} {v : β} {z : Value} (T : MapT P t k key lit good z) (hg : wantF f ops ⟨d, .mapUpdate t x y u, ty, pos, af, g⟩ = true) (hx : ev f x = .map (some b)) (hy : ev f y = key a) (hu : ev f u = enc v) (ha : good a) (hm : OwM P k lit enc w lo b m) (hn : m.n ≤ 4294967296)
    (h : ∀ w1, OwM P k lit enc w1 lo b (m.put a v) → Only [b] w w1 → RL P ops Q rest (upo f d undef) w1) : RL P ops Q (⟨d, .mapUpdate t x y u, ty, pos, af, g⟩ :: rest) f w := by
  refine .inl ⟨hg, ?_⟩
  obtain ⟨w1, hr, h1, h2⟩ := hm.set (v := v) T ha hn
  have hr : (execOp (ev f) ⟨d, .mapUpdate t x y u, ty, pos, af, g⟩).run P w = .ok .skip w1 := by simp [execOp, hx, hy, hu, hr]
  rw [hr]
  exact h _ h1 h2
theorem RL.mapIns {a : κ} {v : β} {z : Value} (T : MapT P t k key lit good z) (hg : wantF f ops ⟨d, .insert t x y u, ty, pos, af, g⟩ = true) (hx : ev f x = .map (some b)) (hy : ev f y = key a) (hu : ev f u = enc v) (ha : good a) (hm : OwM P k lit enc w lo b m) (hn : m.n ≤ 4294967296)
    (h : ∀ w1, OwM P k lit enc w1 lo b (m.put a v) → Only [b] w w1 → RL P ops Q rest (upo f d undef) w1) : RL P ops Q (⟨d, .insert t x y u, ty, pos, af, g⟩ :: rest) f w := by
  refine .inl ⟨hg, ?_⟩
  obtain ⟨w1, hr, h1, h2⟩ := hm.set (v := v) T ha hn
  have hr : (execOp (ev f) ⟨d, .insert t x y u, ty, pos, af, g⟩).run P w = .ok .skip w1 := by simp [execOp, hx, hy, hu, hr]
  rw [hr]
  exact h _ h1 h2
theorem RL.makeMap (k : TypeId) (lit : κ → Lit) (enc : β → Value) (hg : wantF f ops ⟨d, .makeMap t none, ty, pos, af, g⟩ = true)
    (h : ∀ w1, OwM P k lit enc w1 w.heap.size w.heap.size (MapM.empty : MapM κ β) → Below w.heap.size w w1 → w1.heap.size = w.heap.size + 1 → RL P ops Q rest (upo f d (.map (some w.heap.size))) w1) : RL P ops Q (⟨d, .makeMap t none, ty, pos, af, g⟩ :: rest) f w := by
  refine .inl ⟨hg, ?_⟩
  have hr : (execOp (ev f) ⟨d, .makeMap t none, ty, pos, af, g⟩).run P w = .ok (.value (.map (some w.heap.size))) (w.alloc (.map #[] 0)) := by
    simp [execOp, run_makeMap]
  rw [hr]
  exact h _ OwM.new (below_alloc _ _) (World.size_alloc _ _)
end
section
variable {f : Nat → Value}
theorem pm5 {i1 i2 i3 i4 i5 : Nat} {x1 x2 x3 x4 x5 : Operand} {v1 v2 v3 v4 v5 : Value} (h1 : ev f x1 = v1) (h2 : ev f x2 = v2) (h3 : ev f x3 = v3) (h4 : ev f x4 = v4) (h5 : ev f x5 = v5) : #[(i1, x1), (i2, x2), (i3, x3), (i4, x4), (i5, x5)].map (fun p => (p.1, ev f p.2)) = #[(i1, v1), (i2, v2), (i3, v3), (i4, v4), (i5, v5)] := by simp [h1, h2, h3, h4, h5]
theorem pm6 {i1 i2 i3 i4 i5 i6 : Nat} {x1 x2 x3 x4 x5 x6 : Operand} {v1 v2 v3 v4 v5 v6 : Value} (h1 : ev f x1 = v1) (h2 : ev f x2 = v2) (h3 : ev f x3 = v3) (h4 : ev f x4 = v4) (h5 : ev f x5 = v5) (h6 : ev f x6 = v6) : #[(i1, x1), (i2, x2), (i3, x3), (i4, x4), (i5, x5), (i6, x6)].map (fun p => (p.1, ev f p.2)) = #[(i1, v1), (i2, v2), (i3, v3), (i4, v4), (i5, v5), (i6, v6)] := by simp [h1, h2, h3, h4, h5, h6]
theorem pm7 {i1 i2 i3 i4 i5 i6 i7 : Nat} {x1 x2 x3 x4 x5 x6 x7 : Operand} {v1 v2 v3 v4 v5 v6 v7 : Value} (h1 : ev f x1 = v1) (h2 : ev f x2 = v2) (h3 : ev f x3 = v3) (h4 : ev f x4 = v4) (h5 : ev f x5 = v5) (h6 : ev f x6 = v6) (h7 : ev f x7 = v7) : #[(i1, x1), (i2, x2), (i3, x3), (i4, x4), (i5, x5), (i6, x6), (i7, x7)].map (fun p => (p.1, ev f p.2)) = #[(i1, v1), (i2, v2), (i3, v3), (i4, v4), (i5, v5), (i6, v6), (i7, v7)] := by simp [h1, h2, h3, h4, h5, h6, h7]
theorem pm8 {i1 i2 i3 i4 i5 i6 i7 i8 : Nat} {x1 x2 x3 x4 x5 x6 x7 x8 : Operand} {v1 v2 v3 v4 v5 v6 v7 v8 : Value} (h1 : ev f x1 = v1) (h2 : ev f x2 = v2) (h3 : ev f x3 = v3) (h4 : ev f x4 = v4) (h5 : ev f x5 = v5) (h6 : ev f x6 = v6) (h7 : ev f x7 = v7) (h8 : ev f x8 = v8) : #[(i1, x1), (i2, x2), (i3, x3), (i4, x4), (i5, x5), (i6, x6), (i7, x7), (i8, x8)].map (fun p => (p.1, ev f p.2)) = #[(i1, v1), (i2, v2), (i3, v3), (i4, v4), (i5, v5), (i6, v6), (i7, v7), (i8, v8)] := by simp [h1, h2, h3, h4, h5, h6, h7, h8]
end
/-- Keys that are numbers. -/
def keyI (x : Int) : Value := .int .i64 x
def litI (x : Int) : Lit := .int .i64 x
def goodI (x : Int) : Prop := -9223372036854775808 ≤ x ∧ x ≤ 9223372036854775807
theorem goodI_wf {x : Int} (h : goodI x) : (Lit.int .i64 x).wf = true := by
  unfold goodI at h
  have h1 : IntKind.min .i64 = -9223372036854775808 := by decide
  have h2 : IntKind.max .i64 = 9223372036854775807 := by decide
  simp only [Lit.wf, h1, h2, Bool.and_eq_true, decide_eq_true_eq]
  exact h
theorem mapTI {P : Program} {t k e : TypeId} {z : Value} (hk : P.underlying k = some (.int .i64)) (ht : P.underlying t = some (.map k e)) (hz : (P.info? e).bind (·.zero) = some z) : MapT P t k keyI litI goodI z :=
  ⟨int_keyed hk, ⟨e, ht, fun w => by
    cases hi : P.info? e with
    | none => rw [hi] at hz; cases hz
    | some inf =>
      rw [hi] at hz
      simp only [Option.bind_some] at hz
      simp [zeroValue, typeInfo, hi, hz]⟩, fun x hx => keyOf_int_mk hk (goodI_wf hx), fun x y h => by unfold litI at h; injection h⟩
section
variable {P : Program} {C : World → Prop} {f : Nat → Value} {d : Option Tmp} {ty : TypeId} {pos : String} {af : Array Edge} {g : Option (Nat × Bool)} {x y : Operand} {ats : Array TypeId} {k : IntKind} {a b : Int}
theorem Y.min (hx : ev f x = .int k a) (hy : ev f y = .int k b) : Y P C f ⟨d, .call ⟨.builtin .min, #[x, y], ats⟩, ty, pos, af, g⟩ (.int k (if b < a then b else a)) := fun w _ => by
  simp [execOp, resolve, invoke, builtin, hx, hy, Builtin.min_, Builtin.min2]
theorem Y.max (hx : ev f x = .int k a) (hy : ev f y = .int k b) : Y P C f ⟨d, .call ⟨.builtin .max, #[x, y], ats⟩, ty, pos, af, g⟩ (.int k (if b > a then b else a)) := fun w _ => by
  simp [execOp, resolve, invoke, builtin, hx, hy, Builtin.max_, Builtin.max2]
end
section
variable {P : Program} {n : Nat} {f : Nat → Value} {w : World}
theorem rettct {fn : Func} {R : Ending → World → Prop} {t0 t t2 : Tmp} {b o : Nat} {ty : TypeId} {cs : List Value} {v0 v2 : Value} (hr : fn.results = #[.tmp t0, .cell t ty, .tmp t2]) (ht : (Nat.blt t0 n && Nat.blt t n && Nat.blt t2 n) = true) (hv0 : f t0 = v0) (hv : f t = .pointer (some ⟨b, o, none⟩)) (hv2 : f t2 = v2) (hag : aggO P ty = some cs.length)
    (hc : ∀ j v, cs[j]? = some v → w.cell? ⟨b, o + j, none⟩ = some v) (h : R (.returned (.tuple #[v0, .agg cs.toArray, v2])) w) : bodyPost P fn R .ret (Fr n f) w :=
  ⟨rfl, _, by
    simp only [Bool.and_eq_true] at ht
    have h0 : t0 < n := by simpa using ht.1.1
    have h1 : t < n := by simpa using ht.1.2
    have h2 : t2 < n := by simpa using ht.2
    have hl := run_loadN (P := P) (w := w) hag hc
    simp only [Instr.loadAt, Instr.sureAddr, Sem.run_bind, Sem.run_pure, Result.andThen_ok, bind_pure_comp, pure_bind] at hl
    simp only [results, hr]
    simp [Fr, h0, h1, h2, hv0, hv, hv2, asAddr, hl], h⟩
end
end Go.Proofs.Ytampijkiidjcmaa
