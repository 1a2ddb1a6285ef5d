/- The laws of the walk by explicit steps: calls, new blocks, stores, appends; control; the beginning and the end of a function. -/
import Derived.Test.YtampijkiidjcmaaWkB
namespace Go.Proofs.Ytampijkiidjcmaa
open Go.RowKit
set_option linter.unusedVariables false
set_option linter.unusedSimpArgs false
section
variable {P : Program} {ops : Array Oper} {C : World → Prop} {f : Nat → Value} {rest : List Oper} {Q : (Nat → Value) → World → Prop} {Qf : (Nat → Value) → Prop} {w : World}
variable {d : Option Tmp} {ty : TypeId} {pos : String} {af : Array Edge} {g : Option (Nat × Bool)} {x y : Operand} {u v : Value} {t t' : TypeId} {args : Array Operand} {vals : Array Value} {ats : Array TypeId} {gf : FuncId}
section
variable {x1 x2 x3 x4 x5 x6 : Operand} {v1 v2 v3 v4 v5 v6 : Value}
theorem am0 : (#[] : Array Operand).map (ev f) = #[] := by simp
theorem am1 (h1 : ev f x1 = v1) : #[x1].map (ev f) = #[v1] := by simp [h1]
theorem am2 (h1 : ev f x1 = v1) (h2 : ev f x2 = v2) : #[x1, x2].map (ev f) = #[v1, v2] := by simp [h1, h2]
theorem am3 (h1 : ev f x1 = v1) (h2 : ev f x2 = v2) (h3 : ev f x3 = v3) : #[x1, x2, x3].map (ev f) = #[v1, v2, v3] := by simp [h1, h2, h3]
theorem am4 (h1 : ev f x1 = v1) (h2 : ev f x2 = v2) (h3 : ev f x3 = v3) (h4 : ev f x4 = v4) : #[x1, x2, x3, x4].map (ev f) = #[v1, v2, v3, v4] := by simp [h1, h2, h3, h4]
theorem am5 (h1 : ev f x1 = v1) (h2 : ev f x2 = v2) (h3 : ev f x3 = v3) (h4 : ev f x4 = v4) (h5 : ev f x5 = v5) : #[x1, x2, x3, x4, x5].map (ev f) = #[v1, v2, v3, v4, v5] := by simp [h1, h2, h3, h4, h5]
theorem pm0 : (#[] : Array (Nat × Operand)).map (fun p => (p.1, ev f p.2)) = #[] := by simp
theorem pm1 {i1 : Nat} (h1 : ev f x1 = v1) : #[(i1, x1)].map (fun p => (p.1, ev f p.2)) = #[(i1, v1)] := by simp [h1]
theorem pm2 {i1 i2 : Nat} (h1 : ev f x1 = v1) (h2 : ev f x2 = v2) : #[(i1, x1), (i2, x2)].map (fun p => (p.1, ev f p.2)) = #[(i1, v1), (i2, v2)] := by simp [h1, h2]
theorem pm3 {i1 i2 i3 : Nat} (h1 : ev f x1 = v1) (h2 : ev f x2 = v2) (h3 : ev f x3 = v3) : #[(i1, x1), (i2, x2), (i3, x3)].map (fun p => (p.1, ev f p.2)) = #[(i1, v1), (i2, v2), (i3, v3)] := by simp [h1, h2, h3]
theorem pm4 {i1 i2 i3 i4 : Nat} (h1 : ev f x1 = v1) (h2 : ev f x2 = v2) (h3 : ev f x3 = v3) (h4 : ev f x4 = v4) : #[(i1, x1), (i2, x2), (i3, x3), (i4, x4)].map (fun p => (p.1, ev f p.2)) = #[(i1, v1), (i2, v2), (i3, v3), (i4, v4)] := by simp [h1, h2, h3, h4]
end
/-! ### calls -/
def isGo (P : Program) (gf : FuncId) : Bool := match P.funcs[gf]? with | some fn => !(fn.name == "runtime.NumGoroutine") && fn.body.isSome | none => false
theorem Calls.arr {a b : Array Value} {R : Ending → World → Prop} (e : a = b) (h : Calls P gf a w R) : Calls P gf b w R := e ▸ h
theorem run_callFunc (h : isGo P gf = true) : (callFunc gf vals).run P w = .ok (.enter gf vals) w := by
  unfold isGo at h
  cases hf : P.funcs[gf]? with
  | none => rw [hf] at h; cases h
  | some fn =>
    rw [hf] at h
    simp only [Bool.and_eq_true, Bool.not_eq_true'] at h
    obtain ⟨h1, h2⟩ := h
    have h3 : fn.body.isNone = false := by cases hb : fn.body with | none => rw [hb] at h2; cases h2 | some _ => rfl
    simp [callFunc, hf, h3]
    have h1' : ¬ fn.name = "runtime.NumGoroutine" := by simpa using h1
    simp [h1']
    intro hb
    rw [hb] at h2
    cases h2
theorem run_callV {caps : Array Value} {ov : Operand} (hv : ev f ov = .func (.func gf) #[] caps) (ha : args.map (ev f) = vals) (hgo : isGo P gf = true) :
    (execOp (ev f) ⟨d, .call ⟨.value ov, args, ats⟩, ty, pos, af, g⟩).run P w = .ok (.enter gf (vals ++ caps)) w := by
  simp [execOp, resolve, hv, ha, Deferred.ofValue, invoke, run_callFunc hgo]
theorem run_call (ha : args.map (ev f) = vals) (hgo : isGo P gf = true) :
    (execOp (ev f) ⟨d, .call ⟨.value (.func gf), args, ats⟩, ty, pos, af, g⟩).run P w = .ok (.enter gf vals) w := by
  have h := run_callV (P := P) (w := w) (d := d) (ty := ty) (pos := pos) (af := af) (g := g) (ats := ats) (ov := .func gf) (caps := #[]) rfl ha hgo
  simpa using h
theorem RQ.call (hg : wantF f ops ⟨d, .call ⟨.value (.func gf), args, ats⟩, ty, pos, af, g⟩ = true) (ha : args.map (ev f) = vals) (hgo : isGo P gf = true)
    (hc : ∀ w, C w → Calls P gf vals w fun e w' => e = .returned v ∧ C w') (h : RQ P ops C Qf rest (upo f d v)) : RQ P ops C Qf (⟨d, .call ⟨.value (.func gf), args, ats⟩, ty, pos, af, g⟩ :: rest) f :=
  ⟨v, .inl ⟨hg, fun w hw => by rw [run_call ha hgo]; exact ⟨rfl, hc w hw⟩⟩, h⟩
theorem RQ.callV {ov : Operand} {caps : Array Value} (hg : wantF f ops ⟨d, .call ⟨.value ov, args, ats⟩, ty, pos, af, g⟩ = true) (hv : ev f ov = .func (.func gf) #[] caps) (ha : args.map (ev f) = vals) (hgo : isGo P gf = true)
    (hc : ∀ w, C w → Calls P gf (vals ++ caps) w fun e w' => e = .returned v ∧ C w') (h : RQ P ops C Qf rest (upo f d v)) : RQ P ops C Qf (⟨d, .call ⟨.value ov, args, ats⟩, ty, pos, af, g⟩ :: rest) f :=
  ⟨v, .inl ⟨hg, fun w hw => by rw [run_callV hv ha hgo]; exact ⟨rfl, hc w hw⟩⟩, h⟩
theorem RL.call (hg : wantF f ops ⟨d, .call ⟨.value (.func gf), args, ats⟩, ty, pos, af, g⟩ = true) (ha : args.map (ev f) = vals) (hgo : isGo P gf = true)
    (hc : Calls P gf vals w fun e w' => ∃ v, e = .returned v ∧ RL P ops Q rest (upo f d v) w') : RL P ops Q (⟨d, .call ⟨.value (.func gf), args, ats⟩, ty, pos, af, g⟩ :: rest) f w :=
  .inl ⟨hg, by rw [run_call ha hgo]; exact hc⟩
theorem RL.callV {ov : Operand} {caps : Array Value} (hg : wantF f ops ⟨d, .call ⟨.value ov, args, ats⟩, ty, pos, af, g⟩ = true) (hv : ev f ov = .func (.func gf) #[] caps) (ha : args.map (ev f) = vals) (hgo : isGo P gf = true)
    (hc : Calls P gf (vals ++ caps) w fun e w' => ∃ v, e = .returned v ∧ RL P ops Q rest (upo f d v) w') : RL P ops Q (⟨d, .call ⟨.value ov, args, ats⟩, ty, pos, af, g⟩ :: rest) f w :=
  .inl ⟨hg, by rw [run_callV hv ha hgo]; exact hc⟩
theorem Y.makeFunc {fn : Fn} {caps : Array Operand} (ha : caps.map (ev f) = vals) : Y P C f ⟨d, .makeFunc fn #[] caps, ty, pos, af, g⟩ (.func fn #[] vals) := fun w _ => by
  subst ha; simp [execOp, Instr.makeFunc]
/-- A contract of a function that leaves old memory alone, in a region's class. -/
theorem bel {w : World} {K : Ending → Prop} (h : ∀ w', Below w.heap.size w w' → Calls P gf vals w' fun e w'' => e = .returned v ∧ Below w'.heap.size w' w'') :
    ∀ w', Below w.heap.size w w' → Calls P gf vals w' fun e w'' => e = .returned v ∧ Below w.heap.size w w'' :=
  fun w' hb => (h w' hb).mono fun e w'' ⟨he, hb'⟩ => ⟨he, hb.trans (hb'.mono hb.size)⟩
theorem Calls.same {R : Ending → World → Prop} (h : Calls P gf vals w fun e w' => e = .returned v ∧ w = w') : Calls P gf vals w fun e w' => e = .returned v ∧ Below w.heap.size w w' :=
  h.mono fun e w' ⟨he, hw⟩ => ⟨he, by subst hw; exact Below.refl _ _⟩
/-! ### new blocks -/
theorem below_alloc (w : World) (o : Obj) : Below w.heap.size w (w.alloc o) := (Below.refl _ _).alloc (Nat.le_refl _) _
theorem RL.alloc {z : Value} (hg : wantF f ops ⟨d, .alloc t, ty, pos, af, g⟩ = true) (hz : (P.info? t).bind (·.zero) = some z)
    (h : ∀ w1, Blk w1 w.heap.size t z.cells → Below w.heap.size w w1 → w1.heap.size = w.heap.size + 1 → RL P ops Q rest (upo f d (.pointer (some ⟨w.heap.size, 0, none⟩))) w1) : RL P ops Q (⟨d, .alloc t, ty, pos, af, g⟩ :: rest) f w := by
  refine .inl ⟨hg, ?_⟩
  cases hi : P.info? t with
  | none => rw [hi] at hz; cases hz
  | some inf =>
    rw [hi] at hz
    simp only [Option.bind_some] at hz
    have hr : (execOp (ev f) ⟨d, .alloc t, ty, pos, af, g⟩).run P w = .ok (.value (.pointer (some ⟨w.heap.size, 0, none⟩))) (w.alloc (.cells z.cells t)) := by
      simp [execOp, Instr.alloc, zeroValue, typeInfo, hi, hz, newVar, newRow]
    rw [hr]
    exact h _ (Blk.new _ _ _) (below_alloc _ _) (World.size_alloc _ _)
theorem RL.box (hg : wantF f ops ⟨d, .box t x, ty, pos, af, g⟩ = true) (hx : ev f x = v)
    (h : ∀ w1, Blk w1 w.heap.size t v.cells → Below w.heap.size w w1 → w1.heap.size = w.heap.size + 1 → RL P ops Q rest (upo f d (.pointer (some ⟨w.heap.size, 0, none⟩))) w1) : RL P ops Q (⟨d, .box t x, ty, pos, af, g⟩ :: rest) f w := by
  refine .inl ⟨hg, ?_⟩
  have hr : (execOp (ev f) ⟨d, .box t x, ty, pos, af, g⟩).run P w = .ok (.value (.pointer (some ⟨w.heap.size, 0, none⟩))) (w.alloc (.cells v.cells t)) := by
    simp [execOp, hx, Instr.box, newVar, newRow]
  rw [hr]
  exact h _ (Blk.new _ _ _) (below_alloc _ _) (World.size_alloc _ _)
theorem Blk.only_ {w w' : World} {b : Nat} {e : TypeId} {cs : Array Value} {bs : List Nat} (h : Blk w b e cs) (ho : Only bs w w') (hb : b ∉ bs) : Blk w' b e cs := (ho.block b hb).trans h
theorem setRow_only (w : World) (b : Nat) (cs : Array Value) : Only [b] w (w.setRow b cs) :=
  ⟨rfl, rfl, rfl, by simp [World.setRow], fun k hk => by
    have : ¬ b = k := fun e => hk (by simp [e])
    simp [World.setRow, Array.getElem?_modify, this]⟩
theorem setRow_blk {w : World} {b : Nat} {e : TypeId} {cs cs' : Array Value} (h : Blk w b e cs) : Blk (w.setRow b cs') b e cs' := setRow_heap w b cs cs' e (0, 0) h
/-- A store into a block of the call's own. -/
theorem RL.store {b o : Nat} {e : TypeId} {cs cs' : Array Value} (hg : wantF f ops ⟨d, .store t x y, ty, pos, af, g⟩ = true) (hx : ev f x = .pointer (some ⟨b, o, none⟩)) (hy : ev f y = v) (hb : Blk w b e cs)
    (hs : (P.info? t).map (·.size) = some v.cells.size) (h1 : (v.cells.toList.all Value.oneCell') = true) (hl0 : Nat.ble (o + v.cells.size) cs.size = true) (hcs : (cs.toList.take o ++ v.cells.toList ++ cs.toList.drop (o + v.cells.size)).toArray = cs')
    (h : ∀ w1, Blk w1 b e cs' → Only [b] w w1 → RL P ops Q rest (upo f d undef) w1) : RL P ops Q (⟨d, .store t x y, ty, pos, af, g⟩ :: rest) f w := by
  have hl := Nat.le_of_ble_eq_true hl0
  refine .inl ⟨hg, ?_⟩
  cases hi : P.info? t with
  | none => rw [hi] at hs; cases hs
  | some inf =>
    rw [hi] at hs
    simp only [Option.map_some, Option.some.injEq] at hs
    have hst := run_storeCells_at (P := P) b o e v.cells.toList 0 cs w hb (by simpa using hl) (fun u hu => List.all_eq_true.1 h1 u hu)
    have hr : (execOp (ev f) ⟨d, .store t x y, ty, pos, af, g⟩).run P w = .ok .skip (w.setRow b cs') := by
      subst hcs
      simp only [Nat.add_zero] at hst
      simp [execOp, hx, hy, Instr.storeAt, Instr.sureAddr, storeVar, sizeOf, typeInfo, hi, hs, hst]
    rw [hr]
    exact h _ (setRow_blk hb) (setRow_only _ _ _)
def bslO (P : Program) (t : TypeId) (len : Nat) (parts : List (Nat × Value)) : Option (TypeId × Array Value) :=
  match P.underlying t with
  | some (.slice e) => match P.info? e with
    | some inf => if len * inf.size > 16777216 then none else
      match (if len * inf.size = 0 then some #[] else inf.zero.map (·.cells)) with
      | some zero => (Instr.fill (fun i => some (i * inf.size, inf.size)) ((Array.range (len * inf.size)).map (zero[· % zero.size]!)) parts).map fun cs => (e, cs)
      | none => none
    | none => none
  | _ => none
theorem run_bsl {len : Nat} {parts : Array (Nat × Value)} {e : TypeId} {cells : Array Value} (hb : bslO P t len parts.toList = some (e, cells)) : (Instr.buildSlice t len parts).run P w = .ok (.slice (some ⟨w.heap.size, 0, none⟩) len len) (w.alloc (.cells cells e)) := by
  unfold bslO at hb
  cases hu : P.underlying t with
  | none => rw [hu] at hb; cases hb
  | some u0 =>
    rw [hu] at hb
    cases u0 <;> simp only at hb <;> try (cases hb; done)
    rename_i e'
    cases hi : P.info? e' with
    | none => rw [hi] at hb; cases hb
    | some inf =>
      rw [hi] at hb
      simp only at hb
      split at hb
      · cases hb
      · rename_i hbig
        by_cases h0 : len * inf.size = 0
        · simp only [h0, if_true] at hb
          cases hf : Instr.fill (fun i => some (i * inf.size, inf.size)) ((Array.range 0).map ((#[] : Array Value)[· % (#[] : Array Value).size]!)) parts.toList with
          | none => rw [hf] at hb; cases hb
          | some cs =>
            rw [hf] at hb
            simp only [Option.map_some, Option.some.injEq, Prod.mk.injEq] at hb
            obtain ⟨rfl, rfl⟩ := hb
            simp at hf
            simp [Instr.buildSlice, run_underlying hu, sizeOf, typeInfo, hi, h0, newRow, hf]
        · simp only [h0, if_false] at hb
          cases hz : inf.zero with
          | none => rw [hz] at hb; cases hb
          | some z =>
            rw [hz] at hb
            simp only [Option.map_some] at hb
            cases hf : Instr.fill (fun i => some (i * inf.size, inf.size)) ((Array.range (len * inf.size)).map (z.cells[· % z.cells.size]!)) parts.toList with
            | none => rw [hf] at hb; cases hb
            | some cs =>
              rw [hf] at hb
              simp only [Option.map_some, Option.some.injEq, Prod.mk.injEq] at hb
              obtain ⟨rfl, rfl⟩ := hb
              simp [Instr.buildSlice, run_underlying hu, sizeOf, typeInfo, hi, h0, hbig, zeroValue, hz, newRow, hf]
theorem RL.bslice {len : Nat} {parts : Array (Nat × Operand)} {pv : Array (Nat × Value)} {e : TypeId} {cells : Array Value} (hg : wantF f ops ⟨d, .buildSlice t len parts, ty, pos, af, g⟩ = true)
    (hp : parts.map (fun p => (p.1, ev f p.2)) = pv) (hb : bslO P t len pv.toList = some (e, cells))
    (h : ∀ w1, Blk w1 w.heap.size e cells → Below w.heap.size w w1 → w1.heap.size = w.heap.size + 1 → RL P ops Q rest (upo f d (.slice (some ⟨w.heap.size, 0, none⟩) len len)) w1) : RL P ops Q (⟨d, .buildSlice t len parts, ty, pos, af, g⟩ :: rest) f w := by
  refine .inl ⟨hg, ?_⟩
  have hr : (execOp (ev f) ⟨d, .buildSlice t len parts, ty, pos, af, g⟩).run P w = .ok (.value (.slice (some ⟨w.heap.size, 0, none⟩) len len)) (w.alloc (.cells cells e)) := by
    have := run_bsl (P := P) (w := w) (parts := pv) hb
    subst hp
    simp [execOp, this]
  rw [hr]
  exact h _ (Blk.new _ _ _) (below_alloc _ _) (World.size_alloc _ _)
end
end Go.Proofs.Ytampijkiidjcmaa
