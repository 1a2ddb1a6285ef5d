/- The laws of the walk by explicit steps: what each kind of operation yields. -/
import Derived.Test.YtampijkiidjcmaaWkA
import Derived.Laws.StructEq
import Derived.Laws.Cells
namespace Go.Proofs.Ytampijkiidjcmaa
open Go.RowKit
set_option linter.unusedVariables false
set_option linter.unusedSimpArgs false
section
variable {P : Program} {ops : Array Oper} {C : World → Prop} {f : Nat → Value} {rest : List Oper}
/-- The operation o yields v in every world of the class, and leaves it. -/
def Y (P : Program) (C : World → Prop) (f : Nat → Value) (o : Oper) (v : Value) : Prop := ∀ w, C w → (execOp (ev f) o).run P w = .ok (.value v) w
def CellIn (C : World → Prop) (A : Addr) (v : Value) : Prop := ∀ w, C w → w.cell? A = some v
theorem eqC {w : World} {A : Addr} {v : Value} (h : w.cell? A = some v) : CellIn (· = w) A v := fun _ e => by rw [e]; exact h
theorem beC {w : World} {A : Addr} {v : Value} (h : w.cell? A = some v) : CellIn (Below w.heap.size w) A v := fun _ e => (e.cell (World.block_lt_of_cell? w A h)).trans h
theorem RQ.y {Q : (Nat → Value) → Prop} {o : Oper} {v : Value} (hg : wantF f ops o = true) (hy : Y P C f o v) (h : RQ P ops C Q rest (upo f o.dst v)) : RQ P ops C Q (o :: rest) f :=
  ⟨v, .inl ⟨hg, fun w hw => by rw [hy w hw]; exact ⟨rfl, rfl⟩⟩, h⟩
theorem RQ.skip {Q : (Nat → Value) → Prop} {o : Oper} (hg : wantF f ops o = false) (h : RQ P ops C Q rest (upo f o.dst undef)) : RQ P ops C Q (o :: rest) f := ⟨undef, .inr ⟨hg, rfl⟩, h⟩
theorem RQ.nil {Q : (Nat → Value) → Prop} (h : Q f) : RQ P ops C Q [] f := h
theorem RL.y {Q : (Nat → Value) → World → Prop} {w : World} {o : Oper} {v : Value} (hg : wantF f ops o = true) (hy : Y P (· = w) f o v) (h : RL P ops Q rest (upo f o.dst v) w) : RL P ops Q (o :: rest) f w :=
  .inl ⟨hg, by rw [hy w rfl]; exact h⟩
theorem RL.skip {Q : (Nat → Value) → World → Prop} {w : World} {o : Oper} (hg : wantF f ops o = false) (h : RL P ops Q rest (upo f o.dst undef) w) : RL P ops Q (o :: rest) f w := .inr ⟨hg, h⟩
theorem RL.nil {Q : (Nat → Value) → World → Prop} {w : World} (h : Q f w) : RL P ops Q [] f w := h
variable {d : Option Tmp} {ty : TypeId} {pos : String} {af : Array Edge} {g : Option (Nat × Bool)} {x y : Operand} {u v : Value} {t t' : TypeId}
theorem Y.move (hx : ev f x = v) : Y P C f ⟨d, .move x, ty, pos, af, g⟩ v := fun w _ => by subst hx; rfl
theorem Y.assign (hx : ev f x = v) : Y P C f ⟨d, .assign x, ty, pos, af, g⟩ v := fun w _ => by subst hx; rfl
theorem Y.nilCheck {A : Addr} (hx : ev f x = .pointer (some A)) : Y P C f ⟨d, .nilCheck x, ty, pos, af, g⟩ (.pointer (some A)) := fun w _ => by simp [execOp, hx]
theorem Y.pick {c : Operand} {b : Bool} (hc : ev f c = .bool b) (hv : (bif b then ev f x else ev f y) = v) : Y P C f ⟨d, .pick c x y, ty, pos, af, g⟩ v := fun w _ => by
  subst hv
  cases b <;> simp [execOp, hc, asBool]
theorem Y.not {b b' : Bool} (hx : ev f x = .bool b) (hb : (!b) = b') : Y P C f ⟨d, .unOp .not t x, ty, pos, af, g⟩ (.bool b') := fun w _ => by
  subst hb
  simp [execOp, hx, Op.unary]
/-- The binary operations of integers. -/
def binI (o : BinOp) (k : IntKind) (m n : Int) : Option Value :=
  match o with
  | .add => some (.int k (k.wrap (m + n)))
  | .sub => some (.int k (k.wrap (m - n)))
  | .mul => some (.int k (k.wrap (m * n)))
  | .eql => some (.bool (m == n))
  | .neq => some (.bool (m != n))
  | .lss => some (.bool (m < n))
  | .leq => some (.bool (m ≤ n))
  | .gtr => some (.bool (m > n))
  | .geq => some (.bool (m ≥ n))
  | _ => none
theorem eqGuard_int {P : Program} {w : World} {o : BinOp} {k k' : IntKind} {m n : Int} : (eqGuard o t x y (.int k m) (.int k' n)).run P w = .ok () w := by
  unfold eqGuard; cases o <;> rfl
theorem Y.binI {o : BinOp} {k : IntKind} {m n : Int} (hx : ev f x = .int k m) (hy : ev f y = .int k n) (hr : binI o k m n = some v) : Y P C f ⟨d, .binOp o t x y t', ty, pos, af, g⟩ v := fun w _ => by
  simp only [execOp, hx, hy, Sem.run_bind, eqGuard_int, Result.andThen_ok]
  cases o <;> simp [Proofs.Ytampijkiidjcmaa.binI] at hr <;> subst hr <;> simp [binOp, Op.intArith, Op.intCmp]
theorem Y.beq {o : BinOp} {a b c : Bool} (ht : P.underlying t = some .bool) (hx : ev f x = .bool a) (hy : ev f y = .bool b) (ho : (o = .eql ∧ (a == b) = c) ∨ (o = .neq ∧ (a != b) = c)) : Y P C f ⟨d, .binOp o t x y t', ty, pos, af, g⟩ (.bool c) := fun w _ => by
  rcases ho with ⟨rfl, rfl⟩ | ⟨rfl, rfl⟩
  · simp only [execOp, hx, hy, Sem.run_bind, eqGuard, Result.andThen_ok]
    simp [binOp, Op.equal, Op.maxDepth, run_equalIn_bool' w _ t a b ht]
  · simp only [execOp, hx, hy, Sem.run_bind, eqGuard, Result.andThen_ok]
    simp [binOp, Op.equal, Op.maxDepth, run_equalIn_bool' w _ t a b ht]
    cases a <;> cases b <;> rfl
def fieldO (P : Program) (t : TypeId) (i : Nat) : Option Nat :=
  match P.underlying t with
  | some (.struct fs) => match fs[i]? with
    | some fl => match P.info? fl.type with
      | some inf => if inf.size = 0 then none else some fl.offset
      | none => none
    | none => none
  | _ => none
theorem Addr.add_eq (b o n : Nat) : Addr.add ⟨b, o, none⟩ n = ⟨b, o + n, none⟩ := by
  unfold Addr.add; split <;> simp_all
theorem Y.fieldAddr {i b o off : Nat} (hx : ev f x = .pointer (some ⟨b, o, none⟩)) (ht : fieldO P t i = some off) : Y P C f ⟨d, .fieldAddr t x i, ty, pos, af, g⟩ (.pointer (some ⟨b, o + off, none⟩)) := fun w _ => by
  unfold fieldO at ht
  split at ht
  · rename_i fs hu
    split at ht
    · rename_i fl hf
      split at ht
      · rename_i inf hi
        split at ht
        · cases ht
        · rename_i hs
          injection ht with ht
          subst ht
          simp [execOp, hx, Instr.fieldAt, run_underlying hu, hf, Instr.sureAddr, fieldPlace, sizeOf, typeInfo, hi, hs, Addr.add_eq]
      · cases ht
    · cases ht
  · cases ht
def elemO (P : Program) (t : TypeId) : Option Nat :=
  match P.underlying t with
  | some (.slice e) => (P.info? e).map (·.size)
  | _ => none
theorem Y.indexAddr {b o n c m sz : Nat} {k : IntKind} {j : Int} (hx : ev f x = .slice (some ⟨b, o, none⟩) n c) (hi : ev f y = .int k j) (hj : j = (m : Int)) (hm : m < n) (ht : elemO P t = some sz) :
    Y P C f ⟨d, .indexAddr t x y, ty, pos, af, g⟩ (.pointer (some ⟨b, o + m * sz, none⟩)) := fun w _ => by
  subst hj
  unfold elemO at ht
  split at ht
  · rename_i e hu
    cases hinf : P.info? e with
    | none => rw [hinf] at ht; cases ht
    | some inf =>
      rw [hinf] at ht
      simp at ht
      subst ht
      have h1 : ((m : Int) < (n : Int)) := by omega
      simp [execOp, hx, hi, Instr.indexAt, asIntOf, run_underlying hu, h1, sizeOf, typeInfo, hinf, Addr.add_eq]
      intro; omega
  · cases ht
def oneT (P : Program) (t : TypeId) : Bool :=
  match P.underlying t with
  | some (.struct _) | some (.array ..) | none => false
  | _ => true
theorem run_load1 {P : Program} {w : World} {A : Addr} (ht : oneT P t = true) (hc : w.cell? A = some v) : (Instr.loadAt t (.pointer (some A))).run P w = .ok v w := by
  unfold oneT at ht
  cases hu : P.underlying t with
  | none => rw [hu] at ht; cases ht
  | some u => cases u <;> first | (rw [hu] at ht; cases ht; done) | simp [Instr.loadAt, Instr.sureAddr, loadVar, isAgg, run_underlying hu, hc]
theorem Y.load {A : Addr} (hx : ev f x = .pointer (some A)) (ht : oneT P t = true) (hc : CellIn C A v) : Y P C f ⟨d, .load t x, ty, pos, af, g⟩ v := fun w hw => by
  simp only [execOp, hx, Sem.run_bind, run_load1 ht (hc w hw), Result.andThen_ok]
  rfl
def aggO (P : Program) (t : TypeId) : Option Nat :=
  match P.underlying t with
  | some (.struct _) => (P.info? t).map (·.size)
  | some (.array ..) => (P.info? t).map (·.size)
  | _ => none
def CellsIn (C : World → Prop) (b o : Nat) (cs : List Value) : Prop := ∀ w, C w → ∀ j v, cs[j]? = some v → w.cell? ⟨b, o + j, none⟩ = some v
theorem run_loadN {P : Program} {w : World} {b o : Nat} {cs : List Value} (ht : aggO P t = some cs.length) (hc : ∀ j v, cs[j]? = some v → w.cell? ⟨b, o + j, none⟩ = some v) :
    (Instr.loadAt t (.pointer (some ⟨b, o, none⟩))).run P w = .ok (.agg cs.toArray) w := by
  unfold aggO at ht
  have key : ∀ u, P.underlying t = some u → (∀ w, (isAgg t).run P w = .ok true w) → (P.info? t).map (·.size) = some cs.length → (Instr.loadAt t (.pointer (some ⟨b, o, none⟩))).run P w = .ok (.agg cs.toArray) w := fun u hu ha hs => by
    cases hi : P.info? t with
    | none => rw [hi] at hs; cases hs
    | some inf =>
      rw [hi] at hs
      simp at hs
      have hl := run_loadCells_list (P := P) w ⟨b, o, none⟩ cs (fun j v hj => by rw [Addr.add_eq]; exact hc j v hj)
      simp [Instr.loadAt, Instr.sureAddr, loadVar, ha, sizeOf, typeInfo, hi, hs, hl]
  split at ht
  · rename_i fs hu; exact key _ hu (fun w => by simp [isAgg, run_underlying hu]) ht
  · rename_i e n hu; exact key _ hu (fun w => by simp [isAgg, run_underlying hu]) ht
  · cases ht
theorem Y.loadN {b o : Nat} {cs : List Value} (hx : ev f x = .pointer (some ⟨b, o, none⟩)) (ht : aggO P t = some cs.length) (hc : CellsIn C b o cs) : Y P C f ⟨d, .load t x, ty, pos, af, g⟩ (.agg cs.toArray) := fun w hw => by
  simp only [execOp, hx, Sem.run_bind, run_loadN ht (hc w hw), Result.andThen_ok]
  rfl
theorem Y.extract {i : Nat} {vs : Array Value} (hx : ev f x = .tuple vs) (hi : vs[i]? = some v) : Y P C f ⟨d, .extract x i, ty, pos, af, g⟩ v := fun w _ => by
  simp [execOp, hx, Instr.extract, hi]
def sliceT (P : Program) (t : TypeId) : Bool := match P.underlying t with | some (.slice _) => true | _ => false
def stringT (P : Program) (t : TypeId) : Bool := match P.underlying t with | some .string => true | _ => false
theorem Y.len {A : Option Addr} {n c : Nat} (ht : sliceT P t = true) (hx : ev f x = .slice A n c) : Y P C f ⟨d, .call ⟨.builtin .len, #[x], #[t]⟩, ty, pos, af, g⟩ (.int .i64 n) := fun w _ => by
  unfold sliceT at ht
  split at ht
  · rename_i e hu
    simp [execOp, resolve, invoke, builtin, hx, Builtin.len_, run_underlying hu, goInt]
  · cases ht
theorem Y.lenS {s : ByteArray} (ht : stringT P t = true) (hx : ev f x = .string s) : Y P C f ⟨d, .call ⟨.builtin .len, #[x], #[t]⟩, ty, pos, af, g⟩ (.int .i64 s.size) := fun w _ => by
  unfold stringT at ht
  split at ht
  · rename_i hu
    simp [execOp, resolve, invoke, builtin, hx, Builtin.len_, run_underlying hu, goInt]
  · cases ht
/-! ### values of structs -/
def partO (P : Program) (t : TypeId) (i : Nat) (cs : List Value) : Option Value :=
  match P.underlying t with
  | some (.struct fs) => match fs[i]? with
    | some fl => match P.underlying fl.type with
      | some (.struct _) | some (.array ..) => (P.info? fl.type).map fun inf => .agg (cs.toArray.extract fl.offset (fl.offset + inf.size))
      | some _ => cs[fl.offset]?
      | none => none
    | none => none
  | _ => none
theorem run_part {w : World} {ft : TypeId} {cs : List Value} {off : Nat} (h : (match P.underlying ft with
      | some (.struct _) | some (.array ..) => (P.info? ft).map fun inf => Value.agg (cs.toArray.extract off (off + inf.size))
      | some _ => cs[off]?
      | none => none) = some v) : (part ft cs.toArray off).run P w = .ok v w := by
  have ag : ∀ u, P.underlying ft = some u → (∀ w, (isAgg ft).run P w = .ok true w) → ((P.info? ft).map fun inf => Value.agg (cs.toArray.extract off (off + inf.size))) = some v → (part ft cs.toArray off).run P w = .ok v w := fun u hu ha hs => by
    cases hi : P.info? ft with
    | none => rw [hi] at hs; cases hs
    | some inf =>
      rw [hi] at hs
      simp at hs
      subst hs
      simp [part, ha, sizeOf, typeInfo, hi]
  have na : (∀ w, (isAgg ft).run P w = .ok false w) → cs[off]? = some v → (part ft cs.toArray off).run P w = .ok v w := fun ha hs => by
    simp [part, ha, hs]
  cases hu : P.underlying ft with
  | none => rw [hu] at h; cases h
  | some u =>
    rw [hu] at h
    cases u <;> simp only at h <;> first
      | exact ag _ hu (fun w => by simp [isAgg, run_underlying hu]) h
      | exact na (fun w => by simp [isAgg, run_underlying hu]) h
theorem Y.field {i : Nat} {cs : List Value} (hx : ev f x = .agg cs.toArray) (hp : partO P t i cs = some v) : Y P C f ⟨d, .field t x i, ty, pos, af, g⟩ v := fun w _ => by
  unfold partO at hp
  split at hp
  · rename_i fs hu
    split at hp
    · rename_i fl hf
      simp [execOp, hx, Instr.field, run_underlying hu, hf, asAgg, run_part hp]
    · cases hp
  · cases hp
/-- The cells of a struct that is built. -/
def buildO (P : Program) (t : TypeId) (parts : List (Nat × Value)) : Option (Array Value) :=
  match P.underlying t with
  | some (.struct fs) => match (P.info? t).bind (·.zero) with
    | some z => Instr.fill (fun i => (fs[i]?).map fun fl => (fl.offset, P.cellsOf fl.type)) z.cells parts
    | none => none
  | _ => none
def sizedO (P : Program) (t : TypeId) : Bool :=
  match P.underlying t with
  | some (.struct fs) => fs.toList.all fun fl => (P.info? fl.type).isSome
  | _ => false
theorem run_sizeOf_ok {w : World} {e : TypeId} (h : (P.info? e).isSome = true) : (sizeOf e).run P w = .ok (P.cellsOf e) w := by
  obtain ⟨inf, hi⟩ := Option.isSome_iff_exists.1 h
  simp [sizeOf, typeInfo, hi, Program.cellsOf]
theorem run_mapM_places {w : World} : ∀ (fs : List Field), (fs.all fun fl => (P.info? fl.type).isSome) = true →
    (fs.mapM fun fl => Prod.mk fl.offset <$> sizeOf fl.type).run P w = .ok (fs.map fun fl => (fl.offset, P.cellsOf fl.type)) w
  | [], _ => by simp
  | fl :: fs, h => by
    simp only [List.all_cons, Bool.and_eq_true] at h
    simp only [List.mapM_cons, Sem.run_bind, Sem.run_map, run_sizeOf_ok h.1, Result.andThen_ok, run_mapM_places fs h.2, Sem.run_pure, List.map_cons]
theorem run_build {w : World} {parts : Array (Nat × Value)} {cells : Array Value} (hs : sizedO P t = true) (hb : buildO P t parts.toList = some cells) : (Instr.build t parts).run P w = .ok (.agg cells) w := by
  unfold sizedO at hs
  unfold buildO at hb
  cases hu : P.underlying t with
  | none => rw [hu] at hb; cases hb
  | some u =>
    rw [hu] at hb hs
    cases u <;> simp only at hb hs <;> try (cases hb; done)
    rename_i fs
    cases hi : P.info? t with
    | none => rw [hi] at hb; cases hb
    | some inf =>
      rw [hi] at hb
      simp only [Option.bind_some] at hb
      cases hz : inf.zero with
      | none => rw [hz] at hb; cases hb
      | some z =>
        rw [hz] at hb
        simp only at hb
        have hm := run_mapM_places (P := P) (w := w) fs.toList hs
        simp [Instr.build, zeroValue, typeInfo, hi, hz, run_underlying hu]
        rw [Array.mapM_eq_mapM_toList]
        simp only [Sem.run_map, hm, Result.andThen_ok]
        simp [hb]
theorem Y.build0 {cells : Array Value} (hs : sizedO P t = true) (hb : buildO P t [] = some cells) : Y P C f ⟨d, .build t #[], ty, pos, af, g⟩ (.agg cells) := fun w _ => by
  simp [execOp, run_build (parts := #[]) hs hb]
theorem Y.build1 {i : Nat} {cells : Array Value} (h0 : ev f x = v) (hs : sizedO P t = true) (hb : buildO P t [(i, v)] = some cells) : Y P C f ⟨d, .build t #[(i, x)], ty, pos, af, g⟩ (.agg cells) := fun w _ => by
  subst h0
  simp [execOp, run_build (parts := #[(i, ev f x)]) hs hb]
theorem Y.build2 {x2 : Operand} {i j : Nat} {v1 v2 : Value} {cells : Array Value} (h0 : ev f x = v1) (h1 : ev f x2 = v2) (hs : sizedO P t = true) (hb : buildO P t [(i, v1), (j, v2)] = some cells) :
    Y P C f ⟨d, .build t #[(i, x), (j, x2)], ty, pos, af, g⟩ (.agg cells) := fun w _ => by
  subst h0 h1
  simp [execOp, run_build (parts := #[(i, ev f x), (j, ev f x2)]) hs hb]
theorem Y.build3 {x2 x3 : Operand} {i j k : Nat} {v1 v2 v3 : Value} {cells : Array Value} (h0 : ev f x = v1) (h1 : ev f x2 = v2) (h2 : ev f x3 = v3) (hs : sizedO P t = true) (hb : buildO P t [(i, v1), (j, v2), (k, v3)] = some cells) :
    Y P C f ⟨d, .build t #[(i, x), (j, x2), (k, x3)], ty, pos, af, g⟩ (.agg cells) := fun w _ => by
  subst h0 h1 h2
  simp [execOp, run_build (parts := #[(i, ev f x), (j, ev f x2), (k, ev f x3)]) hs hb]
theorem Y.build5 {x2 x3 x4 x5 : Operand} {i1 i2 i3 i4 i5 : Nat} {v1 v2 v3 v4 v5 : Value} {cells : Array Value} (h0 : ev f x = v1) (h1 : ev f x2 = v2) (h2 : ev f x3 = v3) (h3 : ev f x4 = v4) (h4 : ev f x5 = v5) (hs : sizedO P t = true)
    (hb : buildO P t [(i1, v1), (i2, v2), (i3, v3), (i4, v4), (i5, v5)] = some cells) :
    Y P C f ⟨d, .build t #[(i1, x), (i2, x2), (i3, x3), (i4, x4), (i5, x5)], ty, pos, af, g⟩ (.agg cells) := fun w _ => by
  subst h0 h1 h2 h3 h4
  simp [execOp, run_build (parts := #[(i1, ev f x), (i2, ev f x2), (i3, ev f x3), (i4, ev f x4), (i5, ev f x5)]) hs hb]
def intK (P : Program) (t : TypeId) : Option IntKind := match P.underlying t with | some (.int k) => some k | _ => none
theorem Y.convInt {k k' : IntKind} {m : Int} (hs : (P.underlying t).isSome = true) (ht : intK P t' = some k') (hx : ev f x = .int k m) : Y P C f ⟨d, .convert t t' x, ty, pos, af, g⟩ (.int k' (k'.wrap m)) := fun w _ => by
  unfold intK at ht
  obtain ⟨u, hu⟩ := Option.isSome_iff_exists.1 hs
  split at ht
  · rename_i k2 hu2
    injection ht with ht
    subst ht
    cases u <;> simp [execOp, hx, convert, run_underlying hu, run_underlying hu2, Conv.intToInt]
  · cases ht
end
end Go.Proofs.Ytampijkiidjcmaa
