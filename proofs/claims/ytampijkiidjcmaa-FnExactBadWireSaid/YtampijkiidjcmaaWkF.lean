/- Slices of the call's own in a walk by explicit steps: elements of plain cells. -/
import Derived.Test.YtampijkiidjcmaaWkE
import Derived.Laws.AppendOwnNone
namespace Go.Proofs.Ytampijkiidjcmaa
open Go.RowKit
set_option linter.unusedVariables false
set_option linter.unusedSimpArgs false
def encI (x : Int) : List Value := [.int .i64 x]
def encB (x : Bool) : List Value := [.bool x]
def encS (x : ByteArray) : List Value := [.string x]
def encPort (x : DPort) : List Value := [.int .i64 x.agent, .int .i64 x.slot]
def encPair (x : DPair) : List Value := [.int .i64 x.a, .int .i64 x.b]
def encWire (x : DWire) : List Value := [.int .i64 x.a.agent, .int .i64 x.a.slot, .int .i64 x.b.agent, .int .i64 x.b.slot]
/-- How the elements of a type of plain cells are laid. -/
structure FlatT {α : Type} (R : Rd α) (O : Ow α) (enc : α → List Value) (sz : Nat) : Prop where
  pos : 0 < sz
  len : ∀ x, (enc x).length = sz
  rd : ∀ {w B cs x}, R w B cs x ↔ cs = enc x
  ow : ∀ {w x}, O w (enc x) x []
  one : ∀ x, ∀ v ∈ enc x, v.oneCell' = true
theorem fI : FlatT intRd intOw encI 1 := ⟨by decide, fun _ => rfl, Iff.rfl, ⟨rfl, rfl⟩, fun x v hv => by simp [encI] at hv; subst hv; rfl⟩
theorem fB : FlatT boolRd boolOw encB 1 := ⟨by decide, fun _ => rfl, Iff.rfl, ⟨rfl, rfl⟩, fun x v hv => by simp [encB] at hv; subst hv; rfl⟩
theorem fS : FlatT strRd strOw encS 1 := ⟨by decide, fun _ => rfl, Iff.rfl, ⟨rfl, rfl⟩, fun x v hv => by simp [encS] at hv; subst hv; rfl⟩
theorem fPort : FlatT portRd portOw encPort 2 := ⟨by decide, fun _ => rfl, Iff.rfl, ⟨rfl, rfl⟩, fun x v hv => by simp [encPort] at hv; rcases hv with rfl | rfl <;> rfl⟩
theorem fPair : FlatT pairRd pairOw encPair 2 := ⟨by decide, fun _ => rfl, Iff.rfl, ⟨rfl, rfl⟩, fun x v hv => by simp [encPair] at hv; rcases hv with rfl | rfl <;> rfl⟩
theorem fWire : FlatT wireRd wireOw encWire 4 := ⟨by decide, fun _ => rfl, Iff.rfl, ⟨rfl, rfl⟩, fun x v hv => by simp [encWire] at hv; rcases hv with rfl | rfl | rfl | rfl <;> rfl⟩
section
variable {α : Type} {R : Rd α} {O : Ow α} {enc : α → List Value} {sz : Nat} {w w' : World} {lo lo' : Nat} {v : Value} {xs ys : List α} {e : TypeId}
theorem FlatT.flen (F : FlatT R O enc sz) : ∀ xs : List α, (xs.flatMap enc).length = xs.length * sz
  | [] => by simp
  | x :: xs => by simp [F.len, F.flen xs, Nat.add_mul]; omega
theorem FlatT.fone (F : FlatT R O enc sz) {xs : List α} : ∀ u ∈ xs.flatMap enc, u.oneCell' = true := fun u hu => by
  obtain ⟨x, _, hx⟩ := List.mem_flatMap.1 hu
  exact F.one x u hx
theorem FlatT.fget (F : FlatT R O enc sz) : ∀ {xs : List α} {i j : Nat} {x : α} {u : Value}, xs[i]? = some x → (enc x)[j]? = some u → (xs.flatMap enc)[i * sz + j]? = some u
  | [], i, j, x, u, h, _ => by simp at h
  | y :: ys, 0, j, x, u, h, hu => by
    have : y = x := by simpa using h
    subst this
    have hj := lt_of_some hu
    simp only [Nat.zero_mul, Nat.zero_add, List.flatMap_cons]
    rw [List.getElem?_append_left hj]; exact hu
  | y :: ys, i + 1, j, x, u, h, hu => by
    have h' : ys[i]? = some x := by simpa using h
    have hl : (enc y).length = sz := F.len y
    simp only [List.flatMap_cons]
    rw [List.getElem?_append_right (by rw [hl, Nat.add_mul]; omega), hl, show (i + 1) * sz + j - sz = i * sz + j by rw [Nat.add_mul]; omega]
    exact F.fget h' hu
/-- A slice of the call's own from block lo on, whole (it may be appended to). -/
def OwF (e : TypeId) (enc : α → List Value) (sz : Nat) (w : World) (lo : Nat) (v : Value) (xs : List α) : Prop := w.ownsRow lo e sz v xs.length (xs.flatMap enc)
theorem OwF.below (h : OwF e enc sz w lo v xs) (hb : Below w.heap.size w w') : OwF e enc sz w' lo v xs := by
  refine ⟨h.1, ?_⟩
  rcases h.2 with h2 | ⟨g, cap, cur, hv, hg, hh, r⟩
  · exact .inl h2
  · exact .inr ⟨g, cap, cur, hv, hg, (hb.block g (Array.getElem?_eq_some_iff.1 hh).1).trans hh, r⟩
theorem OwF.mono (h : OwF e enc sz w lo v xs) (hl : lo' ≤ lo) : OwF e enc sz w lo' v xs := by
  refine ⟨h.1, ?_⟩
  rcases h.2 with h2 | ⟨g, cap, cur, hv, hg, r⟩
  · exact .inl h2
  · exact .inr ⟨g, cap, cur, hv, by omega, r⟩
theorem OwF.nil : OwF e enc sz w lo (.slice none 0 0) ([] : List α) := ⟨by simp, .inl ⟨rfl, rfl⟩⟩
theorem OwF.lit {g n : Nat} {cells : Array Value} (B : Blk w g e cells) (hg : lo ≤ g) (hc : cells.toList = xs.flatMap enc) (hn : n = xs.length) (hm : Nat.ble n 9223372036854775807 = true) (hs : cells.size = n * sz) : OwF e enc sz w lo (.slice (some ⟨g, 0, none⟩) n n) xs := by
  subst hn
  exact ⟨by rw [← hc]; simpa using hs, .inr ⟨g, xs.length, cells, rfl, hg, B, Nat.le_refl _, by have := Nat.le_of_ble_eq_true hm; unfold maxLen; omega, hs, by rw [hc, List.take_of_length_le]; rw [← hc]; simp [hs]⟩⟩
theorem OwF.form (h : OwF e enc sz w lo v xs) : ∃ A c, v = .slice A xs.length c := by
  rcases h.2 with ⟨rfl, h0⟩ | ⟨g, cap, cur, hv, _⟩
  · exact ⟨none, 0, by rw [h0]⟩
  · exact ⟨_, _, hv⟩
theorem OwF.bound (h : OwF e enc sz w lo v xs) : xs.length ≤ 9223372036854775807 := by
  rcases h.2 with ⟨_, h0⟩ | ⟨g, cap, cur, hv, hg, hh, h1, h2, _⟩
  · omega
  · unfold maxLen at h2; omega
theorem OwF.own (F : FlatT R O enc sz) (h : OwF e enc sz w lo v xs) : OwS O sz w v xs lo w.heap.size := by
  rcases h.2 with ⟨rfl, h0⟩ | ⟨g, cap, cur, rfl, hg, hh, h1, h2, h3, h4⟩
  · have : xs = [] := List.eq_nil_of_length_eq_zero h0
    subst this
    exact ⟨none, 0, 0, [], rfl, ⟨rfl, .inl ⟨rfl, rfl⟩⟩, List.nodup_nil, fun b hb => by simp at hb, Nat.le_refl _, Nat.zero_le _⟩
  · have hblk : Blk w g e cur := hh
    refine ⟨some ⟨g, 0, none⟩, _, cap, [g], rfl, ⟨rfl, .inr ⟨g, 0, [], rfl, rfl, ?_⟩⟩, by simp, fun b hb => by simp at hb; subst hb; exact ⟨hg, hblk.lt⟩, h1, h2⟩
    have key : ∀ (l : List α) (o : Nat), (∀ j u, (l.flatMap enc)[j]? = some u → cur[o + j]? = some u) → ElAt O sz w g o l [] := by
      intro l
      induction l with
      | nil => intro o _; rfl
      | cons x l ih =>
        intro o hl
        refine ⟨enc x, [], [], F.ow, hblk.csAt (fun j u hj => hl j u ?_), rfl, ih (o + sz) (fun j u hj => ?_)⟩
        · simp only [List.flatMap_cons]
          rw [List.getElem?_append_left (lt_of_some hj)]; exact hj
        · have := hl (sz + j) u (by
            simp only [List.flatMap_cons]
            rw [List.getElem?_append_right (by rw [F.len]; omega), F.len, show sz + j - sz = j by omega]; exact hj)
          rwa [show o + (sz + j) = o + sz + j by omega] at this
    refine key xs 0 (fun j u hj => ?_)
    rw [← h4, List.getElem?_take] at hj
    split at hj
    · simpa using hj
    · cases hj
theorem FlatT.gives (F : FlatT R O enc sz) (hO : ∀ {w cs x bs}, O w cs x bs → cs = enc x) (B : Nat) : Gives O R B := fun w cs x bs h _ => F.rd.2 (hO h)
theorem OwF.rdS (F : FlatT R O enc sz) (h : OwF e enc sz w lo v xs) : RdS R sz w w.heap.size v xs := by
  rcases h.2 with ⟨rfl, h0⟩ | ⟨g, cap, cur, rfl, hg, hh, h1, h2, h3, h4⟩
  · have : xs = [] := List.eq_nil_of_length_eq_zero h0
    subst this
    exact ⟨none, 0, 0, rfl, SlAt.none_, Nat.le_refl _, Nat.zero_le _⟩
  · have hblk : Blk w g e cur := hh
    refine ⟨some ⟨g, 0, none⟩, _, cap, rfl, ⟨rfl, fun _ => ⟨g, 0, rfl, hblk.lt, fun i x hx => ⟨enc x, F.rd.2 rfl, fun j u hj => ?_⟩⟩⟩, h1, h2⟩
    have hk := F.fget hx hj
    rw [← h4, List.getElem?_take] at hk
    split at hk
    · rw [hblk.cell, Nat.zero_add]; simpa using hk
    · cases hk
theorem OwF.arg (F : FlatT R O enc sz) (h : OwF e enc sz w lo v xs) : Sl R sz w v xs := h.rdS F
theorem OwF.lt (h : OwF e enc sz w lo v xs) : ∀ b, v.ownBlock = some b → lo ≤ b ∧ b < w.heap.size := World.ownsRow.lt h
/-- Another slice of the call's own while row 'row' grows. -/
theorem OwF.kept {row : Option Nat} (h : OwF e enc sz w lo v xs) (hg : w.grownBy w' row) (hne : v.ownBlock = none ∨ v.ownBlock ≠ row) : OwF e enc sz w' lo v xs := World.ownsRow.kept h hg hne
theorem OwF.only {b : Nat} (h : OwF e enc sz w lo v xs) (ho : Only [b] w w') (hne : v.ownBlock ≠ some b) : OwF e enc sz w' lo v xs := by
  refine ⟨h.1, ?_⟩
  rcases h.2 with h2 | ⟨g, cap, cur, hv, hg, hh, r⟩
  · exact .inl h2
  · exact .inr ⟨g, cap, cur, hv, hg, (ho.block g (by intro hin; simp at hin; subst hin; exact hne (by rw [hv]; rfl))).trans hh, r⟩
theorem OwF.far {b : Nat} (h : OwF e enc sz w lo v xs) (hb : w.heap.size ≤ b) : v.ownBlock ≠ some b := fun hv => by have := (h.lt b hv).2; omega
theorem SlAt.flat (F : FlatT R O enc sz) {B n b o : Nat} (h : SlAt R sz w B (some ⟨b, o, none⟩) n xs) : ∀ j u, (xs.flatMap enc)[j]? = some u → w.cell? ⟨b, o + j, none⟩ = some u := fun j u hj => by
  have hp := F.pos
  have hlt := lt_of_some hj
  rw [F.flen] at hlt
  have hi : j / sz < xs.length := (Nat.div_lt_iff_lt_mul hp).2 hlt
  have hx : xs[j / sz]? = some xs[j / sz] := List.getElem?_eq_getElem hi
  obtain ⟨cs, hR, hc⟩ := h.el hx
  obtain rfl := F.rd.1 hR
  have hm : j % sz < (enc xs[j / sz]).length := by rw [F.len]; exact Nat.mod_lt _ hp
  have h2 := F.fget hx (List.getElem?_eq_getElem hm)
  have e : j / sz * sz + j % sz = j := Nat.div_add_mod' j sz
  rw [e] at h2
  rw [h2] at hj
  injection hj with hj
  have h3 := hc (j % sz) _ (List.getElem?_eq_getElem hm)
  rw [Nat.add_assoc, e, hj] at h3
  exact h3
end
/-- What is asked of a slice type that is appended to. -/
structure AppT (P : Program) (t e : TypeId) (z : Value) (sz bb : Nat) : Prop where
  und : P.underlying t = some (.slice e)
  info : (P.info? e).map (fun i => (i.zero, i.size, i.bytes)) = some (some z, sz, bb)
  zs : z.cells.size = sz
  bb : bb ≤ 256
section
variable {P : Program} {t e : TypeId} {z : Value} {sz bb : Nat} {w : World} {base : Nat}
theorem append_own2 (A : AppT P t e z sz bb) (hsz : 0 < sz) {v : Value} {k : Nat} {xs : List Value} (hown : w.ownsRow base e sz v k xs) (hb : base ≤ w.heap.size) (ad : Addr) (m c : Nat) (news : List Value) (hl : news.length = m * sz)
    (hnews : ∀ j u, news[j]? = some u → w.cell? (ad.add j) = some u) (h1 : ∀ u ∈ news, u.oneCell' = true) (hk : k + m ≤ 4294967296) (ty : TypeId) :
    ∃ v' w', (Builtin.append_ #[t, t] ty #[v, .slice (some ad) m c]).run P w = .ok v' w' ∧ w'.ownsRow base e sz v' (k + m) (xs ++ news) ∧ w.grownBy w' v.ownBlock ∧ (∀ b, v'.ownBlock = some b → v.ownBlock = some b ∨ w.heap.size ≤ b) := by
  obtain ⟨i0, hi, hz0, hz1, hz2⟩ := info_parts A.info
  have hby : (k + m) * bb ≤ 140737488355328 := Nat.le_trans (Nat.mul_le_mul hk A.bb) (by decide)
  have hsm : k + m ≤ 9223372036854775807 := by omega
  obtain ⟨v', w', hr, h2, h3, _⟩ := run_append_own (P := P) w base t ty e i0 z sz bb A.und hi hz0 hz1 hz2 A.zs hsz v k xs hown ad m c news hl hnews h1 (by unfold maxLen; omega) hby hb
  refine ⟨v', w', hr, h2, h3, ?_⟩
  subst hz1
  subst hz2
  have hxl := hown.1
  have hl' := hl
  rcases hown.2 with ⟨rfl, rfl⟩ | ⟨g, cap, cur, rfl, hbg, hg, hnc, hcm, hcs, htake⟩
  · by_cases hm : m = 0
    · subst hm
      have hn : news = [] := List.eq_nil_of_length_eq_zero (by simpa using hl)
      subst hn
      have hr2 : (Builtin.append_ #[t, t] ty #[.slice none 0 0, .slice (some ad) 0 c]).run P w = .ok (.slice none 0 0) w := by
        simp [Builtin.append_, run_underlying A.und, sizeOf, typeInfo, hi, Builtin.lenOf, Builtin.firstCells, loadCells, loadCellsFrom]
      rw [hr2] at hr
      injection hr with e1 e2
      subst e1
      intro b hbk; simp [Value.ownBlock] at hbk
    · have hr2 := run_append_nil (P := P) w t ty e i0 z A.und hi hz0 ad m c news hl hnews (by omega) (by omega) (by have hb := hby; simp only [Nat.zero_add] at hb; omega)
      rw [hr2] at hr
      injection hr with e1 e2
      subst e1
      intro b hbk
      simp [Value.ownBlock] at hbk
      exact .inr (by omega)
  · by_cases hroom : k + m ≤ cap
    · have hfit : k * i0.size + news.length ≤ cur.size := by rw [hl, hcs, ← Nat.add_mul]; exact Nat.mul_le_mul_right _ hroom
      have hr2 := run_append_room (P := P) w t ty e i0 A.und hi g k cap cur hg ad m c news hl hnews h1 hroom hfit
      rw [hr2] at hr
      injection hr with e1 e2
      subst e1
      intro b hbk
      exact .inl hbk
    · have holds : ∀ j u, xs[j]? = some u → w.cell? ((⟨g, 0, none⟩ : Addr).add j) = some u := hown.cells (g := g) rfl
      have hr2 := run_append_grow (P := P) w t ty e i0 z A.und hi hz0 ⟨g, 0, none⟩ k cap xs hown.1 holds ad m c news hl hnews (by omega) (by omega) (growslice_fits (by omega) hby)
      rw [hr2] at hr
      injection hr with e1 e2
      subst e1
      intro b hbk
      simp [Value.ownBlock] at hbk
      exact .inr (by omega)
theorem append_none (A : AppT P t e z sz bb) {v : Value} {k c : Nat} {xs : List Value} (hown : w.ownsRow base e sz v k xs) (ty : TypeId) : (Builtin.append_ #[t, t] ty #[v, .slice none 0 c]).run P w = .ok v w := by
  obtain ⟨i0, hi, hz0, hz1, hz2⟩ := info_parts A.info
  rcases hown.2 with ⟨rfl, rfl⟩ | ⟨g, cap, cur, rfl, _, _, hnc, _⟩
  · simp [Builtin.append_, run_underlying A.und, sizeOf, typeInfo, hi, Builtin.lenOf, Builtin.firstCells]
  · simp [Builtin.append_, run_underlying A.und, sizeOf, typeInfo, hi, Builtin.lenOf, Builtin.firstCells, hnc, storeCells]
end
section
variable {P : Program} {ops : Array Oper} {f : Nat → Value} {rest : List Oper} {Q : (Nat → Value) → World → Prop} {w : World} {d : Option Tmp} {ty : TypeId} {pos : String} {af : Array Edge} {g : Option (Nat × Bool)} {x y : Operand} {t e : TypeId} {z : Value} {sz bb : Nat}
theorem RL.append {α : Type} {R : Rd α} {O : Ow α} {enc : α → List Value} {v vy : Value} {xs ys : List α} {lo : Nat} (F : FlatT R O enc sz) (A : AppT P t e z sz bb) (hg : wantF f ops ⟨d, .call ⟨.builtin .append, #[x, y], #[t, t]⟩, ty, pos, af, g⟩ = true)
    (hx : ev f x = v) (hy : ev f y = vy) (hv : OwF e enc sz w lo v xs) (hr : Sl R sz w vy ys) (hlo : lo ≤ w.heap.size) (hk : xs.length + ys.length ≤ 4294967296)
    (h : ∀ v' w1, OwF e enc sz w1 lo v' (xs ++ ys) → w.grownBy w1 v.ownBlock → Below lo w w1 → (∀ b, v'.ownBlock = some b → v.ownBlock = some b ∨ w.heap.size ≤ b) → RL P ops Q rest (upo f d v') w1) : RL P ops Q (⟨d, .call ⟨.builtin .append, #[x, y], #[t, t]⟩, ty, pos, af, g⟩ :: rest) f w := by
  have hrun : ∀ v' w1, (Builtin.append_ #[t, t] ty #[v, vy]).run P w = .ok v' w1 → (execOp (ev f) ⟨d, .call ⟨.builtin .append, #[x, y], #[t, t]⟩, ty, pos, af, g⟩).run P w = .ok (.value v') w1 := fun v' w1 h0 => by
    simp [execOp, resolve, invoke, builtin, hx, hy, h0]
  obtain ⟨Ay, n, c, rfl, hs, hnc, hcm⟩ := hr
  obtain rfl := hs.len
  cases Ay with
  | none =>
    have h0 : ys = [] := by
      cases ys with
      | nil => rfl
      | cons y0 ys => obtain ⟨b, o, e0, _⟩ := hs.addr (by simp); cases e0
    subst h0
    refine .inl ⟨hg, ?_⟩
    rw [hrun v w (append_none A hv ty)]
    exact h v w (by simpa using hv) ⟨rfl, rfl, rfl, Nat.le_refl _, fun _ _ _ => rfl⟩ (Below.refl _ _) (fun b hb => .inl hb)
  | some ad =>
    have hcells : ∀ j u, (ys.flatMap enc)[j]? = some u → w.cell? (ad.add j) = some u := fun j u hj => by
      have hlt := lt_of_some hj
      rw [F.flen] at hlt
      have hpos : 0 < ys.length := by
        rcases Nat.eq_zero_or_pos ys.length with h0 | h0
        · rw [h0] at hlt; simp at hlt
        · exact h0
      obtain ⟨b, o, e0, _⟩ := hs.addr hpos
      injection e0 with e0
      subst e0
      rw [Addr.add_eq]
      exact hs.flat F j u hj
    obtain ⟨v', w1, h0, h1, h2, h3⟩ := append_own2 A F.pos hv hlo ad ys.length c (ys.flatMap enc) (F.flen ys) hcells F.fone hk ty
    refine .inl ⟨hg, ?_⟩
    rw [hrun v' w1 h0]
    refine h v' w1 ?_ h2 ?_ h3
    · unfold OwF
      rw [List.length_append, List.flatMap_append]
      exact h1
    · exact (Below.refl lo w).grown h2 hlo (fun b hb => (hv.lt b hb).1)
end
section
variable {α : Type} {R : Rd α} {O : Ow α} {enc : α → List Value} {sz n c lo : Nat} {w w' : World} {v v' vx vy : Value} {xs ys : List α} {e : TypeId} {A : Option Addr}
theorem OwF.sl (F : FlatT R O enc sz) (h : OwF e enc sz w lo (.slice A n c) xs) : SlAt R sz w w.heap.size A n xs ∧ n ≤ c ∧ c ≤ maxLen := by
  obtain ⟨A', n', c', he, h1, h2⟩ := h.rdS F
  injection he with e1 e2 e3
  subst e1 e2 e3
  exact ⟨h1, h2⟩
theorem OwF.cell {b k j : Nat} {x : α} {u : Value} (F : FlatT R O enc sz) (h : OwF e enc sz w lo (.slice (some ⟨b, 0, none⟩) n c) xs) (hx : xs[k]? = some x) (hu : (enc x)[j]? = some u) : w.cell? ⟨b, 0 + k * sz + j, none⟩ = some u := by
  obtain ⟨cs, hR, hc⟩ := (h.sl F).1.el hx
  obtain rfl := F.rd.1 hR
  exact hc j u hu
theorem OwF.addr0 (h : OwF e enc sz w lo (.slice A n c) xs) (hn : 0 < n) : ∃ b, A = some ⟨b, 0, none⟩ := by
  rcases h.2 with ⟨h0, _⟩ | ⟨g, cap, cur, hv, _⟩
  · injection h0 with h1 h2; omega
  · injection hv with h1; exact ⟨g, h1⟩
theorem OwF.ne {b : Nat} (h : OwF e enc sz w lo v xs) (hb : b < lo) : v.ownBlock ≠ some b := fun hv => by have := (h.lt b hv).1; omega
theorem ne_app {b m : Nat} (hn : ∀ b, v'.ownBlock = some b → v.ownBlock = some b ∨ m ≤ b) (h : v.ownBlock ≠ some b) (hb : b < m) : v'.ownBlock ≠ some b := fun hv => by
  rcases hn b hv with h1 | h1
  · exact h h1
  · omega
/-- Two slices of the call's own lie apart. -/
def Dj (v u : Value) : Prop := ∀ b, v.ownBlock = some b → u.ownBlock = some b → False
theorem Dj.symm (h : Dj vx vy) : Dj vy vx := fun b h1 h2 => h b h2 h1
theorem Dj.app {m : Nat} (h : Dj v vx) (hn : ∀ b, v'.ownBlock = some b → v.ownBlock = some b ∨ m ≤ b) (hx : ∀ b, vx.ownBlock = some b → b < m) : Dj v' vx := fun b h1 h2 => by
  rcases hn b h1 with h3 | h3
  · exact h b h3 h2
  · have := hx b h2; omega
theorem Dj.new {m : Nat} (hv : ∀ b, v.ownBlock = some b → m ≤ b) (hx : ∀ b, vx.ownBlock = some b → b < m) : Dj v vx := fun b h1 h2 => by have := hv b h1; have := hx b h2; omega
theorem Dj.nil : Dj (.slice none 0 0) vx := fun b h1 _ => by simp [Value.ownBlock] at h1
theorem OwF.keptD (h : OwF e enc sz w lo v xs) (hg : w.grownBy w' vx.ownBlock) (hd : Dj v vx) : OwF e enc sz w' lo v xs := h.kept hg (by
  cases hv : v.ownBlock with
  | none => exact .inl rfl
  | some b => exact .inr (fun e => hd b hv e.symm))
theorem Blk.kept {b : Nat} {t : TypeId} {cs : Array Value} (h : Blk w b t cs) (hg : w.grownBy w' v.ownBlock) (hn : v.ownBlock ≠ some b) : Blk w' b t cs := (hg.block b h.lt (fun e => hn e.symm)).trans h
theorem litNe {b g n c : Nat} (h : b < g) : (Value.slice (some ⟨g, 0, none⟩) n c).ownBlock ≠ some b := by intro e; simp [Value.ownBlock] at e; omega
theorem litGe {g n c : Nat} : ∀ b, (Value.slice (some ⟨g, 0, none⟩) n c).ownBlock = some b → g ≤ b := by intro b e; simp [Value.ownBlock] at e; omega
theorem nilNe {b : Nat} : (Value.slice none 0 0).ownBlock ≠ some b := by simp [Value.ownBlock]
theorem OwF.hi (h : OwF e enc sz w lo v xs) : ∀ b, v.ownBlock = some b → b < w.heap.size := fun b hb => (h.lt b hb).2
theorem OwF.lo_ (h : OwF e enc sz w lo v xs) : ∀ b, v.ownBlock = some b → lo ≤ b := fun b hb => (h.lt b hb).1
def setI {α : Type} (xs : List α) (i : Int) (x : α) : List α := xs.set i.toNat x
theorem setI_nat {α : Type} (xs : List α) (k : Nat) (x : α) : setI xs (k : Int) x = xs.set k x := rfl
theorem FlatT.fset (F : FlatT R O enc sz) : ∀ {xs : List α} {i : Nat} {x : α}, i < xs.length → (xs.set i x).flatMap enc = (xs.flatMap enc).take (i * sz) ++ enc x ++ (xs.flatMap enc).drop (i * sz + sz)
  | [], i, x, h => by simp at h
  | y :: ys, 0, x, _ => by
    have hl : (enc y).length = sz := F.len y
    simp only [List.set_cons_zero, List.flatMap_cons, Nat.zero_mul, List.take_zero, List.nil_append, Nat.zero_add]
    rw [← hl, List.drop_left]
  | y :: ys, i + 1, x, h => by
    have hl : (enc y).length = sz := F.len y
    have ih := F.fset (xs := ys) (i := i) (x := x) (by simpa using h)
    simp only [List.set_cons_succ, List.flatMap_cons, ih]
    rw [show (i + 1) * sz = sz + i * sz by rw [Nat.add_mul]; omega, show sz + i * sz + sz = sz + (i * sz + sz) by omega]
    have e1 : ∀ k, List.take (sz + k) (enc y ++ ys.flatMap enc) = enc y ++ List.take k (ys.flatMap enc) := fun k => by rw [← hl, List.take_length_add_append]
    have e2 : ∀ k, List.drop (sz + k) (enc y ++ ys.flatMap enc) = List.drop k (ys.flatMap enc) := fun k => by rw [← hl, List.drop_length_add_append]
    rw [e1, e2]
    simp
end
section
variable {P : Program} {ops : Array Oper} {f : Nat → Value} {rest : List Oper} {Q : (Nat → Value) → World → Prop} {w : World} {d : Option Tmp} {ty : TypeId} {pos : String} {af : Array Edge} {g : Option (Nat × Bool)} {x y : Operand} {t e : TypeId} {z : Value} {sz bb : Nat}
theorem splice_take {β : Type} {A E : List β} {p L : Nat} (hp : p + E.length ≤ L) (hL : L ≤ A.length) : (A.take p ++ E ++ A.drop (p + E.length)).take L = (A.take L).take p ++ E ++ (A.take L).drop (p + E.length) := by
  rw [List.take_take, Nat.min_eq_left (by omega), List.take_append, List.take_of_length_le (by simp; omega), List.drop_take]
  congr 2
  simp
  omega
theorem RL.storeF {α : Type} {R : Rd α} {O : Ow α} {enc : α → List Value} {v : Value} {xs : List α} {lo k n c b : Nat} {a : α} (F : FlatT R O enc sz) (hg : wantF f ops ⟨d, .store t x y, ty, pos, af, g⟩ = true) (hx : ev f x = .pointer (some ⟨b, 0 + k * sz, none⟩)) (hy : ev f y = v)
    (hv : OwF e enc sz w lo (.slice (some ⟨b, 0, none⟩) n c) xs) (hk : k < xs.length) (he : v.cells.toList = enc a) (hs : (P.info? t).map (·.size) = some sz)
    (h : ∀ w1, OwF e enc sz w1 lo (.slice (some ⟨b, 0, none⟩) n c) (xs.set k a) → Only [b] w w1 → RL P ops Q rest (upo f d undef) w1) : RL P ops Q (⟨d, .store t x y, ty, pos, af, g⟩ :: rest) f w := by
  refine .inl ⟨hg, ?_⟩
  cases hi : P.info? t with
  | none => rw [hi] at hs; cases hs
  | some inf =>
    rw [hi] at hs
    simp only [Option.map_some, Option.some.injEq] at hs
    obtain ⟨hl, hv2⟩ := hv
    rcases hv2 with ⟨h0, _⟩ | ⟨b', cap, cur, hv, hlo, hh, h1, h2, h3, h4⟩
    · cases h0
    · injection hv with e1 e2 e3
      injection e1 with e1
      injection e1 with e1
      subst e1 e2 e3
      have hlen : v.cells.toList.length = sz := by rw [he, F.len]
      have hkc : k * sz + sz ≤ xs.length * sz := by
        have := Nat.mul_le_mul_right sz (show k + 1 ≤ xs.length from hk)
        rw [Nat.add_mul] at this; omega
      have hcc : xs.length * sz ≤ cur.size := by rw [h3]; exact Nat.mul_le_mul_right _ h1
      have hst := run_storeCells_at (P := P) b (k * sz) e v.cells.toList 0 cur w hh (by rw [hlen]; omega) (fun u hu => F.one a u (by rw [← he]; exact hu))
      have hr : (execOp (ev f) ⟨d, .store t x y, ty, pos, af, g⟩).run P w = .ok .skip (w.setRow b (cur.toList.take (k * sz) ++ v.cells.toList ++ cur.toList.drop (k * sz + v.cells.toList.length)).toArray) := by
        simp only [Nat.add_zero] at hst
        have hsz : v.cells.size = inf.size := by rw [hs, ← hlen]; simp
        simp [execOp, hx, hy, Instr.storeAt, Instr.sureAddr, storeVar, sizeOf, typeInfo, hi, hsz, hst]
      rw [hr]
      refine h _ ⟨?_, .inr ⟨b, c, _, by rw [List.length_set], hlo, setRow_heap w b cur _ e _ hh, by rw [List.length_set]; exact h1, h2, ?_, ?_⟩⟩ (setRow_only _ _ _)
      · rw [F.flen]
      · simp only [List.size_toArray, List.length_append, List.length_take, List.length_drop, Array.length_toList, hlen]
        rw [← h3]; omega
      · rw [F.fset hk, he, F.len, List.length_set, ← h4]
        have := splice_take (A := cur.toList) (E := enc a) (p := k * sz) (L := xs.length * sz) (by rw [F.len]; omega) (by simpa using hcc)
        rw [F.len] at this
        simpa using this
theorem flat_replicate {α : Type} {enc : α → List Value} {z0 : α} (hz : z.cells.toList = enc z0) (hzs : z.cells.size = sz) (hp : 0 < sz) : ∀ n : Nat, (madeCells z.cells (n * sz)).toList = (List.replicate n z0).flatMap enc := by
  intro n
  apply List.ext_getElem?
  intro i
  have hlen : ∀ m : Nat, ((List.replicate m z0).flatMap enc).length = m * sz := fun m => by
    induction m with
    | zero => simp
    | succ m ih => rw [List.replicate_succ, List.flatMap_cons, List.length_append, ih, ← hz, Array.length_toList, hzs, Nat.add_mul]; omega
  have hget : ∀ (m i : Nat), i < m * sz → ((List.replicate m z0).flatMap enc)[i]? = (enc z0)[i % sz]? := fun m => by
    induction m with
    | zero => intro i hi; simp at hi
    | succ m ih =>
      intro i hi
      rw [List.replicate_succ, List.flatMap_cons]
      have hle : (enc z0).length = sz := by rw [← hz, Array.length_toList, hzs]
      by_cases h : i < sz
      · rw [List.getElem?_append_left (by omega), Nat.mod_eq_of_lt h]
      · rw [List.getElem?_append_right (by omega), hle, ih (i - sz) (by rw [Nat.add_mul] at hi; omega)]
        congr 1
        conv => rhs; rw [show i = i - sz + sz by omega, Nat.add_mod_right]
  by_cases hi : i < n * sz
  · rw [hget n i hi, ← hz]
    simp [madeCells, hi, hzs]
    have hm : i % sz < z.cells.size := by rw [hzs]; exact Nat.mod_lt _ hp
    simp [hm]
  · rw [List.getElem?_eq_none (by simp [madeCells]; omega), List.getElem?_eq_none (by rw [hlen]; omega)]
theorem RL.make {α : Type} {enc : α → List Value} {z0 : α} {n : Nat} (A : AppT P t e z sz bb) (hp : 0 < sz) (hz : z.cells.toList = enc z0) (hg : wantF f ops ⟨d, .makeSlice t x y, ty, pos, af, g⟩ = true)
    (hx : ev f x = .int .i64 n) (hy : ev f y = .int .i64 n) (hn : n ≤ 4294967296)
    (h : ∀ w1, OwF e enc sz w1 w.heap.size (.slice (some ⟨w.heap.size, 0, none⟩) n n) (List.replicate n z0) → Below w.heap.size w w1 → w1.heap.size = w.heap.size + 1 → RL P ops Q rest (upo f d (.slice (some ⟨w.heap.size, 0, none⟩) n n)) w1) : RL P ops Q (⟨d, .makeSlice t x y, ty, pos, af, g⟩ :: rest) f w := by
  refine .inl ⟨hg, ?_⟩
  have hb : bb * n ≤ 281474976710656 := Nat.le_trans (Nat.mul_le_mul A.bb hn) (by decide)
  have hr : (execOp (ev f) ⟨d, .makeSlice t x y, ty, pos, af, g⟩).run P w = .ok (.value (.slice (some ⟨w.heap.size, 0, none⟩) n n)) (w.alloc (.cells (madeCells z.cells (n * sz)) e)) := by
    simp [execOp, hx, hy, run_make_sz t e A.und A.info n hb hn w]
  rw [hr]
  have hB := Blk.new w e (madeCells z.cells (n * sz))
  refine h _ ?_ (below_alloc _ _) (World.size_alloc _ _)
  refine ⟨?_, .inr ⟨w.heap.size, n, _, by simp, Nat.le_refl _, hB, by simp, by unfold maxLen; omega, madeCells_size _ _, ?_⟩⟩
  · rw [← flat_replicate hz A.zs hp]; simp [madeCells]
  · rw [← flat_replicate hz A.zs hp, List.take_of_length_le (by simp [madeCells])]
end
end Go.Proofs.Ytampijkiidjcmaa
