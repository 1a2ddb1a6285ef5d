/- Lemmas of the proof of DataOf, part 4. No condition. -/
import Derived.Test.YtpbobilkejblgaaZDataOf3
namespace Go.Proofs.Ytpbobilkejblgaa
section
open Go.RowKit
set_option linter.unusedVariables false
set_option linter.unusedSimpArgs false
set_option maxHeartbeats 1000000 in
theorem eqAgent_v (v u : Value) (x y : DAgent) (w : World) {B B' : Nat} (h : RdT agentRd w B v x) (h' : RdT agentRd w B' u y) (hB : B ≤ w.heap.size) (hB' : B' ≤ w.heap.size) :
    Calls Try.prog 89 #[v, u] w fun e w' => e = .returned (.bool (decide (x = y))) ∧ Below w.heap.size w w' := by
  obtain ⟨cs, rfl, A1, n1, c1, A2, n2, c2, rfl, ⟨h1, r1⟩, ⟨h2, r2⟩⟩ := h
  obtain ⟨cs, rfl, A1', n1', c1', A2', n2', c2', rfl, ⟨h1', r1'⟩, ⟨h2', r2'⟩⟩ := h'
  have hb : ∀ o1 o2, Below w.heap.size w ((w.alloc o1).alloc o2) := fun o1 o2 => ((Below.refl _ _).alloc (Nat.le_refl _) _).alloc (by simp) _
  by_cases e0 : x.kind = y.kind
  · have f0 : (x.kind != y.kind) = false := by simp [e0]
    by_cases e1 : x.level = y.level
    · have f1 : (x.level != y.level) = false := by simp [e1]
      by_cases e2 : x.value = y.value
      · have f2 : (x.value != y.value) = false := by simp [e2]
        by_cases e3 : x.data = y.data
        · have f3 : eqL x.data y.data = true := decide_eq_true e3
          by_cases e4 : x.ports = y.ports
          · have f4 : eqL x.ports y.ports = true := decide_eq_true e4
            have He : Hid (decide (x = y) = true) := decide_eq_true (by cases x; cases y; simp_all)
            clear e0 e1 e2 e3 e4
            go_enter Try.func89, Try.ntmps89
            go_wp2_with fail
            refine (eqInt64S_v _ _ x.data y.data _ (B := B) (B' := B') ⟨A1, n1, c1, rfl, h1.below intRd_ok ((hb _ _).mono hB), r1⟩ ⟨A1', n1', c1', rfl, h1'.below intRd_ok ((hb _ _).mono hB'), r1'⟩ (Nat.le_trans hB (hb _ _).size) (Nat.le_trans hB' (hb _ _).size)).mono ?_
            rintro e w1 ⟨rfl, q1⟩
            have T := (hb _ _).trans (q1.mono (hb _ _).size)
            have B1 := blk2_0.below q1 (by simp <;> omega)
            have B2 := blk2_1.below q1 (by simp <;> omega)
            have z1 : w.heap.size + 1 + 1 ≤ w1.heap.size := by have := q1.size; simpa using this
            clear q1
            have g1 := B1.cell
            have g2 := B2.cell
            go_wp2_with fail
            clear g1 g2
            refine (eqPortS_v _ _ x.ports y.ports _ (B := B) (B' := B') ⟨A2, n2, c2, rfl, h2.below portRd_ok ((T).mono hB), r2⟩ ⟨A2', n2', c2', rfl, h2'.below portRd_ok ((T).mono hB'), r2'⟩ (Nat.le_trans hB (T).size) (Nat.le_trans hB' (T).size)).mono ?_
            rintro e w2 ⟨rfl, q2⟩
            have T := T.trans (q2.mono T.size)
            have B1 := B1.below q2 (by omega)
            have B2 := B2.below q2 (by omega)
            have z2 := Nat.le_trans z1 q2.size
            clear q2
            go_wp2_with fail
            go_ret
            exact ⟨by rw [He.out]; rfl, T⟩
          · have f4 : eqL x.ports y.ports = false := decide_eq_false e4
            have He : Hid (decide (x = y) = false) := decide_eq_false (by intro exy; exact e4 (by rw [exy]))
            clear e0 e1 e2 e3 e4
            go_enter Try.func89, Try.ntmps89
            go_wp2_with fail
            refine (eqInt64S_v _ _ x.data y.data _ (B := B) (B' := B') ⟨A1, n1, c1, rfl, h1.below intRd_ok ((hb _ _).mono hB), r1⟩ ⟨A1', n1', c1', rfl, h1'.below intRd_ok ((hb _ _).mono hB'), r1'⟩ (Nat.le_trans hB (hb _ _).size) (Nat.le_trans hB' (hb _ _).size)).mono ?_
            rintro e w1 ⟨rfl, q1⟩
            have T := (hb _ _).trans (q1.mono (hb _ _).size)
            have B1 := blk2_0.below q1 (by simp <;> omega)
            have B2 := blk2_1.below q1 (by simp <;> omega)
            have z1 : w.heap.size + 1 + 1 ≤ w1.heap.size := by have := q1.size; simpa using this
            clear q1
            have g1 := B1.cell
            have g2 := B2.cell
            go_wp2_with fail
            clear g1 g2
            refine (eqPortS_v _ _ x.ports y.ports _ (B := B) (B' := B') ⟨A2, n2, c2, rfl, h2.below portRd_ok ((T).mono hB), r2⟩ ⟨A2', n2', c2', rfl, h2'.below portRd_ok ((T).mono hB'), r2'⟩ (Nat.le_trans hB (T).size) (Nat.le_trans hB' (T).size)).mono ?_
            rintro e w2 ⟨rfl, q2⟩
            have T := T.trans (q2.mono T.size)
            have B1 := B1.below q2 (by omega)
            have B2 := B2.below q2 (by omega)
            have z2 := Nat.le_trans z1 q2.size
            clear q2
            go_wp2_with fail
            go_ret
            exact ⟨by rw [He.out]; rfl, T⟩
        · have f3 : eqL x.data y.data = false := decide_eq_false e3
          have He : Hid (decide (x = y) = false) := decide_eq_false (by intro exy; exact e3 (by rw [exy]))
          clear e0 e1 e2 e3
          go_enter Try.func89, Try.ntmps89
          go_wp2_with fail
          refine (eqInt64S_v _ _ x.data y.data _ (B := B) (B' := B') ⟨A1, n1, c1, rfl, h1.below intRd_ok ((hb _ _).mono hB), r1⟩ ⟨A1', n1', c1', rfl, h1'.below intRd_ok ((hb _ _).mono hB'), r1'⟩ (Nat.le_trans hB (hb _ _).size) (Nat.le_trans hB' (hb _ _).size)).mono ?_
          rintro e w1 ⟨rfl, q1⟩
          have T := (hb _ _).trans (q1.mono (hb _ _).size)
          have B1 := blk2_0.below q1 (by simp <;> omega)
          have B2 := blk2_1.below q1 (by simp <;> omega)
          have z1 : w.heap.size + 1 + 1 ≤ w1.heap.size := by have := q1.size; simpa using this
          clear q1
          go_wp2_with fail
          go_ret
          exact ⟨by rw [He.out]; rfl, T⟩
      · have f2 : (x.value != y.value) = true := by simp [e2]
        have He : Hid (decide (x = y) = false) := decide_eq_false (by intro exy; exact e2 (by rw [exy]))
        clear e0 e1 e2
        go_enter Try.func89, Try.ntmps89
        go_wp2_with fail
        go_ret
        exact ⟨by rw [He.out]; rfl, hb _ _⟩
    · have f1 : (x.level != y.level) = true := by simp [e1]
      have He : Hid (decide (x = y) = false) := decide_eq_false (by intro exy; exact e1 (by rw [exy]))
      clear e0 e1
      go_enter Try.func89, Try.ntmps89
      go_wp2_with fail
      go_ret
      exact ⟨by rw [He.out]; rfl, hb _ _⟩
  · have f0 : (x.kind != y.kind) = true := by simp [e0]
    have He : Hid (decide (x = y) = false) := decide_eq_false (by intro exy; exact e0 (by rw [exy]))
    clear e0
    go_enter Try.func89, Try.ntmps89
    go_wp2_with fail
    go_ret
    exact ⟨by rw [He.out]; rfl, hb _ _⟩
set_option maxHeartbeats 1000000 in
theorem eqAgentS_v (v u : Value) (xs ys : List DAgent) (w : World) {B B' : Nat} (h : RdS agentRd 5 w B v xs) (h' : RdS agentRd 5 w B' u ys) (hB : B ≤ w.heap.size) (hB' : B' ≤ w.heap.size) :
    Calls Try.prog 40 #[v, u] w fun e w' => e = .returned (.bool (eqL xs ys)) ∧ Below w.heap.size w w' := by
  obtain ⟨A, n, c, rfl, hx, hnc, hcm⟩ := h
  obtain ⟨C, m, d, rfl, hy, hmd, hdm⟩ := h'
  unfold maxLen at hcm hdm
  have lx := Lib.hid hx.len
  have ly := Lib.hid hy.len
  have hr := Below.refl w.heap.size w
  by_cases hnm : n = m
  · subst hnm
    go_enter Try.func40, Try.ntmps40
    go_wp2
    go_loopw [5] (fun i wr => ∃ k : Nat, k ≤ n ∧ i = .int .i64 k ∧ Hid (xs.take k = ys.take k) ∧ Below w.heap.size w wr) (fun i _ => n - (intOf i).toNat)
    case atStart => exact ⟨0, by omega, rfl, rfl, hr⟩
    case round =>
      obtain ⟨k, hk, rfl, ht, hq⟩ := hrel
      by_cases hlt : k < n
      · have hx' := hx.below agentRd_ok (hq.mono hB)
        have hy' := hy.below agentRd_ok (hq.mono hB')
        obtain ⟨b, off, x, A1, n1, c1, A2, n2, c2, rfl, hb, hxk, hc0, hc1, hc2, hc3, hc4, ⟨h1, r1⟩, ⟨h2, r2⟩⟩ := hx'.agent hlt
        obtain ⟨b', off', y, A1', n1', c1', A2', n2', c2', rfl, hb', hyk, hc0', hc1', hc2', hc3', hc4', ⟨h1', r1'⟩, ⟨h2', r2'⟩⟩ := hy'.agent hlt
        have Hxk := Lib.hid hxk
        have Hyk := Lib.hid hyk
        clear hxk hyk hx' hy'
        have hzB : B ≤ wr.drew.heap.size := Nat.le_trans hB hq.size
        have hzB' : B' ≤ wr.drew.heap.size := Nat.le_trans hB' hq.size
        by_cases hxy : x = y
        · have hf : decide (x = y) = true := decide_eq_true hxy
          have Hxy := Lib.hid hxy
          clear hxy
          go_wp2_with fail
          go_region_with (go_at_call 89; refine (eqAgent_v _ _ x y _ (B := B) (B' := B') ⟨_, rfl, A1, n1, c1, A2, n2, c2, rfl, ⟨h1.drew intRd_ok, r1⟩, ⟨h2.drew portRd_ok, r2⟩⟩ ⟨_, rfl, A1', n1', c1', A2', n2', c2', rfl, ⟨h1'.drew intRd_ok, r1'⟩, ⟨h2'.drew portRd_ok, r2'⟩⟩ hzB hzB').mono ?_; rintro e w1 ⟨rfl, hq1⟩)
          all_goals
            go_wp2_with fail
            go_roundw
            case rel => exact ⟨k + 1, by omega, by go_num, eqL_step Hxk.out Hyk.out ht.out Hxy.out, hq.drew.trans (hq1.mono hq.size)⟩
            case measure => simp [intOf]; omega
        · have hf : decide (x = y) = false := decide_eq_false hxy
          have Hno := Lib.hid (eqL_no Hxk.out Hyk.out hxy)
          clear hxy
          go_wp2_with fail
          go_region_with (go_at_call 89; refine (eqAgent_v _ _ x y _ (B := B) (B' := B') ⟨_, rfl, A1, n1, c1, A2, n2, c2, rfl, ⟨h1.drew intRd_ok, r1⟩, ⟨h2.drew portRd_ok, r2⟩⟩ ⟨_, rfl, A1', n1', c1', A2', n2', c2', rfl, ⟨h1'.drew intRd_ok, r1'⟩, ⟨h2'.drew portRd_ok, r2'⟩⟩ hzB hzB').mono ?_; rintro e w1 ⟨rfl, hq1⟩)
          all_goals
            go_wp2_with fail
            go_ret
            exact ⟨by rw [Hno.out]; rfl, hq.drew.trans (hq1.mono hq.size)⟩
      · have Hyes := Lib.hid (eqL_yes (k := k) ht.out (by have := lx.out; omega) (by have := ly.out; omega))
        go_wp2
        go_ret
        exact ⟨by rw [Hyes.out]; rfl, hq⟩
  · have Hno := Lib.hid (eqL_len (xs := xs) (ys := ys) (by have := lx.out; have := ly.out; omega))
    have hf : ((n : Int) != (m : Int)) = true := by simp; omega
    go_enter Try.func40, Try.ntmps40
    go_wp2
    go_ret
    exact ⟨by rw [Hno.out]; rfl, hr⟩
set_option maxHeartbeats 1000000 in
theorem eqNet_v (v u : Value) (x y : DNet) (w : World) {B B' : Nat} (h : RdT netRd w B v x) (h' : RdT netRd w B' u y) (hB : B ≤ w.heap.size) (hB' : B' ≤ w.heap.size) :
    Calls Try.prog 13 #[v, u] w fun e w' => e = .returned (.bool (decide (x = y))) ∧ Below w.heap.size w w' := by
  obtain ⟨cs, rfl, A1, n1, c1, rfl, ⟨h1, r1⟩⟩ := h
  obtain ⟨cs, rfl, A1', n1', c1', rfl, ⟨h1', r1'⟩⟩ := h'
  have hb : ∀ o1 o2, Below w.heap.size w ((w.alloc o1).alloc o2) := fun o1 o2 => ((Below.refl _ _).alloc (Nat.le_refl _) _).alloc (by simp) _
  by_cases e0 : x.agents = y.agents
  · have f0 : eqL x.agents y.agents = true := decide_eq_true e0
    have He : Hid (decide (x = y) = true) := decide_eq_true (by cases x; cases y; simp_all)
    clear e0
    go_enter Try.func13, Try.ntmps13
    go_wp2_with fail
    refine (eqAgentS_v _ _ x.agents y.agents _ (B := B) (B' := B') ⟨A1, n1, c1, rfl, h1.below agentRd_ok ((hb _ _).mono hB), r1⟩ ⟨A1', n1', c1', rfl, h1'.below agentRd_ok ((hb _ _).mono hB'), r1'⟩ (Nat.le_trans hB (hb _ _).size) (Nat.le_trans hB' (hb _ _).size)).mono ?_
    rintro e w1 ⟨rfl, q1⟩
    have T := (hb _ _).trans (q1.mono (hb _ _).size)
    have B1 := blk2_0.below q1 (by simp <;> omega)
    have B2 := blk2_1.below q1 (by simp <;> omega)
    have z1 : w.heap.size + 1 + 1 ≤ w1.heap.size := by have := q1.size; simpa using this
    clear q1
    go_wp2_with fail
    go_ret
    exact ⟨by rw [He.out]; rfl, T⟩
  · have f0 : eqL x.agents y.agents = false := decide_eq_false e0
    have He : Hid (decide (x = y) = false) := decide_eq_false (by intro exy; exact e0 (by rw [exy]))
    clear e0
    go_enter Try.func13, Try.ntmps13
    go_wp2_with fail
    refine (eqAgentS_v _ _ x.agents y.agents _ (B := B) (B' := B') ⟨A1, n1, c1, rfl, h1.below agentRd_ok ((hb _ _).mono hB), r1⟩ ⟨A1', n1', c1', rfl, h1'.below agentRd_ok ((hb _ _).mono hB'), r1'⟩ (Nat.le_trans hB (hb _ _).size) (Nat.le_trans hB' (hb _ _).size)).mono ?_
    rintro e w1 ⟨rfl, q1⟩
    have T := (hb _ _).trans (q1.mono (hb _ _).size)
    have B1 := blk2_0.below q1 (by simp <;> omega)
    have B2 := blk2_1.below q1 (by simp <;> omega)
    have z1 : w.heap.size + 1 + 1 ≤ w1.heap.size := by have := q1.size; simpa using this
    clear q1
    go_wp2_with fail
    go_ret
    exact ⟨by rw [He.out]; rfl, T⟩
end
section
open Go.RowKit
set_option linter.unusedVariables false
theorem eqI {α ρ : Type} [DecidableEq α] {L : Nat → Int → Option ρ} {xs ys : List α} {no yes : Option ρ} (hl : xs.length = ys.length) (h : ∀ g (k : Nat) (hx : k < xs.length) (hy : k < ys.length), L (g + 1) (k : Int) = if xs[k] = ys[k] then L g ((k : Int) + 1) else no) (he : ∀ g, L (g + 1) (xs.length : Int) = yes) (g : Nat) (hg : xs.length < g) :
    L g 0 = if xs = ys then yes else no := by
  have key := allO (L := L) (n := xs.length) (p := fun k => xs[k]? = ys[k]?) (no := no) (K := yes)
    (fun g k hk hp => by
      have hy : k < ys.length := by omega
      rw [h g k hk hy, if_pos]
      rw [List.getElem?_eq_getElem hk, List.getElem?_eq_getElem hy] at hp
      injection hp)
    (fun g k hk hp => by
      have hy : k < ys.length := by omega
      rw [h g k hk hy, if_neg]
      intro e
      rw [List.getElem?_eq_getElem hk, List.getElem?_eq_getElem hy, e] at hp
      exact hp rfl) he g hg
  rcases key with ⟨h1, h2⟩ | ⟨h1, h2⟩
  · have e : xs = ys := List.ext_getElem? fun k => by
      by_cases hk : k < xs.length
      · exact h1 k hk
      · rw [List.getElem?_eq_none (by omega), List.getElem?_eq_none (by omega)]
    rw [if_pos e, h2]
  · rw [if_neg, h2]
    intro e
    exact h1 fun k _ => by rw [e]
end
section
open Go.RowKit
set_option linter.unusedVariables false
set_option linter.unusedSimpArgs false
theorem bne_nat {n m : Nat} : ((n : Int) != (m : Int)) = !decide (n = m) := by
  by_cases h : n = m
  · subst h; simp
  · simp [h]; omega
theorem ite_dec {p : Prop} [Decidable p] : (if p then some true else some false : Option Bool) = some (decide p) := by
  by_cases h : p <;> simp [h]
theorem decide_len {α : Type} [DecidableEq α] {xs ys : List α} (h : ¬ xs.length = ys.length) : decide (xs = ys) = false := decide_eq_false fun e => h (by rw [e])
end
section
open Go.RowKit
set_option linter.unusedVariables false
set_option linter.unusedSimpArgs false
noncomputable instance : DecidableEq DType := fun a b => Classical.propDecidable (a = b)
noncomputable instance : DecidableEq DTypedNet := fun a b => Classical.propDecidable (a = b)
/-- Names and rows are not longer than Go's largest length. -/
inductive OkTy : DType → Prop
  | mk {x : DType} (h : x.name.size ≤ maxLen) (hl : x.kids.length ≤ maxLen) (hk : ∀ y, y ∈ x.kids → OkTy y) : OkTy x
theorem OkTy.len {x : DType} (h : OkTy x) : x.kids.length ≤ maxLen := by cases h; assumption
theorem OkTy.kids {x : DType} (h : OkTy x) : ∀ y ∈ x.kids, OkTy y := by cases h; assumption
/-- A loop that asks whether two rows are equal, element by element. -/
theorem rowEq {α : Type} [DecidableEq α] {L : Nat → Int → Option Bool} {xs ys : List α} {q : α → α → Option Bool} (hl : xs.length = ys.length) (hq : ∀ x ∈ xs, ∀ y, q x y = some (decide (x = y)))
    (h : ∀ g (k : Nat) (hx : k < xs.length) (hy : k < ys.length), L (g + 1) (k : Int) = (q xs[k] ys[k]).bind fun b => bif b then L g ((k : Int) + 1) else some false) (he : ∀ g, L (g + 1) (xs.length : Int) = some true) : L (xs.length + 1) 0 = some (decide (xs = ys)) := by
  rw [← ite_dec]
  refine eqI hl (fun g k hx hy => ?_) he _ (Nat.lt_succ_self _)
  rw [h g k hx hy, hq _ (List.getElem_mem hx), Option.bind_some]
  by_cases h2 : xs[k] = ys[k]
  · rw [if_pos h2, decide_eq_true h2, cond_true]
  · rw [if_neg h2, decide_eq_false h2, cond_false]
end
section
open Go.RowKit
set_option linter.unusedVariables false
def marksF {α : Type} (f : Nat → α) (s k n : Nat) : List α := (List.range n).map fun i => f (k + s * i)
theorem marksF_len {α : Type} (f : Nat → α) (s k n : Nat) : (marksF f s k n).length = n := by simp [marksF]
theorem marksF_succ {α : Type} (f : Nat → α) (s k n : Nat) : marksF f s k (n + 1) = marksF f s k n ++ [f (k + s * n)] := by simp [marksF, List.range_succ]
def mkPort (k : Nat) : DPort := (⟨(k : Int), (k : Int) + 1⟩ : DPort)
theorem mkPort_cells (k0 k : Nat) : [Value.int .i64 (mkPort (k0 + 2 * k)).agent, Value.int .i64 (mkPort (k0 + 2 * k)).slot] = [.int .i64 ((k0 : Int) + 2 * k), .int .i64 ((k0 : Int) + 2 * k + 1)] := by simp [mkPort]
set_option maxHeartbeats 2000000 in
theorem markPortS_c (A : Option Addr) (n c k0 : Nat) (xs : List DPort) (bs : List Nat) (w : World) (hx : OwAt portOw 2 w A n xs bs) (hnd : bs.Nodup) (hn : n ≤ 4294967296) (hk0 : k0 ≤ 4611686018427387904) :
    Calls Try.prog 90 #[.slice A n c, .int .i64 k0] w fun e w' => e = .returned (.int .i64 ((k0 + 2 * n : Nat) : Int)) ∧ OwAt portOw 2 w' A n (marksF mkPort 2 k0 n) bs ∧ Only bs w w' := by
  have lx := Lib.hid hx.len
  have hmid := Lib.hid hx.mid
  clear hx
  go_enter Try.func90, Try.ntmps90
  go_wp2
  go_loopw [1, 5] (fun kk i wr => ∃ k : Nat, k ≤ n ∧ i = .int .i64 k ∧ kk = .int .i64 ((k0 : Int) + 2 * k) ∧ Only bs w wr ∧ Hid (MidAt portOw 2 wr A (marksF mkPort 2 k0 k) (xs.drop k) bs)) (fun _ i _ => n - (intOf i).toNat)
  case atStart => exact ⟨0, by omega, rfl, by simp, Only.refl _ _, hmid.out⟩
  case round =>
    obtain ⟨k, hk, rfl, rfl, ho, hm⟩ := hrel
    by_cases hlt : k < n
    · obtain ⟨x, hxk⟩ : ∃ x, xs[k]? = some x := ⟨_, List.getElem?_eq_getElem (by have := lx.out; omega)⟩
      have hm := hm.out
      rw [drop_some hxk] at hm
      obtain ⟨b, o, cs, b1, bx, b2, rfl, hbs, hO, hc, h1, h2⟩ := hm.next
      obtain ⟨rfl, rfl⟩ := hO
      rw [marksF_len] at hc h2
      obtain ⟨hc0, hd0⟩ := hc 0 _ rfl
      obtain ⟨hc1, hd1⟩ := hc 1 _ rfl
      rw [Nat.add_zero] at hc0 hd0
      have HN := Lib.hid hbs
      have Hx := Lib.hid hxk
      have H1 := Lib.hid h1
      have H2 := Lib.hid h2
      clear hbs hxk h1 h2 hm hc
      go_wp2
      go_roundw
      case rel =>
        have hnd' := hnd
        rw [HN.out] at hnd'
        have hb : b ∉ b1 ∧ b ∉ b2 := by simpa using (List.nodup_cons.1 hnd').1
        have hlen : (marksF mkPort 2 k0 k).length = k := marksF_len _ _ _ _
        refine ⟨k + 1, by omega, by go_num, by go_num, ?_, ?_⟩
        · exact ((ho.setCell (by rw [HN.out]; simp) _).setCell (by rw [HN.out]; simp) _)
        rw [marksF_succ, HN.out]
        refine MidAt.step (o := o) rfl (ElAt.setRun portOw_ok (vs := [.int .i64 ((k0 : Int) + 2 * k), .int .i64 ((k0 : Int) + 2 * k + 1)]) (p := o + k * 2) H1.out hb.1 (Or.inr (by omega))) (cs := [.int .i64 ((k0 : Int) + 2 * k), .int .i64 ((k0 : Int) + 2 * k + 1)]) ⟨(mkPort_cells k0 k).symm, rfl⟩ ?_ ?_
        · rw [hlen]
          exact setRun_csAt (vs := [.int .i64 ((k0 : Int) + 2 * k), .int .i64 ((k0 : Int) + 2 * k + 1)]) (fun j hj => by
            match j, hj with
            | 0, _ => exact ⟨_, hc0⟩
            | 1, _ => exact ⟨_, hc1⟩
            | j + 2, hj => simp at hj; omega) (fun j hj => by
            match j, hj with
            | 0, _ => exact hd0
            | 1, _ => exact hd1
            | j + 2, hj => simp at hj; omega)
        · rw [hlen]
          exact ElAt.setRun portOw_ok (vs := [.int .i64 ((k0 : Int) + 2 * k), .int .i64 ((k0 : Int) + 2 * k + 1)]) (p := o + k * 2) H2.out hb.2 (Or.inl (by simp))
      case measure => simp [intOf]; omega
    · obtain rfl : n = k := by omega
      have hm := hm.out
      rw [List.drop_of_length_le (by have := lx.out; omega)] at hm
      have Hm := Lib.hid (hm.whole (n := n) (marksF_len _ _ _ _).symm)
      clear hm
      go_wp2
      go_ret
      exact ⟨rfl, Hm.out, ho⟩
end
section
open Go.RowKit
set_option linter.unusedVariables false
theorem Blk.only {w w' : World} {g lo hi : Nat} {t : TypeId} {cs : Array Value} (h : Blk w g t cs) (ho : OnlyIn lo hi w w') (hg : g < lo ∨ hi ≤ g) : Blk w' g t cs := (ho.block g hg).trans h
def cntA (x : DAgent) : Nat := 3 + x.data.length + 2 * x.ports.length
theorem cntL_agents (xs : List DAgent) : cntL cntA xs ≤ 3 * szAgentS xs := by
  unfold szAgentS cntL
  have : ∀ ys : List DAgent, (ys.map cntA).sum ≤ 3 * ys.length + 2 * (ys.map szAgent).sum := by
    intro ys
    induction ys with
    | nil => simp
    | cons y ys ih =>
      have e : szAgent y = y.data.length + y.ports.length := rfl
      simp only [List.map_cons, List.sum_cons, List.length_cons, cntA]
      omega
  have := this xs
  omega
theorem szAgent_mem {xs : List DAgent} {k : Nat} {x : DAgent} (h : xs[k]? = some x) (hs : szAgentS xs ≤ 1048576) : x.data.length ≤ 1048576 ∧ x.ports.length ≤ 1048576 := by
  have h1 : szAgent x ≤ (xs.map szAgent).sum := by
    have hm := List.mem_of_getElem? h
    clear h hs
    induction xs with
    | nil => cases hm
    | cons y ys ih =>
      rcases List.mem_cons.1 hm with rfl | h
      · simp
      · have := ih h; simp; omega
  have e : szAgent x = x.data.length + x.ports.length := rfl
  unfold szAgentS at hs
  omega
theorem set3_block {w : World} {b p j : Nat} {u0 u1 u2 : Value} (h : j ≠ b) : (((w.setCell ⟨b, p, none⟩ u0).setCell ⟨b, p + 1, none⟩ u1).setCell ⟨b, p + 2, none⟩ u2).heap[j]? = w.heap[j]? := by
  rw [Below.heap_setCell _ ⟨b, p + 2, none⟩ _ _ h, Below.heap_setCell _ ⟨b, p + 1, none⟩ _ _ h, Below.heap_setCell _ ⟨b, p, none⟩ _ _ h]
theorem set3_cell {w : World} {b p q : Nat} {u0 u1 u2 : Value} (h : p + 3 ≤ q) : (((w.setCell ⟨b, p, none⟩ u0).setCell ⟨b, p + 1, none⟩ u1).setCell ⟨b, p + 2, none⟩ u2).cell? ⟨b, q, none⟩ = w.cell? ⟨b, q, none⟩ := by
  rw [World.cell?_setCell_other _ _ _ _ (fun e => by injection e with _ e2; omega), World.cell?_setCell_other _ _ _ _ (fun e => by injection e with _ e2; omega), World.cell?_setCell_other _ _ _ _ (fun e => by injection e with _ e2; omega)]
/-- What lies ahead of the loop. -/
def Ahead (wr : World) (A : Option Addr) (k : Nat) (rest : List DAgent) (bs : List Nat) : Prop :=
  rest = [] ∨ ∃ b o b2, A = some ⟨b, o, none⟩ ∧ ElAt agentOw 5 wr b (o + k * 5) rest b2 ∧ b ∈ bs ∧ b ∉ b2 ∧ b2.Nodup ∧ ∀ j ∈ b2, j ∈ bs
set_option maxHeartbeats 4000000 in
theorem markAgentS_c (A : Option Addr) (n c k0 : Nat) (xs : List DAgent) (bs : List Nat) (w : World) (hx : OwAt agentOw 5 w A n xs bs) (hnd : bs.Nodup) (hs : szAgentS xs ≤ 1048576) (hk0 : k0 ≤ 4294967296) :
    Calls Try.prog 41 #[.slice A n c, .int .i64 k0] w fun e w' => e = .returned (.int .i64 ((k0 + cntL cntA xs : Nat) : Int)) ∧ Only bs w w' := by
  have lx := Lib.hid hx.len
  have hn : n ≤ 1048576 := by have := lx.out; unfold szAgentS at hs; omega
  have hcl := cntL_agents xs
  have hst := Lib.hid (show Ahead w A 0 xs bs by
    rcases hx.2 with ⟨e1, e2⟩ | ⟨b, o, b2, e1, e2, h⟩
    · exact .inl e1
    · rw [e2] at hnd ⊢
      exact .inr ⟨b, o, b2, e1, by simpa using h, by simp, (List.nodup_cons.1 hnd).1, (List.nodup_cons.1 hnd).2, fun j hj => by simp [hj]⟩)
  clear hx
  go_enter Try.func41, Try.ntmps41
  go_wp2_with fail
  go_loopw [1, 5] (fun kk i wr => ∃ k : Nat, k ≤ n ∧ i = .int .i64 k ∧ kk = .int .i64 ((k0 : Int) + (cntL cntA (xs.take k) : Nat)) ∧ Only bs w wr ∧ Hid (Ahead wr A k (xs.drop k) bs)) (fun _ i _ => n - (intOf i).toNat)
  case atStart => exact ⟨0, by omega, rfl, by simp [cntL], Only.refl _ _, hst.out⟩
  case round =>
    obtain ⟨k, hk, rfl, rfl, ho, hm⟩ := hrel
    by_cases hlt : k < n
    · obtain ⟨x, hxk⟩ : ∃ x, xs[k]? = some x := ⟨_, List.getElem?_eq_getElem (by have := lx.out; omega)⟩
      have hm := hm.out
      rw [drop_some hxk] at hm
      rcases hm with h0 | ⟨b, o, b2, rfl, hE, hbb, hb2, hn2, hin⟩
      · cases h0
      obtain ⟨cs, bx, b3, hO, hc, rfl, h2⟩ := hE
      obtain ⟨A1, n1, c1, A2, n2, c2, bd, bp, rfl, ⟨hd, rd⟩, ⟨hp, rp⟩, rfl⟩ := hO
      obtain ⟨hc0, hd0⟩ := hc 0 _ rfl
      obtain ⟨hc1, hd1⟩ := hc 1 _ rfl
      obtain ⟨hc2, hd2⟩ := hc 2 _ rfl
      obtain ⟨hc3, hd3⟩ := hc 3 _ rfl
      obtain ⟨hc4, hd4⟩ := hc 4 _ rfl
      rw [Nat.add_zero] at hc0 hd0
      have hsz := szAgent_mem hxk hs
      have hct := cntL_take (cnt := cntA) hxk
      have hcx : cntA x = 3 + x.data.length + 2 * x.ports.length := rfl
      have hcm := cntL_le (cnt := cntA) xs (k + 1)
      have hck := cntL_le (cnt := cntA) xs k
      have nb : b ∉ bd ∧ b ∉ bp ∧ b ∉ b3 := by simpa using hb2
      have hn2' := List.nodup_append.1 hn2
      have hn3 := List.nodup_append.1 hn2'.1
      have ld := Lib.hid hd.len
      have lp := Lib.hid hp.len
      have T0 : ∀ (u0 u1 u2 : Value), Touch b (o + k * 5) 5 (bd ++ bp) wr (((wr.setCell ⟨b, o + k * 5, none⟩ u0).setCell ⟨b, o + k * 5 + 1, none⟩ u1).setCell ⟨b, o + k * 5 + 2, none⟩ u2) := fun u0 u1 u2 =>
        ((Touch.refl.set (by omega) (by omega) _).set (by omega) (by omega) _).set (by omega) (by omega) _
      have HE := Lib.hid h2
      have HD := Lib.hid hd
      have HP := Lib.hid hp
      have HX := Lib.hid hxk
      have HT := Lib.hid T0
      have HI := Lib.hid hin
      have N1 := Lib.hid hn2'
      have N2 := Lib.hid hn3
      have NB := Lib.hid nb
      have HB := Lib.hid hb2
      have HL := Lib.hid hct
      clear h2 hd hp hxk T0 hin hn2' hn3 nb hb2 hc hn2 hct
      go_wp2_with fail
      have T3 := HT.out (.int .i64 ((k0 : Int) + (cntL cntA (xs.take k) : Nat))) (.int .i64 ((k0 : Int) + (cntL cntA (xs.take k) : Nat) + 1)) (.int .i64 ((k0 : Int) + (cntL cntA (xs.take k) : Nat) + 1 + 1))
      rw [show (k0 : Int) + (cntL cntA (xs.take k) : Nat) + 1 + 1 + 1 = ((k0 + cntL cntA (xs.take k) + 3 : Nat) : Int) from by omega]
      have OD : OwAt intOw 1 (((wr.setCell ⟨b, o + k * 5, none⟩ (.int .i64 ((k0 : Int) + (cntL cntA (xs.take k) : Nat)))).setCell ⟨b, o + k * 5 + 1, none⟩ (.int .i64 ((k0 : Int) + (cntL cntA (xs.take k) : Nat) + 1))).setCell ⟨b, o + k * 5 + 2, none⟩ (.int .i64 ((k0 : Int) + (cntL cntA (xs.take k) : Nat) + 1 + 1))) A1 n1 x.data bd :=
        HD.out.keep intOw_ok (fun j hj => set3_block (fun e => NB.out.1 (by rw [← e]; exact hj)))
      refine (markInt64S_c A1 n1 c1 (k0 + cntL cntA (xs.take k) + 3) x.data bd _ OD N2.out.1 (by have := ld.out; omega) (by omega)).mono ?_
      rintro e w4 ⟨rfl, _, o4⟩
      have hc4' : w4.cell? ⟨b, o + k * 5 + 4, none⟩ = some (.slice A2 n2 c2) := ((World.cell?_of_block (a := ⟨b, o + k * 5 + 4, none⟩) (o4.block b NB.out.1)).trans (set3_cell (by omega))).trans hc4
      go_wp2_with fail
      rw [show (k0 : Int) + (cntL cntA (xs.take k) : Nat) + 3 + (n1 : Nat) = ((k0 + cntL cntA (xs.take k) + 3 + n1 : Nat) : Int) from by omega]
      have OP : OwAt portOw 2 w4 A2 n2 x.ports bp := HP.out.keep portOw_ok (fun j hj => (o4.block j (fun hjd => N2.out.2.2 j hjd j hj rfl)).trans (set3_block (fun e => NB.out.2.1 (by rw [← e]; exact hj))))
      refine (markPortS_c A2 n2 c2 _ x.ports bp w4 OP N2.out.2.1 (by have := lp.out; omega) (by have := ld.out; omega)).mono ?_
      rintro e w5 ⟨rfl, _, o5⟩
      go_wp2_with fail
      go_roundw
      case rel =>
        have e1 := ld.out
        have e2 := lp.out
        have e3 := HL.out
        have OO : Only (b :: (bd ++ bp)) wr w5 := (T3.only_.trans (o4.mono (fun j hj => by simp [hj]))).trans (o5.mono (fun j hj => by simp [hj]))
        refine ⟨k + 1, by omega, by go_num, congrArg (Value.int .i64) (by omega), ho.trans (OO.mono (fun j hj => ?_)), .inr ⟨b, o, b3, rfl, ?_, hbb, NB.out.2.2, N1.out.2.1, fun j hj => HI.out j (by simp [hj])⟩⟩
        · rcases List.mem_cons.1 hj with rfl | hj
          · exact hbb
          · exact HI.out j (by simp only [List.mem_append] at hj ⊢; exact .inl hj)
        · rw [show o + (k + 1) * 5 = o + k * 5 + 5 by omega]
          refine ElAt.keepC agentOw_ok (w := wr) (fun q h1 h2 => ?_) (fun j hj => ?_) HE.out
          · have hw3 := T3.cell q (.inr (by omega))
            have hf3 := T3.frozen q
            refine ⟨?_, ?_⟩
            · exact ((World.cell?_of_block (a := ⟨b, q, none⟩) (o5.block b NB.out.2.1)).trans (World.cell?_of_block (a := ⟨b, q, none⟩) (o4.block b NB.out.1))).trans hw3
            · exact ((World.frozen?_of_block (a := ⟨b, q, none⟩) (o5.block b NB.out.2.1)).trans (World.frozen?_of_block (a := ⟨b, q, none⟩) (o4.block b NB.out.1))).trans hf3
          · exact OO.block j (fun hin => by
              rcases List.mem_cons.1 hin with rfl | hin
              · exact NB.out.2.2 hj
              · exact N1.out.2.2 j hin j hj rfl)
      case measure => simp [intOf]; omega
    · obtain rfl : n = k := by omega
      have hlast : xs.take n = xs := List.take_of_length_le (by have := lx.out; omega)
      rw [hlast]
      have HLast := Lib.hid hlast
      clear hlast
      go_wp2_with fail
      go_ret
      exact ⟨retI (by omega), ho⟩
theorem markNet_v (v : Value) (x : DNet) (w : World) (k : Int) (lo hi : Nat) (h : OwT netOw w v x lo hi) (hh : hi ≤ w.heap.size) (hs : szNet x ≤ 1048576) (h0 : 0 ≤ k) (hk : k ≤ 1048576) :
    Calls Try.prog 14 #[v, .int .i64 k] w fun e w' => ∃ m : Nat, e = .returned (.int .i64 (m : Int)) ∧ ∃ wb, Below w.heap.size w wb ∧ wb.heap.size = w'.heap.size ∧ OnlyIn lo hi wb w' := by
  obtain ⟨cs, bs, rfl, ⟨A1, n1, c1, b1, rfl, ⟨h1, r1⟩, rfl⟩, hnd, hb⟩ := h
  obtain ⟨k0, rfl⟩ := Int.eq_ofNat_of_zero_le h0
  have hA : ∀ o1, Below w.heap.size w (w.alloc o1) := fun o1 => (Below.refl _ _).alloc (Nat.le_refl _) _
  have HK := Lib.hid (show ∀ o1, OwAt agentOw 5 (w.alloc o1) A1 n1 x.agents bs from fun o1 => h1.keep agentOw_ok (fun j hj => (hA o1).block j (by have := hb j hj; omega)))
  have HN := Lib.hid hnd
  have HB := Lib.hid hb
  have HS : szAgentS x.agents ≤ 1048576 := hs
  have hcl := cntL_agents x.agents
  clear h1 hb hnd
  go_enter Try.func14, Try.ntmps14
  go_wp2_with fail
  refine (markAgentS_c A1 n1 c1 k0 x.agents bs _ (HK.out _) HN.out HS (by omega)).mono ?_
  rintro e w1 ⟨rfl, o1⟩
  go_wp2_with fail
  go_ret
  exact ⟨_, rfl, _, hA _, o1.size.symm, o1.in_ HB.out⟩
end
section
open Go.RowKit
set_option linter.unusedVariables false
set_option linter.unusedSimpArgs false
set_option maxRecDepth 100000
def m_laws_heldInt64S_A1 (i1 : Int) : Option Int :=
  some i1
def m_laws_heldInt64S_B1 (d0 : List Int) (rec1 : Int → Int → Option Int) (K1 : Int → Option Int) (i3 : Int) (i4 : Int) : Option Int :=
  (bif (decide (i4 < (d0.length : Int))) then ((getI d0 i4).bind fun x7 => (bif (x7 != i3) then some (-1) else ((ck (i3 + 1)).bind fun s17 => (rec1 s17 (i4 + 1))))) else (K1 i3))
def m_laws_heldInt64S_L1 (d0 : List Int) (K1 : Int → Option Int) : Nat → Int → Int → Option Int
  | 0, _, _ => none
  | g + 1, i3, i4 => m_laws_heldInt64S_B1 d0 (m_laws_heldInt64S_L1 d0 K1 g) K1 i3 i4
def m_laws_heldInt64S (d0 : List Int) (d1 : Int) : Option Int :=
  (m_laws_heldInt64S_L1 d0 m_laws_heldInt64S_A1 (d0.length + 1) d1 0)
set_option maxHeartbeats 2000000 in
theorem c_m_laws_heldInt64S (d0 : List Int) (d1 : Int) (r : Int) (hm : m_laws_heldInt64S d0 d1 = some r) (v0 : Value) (w : World) (hv0 : Sl intRd 1 w v0 d0) :
    Calls Try.prog 49 #[v0, .int .i64 d1] w fun e w' => e = .returned (.int .i64 r) ∧ Below w.heap.size w w' := by
  obtain ⟨Aa0, na0, ca0, rfl, ha0, ra0⟩ := hv0
  have ea0 := ha0.len; subst ea0
  have qa0 := len_le ra0
  have T := Below.refl w.heap.size w
  unfold m_laws_heldInt64S at hm
  refine enter 21 Try.func49 rfl rfl rfl ?_
  intro f hf
  have s0 : f 0 = .slice Aa0 d0.length ca0 := hf 0 _ rfl
  have s1 : f 1 = .int .i64 d1 := hf 1 _ rfl
  refine wp_seq ?_
  refine wp_rs rfl ?_
  refine RQ.y rfl (Y.assign (v := .int .i64 0) rfl) ?_
  refine RQ.nil ?_
  refine then_n ?_
  refine wp_seq ?_
  refine wp_seq ?_
  refine wp_rs rfl ?_
  refine RQ.y rfl (Y.assign (v := .int .i64 0) rfl) ?_
  refine RQ.nil ?_
  refine then_n ?_
  refine wp_block ?_
  obtain ⟨K1, hK1, hm⟩ : ∃ K, K = m_laws_heldInt64S_A1 ∧ m_laws_heldInt64S_L1 d0 K (d0.length + 1) d1 0 = some r := ⟨_, rfl, hm⟩
  refine wp_loopX (fun g f w' => ∃ (i3 : Int) (i4 : Int), f 0 = .slice Aa0 d0.length ca0 ∧ f 1 = .int .i64 i3 ∧ f 5 = .int .i64 i4 ∧ 0 ≤ i4 ∧ Below w.heap.size w w' ∧ m_laws_heldInt64S_L1 d0 K1 g i3 i4 = some r) 0 (fun f w' => ∃ (i1 : Int), f 1 = .int .i64 i1 ∧ Below w.heap.size w w' ∧ m_laws_heldInt64S_A1 i1 = some r) (d0.length + 1) ⟨d1, 0, s0, s1, rfl, (by omega), T, hm⟩ ?_ ?_
  · rintro f w2 ⟨i1, s1_1x, T, hm⟩
    unfold m_laws_heldInt64S_A1 at hm
    refine blk_hit (then_n ?_)
    refine wp_seq ?_
    refine wp_rs rfl ?_
    refine RQ.y rfl (Y.move (v := .int .i64 i1) s1_1x) ?_
    refine RQ.y rfl (Y.assign (v := .int .i64 i1) rfl) ?_
    refine RQ.nil ?_
    refine then_n ?_
    refine wp_ret ?_
    obtain rfl := Option.some.inj hm
    exact (ret1 rfl rfl rfl ⟨rfl, T⟩)
  · rintro g f w5 ⟨i3, i4, s0_1, s1_1, s5_1, nn5_1, T, hm⟩
    rcases g with _ | g
    · simp only [m_laws_heldInt64S_L1] at hm; cases hm
    obtain ⟨rec1, hrec1, hm⟩ : ∃ z, z = m_laws_heldInt64S_L1 d0 K1 g ∧ m_laws_heldInt64S_B1 d0 z K1 i3 i4 = some r := ⟨_, rfl, hm⟩
    unfold m_laws_heldInt64S_B1 at hm
    refine wp_seq ?_
    refine wp_seq ?_
    refine wp_rs rfl ?_
    refine RQ.y rfl (Y.move (v := .int .i64 i4) s5_1) ?_
    refine RQ.y rfl (Y.move (v := .slice Aa0 d0.length ca0) s0_1) ?_
    refine RQ.y rfl (Y.len (by kernel_rfl) rfl) ?_
    refine RQ.y rfl (Y.binI (v := .bool (decide (i4 < (d0.length : Int)))) rfl rfl rfl) ?_
    refine RQ.nil ?_
    refine then_n ?_
    rcases bcases (decide (i4 < (d0.length : Int))) with c6 | c6
    · replace hm := cF c6 hm
      have pc6 := of_decide_eq_false c6
      refine cond_f rfl (vb rfl c6) ?_
      refine wp_exit ?_
      exact (then_x (then_x (hit_x ⟨_, rfl, ⟨i3, s1_1, T, (by rw [hK1] at hm; exact hm)⟩⟩)))
    · replace hm := cT c6 hm
      have pc6 := of_decide_eq_true c6
      refine cond_t rfl (vb rfl c6) ?_
      refine wp_skip ?_
      refine then_n ?_
      refine wp_seq ?_
      refine wp_block ?_
      refine wp_seq ?_
      refine wp_seq ?_
      refine wp_rs rfl ?_
      refine RQ.y rfl (Y.move (v := .slice Aa0 d0.length ca0) s0_1) ?_
      refine RQ.y rfl (Y.move (v := .int .i64 i4) s5_1) ?_
      obtain ⟨x7, hx10, hm⟩ := bnd hm
      obtain ⟨k8, hk11, hl12, hx10⟩ := getI_some hx10
      obtain ⟨b14, o15, rfl, hbb14⟩ := ha0.addr (by omega)
      obtain ⟨cs9, hRcs9, hc13⟩ := ha0.el hx10
      have hScs9 := hRcs9
      obtain rfl := hRcs9
      refine RQ.y rfl (Y.indexAddr (m := k8) (sz := 1) rfl rfl hk11 hl12 (by kernel_rfl)) ?_
      refine RQ.y rfl (Y.load (v := .int .i64 x7) rfl (by kernel_rfl) (eqC (cellT T (hc13 0 _ rfl)))) ?_
      refine RQ.y rfl (Y.move (v := .int .i64 i3) s1_1) ?_
      refine RQ.y rfl (Y.binI (v := .bool (x7 != i3)) rfl rfl rfl) ?_
      refine RQ.nil ?_
      refine then_n ?_
      rcases bcases (x7 != i3) with c16 | c16
      · replace hm := cF c16 hm
        refine cond_f rfl (vb rfl c16) ?_
        refine wp_skip ?_
        refine then_n ?_
        refine wp_rs rfl ?_
        refine RQ.y rfl (Y.move (v := .int .i64 i3) s1_1) ?_
        obtain ⟨s17, ks17, hm⟩ := bnd hm
        replace ks17 := ck_some ks17
        refine RQ.y rfl (Y.binI (v := .int .i64 s17) rfl rfl (by rw [binI_add ks17.2, ks17.1])) ?_
        refine RQ.y rfl (Y.assign (v := .int .i64 s17) rfl) ?_
        refine RQ.nil ?_
        refine blk_n (then_n ?_)
        refine wp_rs rfl ?_
        refine RQ.y rfl (Y.move (v := .int .i64 i4) s5_1) ?_
        refine RQ.y rfl (Y.binI rfl rfl (binI_add (m := i4) (by omega))) ?_
        refine RQ.y rfl (Y.assign (v := .int .i64 (i4 + 1)) rfl) ?_
        refine RQ.nil ?_
        exact (then_n ⟨g, _, Nat.lt_succ_self _, rfl, ⟨s17, (i4 + 1), s0_1, rfl, rfl, (by omega), T, (by rw [← hrec1]; exact hm)⟩⟩)
      · replace hm := cT c16 hm
        refine cond_t rfl (vb rfl c16) ?_
        refine wp_seq ?_
        refine wp_rs rfl ?_
        refine RQ.y rfl (Y.assign (v := .int .i64 (-1)) rfl) ?_
        refine RQ.nil ?_
        refine then_n ?_
        refine wp_ret ?_
        obtain rfl := Option.some.inj hm
        exact (then_r (blk_r (then_r (then_r (hit_r (blk_r (then_r (ret1 rfl rfl rfl ⟨rfl, T⟩))))))))
end
section
open Go.RowKit
set_option linter.unusedVariables false
set_option linter.unusedSimpArgs false
theorem p_heldI (k n : Nat) (h : k + n ≤ 4611686018427387904) : m_laws_heldInt64S (marks k n) (k : Int) = some ((k + n : Nat) : Int) := by
  unfold m_laws_heldInt64S
  have hl := marks_len k n
  have key := traj (L := fun g (s : Int × Int) => m_laws_heldInt64S_L1 (marks k n) m_laws_heldInt64S_A1 g s.1 s.2) (st := fun i => (((k + i : Nat) : Int), (i : Int))) (n := n) (r := some ((k + n : Nat) : Int))
    (fun g i hi => by
      have hx := marks_get (k := k) hi
      simp -implicitDefEqProofs only [m_laws_heldInt64S_L1, m_laws_heldInt64S_B1, hl, dlt hi, cond_true, getI_nat hx, Option.bind_some]
      rw [show (((k + i : Nat) : Int) != ((k + i : Nat) : Int)) = false by simp, cond_false, ck_ok (by omega), Option.bind_some]
      simp only [Int.natCast_add, Int.cast_ofNat_Int, Int.add_assoc])
    (fun g => by simp -implicitDefEqProofs only [m_laws_heldInt64S_L1, m_laws_heldInt64S_B1, hl, dge, cond_false, m_laws_heldInt64S_A1]) (n + 1) (Nat.lt_succ_self _)
  rw [hl]
  simpa using key
end
section
open Go.RowKit
set_option linter.unusedVariables false
mutual
def cntC : DCore → Nat
  | ⟨_, _, d, ks⟩ => 2 + d.length + cntCL ks
def cntCL : List DCore → Nat
  | [] => 0
  | x :: xs => cntC x + cntCL xs
end
mutual
def mkC (k : Nat) : DCore → DCore
  | ⟨_, _, d, ks⟩ => ⟨(k : Int), ((k + 1 : Nat) : Int), marks (k + 2) d.length, mkCL (k + 2 + d.length) ks⟩
def mkCL (k : Nat) : List DCore → List DCore
  | [] => []
  | x :: xs => mkC k x :: mkCL (k + cntC x) xs
end
theorem cntCL_eq : ∀ xs : List DCore, cntCL xs = cntL cntC xs
  | [] => by rw [cntCL]; rfl
  | x :: xs => by rw [cntCL, cntCL_eq xs, cntL_cons]
theorem cntC_eq (x : DCore) : cntC x = 2 + x.data.length + cntL cntC x.kids := by
  obtain ⟨a, b, c, d⟩ := x
  rw [cntC, cntCL_eq]
theorem mkCL_eq : ∀ (xs : List DCore) (k : Nat), mkCL k xs = mkL mkC cntC k xs
  | [], k => by rw [mkCL, mkL]
  | x :: xs, k => by rw [mkCL, mkCL_eq xs, mkL]
theorem mkC_eq (k : Nat) (x : DCore) : mkC k x = ⟨(k : Int), ((k + 1 : Nat) : Int), marks (k + 2) x.data.length, mkL mkC cntC (k + 2 + x.data.length) x.kids⟩ := by
  obtain ⟨a, b, c, d⟩ := x
  rw [mkC, mkCL_eq]
theorem cntC_two (x : DCore) : 2 ≤ cntC x := by rw [cntC_eq]; omega
theorem cntCL_len : ∀ xs : List DCore, 2 * xs.length ≤ cntL cntC xs
  | [] => by simp [cntL]
  | x :: xs => by
    have := cntCL_len xs
    have := cntC_two x
    rw [cntL_cons, List.length_cons]; omega
theorem cntC_mem {xs : List DCore} {k : Nat} {x : DCore} (h : xs[k]? = some x) : cntC x ≤ cntL cntC xs := by
  have h1 := cntL_take (cnt := cntC) h
  have h2 := cntL_le (cnt := cntC) xs (k + 1)
  omega
theorem sizeC_lt {xs : List DCore} {k : Nat} {x : DCore} (h : xs[k]? = some x) : SizeOf.sizeOf x.kids < SizeOf.sizeOf xs := by
  have h1 := List.sizeOf_lt_of_mem (List.mem_of_getElem? h)
  have h2 : SizeOf.sizeOf x.kids < SizeOf.sizeOf x := by
    obtain ⟨a, b, c, d⟩ := x
    simp only [DCore.mk.sizeOf_spec]
    omega
  omega
def markCS (k : Nat) (xs : List DCore) : List DCore := mkL mkC cntC k xs
theorem set2_block {w : World} {b p j : Nat} {u0 u1 : Value} (h : j ≠ b) : ((w.setCell ⟨b, p, none⟩ u0).setCell ⟨b, p + 1, none⟩ u1).heap[j]? = w.heap[j]? := by
  rw [Below.heap_setCell _ ⟨b, p + 1, none⟩ _ _ h, Below.heap_setCell _ ⟨b, p, none⟩ _ _ h]
theorem set2_cell {w : World} {b p q : Nat} {u0 u1 : Value} (h : p + 2 ≤ q) : ((w.setCell ⟨b, p, none⟩ u0).setCell ⟨b, p + 1, none⟩ u1).cell? ⟨b, q, none⟩ = w.cell? ⟨b, q, none⟩ := by
  rw [World.cell?_setCell_other _ _ _ _ (fun e => by injection e with _ e2; omega), World.cell?_setCell_other _ _ _ _ (fun e => by injection e with _ e2; omega)]
set_option maxHeartbeats 4000000 in
theorem markCoreS_q : ∀ (N : Nat) (A : Option Addr) (n c k0 : Nat) (xs : List DCore) (bs : List Nat) (w : World) (hN : SizeOf.sizeOf xs ≤ N) (hx : OwAt coreOw 4 w A n xs bs) (hnd : bs.Nodup) (hs : cntL cntC xs ≤ 1048576) (hk0 : k0 + cntL cntC xs ≤ 4294967296),
    Calls Try.prog 48 #[.slice A n c, .int .i64 k0] w fun e w' => e = .returned (.int .i64 ((k0 + cntL cntC xs : Nat) : Int)) ∧ OwAt coreOw 4 w' A n (markCS k0 xs) bs ∧ Only bs w w' := by
  intro N
  induction N with
  | zero =>
    intro A n c k0 xs bs w hN
    exact absurd hN (by cases xs <;> simp <;> omega)
  | succ N ihN =>
  intro A n c k0 xs bs w hN hx hnd hs hk0
  have IH := Lib.hid ihN
  clear ihN
  have lx := Lib.hid hx.len
  have hcl := cntCL_len xs
  have hn : n ≤ 1048576 := by have := lx.out; omega
  have hmid := Lib.hid hx.mid
  clear hx
  go_enter Try.func48, Try.ntmps48
  go_wp2_with fail
  go_loopw [1, 5] (fun kk i wr => ∃ k : Nat, k ≤ n ∧ i = .int .i64 k ∧ kk = .int .i64 ((k0 : Int) + (cntL cntC (xs.take k) : Nat)) ∧ Only bs w wr ∧ Hid (MidAt coreOw 4 wr A (markCS k0 (xs.take k)) (xs.drop k) bs)) (fun _ i _ => n - (intOf i).toNat)
  case atStart => exact ⟨0, by omega, rfl, by simp [cntL], Only.refl _ _, hmid.out⟩
  case round =>
    obtain ⟨k, hk, rfl, rfl, ho, hm⟩ := hrel
    by_cases hlt : k < n
    · obtain ⟨x, hxk⟩ : ∃ x, xs[k]? = some x := ⟨_, List.getElem?_eq_getElem (by have := lx.out; omega)⟩
      have hm := hm.out
      rw [drop_some hxk] at hm
      obtain ⟨b, o, cs, b1, bx, b3, rfl, hbs, hO, hc, h1, h2⟩ := hm.next
      have hlen : (markCS k0 (xs.take k)).length = k := by unfold markCS; rw [mkL_len, List.length_take]; have := lx.out; omega
      rw [hlen] at hc h2
      obtain ⟨A1, n1, c1, A2, n2, c2, bd, bp, rfl, ⟨hd, rd⟩, ⟨hp, rp⟩, rfl⟩ := coreOw_out hO
      obtain ⟨hc0, hd0⟩ := hc 0 _ rfl
      obtain ⟨hc1, hd1⟩ := hc 1 _ rfl
      obtain ⟨hc2, hd2⟩ := hc 2 _ rfl
      obtain ⟨hc3, hd3⟩ := hc 3 _ rfl
      rw [Nat.add_zero] at hc0 hd0
      have hsm := cntC_mem hxk
      have hsz := sizeC_lt hxk
      have hct := cntL_take (cnt := cntC) hxk
      have hcx : cntC x = 2 + x.data.length + cntL cntC x.kids := cntC_eq x
      have hcm := cntL_le (cnt := cntC) xs (k + 1)
      have hck := cntL_le (cnt := cntC) xs k
      have hnd' := hnd
      rw [hbs] at hnd'
      have nb : b ∉ b1 ∧ (b ∉ bd ∧ b ∉ bp) ∧ b ∉ b3 := by have := (List.nodup_cons.1 hnd').1; simp only [List.mem_append, not_or] at this; exact this
      have hn1 := List.nodup_append.1 (List.nodup_cons.1 hnd').2
      have hn2' := List.nodup_append.1 hn1.2.1
      have hn3 := List.nodup_append.1 hn2'.1
      have ld := Lib.hid hd.len
      have lp := Lib.hid hp.len
      have T0 : ∀ (u0 u1 : Value), Touch b (o + k * 4) 4 (bd ++ bp) wr ((wr.setCell ⟨b, o + k * 4, none⟩ u0).setCell ⟨b, o + k * 4 + 1, none⟩ u1) := fun u0 u1 =>
        (Touch.refl.set (by omega) (by omega) _).set (by omega) (by omega) _
      have S0 : ∀ (u0 u1 : Value), CsAt ((wr.setCell ⟨b, o + k * 4, none⟩ u0).setCell ⟨b, o + k * 4 + 1, none⟩ u1) b (o + k * 4) [u0, u1] := fun u0 u1 =>
        setRun_csAt (w := wr) (vs := [u0, u1]) (fun j hj => by
          rcases j with _ | _ | j
          · exact ⟨_, hc0⟩
          · exact ⟨_, hc1⟩
          · simp only [List.length_cons, List.length_nil] at hj; omega) (fun j hj => by
          rcases j with _ | _ | j
          · exact hd0
          · exact hd1
          · simp only [List.length_cons, List.length_nil] at hj; omega)
      have HE := Lib.hid h2
      have HF := Lib.hid h1
      have HD := Lib.hid hd
      have HP := Lib.hid hp
      have HX := Lib.hid hxk
      have HT := Lib.hid T0
      have HS := Lib.hid S0
      have HI := Lib.hid hbs
      have N0 := Lib.hid hn1
      have N1 := Lib.hid hn2'
      have N2 := Lib.hid hn3
      have NB := Lib.hid nb
      have HL := Lib.hid hct
      have HLN := Lib.hid hlen
      have HSZ := Lib.hid hsz
      clear h2 h1 hd hp hxk T0 S0 hbs hn1 hn2' hn3 nb hc hct hlen hnd' hm hO hsz
      go_wp2_with fail
      have T3 := HT.out (.int .i64 ((k0 : Int) + (cntL cntC (xs.take k) : Nat))) (.int .i64 ((k0 : Int) + (cntL cntC (xs.take k) : Nat) + 1))
      have S3 := HS.out (.int .i64 ((k0 : Int) + (cntL cntC (xs.take k) : Nat))) (.int .i64 ((k0 : Int) + (cntL cntC (xs.take k) : Nat) + 1))
      rw [show (k0 : Int) + (cntL cntC (xs.take k) : Nat) + 1 + 1 = ((k0 + cntL cntC (xs.take k) + 2 : Nat) : Int) from by omega]
      have OD : OwAt intOw 1 ((wr.setCell ⟨b, o + k * 4, none⟩ (.int .i64 ((k0 : Int) + (cntL cntC (xs.take k) : Nat)))).setCell ⟨b, o + k * 4 + 1, none⟩ (.int .i64 ((k0 : Int) + (cntL cntC (xs.take k) : Nat) + 1))) A1 n1 x.data bd :=
        HD.out.keep intOw_ok (fun j hj => set2_block (fun e => NB.out.2.1.1 (by rw [← e]; exact hj)))
      refine (markInt64S_c A1 n1 c1 (k0 + cntL cntC (xs.take k) + 2) x.data bd _ OD N2.out.1 (by have := ld.out; omega) (by omega)).mono ?_
      rintro e w4 ⟨rfl, md, o4⟩
      have hc3' : w4.cell? ⟨b, o + k * 4 + 3, none⟩ = some (.slice A2 n2 c2) := ((World.cell?_of_block (a := ⟨b, o + k * 4 + 3, none⟩) (o4.block b NB.out.2.1.1)).trans (set2_cell (by omega))).trans hc3
      have MD := Lib.hid md
      clear md
      go_wp2_with fail
      rw [show (k0 : Int) + (cntL cntC (xs.take k) : Nat) + 2 + (n1 : Nat) = ((k0 + cntL cntC (xs.take k) + 2 + n1 : Nat) : Int) from by omega]
      have OP : OwAt coreOw 4 w4 A2 n2 x.kids bp := HP.out.keep coreOw_ok (fun j hj => (o4.block j (fun hjd => N2.out.2.2 j hjd j hj rfl)).trans (set2_block (fun e => NB.out.2.1.2 (by rw [← e]; exact hj))))
      refine (IH.out A2 n2 c2 _ x.kids bp w4 (by have := HSZ.out; omega) OP N2.out.2.1 (by omega) (by have := ld.out; have := HL.out; omega)).mono ?_
      rintro e w5 ⟨rfl, mp, o5⟩
      have MP := Lib.hid mp
      clear mp
      go_wp2_with fail
      go_roundw
      case rel =>
        have e1 := ld.out
        have e2 := lp.out
        have e3 := HL.out
        have OO : Only (b :: (bd ++ bp)) wr w5 := (T3.only_.trans (o4.mono (fun j hj => by simp [hj]))).trans (o5.mono (fun j hj => by simp [hj]))
        have hcell : ∀ q, w5.cell? ⟨b, q, none⟩ = ((wr.setCell ⟨b, o + k * 4, none⟩ (.int .i64 ((k0 : Int) + (cntL cntC (xs.take k) : Nat)))).setCell ⟨b, o + k * 4 + 1, none⟩ (.int .i64 ((k0 : Int) + (cntL cntC (xs.take k) : Nat) + 1))).cell? ⟨b, q, none⟩ := fun q =>
          (World.cell?_of_block (a := ⟨b, q, none⟩) (o5.block b NB.out.2.1.2)).trans (World.cell?_of_block (a := ⟨b, q, none⟩) (o4.block b NB.out.2.1.1))
        have hfroz : ∀ q, w5.frozen? ⟨b, q, none⟩ = ((wr.setCell ⟨b, o + k * 4, none⟩ (.int .i64 ((k0 : Int) + (cntL cntC (xs.take k) : Nat)))).setCell ⟨b, o + k * 4 + 1, none⟩ (.int .i64 ((k0 : Int) + (cntL cntC (xs.take k) : Nat) + 1))).frozen? ⟨b, q, none⟩ := fun q =>
          (World.frozen?_of_block (a := ⟨b, q, none⟩) (o5.block b NB.out.2.1.2)).trans (World.frozen?_of_block (a := ⟨b, q, none⟩) (o4.block b NB.out.2.1.1))
        refine ⟨k + 1, by omega, by go_num, congrArg (Value.int .i64) (by omega), ho.trans (OO.mono (fun j hj => ?_)), ?_⟩
        · rw [HI.out]; simp only [List.mem_cons, List.mem_append] at hj ⊢
          rcases hj with hj | hj
          · exact .inl hj
          · exact .inr (.inr (.inl hj))
        · show Hid _
          refine ?_
          unfold markCS
          rw [mkL_take HX.out, HI.out]
          have hl := HLN.out
          unfold markCS at hl
          refine MidAt.step (o := o) (cs := [.int .i64 ((k0 : Int) + (cntL cntC (xs.take k) : Nat)), .int .i64 ((k0 : Int) + (cntL cntC (xs.take k) : Nat) + 1), .slice A1 n1 c1, .slice A2 n2 c2]) rfl ?_ ?_ ?_ ?_
          · refine ElAt.keepC coreOw_ok (w := wr) (fun q h1 h2 => ?_) (fun j hj => ?_) HF.out
            · unfold markCS at h2
              rw [hl] at h2
              exact ⟨(hcell q).trans (T3.cell q (.inl (by omega))), (hfroz q).trans (T3.frozen q)⟩
            · exact OO.block j (fun hin => by
                rcases List.mem_cons.1 hin with rfl | hin
                · exact NB.out.1 hj
                · exact N0.out.2.2 j hj j (by simp only [List.mem_append] at hin ⊢; exact .inl hin) rfl)
          · refine coreOw_in ⟨A1, n1, c1, A2, n2, c2, bd, bp, ?_, ⟨?_, rd⟩, ⟨?_, rp⟩, rfl⟩
            · rw [mkC_eq]
              simp only
              rw [show ((k0 + cntL cntC (xs.take k) : Nat) : Int) = (k0 : Int) + (cntL cntC (xs.take k) : Nat) from by omega, show ((k0 + cntL cntC (xs.take k) + 1 : Nat) : Int) = (k0 : Int) + (cntL cntC (xs.take k) : Nat) + 1 from by omega]
            · have := MD.out.keep intOw_ok (w' := w5) (fun j hj => o5.block j (fun hin => N2.out.2.2 j hj j hin rfl))
              rw [mkC_eq]
              simp only; rw [← e1]; exact this
            · have := MP.out
              rw [mkC_eq]
              simp only; rw [← e1]; exact this
          · rw [hl]
            intro j v hj
            rw [hcell, hfroz]
            rcases j with _ | _ | _ | _ | j
            · exact S3 0 v hj
            · exact S3 1 v hj
            · simp at hj; subst hj
              exact ⟨(set2_cell (by omega)).trans hc2, (T3.frozen _).trans hd2⟩
            · simp at hj; subst hj
              exact ⟨(set2_cell (by omega)).trans hc3, (T3.frozen _).trans hd3⟩
            · simp at hj
          · rw [hl]
            refine ElAt.keepC coreOw_ok (w := wr) (fun q h1 h2 => ?_) (fun j hj => ?_) HE.out
            · exact ⟨(hcell q).trans (T3.cell q (.inr (by omega))), (hfroz q).trans (T3.frozen q)⟩
            · exact OO.block j (fun hin => by
                rcases List.mem_cons.1 hin with rfl | hin
                · exact NB.out.2.2 hj
                · exact N1.out.2.2 j hin j hj rfl)
      case measure => simp [intOf]; omega
    · obtain rfl : n = k := by omega
      have hlast : xs.take n = xs := List.take_of_length_le (by have := lx.out; omega)
      have hdl : xs.drop n = [] := List.drop_eq_nil_of_le (by have := lx.out; omega)
      have hm := hm.out
      rw [hlast, hdl] at hm
      rw [hlast]
      have HM := Lib.hid (hm.whole (by unfold markCS; rw [mkL_len]; first | done | exact lx.out))
      clear hlast hdl hm
      go_wp2_with fail
      go_ret
      exact ⟨retI (by omega), by rw [lx.out]; first | exact HM.out | (have h := HM.out; rw [lx.out] at h; exact h), ho⟩
def markCo (k : Nat) (x : DCore) : DCore := ⟨x.kind, x.value, marks k x.data.length, markCS (k + x.data.length) x.kids⟩
def cntCo (x : DCore) : Nat := x.data.length + cntL cntC x.kids
set_option maxHeartbeats 4000000 in
theorem markCore_r (v : Value) (x : DCore) (w : World) (k : Int) (lo hi : Nat) (m : Nat) (em : m = k.toNat + cntCo x) (h : OwT coreOw w v x lo hi) (hh : hi ≤ w.heap.size) (hs : cntC x ≤ 1048576) (h0 : 0 ≤ k) (hk : k ≤ 1048576) :
    Calls Try.prog 22 #[v, .int .i64 k] w fun e w' => e = .returned (.int .i64 (m : Int)) ∧ ∃ wb, Below w.heap.size w wb ∧ wb.heap.size = w'.heap.size ∧ OnlyIn lo hi wb w' ∧ OwT coreOw w' v (markCo k.toNat x) lo hi := by
  subst em
  obtain ⟨cs, bs, rfl, h, hnd, hb⟩ := h
  obtain ⟨A1, n1, c1, A2, n2, c2, bd, bp, rfl, ⟨hd, rd⟩, ⟨hp, rp⟩, rfl⟩ := coreOw_out h
  clear h
  obtain ⟨k0, rfl⟩ := Int.eq_ofNat_of_zero_le h0
  have hA : ∀ o1, Below w.heap.size w (w.alloc o1) := fun o1 => (Below.refl _ _).alloc (Nat.le_refl _) _
  have hcx := cntC_eq x
  have HD := Lib.hid (show ∀ o1, OwAt intOw 1 (w.alloc o1) A1 n1 x.data bd from fun o1 => hd.keep intOw_ok (fun j hj => (hA o1).block j (by have := hb j (by simp [hj]); omega)))
  have HP := Lib.hid (show ∀ o1, OwAt coreOw 4 (w.alloc o1) A2 n2 x.kids bp from fun o1 => hp.keep coreOw_ok (fun j hj => (hA o1).block j (by have := hb j (by simp [hj]); omega)))
  have N0 := Lib.hid (List.nodup_append.1 hnd)
  have HN := Lib.hid hnd
  have HB := Lib.hid hb
  have ld := Lib.hid hd.len
  have B0 := Lib.hid (show ∀ o1, (w.alloc o1).heap[w.heap.size]? = some o1 from fun o1 => heap_alloc_new w o1)
  clear hb hnd hd hp
  go_enter Try.func22, Try.ntmps22
  go_wp2_with fail
  refine (markInt64S_c A1 n1 c1 k0 x.data bd _ (HD.out _) N0.out.1 (by have := ld.out; omega) (by omega)).mono ?_
  rintro e w1 ⟨rfl, m1, o1⟩
  have hbk : w.heap.size ∉ bd := fun hin => by have := HB.out w.heap.size (by simp [hin]); omega
  have B1 : Blk w1 w.heap.size 42 #[.int .i64 x.kind, .int .i64 x.value, .slice A1 n1 c1, .slice A2 n2 c2] := (o1.block _ hbk).trans (B0.out _)
  have g0 := B1.cell
  have M1 := Lib.hid m1
  have O1 := Lib.hid o1
  clear m1
  go_wp2_with fail
  have e1 := ld.out
  rw [show (k0 : Int) + (n1 : Nat) = ((k0 + n1 : Nat) : Int) from by omega]
  refine (markCoreS_q _ A2 n2 c2 (k0 + n1) x.kids bp w1 (Nat.le_refl _) ((HP.out _).keep coreOw_ok (fun j hj => o1.block j (fun hin => N0.out.2.2 j hin j hj rfl))) N0.out.2.1 (by omega) (by omega)).mono ?_
  rintro e w2 ⟨rfl, m2, o2⟩
  have M2 := Lib.hid m2
  have O2 := Lib.hid o2
  clear m2 o1 o2
  go_wp2_with fail
  go_ret
  have OO : Only (bd ++ bp) _ w2 := (O1.out.mono (fun j hj => by simp [hj])).trans (O2.out.mono (fun j hj => by simp [hj]))
  refine ⟨congrArg (fun z => Ending.returned (Value.int .i64 z)) (by unfold cntCo; simp only [Int.toNat_natCast]; omega), _, hA _, OO.size.symm, OO.in_ HB.out, ⟨_, bd ++ bp, rfl, coreOw_in ⟨A1, n1, c1, A2, n2, c2, bd, bp, rfl, ⟨?_, rd⟩, ⟨?_, rp⟩, rfl⟩, HN.out, HB.out⟩⟩
  · have := M1.out.keep intOw_ok (w' := w2) (fun j hj => O2.out.block j (fun hin => N0.out.2.2 j hj j hin rfl))
    unfold markCo
    simp only [Int.toNat_natCast]
    rw [← e1]; exact this
  · have := M2.out
    unfold markCo
    simp only [Int.toNat_natCast]
    rw [← e1]; exact this
end
section
open Go.RowKit
set_option linter.unusedVariables false
set_option linter.unusedSimpArgs false
section
variable {v1 v2 v : Value} {w w' w2 : World} {b k : Nat} {bs : List Nat}
theorem KeepV.belowLo (K : KeepV v1 v2 w w') (hb : Below w.heap.size w' w2) : KeepV v1 v2 w w2 := ⟨Nat.le_trans K.size hb.size, fun b h1 h2 h3 => (hb.block b h1).trans (K.block b h1 h2 h3)⟩
theorem KeepV.tr (K : KeepV v1 v2 w w') (K2 : KeepV v1 v2 w' w2) : KeepV v1 v2 w w2 := ⟨Nat.le_trans K.size K2.size, fun b h1 h2 h3 => (K2.block b (Nat.lt_of_lt_of_le h1 K.size) h2 h3).trans (K.block b h1 h2 h3)⟩
theorem cellNe (h : k ≠ b) : (Value.slice (some ⟨b, 0, none⟩) 1 1).ownBlock ≠ some k := fun e => h (Option.some.inj e).symm
theorem cellDj (h : v.ownBlock ≠ some b) : Dj v (.slice (some ⟨b, 0, none⟩) 1 1) := fun j h1 h2 => h (h1.trans h2.symm)
theorem Below.weak {n m : Nat} (h : n ≤ m) (hb : Below m w w') : Below n w w' := hb.mono h
end
end
section
open Go.RowKit
set_option linter.unusedVariables false
set_option linter.unusedSimpArgs false
theorem c_l06C {a b : Int} {A : Option Addr} {n c : Nat} {w : World} :
    Calls Try.prog 96 #[.int .i64 a, .int .i64 b, .slice A n c] w fun e w' => e = .returned (.agg #[.int .i64 a, .int .i64 b, .slice none 0 0, .slice A n c]) ∧ Below w.heap.size w w' := by
  have T := Below.refl w.heap.size w
  refine enter 11 Try.func96 rfl rfl rfl ?_
  intro f hf
  have s0 : f 0 = .int .i64 a := hf 0 _ rfl
  have s1 : f 1 = .int .i64 b := hf 1 _ rfl
  have s2 : f 2 = .slice A n c := hf 2 _ rfl
  refine wp_seq ?_
  refine wp_rl rfl ?_
  refine RL.alloc (z := .agg #[.int .i64 0, .int .i64 0, .slice none 0 0, .slice none 0 0]) rfl (by kernel_rfl) (fun w1 B2 hb3 szw1 => ?_)
  replace B2 : Blk w1 w.heap.size 42 #[.int .i64 0, .int .i64 0, .slice none 0 0, .slice none 0 0] := B2
  have GB2 : w.heap.size ≤ w.heap.size := T.size
  have T := Tt T hb3
  refine RL.nil ?_
  refine then_n ?_
  refine wp_seq ?_
  refine wp_rl rfl ?_
  refine RL.y rfl (Y.move (v := .int .i64 a) s0) ?_
  refine RL.y rfl (Y.move (v := .int .i64 b) s1) ?_
  refine RL.y rfl (Y.move (v := .slice A n c) s2) ?_
  refine RL.y rfl (Y.build3 (cells := #[.int .i64 a, .int .i64 b, .slice none 0 0, .slice A n c]) rfl rfl rfl (by kernel_rfl) (by kernel_rfl)) ?_
  refine RL.store (v := .agg #[.int .i64 a, .int .i64 b, .slice none 0 0, .slice A n c]) (cs' := #[.int .i64 a, .int .i64 b, .slice none 0 0, .slice A n c]) rfl rfl rfl B2 (by kernel_rfl) (by rfl) (by rfl) (by rfl) (fun w5 B6 ho7 => ?_)
  have szw5 := ho7.size
  have T := T.trans (ho7.below (by first | (simp; done) | (simp; omega)))
  refine RL.nil ?_
  refine then_n ?_
  refine wp_ret ?_
  exact (retc (cs := [.int .i64 a, .int .i64 b, .slice none 0 0, .slice A n c]) rfl rfl rfl (by kernel_rfl) (blkCells B6) ⟨rfl, T⟩)
end
end Go.Proofs.Ytpbobilkejblgaa
