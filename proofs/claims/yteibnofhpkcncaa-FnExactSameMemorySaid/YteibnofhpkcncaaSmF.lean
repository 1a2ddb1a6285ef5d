/- Equality of agents and of cells: the program's own. -/
import Derived.Test.YteibnofhpkcncaaSmA
namespace Go.Proofs.Yteibnofhpkcncaa
open Go.RowKit
set_option linter.unusedVariables false
set_option linter.unusedSimpArgs false
set_option maxRecDepth 100000
theorem below_drewN {B : Nat} {w w' : World} (h : Below B w w') (q : Nat) : Below B w (w'.drewN q) := h.trans ⟨rfl, rfl, rfl, Nat.le_refl _, fun _ _ => rfl⟩

set_option maxHeartbeats 4000000 in
theorem sameAgent_v (v u : Value) (x y : DAgent) (w : World) {B B' : Nat} (h : RdT agentRd w B v x) (h' : RdT agentRd w B' u y) (hB : B ≤ w.heap.size) (hB' : B' ≤ w.heap.size) :
    Calls Try.prog 74 #[v, u] w fun e w' => e = .returned (.bool (decide (x = y))) ∧ Below w.heap.size w w' := by
  obtain ⟨cs, rfl, A1, n1, c1, A2, n2, c2, rfl, ⟨h1, r1⟩, ⟨h2, r2⟩⟩ := h
  obtain ⟨cs, rfl, A1', n1', c1', A2', n2', c2', rfl, ⟨h1', r1'⟩, ⟨h2', r2'⟩⟩ := h'
  have hb : ∀ o1 o2, Below w.heap.size w ((w.alloc o1).alloc o2) := fun o1 o2 => ((Below.refl _ _).alloc (Nat.le_refl _) _).alloc (by simp) _
  by_cases e0 : x.kind = y.kind
  · have f0 : (x.kind == y.kind) = true := by simp [e0]
    by_cases e1 : x.level = y.level
    · have f1 : (x.level == y.level) = true := by simp [e1]
      by_cases e2 : x.value = y.value
      · have f2 : (x.value == y.value) = true := by simp [e2]
        by_cases e3 : x.data = y.data
        · have f3 : eqL x.data y.data = true := decide_eq_true e3
          by_cases e4 : x.ports = y.ports
          · have f4 : eqL x.ports y.ports = true := decide_eq_true e4
            have He : Hid (decide (x = y) = true) := decide_eq_true (by cases x; cases y; simp_all)
            clear e0 e1 e2 e3 e4
            go_enter Try.func74, Try.ntmps74
            go_wp2_with fail
            refine (EqualInt_q _ _ x.data y.data _ (B := B) (B' := B') ⟨A1, n1, c1, rfl, h1.below intRd_ok ((hb _ _).mono hB), r1⟩ ⟨A1', n1', c1', rfl, h1'.below intRd_ok ((hb _ _).mono hB'), r1'⟩).mono ?_
            rintro e w1 ⟨rfl, q, rfl⟩
            go_wp2_with fail
            refine (EqualPort_q _ _ x.ports y.ports _ (B := B) (B' := B') ⟨A2, n2, c2, rfl, (h2.below portRd_ok ((hb _ _).mono hB)).drewN portRd_ok _, r2⟩ ⟨A2', n2', c2', rfl, (h2'.below portRd_ok ((hb _ _).mono hB')).drewN portRd_ok _, r2'⟩).mono ?_
            rintro e w1 ⟨rfl, q', rfl⟩
            go_wp2_with fail
            go_ret
            exact ⟨by rw [He.out]; rfl, below_drewN (hb _ _) _⟩
          · have f4 : eqL x.ports y.ports = false := decide_eq_false e4
            have He : Hid (decide (x = y) = false) := decide_eq_false (by intro exy; exact e4 (by rw [exy]))
            clear e0 e1 e2 e3 e4
            go_enter Try.func74, Try.ntmps74
            go_wp2_with fail
            refine (EqualInt_q _ _ x.data y.data _ (B := B) (B' := B') ⟨A1, n1, c1, rfl, h1.below intRd_ok ((hb _ _).mono hB), r1⟩ ⟨A1', n1', c1', rfl, h1'.below intRd_ok ((hb _ _).mono hB'), r1'⟩).mono ?_
            rintro e w1 ⟨rfl, q, rfl⟩
            go_wp2_with fail
            refine (EqualPort_q _ _ x.ports y.ports _ (B := B) (B' := B') ⟨A2, n2, c2, rfl, (h2.below portRd_ok ((hb _ _).mono hB)).drewN portRd_ok _, r2⟩ ⟨A2', n2', c2', rfl, (h2'.below portRd_ok ((hb _ _).mono hB')).drewN portRd_ok _, r2'⟩).mono ?_
            rintro e w1 ⟨rfl, q', rfl⟩
            go_wp2_with fail
            go_ret
            exact ⟨by rw [He.out]; rfl, below_drewN (hb _ _) _⟩
        · have f3 : eqL x.data y.data = false := decide_eq_false e3
          have He : Hid (decide (x = y) = false) := decide_eq_false (by intro exy; exact e3 (by rw [exy]))
          clear e0 e1 e2 e3
          go_enter Try.func74, Try.ntmps74
          go_wp2_with fail
          refine (EqualInt_q _ _ x.data y.data _ (B := B) (B' := B') ⟨A1, n1, c1, rfl, h1.below intRd_ok ((hb _ _).mono hB), r1⟩ ⟨A1', n1', c1', rfl, h1'.below intRd_ok ((hb _ _).mono hB'), r1'⟩).mono ?_
          rintro e w1 ⟨rfl, q, rfl⟩
          go_wp2_with fail
          go_ret
          exact ⟨by rw [He.out]; rfl, below_drewN (hb _ _) _⟩
      · have f2 : (x.value == y.value) = false := by simp [e2]
        have He : Hid (decide (x = y) = false) := decide_eq_false (by intro exy; exact e2 (by rw [exy]))
        clear e0 e1 e2
        go_enter Try.func74, Try.ntmps74
        go_wp2_with fail
        go_ret
        exact ⟨by rw [He.out]; rfl, (hb _ _)⟩
    · have f1 : (x.level == y.level) = false := by simp [e1]
      have He : Hid (decide (x = y) = false) := decide_eq_false (by intro exy; exact e1 (by rw [exy]))
      clear e0 e1
      go_enter Try.func74, Try.ntmps74
      go_wp2_with fail
      go_ret
      exact ⟨by rw [He.out]; rfl, (hb _ _)⟩
  · have f0 : (x.kind == y.kind) = false := by simp [e0]
    have He : Hid (decide (x = y) = false) := decide_eq_false (by intro exy; exact e0 (by rw [exy]))
    clear e0
    go_enter Try.func74, Try.ntmps74
    go_wp2_with fail
    go_ret
    exact ⟨by rw [He.out]; rfl, (hb _ _)⟩

set_option maxHeartbeats 4000000 in
theorem EqualFuncAgent_v (v u : Value) (xs ys : List DAgent) (w : World) {B B' : Nat} (h : RdS agentRd 5 w B v xs) (h' : RdS agentRd 5 w B' u ys) (hB : B ≤ w.heap.size) (hB' : B' ≤ w.heap.size) :
    Calls Try.prog 73 #[v, u, .func (.func 74) #[] #[]] w fun e w' => e = .returned (.bool (eqL xs ys)) ∧ Below w.heap.size w w' := by
  obtain ⟨A, n, c, rfl, hx, hnc, hcm⟩ := h
  obtain ⟨C, m, d, rfl, hy, hmd, hdm⟩ := h'
  unfold maxLen at hcm hdm
  have lx := Lib.hid hx.len
  have ly := Lib.hid hy.len
  have hr := Below.refl w.heap.size w
  have hcf : ∀ args w, (callFunc 74 args).run Try.prog w = .ok (.enter 74 args) w := fun _ _ => by kernel_rfl
  by_cases hnm : n = m
  · subst hnm
    go_enter Try.func73, Try.ntmps73
    go_wp2
    go_loopw [17] (fun i wr => ∃ k : Nat, k ≤ n ∧ i = .int .i64 k ∧ Hid (xs.take k = ys.take k) ∧ Below w.heap.size w wr) (fun i _ => n - (intOf i).toNat)
    case atStart => exact ⟨0, by omega, rfl, rfl, hr⟩
    case round =>
      obtain ⟨k, hk, rfl, ht, hq⟩ := hrel
      by_cases hlt : k < n
      · have hx' := hx.below agentRd_ok (hq.mono hB)
        have hy' := hy.below agentRd_ok (hq.mono hB')
        obtain ⟨b, off, x, A1, n1, c1, A2, n2, c2, rfl, hb, hxk, hc0, hc1, hc2, hc3, hc4, ⟨h1, r1⟩, ⟨h2, r2⟩⟩ := hx'.agent hlt
        obtain ⟨b', off', y, A1', n1', c1', A2', n2', c2', rfl, hb', hyk, hc0', hc1', hc2', hc3', hc4', ⟨h1', r1'⟩, ⟨h2', r2'⟩⟩ := hy'.agent hlt
        have Hxk := Lib.hid hxk
        have Hyk := Lib.hid hyk
        clear hxk hyk hx' hy'
        have hzB : B ≤ wr.heap.size := Nat.le_trans hB hq.size
        have hzB' : B' ≤ wr.heap.size := Nat.le_trans hB' hq.size
        have hbz : b < wr.heap.size := by omega
        have hbz' : b' < wr.heap.size := by omega
        have hbz'' : b' < wr.heap.size + 1 := by omega
        have TB : ∀ o1 o2, Below wr.heap.size wr ((wr.alloc o1).alloc o2) := fun o1 o2 => ((Below.refl _ _).alloc (Nat.le_refl _) _).alloc (by simp) _
        by_cases hxy : x = y
        · have hf : decide (x = y) = true := decide_eq_true hxy
          have Hxy := Lib.hid hxy
          clear hxy
          go_wp2_with fail
          refine (sameAgent_v _ _ x y _ (B := B) (B' := B') ⟨_, rfl, A1, n1, c1, A2, n2, c2, rfl, ⟨h1.below intRd_ok ((TB _ _).mono hzB), r1⟩, ⟨h2.below portRd_ok ((TB _ _).mono hzB), r2⟩⟩ ⟨_, rfl, A1', n1', c1', A2', n2', c2', rfl, ⟨h1'.below intRd_ok ((TB _ _).mono hzB'), r1'⟩, ⟨h2'.below portRd_ok ((TB _ _).mono hzB'), r2'⟩⟩ (Nat.le_trans hzB (TB _ _).size) (Nat.le_trans hzB' (TB _ _).size)).mono ?_
          rintro e w1 ⟨rfl, q1⟩
          have T := (TB _ _).trans (q1.mono (TB _ _).size)
          clear q1
          go_wp2_with fail
          go_roundw
          case rel => exact ⟨k + 1, by omega, by go_num, eqL_step Hxk.out Hyk.out ht.out Hxy.out, hq.trans (T.mono hq.size)⟩
          case measure => simp [intOf]; omega
        · have hf : decide (x = y) = false := decide_eq_false hxy
          have Hno := Lib.hid (eqL_no Hxk.out Hyk.out hxy)
          clear hxy
          go_wp2_with fail
          refine (sameAgent_v _ _ x y _ (B := B) (B' := B') ⟨_, rfl, A1, n1, c1, A2, n2, c2, rfl, ⟨h1.below intRd_ok ((TB _ _).mono hzB), r1⟩, ⟨h2.below portRd_ok ((TB _ _).mono hzB), r2⟩⟩ ⟨_, rfl, A1', n1', c1', A2', n2', c2', rfl, ⟨h1'.below intRd_ok ((TB _ _).mono hzB'), r1'⟩, ⟨h2'.below portRd_ok ((TB _ _).mono hzB'), r2'⟩⟩ (Nat.le_trans hzB (TB _ _).size) (Nat.le_trans hzB' (TB _ _).size)).mono ?_
          rintro e w1 ⟨rfl, q1⟩
          have T := (TB _ _).trans (q1.mono (TB _ _).size)
          clear q1
          go_wp2_with fail
          go_ret
          exact ⟨by rw [Hno.out]; rfl, hq.trans (T.mono hq.size)⟩
      · have Hyes := Lib.hid (eqL_yes (k := k) ht.out (by have := lx.out; omega) (by have := ly.out; omega))
        go_wp2
        go_ret
        exact ⟨by rw [Hyes.out]; rfl, hq⟩
  · have Hno := Lib.hid (eqL_len (xs := xs) (ys := ys) (by have := lx.out; have := ly.out; omega))
    have hf : ((n : Int) != (m : Int)) = true := by simp; omega
    go_enter Try.func73, Try.ntmps73
    go_wp2
    go_ret
    exact ⟨by rw [Hno.out]; rfl, hr⟩

set_option maxHeartbeats 4000000 in
theorem sameCell_v (v u : Value) (x y : DCell) (w : World) {B B' : Nat} (h : RdT cellRd w B v x) (h' : RdT cellRd w B' u y) (hB : B ≤ w.heap.size) (hB' : B' ≤ w.heap.size) :
    Calls Try.prog 84 #[v, u] w fun e w' => e = .returned (.bool (decide (x = y))) ∧ Below w.heap.size w w' := by
  obtain ⟨cs, rfl, A1, n1, c1, A2, n2, c2, rfl, ⟨h1, r1⟩, ⟨h2, r2⟩⟩ := h
  obtain ⟨cs, rfl, A1', n1', c1', A2', n2', c2', rfl, ⟨h1', r1'⟩, ⟨h2', r2'⟩⟩ := h'
  have hb : ∀ o1 o2, Below w.heap.size w ((w.alloc o1).alloc o2) := fun o1 o2 => ((Below.refl _ _).alloc (Nat.le_refl _) _).alloc (by simp) _
  by_cases e0 : x.kind = y.kind
  · have f0 : (x.kind == y.kind) = true := by simp [e0]
    by_cases e1 : x.level = y.level
    · have f1 : (x.level == y.level) = true := by simp [e1]
      by_cases e2 : x.value = y.value
      · have f2 : (x.value == y.value) = true := by simp [e2]
        by_cases e3 : x.data = y.data
        · have f3 : eqL x.data y.data = true := decide_eq_true e3
          by_cases e4 : x.words = y.words
          · have f4 : eqL x.words y.words = true := decide_eq_true e4
            have He : Hid (decide (x = y) = true) := decide_eq_true (by cases x; cases y; simp_all)
            clear e0 e1 e2 e3 e4
            go_enter Try.func84, Try.ntmps84
            go_wp2_with fail
            refine (EqualInt_q _ _ x.data y.data _ (B := B) (B' := B') ⟨A1, n1, c1, rfl, h1.below intRd_ok ((hb _ _).mono hB), r1⟩ ⟨A1', n1', c1', rfl, h1'.below intRd_ok ((hb _ _).mono hB'), r1'⟩).mono ?_
            rintro e w1 ⟨rfl, q, rfl⟩
            go_wp2_with fail
            refine (EqualWord_q _ _ x.words y.words _ (B := B) (B' := B') ⟨A2, n2, c2, rfl, (h2.below wordRd_ok ((hb _ _).mono hB)).drewN wordRd_ok _, r2⟩ ⟨A2', n2', c2', rfl, (h2'.below wordRd_ok ((hb _ _).mono hB')).drewN wordRd_ok _, r2'⟩).mono ?_
            rintro e w1 ⟨rfl, q', rfl⟩
            go_wp2_with fail
            go_ret
            exact ⟨by rw [He.out]; rfl, below_drewN (hb _ _) _⟩
          · have f4 : eqL x.words y.words = false := decide_eq_false e4
            have He : Hid (decide (x = y) = false) := decide_eq_false (by intro exy; exact e4 (by rw [exy]))
            clear e0 e1 e2 e3 e4
            go_enter Try.func84, Try.ntmps84
            go_wp2_with fail
            refine (EqualInt_q _ _ x.data y.data _ (B := B) (B' := B') ⟨A1, n1, c1, rfl, h1.below intRd_ok ((hb _ _).mono hB), r1⟩ ⟨A1', n1', c1', rfl, h1'.below intRd_ok ((hb _ _).mono hB'), r1'⟩).mono ?_
            rintro e w1 ⟨rfl, q, rfl⟩
            go_wp2_with fail
            refine (EqualWord_q _ _ x.words y.words _ (B := B) (B' := B') ⟨A2, n2, c2, rfl, (h2.below wordRd_ok ((hb _ _).mono hB)).drewN wordRd_ok _, r2⟩ ⟨A2', n2', c2', rfl, (h2'.below wordRd_ok ((hb _ _).mono hB')).drewN wordRd_ok _, r2'⟩).mono ?_
            rintro e w1 ⟨rfl, q', rfl⟩
            go_wp2_with fail
            go_ret
            exact ⟨by rw [He.out]; rfl, below_drewN (hb _ _) _⟩
        · have f3 : eqL x.data y.data = false := decide_eq_false e3
          have He : Hid (decide (x = y) = false) := decide_eq_false (by intro exy; exact e3 (by rw [exy]))
          clear e0 e1 e2 e3
          go_enter Try.func84, Try.ntmps84
          go_wp2_with fail
          refine (EqualInt_q _ _ x.data y.data _ (B := B) (B' := B') ⟨A1, n1, c1, rfl, h1.below intRd_ok ((hb _ _).mono hB), r1⟩ ⟨A1', n1', c1', rfl, h1'.below intRd_ok ((hb _ _).mono hB'), r1'⟩).mono ?_
          rintro e w1 ⟨rfl, q, rfl⟩
          go_wp2_with fail
          go_ret
          exact ⟨by rw [He.out]; rfl, below_drewN (hb _ _) _⟩
      · have f2 : (x.value == y.value) = false := by simp [e2]
        have He : Hid (decide (x = y) = false) := decide_eq_false (by intro exy; exact e2 (by rw [exy]))
        clear e0 e1 e2
        go_enter Try.func84, Try.ntmps84
        go_wp2_with fail
        go_ret
        exact ⟨by rw [He.out]; rfl, (hb _ _)⟩
    · have f1 : (x.level == y.level) = false := by simp [e1]
      have He : Hid (decide (x = y) = false) := decide_eq_false (by intro exy; exact e1 (by rw [exy]))
      clear e0 e1
      go_enter Try.func84, Try.ntmps84
      go_wp2_with fail
      go_ret
      exact ⟨by rw [He.out]; rfl, (hb _ _)⟩
  · have f0 : (x.kind == y.kind) = false := by simp [e0]
    have He : Hid (decide (x = y) = false) := decide_eq_false (by intro exy; exact e0 (by rw [exy]))
    clear e0
    go_enter Try.func84, Try.ntmps84
    go_wp2_with fail
    go_ret
    exact ⟨by rw [He.out]; rfl, (hb _ _)⟩

set_option maxHeartbeats 4000000 in
theorem EqualFuncCell_v (v u : Value) (xs ys : List DCell) (w : World) {B B' : Nat} (h : RdS cellRd 5 w B v xs) (h' : RdS cellRd 5 w B' u ys) (hB : B ≤ w.heap.size) (hB' : B' ≤ w.heap.size) :
    Calls Try.prog 83 #[v, u, .func (.func 84) #[] #[]] w fun e w' => e = .returned (.bool (eqL xs ys)) ∧ Below w.heap.size w w' := by
  obtain ⟨A, n, c, rfl, hx, hnc, hcm⟩ := h
  obtain ⟨C, m, d, rfl, hy, hmd, hdm⟩ := h'
  unfold maxLen at hcm hdm
  have lx := Lib.hid hx.len
  have ly := Lib.hid hy.len
  have hr := Below.refl w.heap.size w
  have hcf : ∀ args w, (callFunc 84 args).run Try.prog w = .ok (.enter 84 args) w := fun _ _ => by kernel_rfl
  by_cases hnm : n = m
  · subst hnm
    go_enter Try.func83, Try.ntmps83
    go_wp2
    go_loopw [17] (fun i wr => ∃ k : Nat, k ≤ n ∧ i = .int .i64 k ∧ Hid (xs.take k = ys.take k) ∧ Below w.heap.size w wr) (fun i _ => n - (intOf i).toNat)
    case atStart => exact ⟨0, by omega, rfl, rfl, hr⟩
    case round =>
      obtain ⟨k, hk, rfl, ht, hq⟩ := hrel
      by_cases hlt : k < n
      · have hx' := hx.below cellRd_ok (hq.mono hB)
        have hy' := hy.below cellRd_ok (hq.mono hB')
        obtain ⟨b, off, x, A1, n1, c1, A2, n2, c2, rfl, hb, hxk, hc0, hc1, hc2, hc3, hc4, ⟨h1, r1⟩, ⟨h2, r2⟩⟩ := hx'.cell hlt
        obtain ⟨b', off', y, A1', n1', c1', A2', n2', c2', rfl, hb', hyk, hc0', hc1', hc2', hc3', hc4', ⟨h1', r1'⟩, ⟨h2', r2'⟩⟩ := hy'.cell hlt
        have Hxk := Lib.hid hxk
        have Hyk := Lib.hid hyk
        clear hxk hyk hx' hy'
        have hzB : B ≤ wr.heap.size := Nat.le_trans hB hq.size
        have hzB' : B' ≤ wr.heap.size := Nat.le_trans hB' hq.size
        have hbz : b < wr.heap.size := by omega
        have hbz' : b' < wr.heap.size := by omega
        have hbz'' : b' < wr.heap.size + 1 := by omega
        have TB : ∀ o1 o2, Below wr.heap.size wr ((wr.alloc o1).alloc o2) := fun o1 o2 => ((Below.refl _ _).alloc (Nat.le_refl _) _).alloc (by simp) _
        by_cases hxy : x = y
        · have hf : decide (x = y) = true := decide_eq_true hxy
          have Hxy := Lib.hid hxy
          clear hxy
          go_wp2_with fail
          refine (sameCell_v _ _ x y _ (B := B) (B' := B') ⟨_, rfl, A1, n1, c1, A2, n2, c2, rfl, ⟨h1.below intRd_ok ((TB _ _).mono hzB), r1⟩, ⟨h2.below wordRd_ok ((TB _ _).mono hzB), r2⟩⟩ ⟨_, rfl, A1', n1', c1', A2', n2', c2', rfl, ⟨h1'.below intRd_ok ((TB _ _).mono hzB'), r1'⟩, ⟨h2'.below wordRd_ok ((TB _ _).mono hzB'), r2'⟩⟩ (Nat.le_trans hzB (TB _ _).size) (Nat.le_trans hzB' (TB _ _).size)).mono ?_
          rintro e w1 ⟨rfl, q1⟩
          have T := (TB _ _).trans (q1.mono (TB _ _).size)
          clear q1
          go_wp2_with fail
          go_roundw
          case rel => exact ⟨k + 1, by omega, by go_num, eqL_step Hxk.out Hyk.out ht.out Hxy.out, hq.trans (T.mono hq.size)⟩
          case measure => simp [intOf]; omega
        · have hf : decide (x = y) = false := decide_eq_false hxy
          have Hno := Lib.hid (eqL_no Hxk.out Hyk.out hxy)
          clear hxy
          go_wp2_with fail
          refine (sameCell_v _ _ x y _ (B := B) (B' := B') ⟨_, rfl, A1, n1, c1, A2, n2, c2, rfl, ⟨h1.below intRd_ok ((TB _ _).mono hzB), r1⟩, ⟨h2.below wordRd_ok ((TB _ _).mono hzB), r2⟩⟩ ⟨_, rfl, A1', n1', c1', A2', n2', c2', rfl, ⟨h1'.below intRd_ok ((TB _ _).mono hzB'), r1'⟩, ⟨h2'.below wordRd_ok ((TB _ _).mono hzB'), r2'⟩⟩ (Nat.le_trans hzB (TB _ _).size) (Nat.le_trans hzB' (TB _ _).size)).mono ?_
          rintro e w1 ⟨rfl, q1⟩
          have T := (TB _ _).trans (q1.mono (TB _ _).size)
          clear q1
          go_wp2_with fail
          go_ret
          exact ⟨by rw [Hno.out]; rfl, hq.trans (T.mono hq.size)⟩
      · have Hyes := Lib.hid (eqL_yes (k := k) ht.out (by have := lx.out; omega) (by have := ly.out; omega))
        go_wp2
        go_ret
        exact ⟨by rw [Hyes.out]; rfl, hq⟩
  · have Hno := Lib.hid (eqL_len (xs := xs) (ys := ys) (by have := lx.out; have := ly.out; omega))
    have hf : ((n : Int) != (m : Int)) = true := by simp; omega
    go_enter Try.func83, Try.ntmps83
    go_wp2
    go_ret
    exact ⟨by rw [Hno.out]; rfl, hr⟩

end Go.Proofs.Yteibnofhpkcncaa
