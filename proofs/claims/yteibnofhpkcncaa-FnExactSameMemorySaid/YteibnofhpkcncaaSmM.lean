/- Equality of memories: the spec's own and the program's. -/
import Derived.Test.YteibnofhpkcncaaSmF
namespace Go.Proofs.Yteibnofhpkcncaa
open Go.RowKit
set_option linter.unusedVariables false
set_option linter.unusedSimpArgs false
set_option maxRecDepth 100000

def MemoryAt (w : World) (B b o : Nat) (x : DMemory) : Prop := ∃ (A1 : Option Addr) (n1 c1 : Nat) (A2 : Option Addr) (n2 c2 : Nat), w.cell? ⟨b, o, none⟩ = some (.slice A1 n1 c1) ∧ w.cell? ⟨b, o + 1, none⟩ = some (.int .i64 x.free) ∧ w.cell? ⟨b, o + 2, none⟩ = some (.int .i64 x.root.tag) ∧ w.cell? ⟨b, o + 3, none⟩ = some (.int .i64 x.root.at_) ∧ w.cell? ⟨b, o + 4, none⟩ = some (.slice A2 n2 c2) ∧ (SlAt cellRd 5 w B A1 n1 x.cells ∧ n1 ≤ c1 ∧ c1 ≤ maxLen) ∧ (SlAt pairRd 2 w B A2 n2 x.redexes ∧ n2 ≤ c2 ∧ c2 ≤ maxLen)
set_option maxHeartbeats 8000000 in
theorem l21Same_q (b o b' o' : Nat) (x y : DMemory) (w : World) {B B' : Nat} (h : MemoryAt w B b o x) (h' : MemoryAt w B' b' o' y) :
    Calls Try.prog 78 #[.pointer (some ⟨b, o, none⟩), .pointer (some ⟨b', o', none⟩)] w fun e w' => e = .returned (.bool (decide (x = y))) ∧ ∃ q, w' = w.drewN q := by
  obtain ⟨A1, n1, c1, A2, n2, c2, hc0, hc1, hc2, hc3, hc4, ⟨h1, r1⟩, ⟨h2, r2⟩⟩ := h
  obtain ⟨A1', n1', c1', A2', n2', c2', hc0', hc1', hc2', hc3', hc4', ⟨h1', r1'⟩, ⟨h2', r2'⟩⟩ := h'
  have l1 := Lib.hid h1.len
  have l1' := Lib.hid h1'.len
  have l2 := Lib.hid h2.len
  have l2' := Lib.hid h2'.len
  have ⟨r1a, r1b⟩ := r1
  have ⟨r1a', r1b'⟩ := r1'
  have ⟨r2a, r2b⟩ := r2
  have ⟨r2a', r2b'⟩ := r2'
  unfold maxLen at r1b r1b' r2b r2b'
  by_cases hnm : n1 = n1'
  case neg =>
    have f0 : ((n1 : Int) != (n1' : Int)) = true := by simp; omega
    have He : Hid (decide (x = y) = false) := decide_eq_false (by intro exy; subst exy; have := l1.out; have := l1'.out; omega)
    go_enter Try.func78, Try.ntmps78
    go_wp2_with fail
    go_quiet (fail)
    go_wp2
    go_ret
    exact ⟨by rw [He.out]; rfl, ⟨_, rfl⟩⟩
  have f0 : ((n1 : Int) != (n1' : Int)) = false := by simp [hnm]
  by_cases e1 : x.free = y.free
  case neg =>
    have f1 : (x.free != y.free) = true := by simp [e1]
    have He : Hid (decide (x = y) = false) := decide_eq_false (by intro exy; exact e1 (by rw [exy]))
    clear e1
    go_enter Try.func78, Try.ntmps78
    go_wp2_with fail
    go_quiet (fail)
    go_wp2
    go_ret
    exact ⟨by rw [He.out]; rfl, ⟨_, rfl⟩⟩
  have f1 : (x.free != y.free) = false := by simp [e1]
  by_cases e2 : x.root = y.root
  case neg =>
    have He : Hid (decide (x = y) = false) := decide_eq_false (by intro exy; exact e2 (by rw [exy]))
    rcases (show ((x.root.tag == y.root.tag) = false ∨ ((x.root.tag == y.root.tag) = true ∧ (x.root.at_ == y.root.at_) = false)) by cases x; cases y; rename_i r _ _ _ r' _; cases r; cases r'; simp_all; omega) with f2 | ⟨f2, f3⟩
    all_goals
      clear e1 e2
      go_enter Try.func78, Try.ntmps78
      go_wp2_with fail
      go_quiet (fail)
      go_wp2
      go_ret
      exact ⟨by rw [He.out]; rfl, ⟨_, rfl⟩⟩
  have f2 : (x.root.tag == y.root.tag) = true := by simp [e2]
  have f3 : (x.root.at_ == y.root.at_) = true := by simp [e2]
  by_cases hnm2 : n2 = n2'
  case neg =>
    have f4 : ((n2 : Int) != (n2' : Int)) = true := by simp; omega
    have He : Hid (decide (x = y) = false) := decide_eq_false (by intro exy; subst exy; have := l2.out; have := l2'.out; omega)
    clear e1 e2
    go_enter Try.func78, Try.ntmps78
    go_wp2_with fail
    go_quiet (fail)
    go_wp2
    go_ret
    exact ⟨by rw [He.out]; rfl, ⟨_, rfl⟩⟩
  have f4 : ((n2 : Int) != (n2' : Int)) = false := by simp [hnm2]
  have He : Hid (decide (x = y) = (eqL x.cells y.cells && eqL x.redexes y.redexes)) := by
    obtain ⟨a, b, c, d⟩ := x; obtain ⟨a', b', c', d'⟩ := y; simp only at e1 e2; subst e1 e2; simp [Hid, eqL]
  subst hnm hnm2
  clear e1 e2
  go_enter Try.func78, Try.ntmps78
  go_wp2_with fail
  go_quiet (fail)
  go_wp2_with fail
  go_loopw [5] (fun i wr => ∃ k : Nat, k ≤ n1 ∧ i = .int .i64 k ∧ Hid (x.cells.take k = y.cells.take k) ∧ Hid (∃ q, wr = w.drewN q)) (fun i _ => n1 - (intOf i).toNat)
  case atStart => exact ⟨0, by omega, rfl, rfl, ⟨_, rfl⟩⟩
  case round =>
    obtain ⟨k, hk, rfl, ht, hq⟩ := hrel
    by_cases hlt : k < n1
    · obtain ⟨pb, off, p, rfl, hb, hxk, hX⟩ := h1.cellAt hlt
      obtain ⟨pb', off', p', rfl, hb', hyk, hY⟩ := h1'.cellAt hlt
      have Hxk := Lib.hid hxk
      have Hyk := Lib.hid hyk
      clear hxk hyk
      obtain ⟨q, hwr⟩ := hq
      have hX : CellAt wr B pb (off + k * 5) p := by rw [hwr]; exact hX.drewN q
      have hY : CellAt wr B' pb' (off' + k * 5) p' := by rw [hwr]; exact hY.drewN q
      have G : wr.cell? ⟨b, o, none⟩ = some (.slice (some ⟨pb, off, none⟩) n1 c1) := by rw [hwr]; exact hc0
      have G' : wr.cell? ⟨b', o', none⟩ = some (.slice (some ⟨pb', off', none⟩) n1 c1') := by rw [hwr]; exact hc0'
      have Hwr := Lib.hid hwr
      clear hwr
      by_cases hxy : p = p'
      · have hf : decide (p = p') = true := decide_eq_true hxy
        have Hxy := Lib.hid hxy
        clear hxy
        go_wp2_with fail
        go_quiet ((go_at_call 108; refine Calls.quiet_of (l21SameCell_q _ _ _ _ p p' _ (B := B) (B' := B') (hX.drewN _) (hY.drewN _))))
        go_wp2_with fail
        go_roundw
        case rel => exact ⟨k + 1, by omega, by go_num, eqL_step Hxk.out Hyk.out ht.out Hxy.out, ⟨_, by rw [Hwr.out, World.drewN_drewN]⟩⟩
        case measure => simp [intOf]; omega
      · have hf : decide (p = p') = false := decide_eq_false hxy
        have Hno := Lib.hid (eqL_no Hxk.out Hyk.out hxy)
        clear hxy
        go_wp2_with fail
        go_quiet ((go_at_call 108; refine Calls.quiet_of (l21SameCell_q _ _ _ _ p p' _ (B := B) (B' := B') (hX.drewN _) (hY.drewN _))))
        go_wp2_with fail
        go_ret
        exact ⟨by rw [He.out, Hno.out]; rfl, ⟨_, by rw [Hwr.out, World.drewN_drewN]⟩⟩
    · have Hyes := Lib.hid (eqL_yes (k := k) ht.out (by have := l1.out; omega) (by have := l1'.out; omega))
      obtain ⟨q, rfl⟩ := hq
      go_wp2_with fail
      go_loopw [6] (fun i wr => ∃ k : Nat, k ≤ n2 ∧ i = .int .i64 k ∧ Hid (x.redexes.take k = y.redexes.take k) ∧ Hid (∃ q, wr = w.drewN q)) (fun i _ => n2 - (intOf i).toNat)
      case atStart => exact ⟨0, by omega, rfl, rfl, ⟨_, rfl⟩⟩
      case round =>
        obtain ⟨j, hj, rfl, ht2, hq2⟩ := hrel
        by_cases hlt2 : j < n2
        · obtain ⟨pb, off, p, rfl, hb, hxk, g0, g1⟩ := h2.pair hlt2
          obtain ⟨pb', off', p', rfl, hb', hyk, g0', g1'⟩ := h2'.pair hlt2
          have Hxk := Lib.hid hxk
          have Hyk := Lib.hid hyk
          clear hxk hyk
          obtain ⟨q2, rfl⟩ := hq2
          by_cases hxy : p = p'
          · have hf : (p.a == p'.a) = true := by simp [hxy]
            have hg : (p.b == p'.b) = true := by simp [hxy]
            have Hxy := Lib.hid hxy
            clear hxy
            go_wp2
            go_quiet (fail)
            go_wp2
            go_roundw
            case rel => exact ⟨j + 1, by omega, by go_num, eqL_step Hxk.out Hyk.out ht2.out Hxy.out, ⟨_, rfl⟩⟩
            case measure => simp [intOf]; omega
          · have Hno := Lib.hid (eqL_no Hxk.out Hyk.out hxy)
            rcases (show ((p.a == p'.a) = false ∨ ((p.a == p'.a) = true ∧ (p.b == p'.b) = false)) by cases p; cases p'; simp_all; omega) with hf | ⟨hf, hg⟩
            all_goals
              clear hxy
              go_wp2
              go_quiet (fail)
              go_wp2
              go_ret
              exact ⟨by rw [He.out, Hno.out, Bool.and_false]; rfl, (by first | exact ⟨_, rfl⟩ | exact ⟨_, World.drewN_drewN _ _ _⟩)⟩
        · have Hyes2 := Lib.hid (eqL_yes (k := j) ht2.out (by have := l2.out; omega) (by have := l2'.out; omega))
          obtain ⟨q2, rfl⟩ := hq2
          go_wp2
          go_ret
          exact ⟨by rw [He.out, Hyes.out, Hyes2.out]; rfl, ⟨_, rfl⟩⟩

theorem specSameMemory_v (v u : Value) (x y : DMemory) (w : World) {B B' : Nat} (h : RdT memoryRd w B v x) (h' : RdT memoryRd w B' u y) (hB : B ≤ w.heap.size) (hB' : B' ≤ w.heap.size) :
    Calls Try.prog 43 #[v, u] w fun e w' => e = .returned (.bool (decide (x = y))) ∧ Below w.heap.size w w' := by
  obtain ⟨cs, rfl, A1, n1, c1, A2, n2, c2, rfl, ⟨h1, r1⟩, ⟨h2, r2⟩⟩ := h
  obtain ⟨cs, rfl, A1', n1', c1', A2', n2', c2', rfl, ⟨h1', r1'⟩, ⟨h2', r2'⟩⟩ := h'
  have hb : ∀ o1 o2, Below w.heap.size w ((w.alloc o1).alloc o2) := fun o1 o2 => ((Below.refl _ _).alloc (Nat.le_refl _) _).alloc (by simp) _
  go_enter Try.func43, Try.ntmps43
  go_wp2_with fail
  refine (l21Same_q _ _ _ _ x y _ (B := B) (B' := B') ⟨A1, n1, c1, A2, n2, c2, by simp [go_sem], by simp [go_sem], by simp [go_sem], by simp [go_sem], by simp [go_sem], ⟨h1.below cellRd_ok ((hb _ _).mono hB), r1⟩, ⟨h2.below pairRd_ok ((hb _ _).mono hB), r2⟩⟩ ⟨A1', n1', c1', A2', n2', c2', by simp [go_sem], by simp [go_sem], by simp [go_sem], by simp [go_sem], by simp [go_sem], ⟨h1'.below cellRd_ok ((hb _ _).mono hB'), r1'⟩, ⟨h2'.below pairRd_ok ((hb _ _).mono hB'), r2'⟩⟩).mono ?_
  rintro e w1 ⟨rfl, q, rfl⟩
  go_wp2_with fail
  go_ret
  exact ⟨rfl, below_drewN (hb _ _) _⟩

set_option maxHeartbeats 4000000 in
theorem implSameMemory_v (v u : Value) (x y : DMemory) (w : World) {B B' : Nat} (h : RdT memoryRd w B v x) (h' : RdT memoryRd w B' u y) (hB : B ≤ w.heap.size) (hB' : B' ≤ w.heap.size) :
    Calls Try.prog 45 #[v, u] w fun e w' => e = .returned (.bool (decide (x = y))) ∧ Below w.heap.size w w' := by
  obtain ⟨cs, rfl, A1, n1, c1, A2, n2, c2, rfl, ⟨h1, r1⟩, ⟨h2, r2⟩⟩ := h
  obtain ⟨cs, rfl, A1', n1', c1', A2', n2', c2', rfl, ⟨h1', r1'⟩, ⟨h2', r2'⟩⟩ := h'
  have hb : ∀ o1 o2, Below w.heap.size w ((w.alloc o1).alloc o2) := fun o1 o2 => ((Below.refl _ _).alloc (Nat.le_refl _) _).alloc (by simp) _
  by_cases e0 : x.free = y.free
  case neg =>
    have f0 : (x.free == y.free) = false := by simp [e0]
    have He : Hid (decide (x = y) = false) := decide_eq_false (by intro exy; exact e0 (by rw [exy]))
    clear e0
    go_enter Try.func45, Try.ntmps45
    go_wp2_with fail
    go_ret
    exact ⟨by rw [He.out]; rfl, hb _ _⟩
  have f0 : (x.free == y.free) = true := by simp [e0]
  by_cases e2 : x.root = y.root
  case neg =>
    have He : Hid (decide (x = y) = false) := decide_eq_false (by intro exy; exact e2 (by rw [exy]))
    rcases (show ((x.root.tag == y.root.tag) = false ∨ ((x.root.tag == y.root.tag) = true ∧ (x.root.at_ == y.root.at_) = false)) by cases x; cases y; rename_i r _ _ _ r' _; cases r; cases r'; simp_all; omega) with f2 | ⟨f2, f3⟩
    all_goals
      clear e0 e2
      go_enter Try.func45, Try.ntmps45
      go_wp2_with fail
      go_ret
      exact ⟨by rw [He.out]; rfl, hb _ _⟩
  have f2 : (x.root.tag == y.root.tag) = true := by simp [e2]
  have f3 : (x.root.at_ == y.root.at_) = true := by simp [e2]
  by_cases e3 : x.redexes = y.redexes
  case neg =>
    have f4 : eqL x.redexes y.redexes = false := decide_eq_false e3
    have He : Hid (decide (x = y) = false) := decide_eq_false (by intro exy; exact e3 (by rw [exy]))
    clear e0 e2 e3
    go_enter Try.func45, Try.ntmps45
    go_wp2_with fail
    refine (EqualPair_q _ _ x.redexes y.redexes _ (B := B) (B' := B') ⟨A2, n2, c2, rfl, h2.below pairRd_ok ((hb _ _).mono hB), r2⟩ ⟨A2', n2', c2', rfl, h2'.below pairRd_ok ((hb _ _).mono hB'), r2'⟩).mono ?_
    rintro e w1 ⟨rfl, q, rfl⟩
    go_wp2_with fail
    go_ret
    exact ⟨by rw [He.out]; rfl, below_drewN (hb _ _) _⟩
  have f4 : eqL x.redexes y.redexes = true := decide_eq_true e3
  have He : Hid (decide (x = y) = eqL x.cells y.cells) := by
    obtain ⟨a, b, c, d⟩ := x; obtain ⟨a', b', c', d'⟩ := y; simp only at e0 e2 e3; subst e0 e2 e3; simp [Hid, eqL]
  clear e0 e2 e3
  go_enter Try.func45, Try.ntmps45
  go_wp2_with fail
  refine (EqualPair_q _ _ x.redexes y.redexes _ (B := B) (B' := B') ⟨A2, n2, c2, rfl, h2.below pairRd_ok ((hb _ _).mono hB), r2⟩ ⟨A2', n2', c2', rfl, h2'.below pairRd_ok ((hb _ _).mono hB'), r2'⟩).mono ?_
  rintro e w1 ⟨rfl, q, rfl⟩
  go_wp2_with fail
  have T := fun o1 o2 => below_drewN (hb o1 o2) q
  refine (EqualFuncCell_v _ _ x.cells y.cells _ (B := B) (B' := B') ⟨A1, n1, c1, rfl, h1.below cellRd_ok ((T _ _).mono hB), r1⟩ ⟨A1', n1', c1', rfl, h1'.below cellRd_ok ((T _ _).mono hB'), r1'⟩ (Nat.le_trans hB (T _ _).size) (Nat.le_trans hB' (T _ _).size)).mono ?_
  rintro e w1 ⟨rfl, q1⟩
  have T := (T _ _).trans (q1.mono (T _ _).size)
  clear q1
  go_wp2_with fail
  go_ret
  exact ⟨by rw [He.out]; rfl, T⟩

end Go.Proofs.Yteibnofhpkcncaa
