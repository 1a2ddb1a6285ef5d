/- Equality of slices: slices.Equal and the spec's own. -/
import Derived.Test.YteibnofhpkcncaaTyp
import Derived.Test.YteibnofhpkcncaaIntsV
import Derived.Deep.QuietTactic
import Derived.BigQuiet
import Derived.Laws.StructEq
namespace Go.Proofs.Yteibnofhpkcncaa
open Go.RowKit
set_option linter.unusedVariables false
set_option linter.unusedSimpArgs false

@[go_sem] theorem eqPort_run (a b c d : Int) (w : World) : (Op.equalIn 10000 100 (.agg #[.int .i64 a, .int .i64 b]) (.agg #[.int .i64 c, .int .i64 d])).run Try.prog w = .ok (a == c && b == d) w := by
  have u3 := Try.underlying2
  have hS : Try.prog.underlying 100 = some (.struct (Try.prog.fieldsOf 100)) := by kernel_rfl
  have hp : Try.prog.stoodInHeld 100 = false := by kernel_rfl
  rw [show (10000 : Nat) = 9999 + 1 from rfl, run_equalIn_agg w 9999 100 _ _ hS hp]
  simp only [Program.fieldsOf, Try.underlying100]
  go_simp
  by_cases h1 : a = c <;> by_cases h2 : b = d <;> simp [h1, h2]
@[go_sem] theorem eqGuardPort_run (op : BinOp) (x y : Operand) (xs ys : Array Value) (w : World) : (eqGuard op 100 x y (.agg xs) (.agg ys)).run Try.prog w = .ok () w := run_eqGuard_agg w op 100 x y xs ys (by kernel_rfl)

@[go_sem] theorem eqWord_run (a b c d : Int) (w : World) : (Op.equalIn 10000 57 (.agg #[.int .i64 a, .int .i64 b]) (.agg #[.int .i64 c, .int .i64 d])).run Try.prog w = .ok (a == c && b == d) w := by
  have u3 := Try.underlying2
  have hS : Try.prog.underlying 57 = some (.struct (Try.prog.fieldsOf 57)) := by kernel_rfl
  have hp : Try.prog.stoodInHeld 57 = false := by kernel_rfl
  rw [show (10000 : Nat) = 9999 + 1 from rfl, run_equalIn_agg w 9999 57 _ _ hS hp]
  simp only [Program.fieldsOf, Try.underlying57]
  go_simp
  by_cases h1 : a = c <;> by_cases h2 : b = d <;> simp [h1, h2]
@[go_sem] theorem eqGuardWord_run (op : BinOp) (x y : Operand) (xs ys : Array Value) (w : World) : (eqGuard op 57 x y (.agg xs) (.agg ys)).run Try.prog w = .ok () w := run_eqGuard_agg w op 57 x y xs ys (by kernel_rfl)

@[go_sem] theorem eqPair_run (a b c d : Int) (w : World) : (Op.equalIn 10000 88 (.agg #[.int .i64 a, .int .i64 b]) (.agg #[.int .i64 c, .int .i64 d])).run Try.prog w = .ok (a == c && b == d) w := by
  have u3 := Try.underlying2
  have hS : Try.prog.underlying 88 = some (.struct (Try.prog.fieldsOf 88)) := by kernel_rfl
  have hp : Try.prog.stoodInHeld 88 = false := by kernel_rfl
  rw [show (10000 : Nat) = 9999 + 1 from rfl, run_equalIn_agg w 9999 88 _ _ hS hp]
  simp only [Program.fieldsOf, Try.underlying88]
  go_simp
  by_cases h1 : a = c <;> by_cases h2 : b = d <;> simp [h1, h2]
@[go_sem] theorem eqGuardPair_run (op : BinOp) (x y : Operand) (xs ys : Array Value) (w : World) : (eqGuard op 88 x y (.agg xs) (.agg ys)).run Try.prog w = .ok () w := run_eqGuard_agg w op 88 x y xs ys (by kernel_rfl)

set_option maxHeartbeats 1000000 in
theorem l00Same_q (v u : Value) (xs ys : List Int) (w : World) {B B' : Nat} (h : RdS intRd 1 w B v xs) (h' : RdS intRd 1 w B' u ys) :
    Calls Try.prog 121 #[v, u] w fun e w' => e = .returned (.bool (eqL xs ys)) ∧ ∃ q, w' = w.drewN q := by
  obtain ⟨A, n, c, rfl, hx, hnc, hcm⟩ := h
  obtain ⟨C, m, d, rfl, hy, hmd, hdm⟩ := h'
  unfold maxLen at hcm hdm
  have lx := Lib.hid hx.len
  have ly := Lib.hid hy.len
  by_cases hnm : n = m
  · subst hnm
    go_enter Try.func121, Try.ntmps121
    go_wp2
    go_loopw [5] (fun i wr => ∃ k : Nat, k ≤ n ∧ i = .int .i64 k ∧ Hid (xs.take k = ys.take k) ∧ Hid (∃ q, wr = w.drewN q)) (fun i _ => n - (intOf i).toNat)
    case atStart => exact ⟨0, by omega, rfl, rfl, ⟨0, rfl⟩⟩
    case round =>
      obtain ⟨k, hk, rfl, ht, hq⟩ := hrel
      by_cases hlt : k < n
      · obtain ⟨b, off, x, rfl, hb, hxk, hc⟩ := hx.int hlt
        obtain ⟨b', off', y, rfl, hb', hyk, hc'⟩ := hy.int hlt
        have Hxk := Lib.hid hxk
        have Hyk := Lib.hid hyk
        clear hxk hyk
        obtain ⟨q, rfl⟩ := hq
        by_cases hxy : x = y
        · have hf : (x != y) = false := by simp [hxy]
          have Hxy := Lib.hid hxy
          clear hxy
          go_wp2
          go_quiet (fail)
          go_wp2
          go_roundw
          case rel => exact ⟨k + 1, by omega, by go_num, eqL_step Hxk.out Hyk.out ht.out Hxy.out, ⟨_, rfl⟩⟩
          case measure => simp [intOf]; omega
        · have Hno := Lib.hid (eqL_no Hxk.out Hyk.out hxy)
          have hf : (x != y) = true := by simp [hxy]
          all_goals
            clear hxy
            go_wp2
            go_quiet (fail)
            go_wp2
            go_ret
            exact ⟨by rw [Hno.out]; rfl, (by first | exact ⟨_, rfl⟩ | exact ⟨_, World.drewN_drewN _ _ _⟩)⟩
      · have Hyes := Lib.hid (eqL_yes (k := k) ht.out (by have := lx.out; omega) (by have := ly.out; omega))
        obtain ⟨q, rfl⟩ := hq
        go_wp2
        go_ret
        exact ⟨by rw [Hyes.out]; rfl, ⟨_, rfl⟩⟩
  · have Hno := Lib.hid (eqL_len (xs := xs) (ys := ys) (by have := lx.out; have := ly.out; omega))
    have hf : ((n : Int) != (m : Int)) = true := by simp; omega
    go_enter Try.func121, Try.ntmps121
    go_wp2
    go_ret
    exact ⟨by rw [Hno.out]; rfl, ⟨0, rfl⟩⟩

set_option maxHeartbeats 1000000 in
theorem EqualInt_q (v u : Value) (xs ys : List Int) (w : World) {B B' : Nat} (h : RdS intRd 1 w B v xs) (h' : RdS intRd 1 w B' u ys) :
    Calls Try.prog 104 #[v, u] w fun e w' => e = .returned (.bool (eqL xs ys)) ∧ ∃ q, w' = w.drewN q := by
  obtain ⟨A, n, c, rfl, hx, hnc, hcm⟩ := h
  obtain ⟨C, m, d, rfl, hy, hmd, hdm⟩ := h'
  unfold maxLen at hcm hdm
  have lx := Lib.hid hx.len
  have ly := Lib.hid hy.len
  by_cases hnm : n = m
  · subst hnm
    go_enter Try.func104, Try.ntmps104
    go_wp2
    go_loopw [13] (fun i wr => ∃ k : Nat, k ≤ n ∧ i = .int .i64 k ∧ Hid (xs.take k = ys.take k) ∧ Hid (∃ q, wr = w.drewN q)) (fun i _ => n - (intOf i).toNat)
    case atStart => exact ⟨0, by omega, rfl, rfl, ⟨0, rfl⟩⟩
    case round =>
      obtain ⟨k, hk, rfl, ht, hq⟩ := hrel
      by_cases hlt : k < n
      · obtain ⟨b, off, x, rfl, hb, hxk, hc⟩ := hx.int hlt
        obtain ⟨b', off', y, rfl, hb', hyk, hc'⟩ := hy.int hlt
        have Hxk := Lib.hid hxk
        have Hyk := Lib.hid hyk
        clear hxk hyk
        obtain ⟨q, rfl⟩ := hq
        by_cases hxy : x = y
        · have hf : (x != y) = false := by simp [hxy]
          have Hxy := Lib.hid hxy
          clear hxy
          go_wp2
          go_quiet (fail)
          go_wp2
          go_roundw
          case rel => exact ⟨k + 1, by omega, by go_num, eqL_step Hxk.out Hyk.out ht.out Hxy.out, ⟨_, rfl⟩⟩
          case measure => simp [intOf]; omega
        · have Hno := Lib.hid (eqL_no Hxk.out Hyk.out hxy)
          have hf : (x != y) = true := by simp [hxy]
          all_goals
            clear hxy
            go_wp2
            go_quiet (fail)
            go_wp2
            go_ret
            exact ⟨by rw [Hno.out]; rfl, (by first | exact ⟨_, rfl⟩ | exact ⟨_, World.drewN_drewN _ _ _⟩)⟩
      · have Hyes := Lib.hid (eqL_yes (k := k) ht.out (by have := lx.out; omega) (by have := ly.out; omega))
        obtain ⟨q, rfl⟩ := hq
        go_wp2
        go_ret
        exact ⟨by rw [Hyes.out]; rfl, ⟨_, rfl⟩⟩
  · have Hno := Lib.hid (eqL_len (xs := xs) (ys := ys) (by have := lx.out; have := ly.out; omega))
    have hf : ((n : Int) != (m : Int)) = true := by simp; omega
    go_enter Try.func104, Try.ntmps104
    go_wp2
    go_ret
    exact ⟨by rw [Hno.out]; rfl, ⟨0, rfl⟩⟩

set_option maxHeartbeats 1000000 in
theorem EqualPort_q (v u : Value) (xs ys : List DPort) (w : World) {B B' : Nat} (h : RdS portRd 2 w B v xs) (h' : RdS portRd 2 w B' u ys) :
    Calls Try.prog 105 #[v, u] w fun e w' => e = .returned (.bool (eqL xs ys)) ∧ ∃ q, w' = w.drewN q := by
  obtain ⟨A, n, c, rfl, hx, hnc, hcm⟩ := h
  obtain ⟨C, m, d, rfl, hy, hmd, hdm⟩ := h'
  unfold maxLen at hcm hdm
  have lx := Lib.hid hx.len
  have ly := Lib.hid hy.len
  by_cases hnm : n = m
  · subst hnm
    go_enter Try.func105, Try.ntmps105
    go_wp2
    go_loopw [13] (fun i wr => ∃ k : Nat, k ≤ n ∧ i = .int .i64 k ∧ Hid (xs.take k = ys.take k) ∧ Hid (∃ q, wr = w.drewN q)) (fun i _ => n - (intOf i).toNat)
    case atStart => exact ⟨0, by omega, rfl, rfl, ⟨0, rfl⟩⟩
    case round =>
      obtain ⟨k, hk, rfl, ht, hq⟩ := hrel
      by_cases hlt : k < n
      · obtain ⟨b, off, x, rfl, hb, hxk, hc0, hc1⟩ := hx.port hlt
        obtain ⟨b', off', y, rfl, hb', hyk, hc0', hc1'⟩ := hy.port hlt
        have Hxk := Lib.hid hxk
        have Hyk := Lib.hid hyk
        clear hxk hyk
        obtain ⟨q, rfl⟩ := hq
        by_cases hxy : x = y
        · have hf : (x.agent == y.agent) = true := by simp [hxy]
          have hg : (x.slot == y.slot) = true := by simp [hxy]
          have Hxy := Lib.hid hxy
          clear hxy
          go_wp2
          go_quiet (fail)
          go_wp2
          go_roundw
          case rel => exact ⟨k + 1, by omega, by go_num, eqL_step Hxk.out Hyk.out ht.out Hxy.out, ⟨_, rfl⟩⟩
          case measure => simp [intOf]; omega
        · have Hno := Lib.hid (eqL_no Hxk.out Hyk.out hxy)
          rcases (show ((x.agent == y.agent) = false ∨ ((x.agent == y.agent) = true ∧ (x.slot == y.slot) = false)) by cases x; cases y; simp_all; omega) with hf | ⟨hf, hg⟩
          all_goals
            clear hxy
            go_wp2
            go_quiet (fail)
            go_wp2
            go_ret
            exact ⟨by rw [Hno.out]; rfl, (by first | exact ⟨_, rfl⟩ | exact ⟨_, World.drewN_drewN _ _ _⟩)⟩
      · have Hyes := Lib.hid (eqL_yes (k := k) ht.out (by have := lx.out; omega) (by have := ly.out; omega))
        obtain ⟨q, rfl⟩ := hq
        go_wp2
        go_ret
        exact ⟨by rw [Hyes.out]; rfl, ⟨_, rfl⟩⟩
  · have Hno := Lib.hid (eqL_len (xs := xs) (ys := ys) (by have := lx.out; have := ly.out; omega))
    have hf : ((n : Int) != (m : Int)) = true := by simp; omega
    go_enter Try.func105, Try.ntmps105
    go_wp2
    go_ret
    exact ⟨by rw [Hno.out]; rfl, ⟨0, rfl⟩⟩

set_option maxHeartbeats 1000000 in
theorem EqualWord_q (v u : Value) (xs ys : List DWord) (w : World) {B B' : Nat} (h : RdS wordRd 2 w B v xs) (h' : RdS wordRd 2 w B' u ys) :
    Calls Try.prog 111 #[v, u] w fun e w' => e = .returned (.bool (eqL xs ys)) ∧ ∃ q, w' = w.drewN q := by
  obtain ⟨A, n, c, rfl, hx, hnc, hcm⟩ := h
  obtain ⟨C, m, d, rfl, hy, hmd, hdm⟩ := h'
  unfold maxLen at hcm hdm
  have lx := Lib.hid hx.len
  have ly := Lib.hid hy.len
  by_cases hnm : n = m
  · subst hnm
    go_enter Try.func111, Try.ntmps111
    go_wp2
    go_loopw [13] (fun i wr => ∃ k : Nat, k ≤ n ∧ i = .int .i64 k ∧ Hid (xs.take k = ys.take k) ∧ Hid (∃ q, wr = w.drewN q)) (fun i _ => n - (intOf i).toNat)
    case atStart => exact ⟨0, by omega, rfl, rfl, ⟨0, rfl⟩⟩
    case round =>
      obtain ⟨k, hk, rfl, ht, hq⟩ := hrel
      by_cases hlt : k < n
      · obtain ⟨b, off, x, rfl, hb, hxk, hc0, hc1⟩ := hx.word hlt
        obtain ⟨b', off', y, rfl, hb', hyk, hc0', hc1'⟩ := hy.word hlt
        have Hxk := Lib.hid hxk
        have Hyk := Lib.hid hyk
        clear hxk hyk
        obtain ⟨q, rfl⟩ := hq
        by_cases hxy : x = y
        · have hf : (x.tag == y.tag) = true := by simp [hxy]
          have hg : (x.at_ == y.at_) = true := by simp [hxy]
          have Hxy := Lib.hid hxy
          clear hxy
          go_wp2
          go_quiet (fail)
          go_wp2
          go_roundw
          case rel => exact ⟨k + 1, by omega, by go_num, eqL_step Hxk.out Hyk.out ht.out Hxy.out, ⟨_, rfl⟩⟩
          case measure => simp [intOf]; omega
        · have Hno := Lib.hid (eqL_no Hxk.out Hyk.out hxy)
          rcases (show ((x.tag == y.tag) = false ∨ ((x.tag == y.tag) = true ∧ (x.at_ == y.at_) = false)) by cases x; cases y; simp_all; omega) with hf | ⟨hf, hg⟩
          all_goals
            clear hxy
            go_wp2
            go_quiet (fail)
            go_wp2
            go_ret
            exact ⟨by rw [Hno.out]; rfl, (by first | exact ⟨_, rfl⟩ | exact ⟨_, World.drewN_drewN _ _ _⟩)⟩
      · have Hyes := Lib.hid (eqL_yes (k := k) ht.out (by have := lx.out; omega) (by have := ly.out; omega))
        obtain ⟨q, rfl⟩ := hq
        go_wp2
        go_ret
        exact ⟨by rw [Hyes.out]; rfl, ⟨_, rfl⟩⟩
  · have Hno := Lib.hid (eqL_len (xs := xs) (ys := ys) (by have := lx.out; have := ly.out; omega))
    have hf : ((n : Int) != (m : Int)) = true := by simp; omega
    go_enter Try.func111, Try.ntmps111
    go_wp2
    go_ret
    exact ⟨by rw [Hno.out]; rfl, ⟨0, rfl⟩⟩

set_option maxHeartbeats 1000000 in
theorem EqualPair_q (v u : Value) (xs ys : List DPair) (w : World) {B B' : Nat} (h : RdS pairRd 2 w B v xs) (h' : RdS pairRd 2 w B' u ys) :
    Calls Try.prog 82 #[v, u] w fun e w' => e = .returned (.bool (eqL xs ys)) ∧ ∃ q, w' = w.drewN q := by
  obtain ⟨A, n, c, rfl, hx, hnc, hcm⟩ := h
  obtain ⟨C, m, d, rfl, hy, hmd, hdm⟩ := h'
  unfold maxLen at hcm hdm
  have lx := Lib.hid hx.len
  have ly := Lib.hid hy.len
  by_cases hnm : n = m
  · subst hnm
    go_enter Try.func82, Try.ntmps82
    go_wp2
    go_loopw [13] (fun i wr => ∃ k : Nat, k ≤ n ∧ i = .int .i64 k ∧ Hid (xs.take k = ys.take k) ∧ Hid (∃ q, wr = w.drewN q)) (fun i _ => n - (intOf i).toNat)
    case atStart => exact ⟨0, by omega, rfl, rfl, ⟨0, rfl⟩⟩
    case round =>
      obtain ⟨k, hk, rfl, ht, hq⟩ := hrel
      by_cases hlt : k < n
      · obtain ⟨b, off, x, rfl, hb, hxk, hc0, hc1⟩ := hx.pair hlt
        obtain ⟨b', off', y, rfl, hb', hyk, hc0', hc1'⟩ := hy.pair hlt
        have Hxk := Lib.hid hxk
        have Hyk := Lib.hid hyk
        clear hxk hyk
        obtain ⟨q, rfl⟩ := hq
        by_cases hxy : x = y
        · have hf : (x.a == y.a) = true := by simp [hxy]
          have hg : (x.b == y.b) = true := by simp [hxy]
          have Hxy := Lib.hid hxy
          clear hxy
          go_wp2
          go_quiet (fail)
          go_wp2
          go_roundw
          case rel => exact ⟨k + 1, by omega, by go_num, eqL_step Hxk.out Hyk.out ht.out Hxy.out, ⟨_, rfl⟩⟩
          case measure => simp [intOf]; omega
        · have Hno := Lib.hid (eqL_no Hxk.out Hyk.out hxy)
          rcases (show ((x.a == y.a) = false ∨ ((x.a == y.a) = true ∧ (x.b == y.b) = false)) by cases x; cases y; simp_all; omega) with hf | ⟨hf, hg⟩
          all_goals
            clear hxy
            go_wp2
            go_quiet (fail)
            go_wp2
            go_ret
            exact ⟨by rw [Hno.out]; rfl, (by first | exact ⟨_, rfl⟩ | exact ⟨_, World.drewN_drewN _ _ _⟩)⟩
      · have Hyes := Lib.hid (eqL_yes (k := k) ht.out (by have := lx.out; omega) (by have := ly.out; omega))
        obtain ⟨q, rfl⟩ := hq
        go_wp2
        go_ret
        exact ⟨by rw [Hyes.out]; rfl, ⟨_, rfl⟩⟩
  · have Hno := Lib.hid (eqL_len (xs := xs) (ys := ys) (by have := lx.out; have := ly.out; omega))
    have hf : ((n : Int) != (m : Int)) = true := by simp; omega
    go_enter Try.func82, Try.ntmps82
    go_wp2
    go_ret
    exact ⟨by rw [Hno.out]; rfl, ⟨0, rfl⟩⟩

end Go.Proofs.Yteibnofhpkcncaa
