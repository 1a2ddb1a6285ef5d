/- Equality of agents and of cells: the spec's own, read through pointers. -/
import Derived.Test.YteibnofhpkcncaaSmE
namespace Go.Proofs.Yteibnofhpkcncaa
open Go.RowKit
set_option linter.unusedVariables false
set_option linter.unusedSimpArgs false
set_option maxRecDepth 100000
theorem SlAt.drewN {α : Type} {R : Rd α} {sz : Nat} {w : World} {B n : Nat} {A : Option Addr} {xs : List α} (ok : RdOk R sz) (h : SlAt R sz w B A n xs) (q : Nat) : SlAt R sz (w.drewN q) B A n xs := SlAt.keep (w := w) (w' := w.drewN q) ok (fun _ _ => rfl) h

def AgentAt (w : World) (B b o : Nat) (x : DAgent) : Prop := ∃ (A1 : Option Addr) (n1 c1 : Nat) (A2 : Option Addr) (n2 c2 : Nat), w.cell? ⟨b, o, none⟩ = some (.int .i64 x.kind) ∧ w.cell? ⟨b, o + 1, none⟩ = some (.int .i64 x.level) ∧ w.cell? ⟨b, o + 2, none⟩ = some (.int .i64 x.value) ∧ w.cell? ⟨b, o + 3, none⟩ = some (.slice A1 n1 c1) ∧ w.cell? ⟨b, o + 4, none⟩ = some (.slice A2 n2 c2) ∧ (SlAt intRd 1 w B A1 n1 x.data ∧ n1 ≤ c1 ∧ c1 ≤ maxLen) ∧ (SlAt portRd 2 w B A2 n2 x.ports ∧ n2 ≤ c2 ∧ c2 ≤ maxLen)
theorem SlAt.agentAt {w : World} {B n : Nat} {A : Option Addr} {xs : List DAgent} (h : SlAt agentRd 5 w B A n xs) {k : Nat} (hk : k < n) : ∃ b off x, A = some ⟨b, off, none⟩ ∧ b < B ∧ xs[k]? = some x ∧ AgentAt w B b (off + k * 5) x := by
  obtain ⟨b, off, x, A1, n1, c1, A2, n2, c2, e, hb, hx, r⟩ := h.agent hk
  exact ⟨b, off, x, e, hb, hx, A1, n1, c1, A2, n2, c2, r⟩
theorem AgentAt.drewN {w : World} {B b o : Nat} {x : DAgent} (h : AgentAt w B b o x) (q : Nat) : AgentAt (w.drewN q) B b o x := by
  obtain ⟨A1, n1, c1, A2, n2, c2, hc0, hc1, hc2, hc3, hc4, ⟨h1, r1⟩, ⟨h2, r2⟩⟩ := h
  exact ⟨A1, n1, c1, A2, n2, c2, hc0, hc1, hc2, hc3, hc4, ⟨h1.drewN intRd_ok q, r1⟩, ⟨h2.drewN portRd_ok q, r2⟩⟩
set_option maxHeartbeats 4000000 in
theorem l11SameAgent_q (b o b' o' : Nat) (x y : DAgent) (w : World) {B B' : Nat} (h : AgentAt w B b o x) (h' : AgentAt w B' b' o' y) :
    Calls Try.prog 102 #[.pointer (some ⟨b, o, none⟩), .pointer (some ⟨b', o', none⟩)] w fun e w' => e = .returned (.bool (decide (x = y))) ∧ ∃ q, w' = w.drewN q := by
  obtain ⟨A1, n1, c1, A2, n2, c2, hc0, hc1, hc2, hc3, hc4, ⟨h1, r1⟩, ⟨h2, r2⟩⟩ := h
  obtain ⟨A1', n1', c1', A2', n2', c2', hc0', hc1', hc2', hc3', hc4', ⟨h1', r1'⟩, ⟨h2', r2'⟩⟩ := h'
  have l2 := Lib.hid h2.len
  have l2' := Lib.hid h2'.len
  have ⟨r2a, r2b⟩ := r2
  have ⟨r2a', r2b'⟩ := r2'
  unfold maxLen at r2b r2b'
  by_cases e0 : x.kind = y.kind
  · have f0 : (x.kind != y.kind) = false := by simp [e0]
    by_cases e1 : x.level = y.level
    · have f1 : (x.level != y.level) = false := by simp [e1]
      by_cases e2 : x.value = y.value
      · have f2 : (x.value != y.value) = false := by simp [e2]
        by_cases e3 : x.data = y.data
        · have f3 : eqL x.data y.data = true := decide_eq_true e3
          by_cases hnm : n2 = n2'
          · have f5 : ((n2 : Int) != (n2' : Int)) = false := by simp [hnm]
            subst hnm
            have He : Hid (decide (x = y) = eqL x.ports y.ports) := by
              cases x; cases y; simp only at e0 e1 e2 e3; subst e0 e1 e2 e3; simp [Hid, eqL]
            clear e0 e1 e2 e3
            go_enter Try.func102, Try.ntmps102
            go_wp2_with fail
            go_quiet ((go_at_call 121; refine Calls.quiet_of (l00Same_q _ _ x.data y.data _ (B := B) (B' := B') ⟨A1, n1, c1, rfl, h1.drewN intRd_ok _, r1⟩ ⟨A1', n1', c1', rfl, h1'.drewN intRd_ok _, r1'⟩)))
            go_wp2_with fail
            go_loopw [5] (fun i wr => ∃ k : Nat, k ≤ n2 ∧ i = .int .i64 k ∧ Hid (x.ports.take k = y.ports.take k) ∧ Hid (∃ q, wr = w.drewN q)) (fun i _ => n2 - (intOf i).toNat)
            case atStart => exact ⟨0, by omega, rfl, rfl, ⟨_, rfl⟩⟩
            case round =>
              obtain ⟨k, hk, rfl, ht, hq⟩ := hrel
              by_cases hlt : k < n2
              · obtain ⟨pb, off, p, rfl, hb, hxk, g0, g1⟩ := h2.port hlt
                obtain ⟨pb', off', p', rfl, hb', hyk, g0', g1'⟩ := h2'.port hlt
                have Hxk := Lib.hid hxk
                have Hyk := Lib.hid hyk
                clear hxk hyk
                obtain ⟨q, rfl⟩ := hq
                by_cases hxy : p = p'
                · have hf : (p.agent == p'.agent) = true := by simp [hxy]
                  have hg : (p.slot == p'.slot) = true := by simp [hxy]
                  have Hxy := Lib.hid hxy
                  clear hxy
                  go_wp2
                  go_quiet (fail)
                  go_wp2
                  go_roundw
                  case rel => exact ⟨k + 1, by omega, by go_num, eqL_step Hxk.out Hyk.out ht.out Hxy.out, ⟨_, rfl⟩⟩
                  case measure => simp [intOf]; omega
                · have Hno := Lib.hid (eqL_no Hxk.out Hyk.out hxy)
                  rcases (show ((p.agent == p'.agent) = false ∨ ((p.agent == p'.agent) = true ∧ (p.slot == p'.slot) = false)) by cases p; cases p'; simp_all; omega) with hf | ⟨hf, hg⟩
                  all_goals
                    clear hxy
                    go_wp2
                    go_quiet (fail)
                    go_wp2
                    go_ret
                    exact ⟨by rw [He.out, Hno.out]; rfl, (by first | exact ⟨_, rfl⟩ | exact ⟨_, World.drewN_drewN _ _ _⟩)⟩
              · have Hyes := Lib.hid (eqL_yes (k := k) ht.out (by have := l2.out; omega) (by have := l2'.out; omega))
                obtain ⟨q, rfl⟩ := hq
                go_wp2
                go_ret
                exact ⟨by rw [He.out, Hyes.out]; rfl, ⟨_, rfl⟩⟩
          · have f5 : ((n2 : Int) != (n2' : Int)) = true := by simp; omega
            have He : Hid (decide (x = y) = false) := decide_eq_false (by intro exy; subst exy; have := l2.out; have := l2'.out; omega)
            clear e0 e1 e2 e3
            go_enter Try.func102, Try.ntmps102
            go_wp2_with fail
            go_quiet ((go_at_call 121; refine Calls.quiet_of (l00Same_q _ _ x.data y.data _ (B := B) (B' := B') ⟨A1, n1, c1, rfl, h1.drewN intRd_ok _, r1⟩ ⟨A1', n1', c1', rfl, h1'.drewN intRd_ok _, r1'⟩)))
            go_wp2
            go_ret
            exact ⟨by rw [He.out]; rfl, ⟨_, rfl⟩⟩
        · have f3 : eqL x.data y.data = false := decide_eq_false e3
          have He : Hid (decide (x = y) = false) := decide_eq_false (by intro exy; exact e3 (by rw [exy]))
          clear e0 e1 e2 e3
          go_enter Try.func102, Try.ntmps102
          go_wp2_with fail
          go_quiet ((go_at_call 121; refine Calls.quiet_of (l00Same_q _ _ x.data y.data _ (B := B) (B' := B') ⟨A1, n1, c1, rfl, h1.drewN intRd_ok _, r1⟩ ⟨A1', n1', c1', rfl, h1'.drewN intRd_ok _, r1'⟩)))
          go_wp2
          go_ret
          exact ⟨by rw [He.out]; rfl, ⟨_, rfl⟩⟩
      · have f2 : (x.value != y.value) = true := by simp [e2]
        have He : Hid (decide (x = y) = false) := decide_eq_false (by intro exy; exact e2 (by rw [exy]))
        clear e0 e1 e2
        go_enter Try.func102, Try.ntmps102
        go_wp2_with fail
        go_quiet (fail)
        go_wp2
        go_ret
        exact ⟨by rw [He.out]; rfl, ⟨_, rfl⟩⟩
    · have f1 : (x.level != y.level) = true := by simp [e1]
      have He : Hid (decide (x = y) = false) := decide_eq_false (by intro exy; exact e1 (by rw [exy]))
      clear e0 e1
      go_enter Try.func102, Try.ntmps102
      go_wp2_with fail
      go_quiet (fail)
      go_wp2
      go_ret
      exact ⟨by rw [He.out]; rfl, ⟨_, rfl⟩⟩
  · have f0 : (x.kind != y.kind) = true := by simp [e0]
    have He : Hid (decide (x = y) = false) := decide_eq_false (by intro exy; exact e0 (by rw [exy]))
    clear e0
    go_enter Try.func102, Try.ntmps102
    go_wp2_with fail
    go_quiet (fail)
    go_wp2
    go_ret
    exact ⟨by rw [He.out]; rfl, ⟨_, rfl⟩⟩

def CellAt (w : World) (B b o : Nat) (x : DCell) : Prop := ∃ (A1 : Option Addr) (n1 c1 : Nat) (A2 : Option Addr) (n2 c2 : Nat), w.cell? ⟨b, o, none⟩ = some (.int .i64 x.kind) ∧ w.cell? ⟨b, o + 1, none⟩ = some (.int .i64 x.level) ∧ w.cell? ⟨b, o + 2, none⟩ = some (.int .i64 x.value) ∧ w.cell? ⟨b, o + 3, none⟩ = some (.slice A1 n1 c1) ∧ w.cell? ⟨b, o + 4, none⟩ = some (.slice A2 n2 c2) ∧ (SlAt intRd 1 w B A1 n1 x.data ∧ n1 ≤ c1 ∧ c1 ≤ maxLen) ∧ (SlAt wordRd 2 w B A2 n2 x.words ∧ n2 ≤ c2 ∧ c2 ≤ maxLen)
theorem SlAt.cellAt {w : World} {B n : Nat} {A : Option Addr} {xs : List DCell} (h : SlAt cellRd 5 w B A n xs) {k : Nat} (hk : k < n) : ∃ b off x, A = some ⟨b, off, none⟩ ∧ b < B ∧ xs[k]? = some x ∧ CellAt w B b (off + k * 5) x := by
  obtain ⟨b, off, x, A1, n1, c1, A2, n2, c2, e, hb, hx, r⟩ := h.cell hk
  exact ⟨b, off, x, e, hb, hx, A1, n1, c1, A2, n2, c2, r⟩
theorem CellAt.drewN {w : World} {B b o : Nat} {x : DCell} (h : CellAt w B b o x) (q : Nat) : CellAt (w.drewN q) B b o x := by
  obtain ⟨A1, n1, c1, A2, n2, c2, hc0, hc1, hc2, hc3, hc4, ⟨h1, r1⟩, ⟨h2, r2⟩⟩ := h
  exact ⟨A1, n1, c1, A2, n2, c2, hc0, hc1, hc2, hc3, hc4, ⟨h1.drewN intRd_ok q, r1⟩, ⟨h2.drewN wordRd_ok q, r2⟩⟩
set_option maxHeartbeats 4000000 in
theorem l21SameCell_q (b o b' o' : Nat) (x y : DCell) (w : World) {B B' : Nat} (h : CellAt w B b o x) (h' : CellAt w B' b' o' y) :
    Calls Try.prog 108 #[.pointer (some ⟨b, o, none⟩), .pointer (some ⟨b', o', none⟩)] w fun e w' => e = .returned (.bool (decide (x = y))) ∧ ∃ q, w' = w.drewN q := by
  obtain ⟨A1, n1, c1, A2, n2, c2, hc0, hc1, hc2, hc3, hc4, ⟨h1, r1⟩, ⟨h2, r2⟩⟩ := h
  obtain ⟨A1', n1', c1', A2', n2', c2', hc0', hc1', hc2', hc3', hc4', ⟨h1', r1'⟩, ⟨h2', r2'⟩⟩ := h'
  have l2 := Lib.hid h2.len
  have l2' := Lib.hid h2'.len
  have ⟨r2a, r2b⟩ := r2
  have ⟨r2a', r2b'⟩ := r2'
  unfold maxLen at r2b r2b'
  by_cases e0 : x.kind = y.kind
  · have f0 : (x.kind != y.kind) = false := by simp [e0]
    by_cases e1 : x.level = y.level
    · have f1 : (x.level != y.level) = false := by simp [e1]
      by_cases e2 : x.value = y.value
      · have f2 : (x.value != y.value) = false := by simp [e2]
        by_cases e3 : x.data = y.data
        · have f3 : eqL x.data y.data = true := decide_eq_true e3
          by_cases hnm : n2 = n2'
          · have f5 : ((n2 : Int) != (n2' : Int)) = false := by simp [hnm]
            subst hnm
            have He : Hid (decide (x = y) = eqL x.words y.words) := by
              cases x; cases y; simp only at e0 e1 e2 e3; subst e0 e1 e2 e3; simp [Hid, eqL]
            clear e0 e1 e2 e3
            go_enter Try.func108, Try.ntmps108
            go_wp2_with fail
            go_quiet ((go_at_call 121; refine Calls.quiet_of (l00Same_q _ _ x.data y.data _ (B := B) (B' := B') ⟨A1, n1, c1, rfl, h1.drewN intRd_ok _, r1⟩ ⟨A1', n1', c1', rfl, h1'.drewN intRd_ok _, r1'⟩)))
            go_wp2_with fail
            go_loopw [5] (fun i wr => ∃ k : Nat, k ≤ n2 ∧ i = .int .i64 k ∧ Hid (x.words.take k = y.words.take k) ∧ Hid (∃ q, wr = w.drewN q)) (fun i _ => n2 - (intOf i).toNat)
            case atStart => exact ⟨0, by omega, rfl, rfl, ⟨_, rfl⟩⟩
            case round =>
              obtain ⟨k, hk, rfl, ht, hq⟩ := hrel
              by_cases hlt : k < n2
              · obtain ⟨pb, off, p, rfl, hb, hxk, g0, g1⟩ := h2.word hlt
                obtain ⟨pb', off', p', rfl, hb', hyk, g0', g1'⟩ := h2'.word hlt
                have Hxk := Lib.hid hxk
                have Hyk := Lib.hid hyk
                clear hxk hyk
                obtain ⟨q, rfl⟩ := hq
                by_cases hxy : p = p'
                · have hf : (p.tag == p'.tag) = true := by simp [hxy]
                  have hg : (p.at_ == p'.at_) = true := by simp [hxy]
                  have Hxy := Lib.hid hxy
                  clear hxy
                  go_wp2
                  go_quiet (fail)
                  go_wp2
                  go_roundw
                  case rel => exact ⟨k + 1, by omega, by go_num, eqL_step Hxk.out Hyk.out ht.out Hxy.out, ⟨_, rfl⟩⟩
                  case measure => simp [intOf]; omega
                · have Hno := Lib.hid (eqL_no Hxk.out Hyk.out hxy)
                  rcases (show ((p.tag == p'.tag) = false ∨ ((p.tag == p'.tag) = true ∧ (p.at_ == p'.at_) = false)) by cases p; cases p'; simp_all; omega) with hf | ⟨hf, hg⟩
                  all_goals
                    clear hxy
                    go_wp2
                    go_quiet (fail)
                    go_wp2
                    go_ret
                    exact ⟨by rw [He.out, Hno.out]; rfl, (by first | exact ⟨_, rfl⟩ | exact ⟨_, World.drewN_drewN _ _ _⟩)⟩
              · have Hyes := Lib.hid (eqL_yes (k := k) ht.out (by have := l2.out; omega) (by have := l2'.out; omega))
                obtain ⟨q, rfl⟩ := hq
                go_wp2
                go_ret
                exact ⟨by rw [He.out, Hyes.out]; rfl, ⟨_, rfl⟩⟩
          · have f5 : ((n2 : Int) != (n2' : Int)) = true := by simp; omega
            have He : Hid (decide (x = y) = false) := decide_eq_false (by intro exy; subst exy; have := l2.out; have := l2'.out; omega)
            clear e0 e1 e2 e3
            go_enter Try.func108, Try.ntmps108
            go_wp2_with fail
            go_quiet ((go_at_call 121; refine Calls.quiet_of (l00Same_q _ _ x.data y.data _ (B := B) (B' := B') ⟨A1, n1, c1, rfl, h1.drewN intRd_ok _, r1⟩ ⟨A1', n1', c1', rfl, h1'.drewN intRd_ok _, r1'⟩)))
            go_wp2
            go_ret
            exact ⟨by rw [He.out]; rfl, ⟨_, rfl⟩⟩
        · have f3 : eqL x.data y.data = false := decide_eq_false e3
          have He : Hid (decide (x = y) = false) := decide_eq_false (by intro exy; exact e3 (by rw [exy]))
          clear e0 e1 e2 e3
          go_enter Try.func108, Try.ntmps108
          go_wp2_with fail
          go_quiet ((go_at_call 121; refine Calls.quiet_of (l00Same_q _ _ x.data y.data _ (B := B) (B' := B') ⟨A1, n1, c1, rfl, h1.drewN intRd_ok _, r1⟩ ⟨A1', n1', c1', rfl, h1'.drewN intRd_ok _, r1'⟩)))
          go_wp2
          go_ret
          exact ⟨by rw [He.out]; rfl, ⟨_, rfl⟩⟩
      · have f2 : (x.value != y.value) = true := by simp [e2]
        have He : Hid (decide (x = y) = false) := decide_eq_false (by intro exy; exact e2 (by rw [exy]))
        clear e0 e1 e2
        go_enter Try.func108, Try.ntmps108
        go_wp2_with fail
        go_quiet (fail)
        go_wp2
        go_ret
        exact ⟨by rw [He.out]; rfl, ⟨_, rfl⟩⟩
    · have f1 : (x.level != y.level) = true := by simp [e1]
      have He : Hid (decide (x = y) = false) := decide_eq_false (by intro exy; exact e1 (by rw [exy]))
      clear e0 e1
      go_enter Try.func108, Try.ntmps108
      go_wp2_with fail
      go_quiet (fail)
      go_wp2
      go_ret
      exact ⟨by rw [He.out]; rfl, ⟨_, rfl⟩⟩
  · have f0 : (x.kind != y.kind) = true := by simp [e0]
    have He : Hid (decide (x = y) = false) := decide_eq_false (by intro exy; exact e0 (by rw [exy]))
    clear e0
    go_enter Try.func108, Try.ntmps108
    go_wp2_with fail
    go_quiet (fail)
    go_wp2
    go_ret
    exact ⟨by rw [He.out]; rfl, ⟨_, rfl⟩⟩

end Go.Proofs.Yteibnofhpkcncaa
