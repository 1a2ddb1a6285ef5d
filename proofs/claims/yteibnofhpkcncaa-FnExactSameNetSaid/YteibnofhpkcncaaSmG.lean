/- Equality of nets: the spec's own and the program's. -/
import Derived.Test.YteibnofhpkcncaaSmF
namespace Go.Proofs.Yteibnofhpkcncaa
open Go.RowKit
set_option linter.unusedVariables false
set_option linter.unusedSimpArgs false
set_option maxRecDepth 100000

set_option maxHeartbeats 4000000 in
theorem l11Same_q (b o b' o' : Nat) (A C : Option Addr) (n c m d : Nat) (xs ys : List DAgent) (w : World) {B B' : Nat} (g : w.cell? ⟨b, o, none⟩ = some (.slice A n c)) (g' : w.cell? ⟨b', o', none⟩ = some (.slice C m d))
    (hx : SlAt agentRd 5 w B A n xs) (hn : n ≤ c ∧ c ≤ maxLen) (hy : SlAt agentRd 5 w B' C m ys) (hm : m ≤ d ∧ d ≤ maxLen) :
    Calls Try.prog 71 #[.pointer (some ⟨b, o, none⟩), .pointer (some ⟨b', o', none⟩)] w fun e w' => e = .returned (.bool (eqL xs ys)) ∧ ∃ q, w' = w.drewN q := by
  obtain ⟨hnc, hcm⟩ := hn
  obtain ⟨hmd, hdm⟩ := hm
  unfold maxLen at hcm hdm
  have lx := Lib.hid hx.len
  have ly := Lib.hid hy.len
  by_cases hnm : n = m
  · have hf : ((n : Int) != (m : Int)) = false := by simp [hnm]
    subst hnm
    go_enter Try.func71, Try.ntmps71
    go_wp2_with fail
    go_quiet (fail)
    go_wp2_with fail
    go_loopw [5] (fun i wr => ∃ k : Nat, k ≤ n ∧ i = .int .i64 k ∧ Hid (xs.take k = ys.take k) ∧ Hid (∃ q, wr = w.drewN q)) (fun i _ => n - (intOf i).toNat)
    case atStart => exact ⟨0, by omega, rfl, rfl, ⟨_, rfl⟩⟩
    case round =>
      obtain ⟨k, hk, rfl, ht, hq⟩ := hrel
      by_cases hlt : k < n
      · obtain ⟨pb, off, x, rfl, hb, hxk, hX⟩ := hx.agentAt hlt
        obtain ⟨pb', off', y, rfl, hb', hyk, hY⟩ := hy.agentAt hlt
        have Hxk := Lib.hid hxk
        have Hyk := Lib.hid hyk
        clear hxk hyk
        obtain ⟨q, hwr⟩ := hq
        have hX : AgentAt wr B pb (off + k * 5) x := by rw [hwr]; exact hX.drewN q
        have hY : AgentAt wr B' pb' (off' + k * 5) y := by rw [hwr]; exact hY.drewN q
        have G : wr.cell? ⟨b, o, none⟩ = some (.slice (some ⟨pb, off, none⟩) n c) := by rw [hwr]; exact g
        have G' : wr.cell? ⟨b', o', none⟩ = some (.slice (some ⟨pb', off', none⟩) n d) := by rw [hwr]; exact g'
        have Hwr := Lib.hid hwr
        clear hwr
        by_cases hxy : x = y
        · have hf : decide (x = y) = true := decide_eq_true hxy
          have Hxy := Lib.hid hxy
          clear hxy
          go_wp2_with fail
          go_quiet ((go_at_call 102; refine Calls.quiet_of (l11SameAgent_q _ _ _ _ x y _ (B := B) (B' := B') (hX.drewN _) (hY.drewN _))))
          go_wp2_with fail
          go_roundw
          case rel => exact ⟨k + 1, by omega, by go_num, eqL_step Hxk.out Hyk.out ht.out Hxy.out, ⟨_, by rw [Hwr.out, World.drewN_drewN]⟩⟩
          case measure => simp [intOf]; omega
        · have hf : decide (x = y) = false := decide_eq_false hxy
          have Hno := Lib.hid (eqL_no Hxk.out Hyk.out hxy)
          clear hxy
          go_wp2_with fail
          go_quiet ((go_at_call 102; refine Calls.quiet_of (l11SameAgent_q _ _ _ _ x y _ (B := B) (B' := B') (hX.drewN _) (hY.drewN _))))
          go_wp2_with fail
          go_ret
          exact ⟨by rw [Hno.out]; rfl, ⟨_, by rw [Hwr.out, World.drewN_drewN]⟩⟩
      · have Hyes := Lib.hid (eqL_yes (k := k) ht.out (by have := lx.out; omega) (by have := ly.out; omega))
        obtain ⟨q, rfl⟩ := hq
        go_wp2_with fail
        go_ret
        exact ⟨by rw [Hyes.out]; rfl, ⟨_, rfl⟩⟩
  · have Hno := Lib.hid (eqL_len (xs := xs) (ys := ys) (by have := lx.out; have := ly.out; omega))
    have hf : ((n : Int) != (m : Int)) = true := by simp; omega
    go_enter Try.func71, Try.ntmps71
    go_wp2_with fail
    go_quiet (fail)
    go_wp2_with fail
    go_ret
    exact ⟨by rw [Hno.out]; rfl, ⟨_, rfl⟩⟩

theorem specSameNet_v (v u : Value) (x y : DNet) (w : World) {B B' : Nat} (h : RdT netRd w B v x) (h' : RdT netRd w B' u y) (hB : B ≤ w.heap.size) (hB' : B' ≤ w.heap.size) :
    Calls Try.prog 38 #[v, u] w fun e w' => e = .returned (.bool (decide (x = y))) ∧ Below w.heap.size w w' := by
  obtain ⟨cs, rfl, A1, n1, c1, rfl, ⟨h1, r1⟩⟩ := h
  obtain ⟨cs, rfl, A1', n1', c1', rfl, ⟨h1', r1'⟩⟩ := h'
  have hb : ∀ o1 o2, Below w.heap.size w ((w.alloc o1).alloc o2) := fun o1 o2 => ((Below.refl _ _).alloc (Nat.le_refl _) _).alloc (by simp) _
  have He : Hid (decide (x = y) = eqL x.agents y.agents) := by cases x; cases y; simp [Hid, eqL]
  go_enter Try.func38, Try.ntmps38
  go_wp2_with fail
  refine (l11Same_q _ _ _ _ A1 A1' n1 c1 n1' c1' x.agents y.agents _ (B := B) (B' := B') (by simp [go_sem]) (by simp [go_sem]) (h1.below agentRd_ok ((hb _ _).mono hB)) r1 (h1'.below agentRd_ok ((hb _ _).mono hB')) r1').mono ?_
  rintro e w1 ⟨rfl, q, rfl⟩
  go_wp2_with fail
  go_ret
  exact ⟨by rw [He.out]; rfl, below_drewN (hb _ _) _⟩

theorem implSameNet_v (v u : Value) (x y : DNet) (w : World) {B B' : Nat} (h : RdT netRd w B v x) (h' : RdT netRd w B' u y) (hB : B ≤ w.heap.size) (hB' : B' ≤ w.heap.size) :
    Calls Try.prog 40 #[v, u] w fun e w' => e = .returned (.bool (decide (x = y))) ∧ Below w.heap.size w w' := by
  obtain ⟨cs, rfl, A1, n1, c1, rfl, ⟨h1, r1⟩⟩ := h
  obtain ⟨cs, rfl, A1', n1', c1', rfl, ⟨h1', r1'⟩⟩ := h'
  have hb : ∀ o1 o2, Below w.heap.size w ((w.alloc o1).alloc o2) := fun o1 o2 => ((Below.refl _ _).alloc (Nat.le_refl _) _).alloc (by simp) _
  have He : Hid (decide (x = y) = eqL x.agents y.agents) := by cases x; cases y; simp [Hid, eqL]
  go_enter Try.func40, Try.ntmps40
  go_wp2_with fail
  refine (EqualFuncAgent_v _ _ x.agents y.agents _ (B := B) (B' := B') ⟨A1, n1, c1, rfl, h1.below agentRd_ok ((hb _ _).mono hB), r1⟩ ⟨A1', n1', c1', rfl, h1'.below agentRd_ok ((hb _ _).mono hB'), r1'⟩ (Nat.le_trans hB (hb _ _).size) (Nat.le_trans hB' (hb _ _).size)).mono ?_
  rintro e w1 ⟨rfl, q⟩
  have T := (hb _ _).trans (q.mono (hb _ _).size)
  clear q
  go_wp2_with fail
  go_ret
  exact ⟨by rw [He.out]; rfl, T⟩

end Go.Proofs.Yteibnofhpkcncaa
