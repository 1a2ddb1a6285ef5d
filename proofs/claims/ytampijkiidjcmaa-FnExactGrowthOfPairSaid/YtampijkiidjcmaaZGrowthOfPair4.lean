/- Lemmas of the proof of GrowthOfPair, part 4. No condition. -/
import Derived.Test.YtampijkiidjcmaaZGrowthOfPair3
namespace Go.Proofs.Ytampijkiidjcmaa
section
open Go.RowKit
set_option linter.unusedVariables false
set_option linter.unusedSimpArgs false
set_option maxRecDepth 100000
def m_spec_l13Class (d0 : DAgent) (d1 : DAgent) : Option Int :=
  (bif (d0.kind == 9) then (bif (d1.kind == 10) then (bif (decide (d0.value ≥ (d1.data.length : Int))) then some 8 else (bif (d0.kind == 10) then (bif (d1.kind == 9) then (bif (decide (d1.value ≥ (d0.data.length : Int))) then some 8 else some (pairClass d0.kind d0.level d1.kind d1.level)) else some (pairClass d0.kind d0.level d1.kind d1.level)) else some (pairClass d0.kind d0.level d1.kind d1.level))) else (bif (d0.kind == 10) then (bif (d1.kind == 9) then (bif (decide (d1.value ≥ (d0.data.length : Int))) then some 8 else some (pairClass d0.kind d0.level d1.kind d1.level)) else some (pairClass d0.kind d0.level d1.kind d1.level)) else some (pairClass d0.kind d0.level d1.kind d1.level))) else (bif (d0.kind == 10) then (bif (d1.kind == 9) then (bif (decide (d1.value ≥ (d0.data.length : Int))) then some 8 else some (pairClass d0.kind d0.level d1.kind d1.level)) else some (pairClass d0.kind d0.level d1.kind d1.level)) else some (pairClass d0.kind d0.level d1.kind d1.level)))
set_option maxHeartbeats 2000000 in
theorem c_m_spec_l13Class (d0 : DAgent) (d1 : DAgent) (r : Int) (hm : m_spec_l13Class d0 d1 = some r) (v0 : Value) (v1 : Value) (w : World) (hv0 : Pt agentRd w v0 d0) (hv1 : Pt agentRd w v1 d1) :
    Calls Try.prog 61 #[v0, v1] w fun e w' => e = .returned (.int .i64 r) ∧ Below w.heap.size w w' := by
  obtain ⟨ba0, oa0, csa0, rfl, hba0, hRa0, hca0⟩ := hv0
  have hSa0 := hRa0
  obtain ⟨A1, n1, c1, A2, n2, c2, rfl, ⟨h1, r1⟩, ⟨h2, r2⟩⟩ := hRa0
  have e1 := h1.len; subst e1
  have q1 := len_le r1
  have e2 := h2.len; subst e2
  have q2 := len_le r2
  obtain ⟨ba1, oa1, csa1, rfl, hba1, hRa1, hca1⟩ := hv1
  have hSa1 := hRa1
  obtain ⟨A3, n3, c3, A4, n4, c4, rfl, ⟨h3, r3⟩, ⟨h4, r4⟩⟩ := hRa1
  have e3 := h3.len; subst e3
  have q3 := len_le r3
  have e4 := h4.len; subst e4
  have q4 := len_le r4
  have T := Below.refl w.heap.size w
  unfold m_spec_l13Class at hm
  refine enter 70 Try.func61 rfl rfl rfl ?_
  intro f hf
  have s0 : f 0 = .pointer (some ⟨ba0, oa0, none⟩) := hf 0 _ rfl
  have s1 : f 1 = .pointer (some ⟨ba1, oa1, none⟩) := hf 1 _ rfl
  refine wp_seq ?_
  refine wp_rs rfl ?_
  refine RQ.y rfl (Y.assign (v := .int .i64 0) rfl) ?_
  refine RQ.nil ?_
  refine then_n ?_
  refine wp_seq ?_
  refine wp_seq ?_
  refine wp_rbd (by kernel_rfl) (by kernel_rfl) ?_
  refine RQ.y rfl (Y.move (v := .pointer (some ⟨ba0, oa0, none⟩)) s0) ?_
  refine RQ.y rfl (Y.nilCheck rfl) ?_
  refine RQ.y rfl (Y.fieldAddr (off := 0) rfl (by kernel_rfl)) ?_
  refine RQ.y rfl (Y.load (v := .int .i64 d0.kind) rfl (by kernel_rfl) (beC (cellT T (hca0 0 _ rfl)))) ?_
  refine RQ.y rfl (Y.binI (v := .bool (d0.kind == 9)) rfl rfl rfl) ?_
  refine RQ.y rfl (Y.move (v := .bool (d0.kind == 9)) rfl) ?_
  rcases bcases (d0.kind == 9) with c5 | c5
  · replace hm := cF c5 hm
    refine RQ.skip (wantN (dj := 10) rfl (vb rfl c5) rfl) ?_
    refine RQ.skip (wantN (dj := 10) rfl (vb rfl c5) rfl) ?_
    refine RQ.skip (wantN (dj := 10) rfl (vb rfl c5) rfl) ?_
    refine RQ.skip (wantN (dj := 10) rfl (vb rfl c5) rfl) ?_
    refine RQ.skip (wantN (dj := 10) rfl (vb rfl c5) rfl) ?_
    refine RQ.y rfl (Y.pick (b := false) (v := .bool false) (vb rfl c5) rfl) ?_
    refine RQ.y rfl (Y.move (v := .bool false) rfl) ?_
    refine RQ.skip (wantN (dj := 17) rfl rfl rfl) ?_
    refine RQ.skip (wantN (dj := 17) rfl rfl rfl) ?_
    refine RQ.skip (wantN (dj := 17) rfl rfl rfl) ?_
    refine RQ.skip (wantN (dj := 17) rfl rfl rfl) ?_
    refine RQ.skip (wantN (dj := 17) rfl rfl rfl) ?_
    refine RQ.skip (wantN (dj := 17) rfl rfl rfl) ?_
    refine RQ.skip (wantN (dj := 17) rfl rfl rfl) ?_
    refine RQ.skip (wantN (dj := 17) rfl rfl rfl) ?_
    refine RQ.skip (wantN (dj := 17) rfl rfl rfl) ?_
    refine RQ.skip (wantN (dj := 17) rfl rfl rfl) ?_
    refine RQ.y rfl (Y.pick (b := false) (v := .bool false) rfl rfl) ?_
    refine RQ.nil ?_
    intro w6 hb7
    have szw6 := hb7.size
    have T := Tt T hb7
    refine then_n ?_
    refine cond_f rfl rfl ?_
    refine wp_skip ?_
    refine then_n ?_
    refine wp_seq ?_
    refine wp_seq ?_
    refine wp_rbd (by kernel_rfl) (by kernel_rfl) ?_
    refine RQ.y rfl (Y.move (v := .pointer (some ⟨ba0, oa0, none⟩)) s0) ?_
    refine RQ.y rfl (Y.nilCheck rfl) ?_
    refine RQ.y rfl (Y.fieldAddr (off := 0) rfl (by kernel_rfl)) ?_
    refine RQ.y rfl (Y.load (v := .int .i64 d0.kind) rfl (by kernel_rfl) (beC (cellT T (hca0 0 _ rfl)))) ?_
    refine RQ.y rfl (Y.binI (v := .bool (d0.kind == 10)) rfl rfl rfl) ?_
    refine RQ.y rfl (Y.move (v := .bool (d0.kind == 10)) rfl) ?_
    rcases bcases (d0.kind == 10) with c8 | c8
    · replace hm := cF c8 hm
      refine RQ.skip (wantN (dj := 34) rfl (vb rfl c8) rfl) ?_
      refine RQ.skip (wantN (dj := 34) rfl (vb rfl c8) rfl) ?_
      refine RQ.skip (wantN (dj := 34) rfl (vb rfl c8) rfl) ?_
      refine RQ.skip (wantN (dj := 34) rfl (vb rfl c8) rfl) ?_
      refine RQ.skip (wantN (dj := 34) rfl (vb rfl c8) rfl) ?_
      refine RQ.y rfl (Y.pick (b := false) (v := .bool false) (vb rfl c8) rfl) ?_
      refine RQ.y rfl (Y.move (v := .bool false) rfl) ?_
      refine RQ.skip (wantN (dj := 41) rfl rfl rfl) ?_
      refine RQ.skip (wantN (dj := 41) rfl rfl rfl) ?_
      refine RQ.skip (wantN (dj := 41) rfl rfl rfl) ?_
      refine RQ.skip (wantN (dj := 41) rfl rfl rfl) ?_
      refine RQ.skip (wantN (dj := 41) rfl rfl rfl) ?_
      refine RQ.skip (wantN (dj := 41) rfl rfl rfl) ?_
      refine RQ.skip (wantN (dj := 41) rfl rfl rfl) ?_
      refine RQ.skip (wantN (dj := 41) rfl rfl rfl) ?_
      refine RQ.skip (wantN (dj := 41) rfl rfl rfl) ?_
      refine RQ.skip (wantN (dj := 41) rfl rfl rfl) ?_
      refine RQ.y rfl (Y.pick (b := false) (v := .bool false) rfl rfl) ?_
      refine RQ.nil ?_
      intro w9 hb10
      have szw9 := hb10.size
      have T := Tt T hb10
      refine then_n ?_
      refine cond_f rfl rfl ?_
      refine wp_skip ?_
      refine then_n ?_
      refine wp_seq ?_
      refine wp_rbd (by kernel_rfl) (by kernel_rfl) ?_
      refine RQ.y rfl (Y.move (v := .pointer (some ⟨ba0, oa0, none⟩)) s0) ?_
      refine RQ.y rfl (Y.nilCheck rfl) ?_
      refine RQ.y rfl (Y.fieldAddr (off := 0) rfl (by kernel_rfl)) ?_
      refine RQ.y rfl (Y.load (v := .int .i64 d0.kind) rfl (by kernel_rfl) (beC (cellT T (hca0 0 _ rfl)))) ?_
      refine RQ.y rfl (Y.move (v := .pointer (some ⟨ba0, oa0, none⟩)) s0) ?_
      refine RQ.y rfl (Y.nilCheck rfl) ?_
      refine RQ.y rfl (Y.fieldAddr (off := 1) rfl (by kernel_rfl)) ?_
      refine RQ.y rfl (Y.load (v := .int .i64 d0.level) rfl (by kernel_rfl) (beC (cellT T (hca0 1 _ rfl)))) ?_
      refine RQ.y rfl (Y.move (v := .pointer (some ⟨ba1, oa1, none⟩)) s1) ?_
      refine RQ.y rfl (Y.nilCheck rfl) ?_
      refine RQ.y rfl (Y.fieldAddr (off := 0) rfl (by kernel_rfl)) ?_
      refine RQ.y rfl (Y.load (v := .int .i64 d1.kind) rfl (by kernel_rfl) (beC (cellT T (hca1 0 _ rfl)))) ?_
      refine RQ.y rfl (Y.move (v := .pointer (some ⟨ba1, oa1, none⟩)) s1) ?_
      refine RQ.y rfl (Y.nilCheck rfl) ?_
      refine RQ.y rfl (Y.fieldAddr (off := 1) rfl (by kernel_rfl)) ?_
      refine RQ.y rfl (Y.load (v := .int .i64 d1.level) rfl (by kernel_rfl) (beC (cellT T (hca1 1 _ rfl)))) ?_
      refine RQ.call rfl (am4 rfl rfl rfl rfl) (by kernel_rfl) (v := .int .i64 (pairClass d0.kind d0.level d1.kind d1.level)) (bel (K := fun _ => True) fun w' hb' => (callB (spec_PairClass d0.kind d0.level d1.kind d1.level w'))) ?_
      refine RQ.y rfl (Y.assign (v := .int .i64 (pairClass d0.kind d0.level d1.kind d1.level)) rfl) ?_
      refine RQ.nil ?_
      intro w11 hb12
      have szw11 := hb12.size
      have T := Tt T hb12
      refine then_n ?_
      refine wp_ret ?_
      obtain rfl := Option.some.inj hm
      exact (ret1 rfl rfl rfl ⟨rfl, T⟩)
    · replace hm := cT c8 hm
      refine RQ.y (wantT (dj := 34) rfl (vb rfl c8)) (Y.move (v := .pointer (some ⟨ba1, oa1, none⟩)) s1) ?_
      refine RQ.y (wantT (dj := 34) rfl (vb rfl c8)) (Y.nilCheck rfl) ?_
      refine RQ.y (wantT (dj := 34) rfl (vb rfl c8)) (Y.fieldAddr (off := 0) rfl (by kernel_rfl)) ?_
      refine RQ.y (wantT (dj := 34) rfl (vb rfl c8)) (Y.load (v := .int .i64 d1.kind) rfl (by kernel_rfl) (beC (cellT T (hca1 0 _ rfl)))) ?_
      refine RQ.y (wantT (dj := 34) rfl (vb rfl c8)) (Y.binI (v := .bool (d1.kind == 9)) rfl rfl rfl) ?_
      refine RQ.y rfl (Y.pick (b := true) (v := .bool (d1.kind == 9)) (vb rfl c8) rfl) ?_
      refine RQ.y rfl (Y.move (v := .bool (d1.kind == 9)) rfl) ?_
      rcases bcases (d1.kind == 9) with c13 | c13
      · replace hm := cF c13 hm
        refine RQ.skip (wantN (dj := 41) rfl (vb rfl c13) rfl) ?_
        refine RQ.skip (wantN (dj := 41) rfl (vb rfl c13) rfl) ?_
        refine RQ.skip (wantN (dj := 41) rfl (vb rfl c13) rfl) ?_
        refine RQ.skip (wantN (dj := 41) rfl (vb rfl c13) rfl) ?_
        refine RQ.skip (wantN (dj := 41) rfl (vb rfl c13) rfl) ?_
        refine RQ.skip (wantN (dj := 41) rfl (vb rfl c13) rfl) ?_
        refine RQ.skip (wantN (dj := 41) rfl (vb rfl c13) rfl) ?_
        refine RQ.skip (wantN (dj := 41) rfl (vb rfl c13) rfl) ?_
        refine RQ.skip (wantN (dj := 41) rfl (vb rfl c13) rfl) ?_
        refine RQ.skip (wantN (dj := 41) rfl (vb rfl c13) rfl) ?_
        refine RQ.y rfl (Y.pick (b := false) (v := .bool false) (vb rfl c13) rfl) ?_
        refine RQ.nil ?_
        intro w14 hb15
        have szw14 := hb15.size
        have T := Tt T hb15
        refine then_n ?_
        refine cond_f rfl rfl ?_
        refine wp_skip ?_
        refine then_n ?_
        refine wp_seq ?_
        refine wp_rbd (by kernel_rfl) (by kernel_rfl) ?_
        refine RQ.y rfl (Y.move (v := .pointer (some ⟨ba0, oa0, none⟩)) s0) ?_
        refine RQ.y rfl (Y.nilCheck rfl) ?_
        refine RQ.y rfl (Y.fieldAddr (off := 0) rfl (by kernel_rfl)) ?_
        refine RQ.y rfl (Y.load (v := .int .i64 d0.kind) rfl (by kernel_rfl) (beC (cellT T (hca0 0 _ rfl)))) ?_
        refine RQ.y rfl (Y.move (v := .pointer (some ⟨ba0, oa0, none⟩)) s0) ?_
        refine RQ.y rfl (Y.nilCheck rfl) ?_
        refine RQ.y rfl (Y.fieldAddr (off := 1) rfl (by kernel_rfl)) ?_
        refine RQ.y rfl (Y.load (v := .int .i64 d0.level) rfl (by kernel_rfl) (beC (cellT T (hca0 1 _ rfl)))) ?_
        refine RQ.y rfl (Y.move (v := .pointer (some ⟨ba1, oa1, none⟩)) s1) ?_
        refine RQ.y rfl (Y.nilCheck rfl) ?_
        refine RQ.y rfl (Y.fieldAddr (off := 0) rfl (by kernel_rfl)) ?_
        refine RQ.y rfl (Y.load (v := .int .i64 d1.kind) rfl (by kernel_rfl) (beC (cellT T (hca1 0 _ rfl)))) ?_
        refine RQ.y rfl (Y.move (v := .pointer (some ⟨ba1, oa1, none⟩)) s1) ?_
        refine RQ.y rfl (Y.nilCheck rfl) ?_
        refine RQ.y rfl (Y.fieldAddr (off := 1) rfl (by kernel_rfl)) ?_
        refine RQ.y rfl (Y.load (v := .int .i64 d1.level) rfl (by kernel_rfl) (beC (cellT T (hca1 1 _ rfl)))) ?_
        refine RQ.call rfl (am4 rfl rfl rfl rfl) (by kernel_rfl) (v := .int .i64 (pairClass d0.kind d0.level d1.kind d1.level)) (bel (K := fun _ => True) fun w' hb' => (callB (spec_PairClass d0.kind d0.level d1.kind d1.level w'))) ?_
        refine RQ.y rfl (Y.assign (v := .int .i64 (pairClass d0.kind d0.level d1.kind d1.level)) rfl) ?_
        refine RQ.nil ?_
        intro w16 hb17
        have szw16 := hb17.size
        have T := Tt T hb17
        refine then_n ?_
        refine wp_ret ?_
        obtain rfl := Option.some.inj hm
        exact (ret1 rfl rfl rfl ⟨rfl, T⟩)
      · replace hm := cT c13 hm
        refine RQ.y (wantT (dj := 41) rfl (vb rfl c13)) (Y.move (v := .pointer (some ⟨ba1, oa1, none⟩)) s1) ?_
        refine RQ.y (wantT (dj := 41) rfl (vb rfl c13)) (Y.nilCheck rfl) ?_
        refine RQ.y (wantT (dj := 41) rfl (vb rfl c13)) (Y.fieldAddr (off := 2) rfl (by kernel_rfl)) ?_
        refine RQ.y (wantT (dj := 41) rfl (vb rfl c13)) (Y.load (v := .int .i64 d1.value) rfl (by kernel_rfl) (beC (cellT T (hca1 2 _ rfl)))) ?_
        refine RQ.y (wantT (dj := 41) rfl (vb rfl c13)) (Y.move (v := .pointer (some ⟨ba0, oa0, none⟩)) s0) ?_
        refine RQ.y (wantT (dj := 41) rfl (vb rfl c13)) (Y.nilCheck rfl) ?_
        refine RQ.y (wantT (dj := 41) rfl (vb rfl c13)) (Y.fieldAddr (off := 3) rfl (by kernel_rfl)) ?_
        refine RQ.y (wantT (dj := 41) rfl (vb rfl c13)) (Y.load (v := .slice A1 d0.data.length c1) rfl (by kernel_rfl) (beC (cellT T (hca0 3 _ rfl)))) ?_
        refine RQ.y (wantT (dj := 41) rfl (vb rfl c13)) (Y.len (by kernel_rfl) rfl) ?_
        refine RQ.y (wantT (dj := 41) rfl (vb rfl c13)) (Y.binI (v := .bool (decide (d1.value ≥ (d0.data.length : Int)))) rfl rfl rfl) ?_
        refine RQ.y rfl (Y.pick (b := true) (v := .bool (decide (d1.value ≥ (d0.data.length : Int)))) (vb rfl c13) rfl) ?_
        refine RQ.nil ?_
        intro w18 hb19
        have szw18 := hb19.size
        have T := Tt T hb19
        refine then_n ?_
        rcases bcases (decide (d1.value ≥ (d0.data.length : Int))) with c20 | c20
        · replace hm := cF c20 hm
          have pc20 := of_decide_eq_false c20
          refine cond_f rfl (vb rfl c20) ?_
          refine wp_skip ?_
          refine then_n ?_
          refine wp_seq ?_
          refine wp_rbd (by kernel_rfl) (by kernel_rfl) ?_
          refine RQ.y rfl (Y.move (v := .pointer (some ⟨ba0, oa0, none⟩)) s0) ?_
          refine RQ.y rfl (Y.nilCheck rfl) ?_
          refine RQ.y rfl (Y.fieldAddr (off := 0) rfl (by kernel_rfl)) ?_
          refine RQ.y rfl (Y.load (v := .int .i64 d0.kind) rfl (by kernel_rfl) (beC (cellT T (hca0 0 _ rfl)))) ?_
          refine RQ.y rfl (Y.move (v := .pointer (some ⟨ba0, oa0, none⟩)) s0) ?_
          refine RQ.y rfl (Y.nilCheck rfl) ?_
          refine RQ.y rfl (Y.fieldAddr (off := 1) rfl (by kernel_rfl)) ?_
          refine RQ.y rfl (Y.load (v := .int .i64 d0.level) rfl (by kernel_rfl) (beC (cellT T (hca0 1 _ rfl)))) ?_
          refine RQ.y rfl (Y.move (v := .pointer (some ⟨ba1, oa1, none⟩)) s1) ?_
          refine RQ.y rfl (Y.nilCheck rfl) ?_
          refine RQ.y rfl (Y.fieldAddr (off := 0) rfl (by kernel_rfl)) ?_
          refine RQ.y rfl (Y.load (v := .int .i64 d1.kind) rfl (by kernel_rfl) (beC (cellT T (hca1 0 _ rfl)))) ?_
          refine RQ.y rfl (Y.move (v := .pointer (some ⟨ba1, oa1, none⟩)) s1) ?_
          refine RQ.y rfl (Y.nilCheck rfl) ?_
          refine RQ.y rfl (Y.fieldAddr (off := 1) rfl (by kernel_rfl)) ?_
          refine RQ.y rfl (Y.load (v := .int .i64 d1.level) rfl (by kernel_rfl) (beC (cellT T (hca1 1 _ rfl)))) ?_
          refine RQ.call rfl (am4 rfl rfl rfl rfl) (by kernel_rfl) (v := .int .i64 (pairClass d0.kind d0.level d1.kind d1.level)) (bel (K := fun _ => True) fun w' hb' => (callB (spec_PairClass d0.kind d0.level d1.kind d1.level w'))) ?_
          refine RQ.y rfl (Y.assign (v := .int .i64 (pairClass d0.kind d0.level d1.kind d1.level)) rfl) ?_
          refine RQ.nil ?_
          intro w21 hb22
          have szw21 := hb22.size
          have T := Tt T hb22
          refine then_n ?_
          refine wp_ret ?_
          obtain rfl := Option.some.inj hm
          exact (ret1 rfl rfl rfl ⟨rfl, T⟩)
        · replace hm := cT c20 hm
          have pc20 := of_decide_eq_true c20
          refine cond_t rfl (vb rfl c20) ?_
          refine wp_seq ?_
          refine wp_rs rfl ?_
          refine RQ.y rfl (Y.assign (v := .int .i64 8) rfl) ?_
          refine RQ.nil ?_
          refine then_n ?_
          refine wp_ret ?_
          obtain rfl := Option.some.inj hm
          exact (then_r (ret1 rfl rfl rfl ⟨rfl, T⟩))
  · replace hm := cT c5 hm
    refine RQ.y (wantT (dj := 10) rfl (vb rfl c5)) (Y.move (v := .pointer (some ⟨ba1, oa1, none⟩)) s1) ?_
    refine RQ.y (wantT (dj := 10) rfl (vb rfl c5)) (Y.nilCheck rfl) ?_
    refine RQ.y (wantT (dj := 10) rfl (vb rfl c5)) (Y.fieldAddr (off := 0) rfl (by kernel_rfl)) ?_
    refine RQ.y (wantT (dj := 10) rfl (vb rfl c5)) (Y.load (v := .int .i64 d1.kind) rfl (by kernel_rfl) (beC (cellT T (hca1 0 _ rfl)))) ?_
    refine RQ.y (wantT (dj := 10) rfl (vb rfl c5)) (Y.binI (v := .bool (d1.kind == 10)) rfl rfl rfl) ?_
    refine RQ.y rfl (Y.pick (b := true) (v := .bool (d1.kind == 10)) (vb rfl c5) rfl) ?_
    refine RQ.y rfl (Y.move (v := .bool (d1.kind == 10)) rfl) ?_
    rcases bcases (d1.kind == 10) with c23 | c23
    · replace hm := cF c23 hm
      refine RQ.skip (wantN (dj := 17) rfl (vb rfl c23) rfl) ?_
      refine RQ.skip (wantN (dj := 17) rfl (vb rfl c23) rfl) ?_
      refine RQ.skip (wantN (dj := 17) rfl (vb rfl c23) rfl) ?_
      refine RQ.skip (wantN (dj := 17) rfl (vb rfl c23) rfl) ?_
      refine RQ.skip (wantN (dj := 17) rfl (vb rfl c23) rfl) ?_
      refine RQ.skip (wantN (dj := 17) rfl (vb rfl c23) rfl) ?_
      refine RQ.skip (wantN (dj := 17) rfl (vb rfl c23) rfl) ?_
      refine RQ.skip (wantN (dj := 17) rfl (vb rfl c23) rfl) ?_
      refine RQ.skip (wantN (dj := 17) rfl (vb rfl c23) rfl) ?_
      refine RQ.skip (wantN (dj := 17) rfl (vb rfl c23) rfl) ?_
      refine RQ.y rfl (Y.pick (b := false) (v := .bool false) (vb rfl c23) rfl) ?_
      refine RQ.nil ?_
      intro w24 hb25
      have szw24 := hb25.size
      have T := Tt T hb25
      refine then_n ?_
      refine cond_f rfl rfl ?_
      refine wp_skip ?_
      refine then_n ?_
      refine wp_seq ?_
      refine wp_seq ?_
      refine wp_rbd (by kernel_rfl) (by kernel_rfl) ?_
      refine RQ.y rfl (Y.move (v := .pointer (some ⟨ba0, oa0, none⟩)) s0) ?_
      refine RQ.y rfl (Y.nilCheck rfl) ?_
      refine RQ.y rfl (Y.fieldAddr (off := 0) rfl (by kernel_rfl)) ?_
      refine RQ.y rfl (Y.load (v := .int .i64 d0.kind) rfl (by kernel_rfl) (beC (cellT T (hca0 0 _ rfl)))) ?_
      refine RQ.y rfl (Y.binI (v := .bool (d0.kind == 10)) rfl rfl rfl) ?_
      refine RQ.y rfl (Y.move (v := .bool (d0.kind == 10)) rfl) ?_
      rcases bcases (d0.kind == 10) with c26 | c26
      · replace hm := cF c26 hm
        refine RQ.skip (wantN (dj := 34) rfl (vb rfl c26) rfl) ?_
        refine RQ.skip (wantN (dj := 34) rfl (vb rfl c26) rfl) ?_
        refine RQ.skip (wantN (dj := 34) rfl (vb rfl c26) rfl) ?_
        refine RQ.skip (wantN (dj := 34) rfl (vb rfl c26) rfl) ?_
        refine RQ.skip (wantN (dj := 34) rfl (vb rfl c26) rfl) ?_
        refine RQ.y rfl (Y.pick (b := false) (v := .bool false) (vb rfl c26) rfl) ?_
        refine RQ.y rfl (Y.move (v := .bool false) rfl) ?_
        refine RQ.skip (wantN (dj := 41) rfl rfl rfl) ?_
        refine RQ.skip (wantN (dj := 41) rfl rfl rfl) ?_
        refine RQ.skip (wantN (dj := 41) rfl rfl rfl) ?_
        refine RQ.skip (wantN (dj := 41) rfl rfl rfl) ?_
        refine RQ.skip (wantN (dj := 41) rfl rfl rfl) ?_
        refine RQ.skip (wantN (dj := 41) rfl rfl rfl) ?_
        refine RQ.skip (wantN (dj := 41) rfl rfl rfl) ?_
        refine RQ.skip (wantN (dj := 41) rfl rfl rfl) ?_
        refine RQ.skip (wantN (dj := 41) rfl rfl rfl) ?_
        refine RQ.skip (wantN (dj := 41) rfl rfl rfl) ?_
        refine RQ.y rfl (Y.pick (b := false) (v := .bool false) rfl rfl) ?_
        refine RQ.nil ?_
        intro w27 hb28
        have szw27 := hb28.size
        have T := Tt T hb28
        refine then_n ?_
        refine cond_f rfl rfl ?_
        refine wp_skip ?_
        refine then_n ?_
        refine wp_seq ?_
        refine wp_rbd (by kernel_rfl) (by kernel_rfl) ?_
        refine RQ.y rfl (Y.move (v := .pointer (some ⟨ba0, oa0, none⟩)) s0) ?_
        refine RQ.y rfl (Y.nilCheck rfl) ?_
        refine RQ.y rfl (Y.fieldAddr (off := 0) rfl (by kernel_rfl)) ?_
        refine RQ.y rfl (Y.load (v := .int .i64 d0.kind) rfl (by kernel_rfl) (beC (cellT T (hca0 0 _ rfl)))) ?_
        refine RQ.y rfl (Y.move (v := .pointer (some ⟨ba0, oa0, none⟩)) s0) ?_
        refine RQ.y rfl (Y.nilCheck rfl) ?_
        refine RQ.y rfl (Y.fieldAddr (off := 1) rfl (by kernel_rfl)) ?_
        refine RQ.y rfl (Y.load (v := .int .i64 d0.level) rfl (by kernel_rfl) (beC (cellT T (hca0 1 _ rfl)))) ?_
        refine RQ.y rfl (Y.move (v := .pointer (some ⟨ba1, oa1, none⟩)) s1) ?_
        refine RQ.y rfl (Y.nilCheck rfl) ?_
        refine RQ.y rfl (Y.fieldAddr (off := 0) rfl (by kernel_rfl)) ?_
        refine RQ.y rfl (Y.load (v := .int .i64 d1.kind) rfl (by kernel_rfl) (beC (cellT T (hca1 0 _ rfl)))) ?_
        refine RQ.y rfl (Y.move (v := .pointer (some ⟨ba1, oa1, none⟩)) s1) ?_
        refine RQ.y rfl (Y.nilCheck rfl) ?_
        refine RQ.y rfl (Y.fieldAddr (off := 1) rfl (by kernel_rfl)) ?_
        refine RQ.y rfl (Y.load (v := .int .i64 d1.level) rfl (by kernel_rfl) (beC (cellT T (hca1 1 _ rfl)))) ?_
        refine RQ.call rfl (am4 rfl rfl rfl rfl) (by kernel_rfl) (v := .int .i64 (pairClass d0.kind d0.level d1.kind d1.level)) (bel (K := fun _ => True) fun w' hb' => (callB (spec_PairClass d0.kind d0.level d1.kind d1.level w'))) ?_
        refine RQ.y rfl (Y.assign (v := .int .i64 (pairClass d0.kind d0.level d1.kind d1.level)) rfl) ?_
        refine RQ.nil ?_
        intro w29 hb30
        have szw29 := hb30.size
        have T := Tt T hb30
        refine then_n ?_
        refine wp_ret ?_
        obtain rfl := Option.some.inj hm
        exact (ret1 rfl rfl rfl ⟨rfl, T⟩)
      · replace hm := cT c26 hm
        refine RQ.y (wantT (dj := 34) rfl (vb rfl c26)) (Y.move (v := .pointer (some ⟨ba1, oa1, none⟩)) s1) ?_
        refine RQ.y (wantT (dj := 34) rfl (vb rfl c26)) (Y.nilCheck rfl) ?_
        refine RQ.y (wantT (dj := 34) rfl (vb rfl c26)) (Y.fieldAddr (off := 0) rfl (by kernel_rfl)) ?_
        refine RQ.y (wantT (dj := 34) rfl (vb rfl c26)) (Y.load (v := .int .i64 d1.kind) rfl (by kernel_rfl) (beC (cellT T (hca1 0 _ rfl)))) ?_
        refine RQ.y (wantT (dj := 34) rfl (vb rfl c26)) (Y.binI (v := .bool (d1.kind == 9)) rfl rfl rfl) ?_
        refine RQ.y rfl (Y.pick (b := true) (v := .bool (d1.kind == 9)) (vb rfl c26) rfl) ?_
        refine RQ.y rfl (Y.move (v := .bool (d1.kind == 9)) rfl) ?_
        rcases bcases (d1.kind == 9) with c31 | c31
        · replace hm := cF c31 hm
          refine RQ.skip (wantN (dj := 41) rfl (vb rfl c31) rfl) ?_
          refine RQ.skip (wantN (dj := 41) rfl (vb rfl c31) rfl) ?_
          refine RQ.skip (wantN (dj := 41) rfl (vb rfl c31) rfl) ?_
          refine RQ.skip (wantN (dj := 41) rfl (vb rfl c31) rfl) ?_
          refine RQ.skip (wantN (dj := 41) rfl (vb rfl c31) rfl) ?_
          refine RQ.skip (wantN (dj := 41) rfl (vb rfl c31) rfl) ?_
          refine RQ.skip (wantN (dj := 41) rfl (vb rfl c31) rfl) ?_
          refine RQ.skip (wantN (dj := 41) rfl (vb rfl c31) rfl) ?_
          refine RQ.skip (wantN (dj := 41) rfl (vb rfl c31) rfl) ?_
          refine RQ.skip (wantN (dj := 41) rfl (vb rfl c31) rfl) ?_
          refine RQ.y rfl (Y.pick (b := false) (v := .bool false) (vb rfl c31) rfl) ?_
          refine RQ.nil ?_
          intro w32 hb33
          have szw32 := hb33.size
          have T := Tt T hb33
          refine then_n ?_
          refine cond_f rfl rfl ?_
          refine wp_skip ?_
          refine then_n ?_
          refine wp_seq ?_
          refine wp_rbd (by kernel_rfl) (by kernel_rfl) ?_
          refine RQ.y rfl (Y.move (v := .pointer (some ⟨ba0, oa0, none⟩)) s0) ?_
          refine RQ.y rfl (Y.nilCheck rfl) ?_
          refine RQ.y rfl (Y.fieldAddr (off := 0) rfl (by kernel_rfl)) ?_
          refine RQ.y rfl (Y.load (v := .int .i64 d0.kind) rfl (by kernel_rfl) (beC (cellT T (hca0 0 _ rfl)))) ?_
          refine RQ.y rfl (Y.move (v := .pointer (some ⟨ba0, oa0, none⟩)) s0) ?_
          refine RQ.y rfl (Y.nilCheck rfl) ?_
          refine RQ.y rfl (Y.fieldAddr (off := 1) rfl (by kernel_rfl)) ?_
          refine RQ.y rfl (Y.load (v := .int .i64 d0.level) rfl (by kernel_rfl) (beC (cellT T (hca0 1 _ rfl)))) ?_
          refine RQ.y rfl (Y.move (v := .pointer (some ⟨ba1, oa1, none⟩)) s1) ?_
          refine RQ.y rfl (Y.nilCheck rfl) ?_
          refine RQ.y rfl (Y.fieldAddr (off := 0) rfl (by kernel_rfl)) ?_
          refine RQ.y rfl (Y.load (v := .int .i64 d1.kind) rfl (by kernel_rfl) (beC (cellT T (hca1 0 _ rfl)))) ?_
          refine RQ.y rfl (Y.move (v := .pointer (some ⟨ba1, oa1, none⟩)) s1) ?_
          refine RQ.y rfl (Y.nilCheck rfl) ?_
          refine RQ.y rfl (Y.fieldAddr (off := 1) rfl (by kernel_rfl)) ?_
          refine RQ.y rfl (Y.load (v := .int .i64 d1.level) rfl (by kernel_rfl) (beC (cellT T (hca1 1 _ rfl)))) ?_
          refine RQ.call rfl (am4 rfl rfl rfl rfl) (by kernel_rfl) (v := .int .i64 (pairClass d0.kind d0.level d1.kind d1.level)) (bel (K := fun _ => True) fun w' hb' => (callB (spec_PairClass d0.kind d0.level d1.kind d1.level w'))) ?_
          refine RQ.y rfl (Y.assign (v := .int .i64 (pairClass d0.kind d0.level d1.kind d1.level)) rfl) ?_
          refine RQ.nil ?_
          intro w34 hb35
          have szw34 := hb35.size
          have T := Tt T hb35
          refine then_n ?_
          refine wp_ret ?_
          obtain rfl := Option.some.inj hm
          exact (ret1 rfl rfl rfl ⟨rfl, T⟩)
        · replace hm := cT c31 hm
          refine RQ.y (wantT (dj := 41) rfl (vb rfl c31)) (Y.move (v := .pointer (some ⟨ba1, oa1, none⟩)) s1) ?_
          refine RQ.y (wantT (dj := 41) rfl (vb rfl c31)) (Y.nilCheck rfl) ?_
          refine RQ.y (wantT (dj := 41) rfl (vb rfl c31)) (Y.fieldAddr (off := 2) rfl (by kernel_rfl)) ?_
          refine RQ.y (wantT (dj := 41) rfl (vb rfl c31)) (Y.load (v := .int .i64 d1.value) rfl (by kernel_rfl) (beC (cellT T (hca1 2 _ rfl)))) ?_
          refine RQ.y (wantT (dj := 41) rfl (vb rfl c31)) (Y.move (v := .pointer (some ⟨ba0, oa0, none⟩)) s0) ?_
          refine RQ.y (wantT (dj := 41) rfl (vb rfl c31)) (Y.nilCheck rfl) ?_
          refine RQ.y (wantT (dj := 41) rfl (vb rfl c31)) (Y.fieldAddr (off := 3) rfl (by kernel_rfl)) ?_
          refine RQ.y (wantT (dj := 41) rfl (vb rfl c31)) (Y.load (v := .slice A1 d0.data.length c1) rfl (by kernel_rfl) (beC (cellT T (hca0 3 _ rfl)))) ?_
          refine RQ.y (wantT (dj := 41) rfl (vb rfl c31)) (Y.len (by kernel_rfl) rfl) ?_
          refine RQ.y (wantT (dj := 41) rfl (vb rfl c31)) (Y.binI (v := .bool (decide (d1.value ≥ (d0.data.length : Int)))) rfl rfl rfl) ?_
          refine RQ.y rfl (Y.pick (b := true) (v := .bool (decide (d1.value ≥ (d0.data.length : Int)))) (vb rfl c31) rfl) ?_
          refine RQ.nil ?_
          intro w36 hb37
          have szw36 := hb37.size
          have T := Tt T hb37
          refine then_n ?_
          rcases bcases (decide (d1.value ≥ (d0.data.length : Int))) with c38 | c38
          · replace hm := cF c38 hm
            have pc38 := of_decide_eq_false c38
            refine cond_f rfl (vb rfl c38) ?_
            refine wp_skip ?_
            refine then_n ?_
            refine wp_seq ?_
            refine wp_rbd (by kernel_rfl) (by kernel_rfl) ?_
            refine RQ.y rfl (Y.move (v := .pointer (some ⟨ba0, oa0, none⟩)) s0) ?_
            refine RQ.y rfl (Y.nilCheck rfl) ?_
            refine RQ.y rfl (Y.fieldAddr (off := 0) rfl (by kernel_rfl)) ?_
            refine RQ.y rfl (Y.load (v := .int .i64 d0.kind) rfl (by kernel_rfl) (beC (cellT T (hca0 0 _ rfl)))) ?_
            refine RQ.y rfl (Y.move (v := .pointer (some ⟨ba0, oa0, none⟩)) s0) ?_
            refine RQ.y rfl (Y.nilCheck rfl) ?_
            refine RQ.y rfl (Y.fieldAddr (off := 1) rfl (by kernel_rfl)) ?_
            refine RQ.y rfl (Y.load (v := .int .i64 d0.level) rfl (by kernel_rfl) (beC (cellT T (hca0 1 _ rfl)))) ?_
            refine RQ.y rfl (Y.move (v := .pointer (some ⟨ba1, oa1, none⟩)) s1) ?_
            refine RQ.y rfl (Y.nilCheck rfl) ?_
            refine RQ.y rfl (Y.fieldAddr (off := 0) rfl (by kernel_rfl)) ?_
            refine RQ.y rfl (Y.load (v := .int .i64 d1.kind) rfl (by kernel_rfl) (beC (cellT T (hca1 0 _ rfl)))) ?_
            refine RQ.y rfl (Y.move (v := .pointer (some ⟨ba1, oa1, none⟩)) s1) ?_
            refine RQ.y rfl (Y.nilCheck rfl) ?_
            refine RQ.y rfl (Y.fieldAddr (off := 1) rfl (by kernel_rfl)) ?_
            refine RQ.y rfl (Y.load (v := .int .i64 d1.level) rfl (by kernel_rfl) (beC (cellT T (hca1 1 _ rfl)))) ?_
            refine RQ.call rfl (am4 rfl rfl rfl rfl) (by kernel_rfl) (v := .int .i64 (pairClass d0.kind d0.level d1.kind d1.level)) (bel (K := fun _ => True) fun w' hb' => (callB (spec_PairClass d0.kind d0.level d1.kind d1.level w'))) ?_
            refine RQ.y rfl (Y.assign (v := .int .i64 (pairClass d0.kind d0.level d1.kind d1.level)) rfl) ?_
            refine RQ.nil ?_
            intro w39 hb40
            have szw39 := hb40.size
            have T := Tt T hb40
            refine then_n ?_
            refine wp_ret ?_
            obtain rfl := Option.some.inj hm
            exact (ret1 rfl rfl rfl ⟨rfl, T⟩)
          · replace hm := cT c38 hm
            have pc38 := of_decide_eq_true c38
            refine cond_t rfl (vb rfl c38) ?_
            refine wp_seq ?_
            refine wp_rs rfl ?_
            refine RQ.y rfl (Y.assign (v := .int .i64 8) rfl) ?_
            refine RQ.nil ?_
            refine then_n ?_
            refine wp_ret ?_
            obtain rfl := Option.some.inj hm
            exact (then_r (ret1 rfl rfl rfl ⟨rfl, T⟩))
    · replace hm := cT c23 hm
      refine RQ.y (wantT (dj := 17) rfl (vb rfl c23)) (Y.move (v := .pointer (some ⟨ba0, oa0, none⟩)) s0) ?_
      refine RQ.y (wantT (dj := 17) rfl (vb rfl c23)) (Y.nilCheck rfl) ?_
      refine RQ.y (wantT (dj := 17) rfl (vb rfl c23)) (Y.fieldAddr (off := 2) rfl (by kernel_rfl)) ?_
      refine RQ.y (wantT (dj := 17) rfl (vb rfl c23)) (Y.load (v := .int .i64 d0.value) rfl (by kernel_rfl) (beC (cellT T (hca0 2 _ rfl)))) ?_
      refine RQ.y (wantT (dj := 17) rfl (vb rfl c23)) (Y.move (v := .pointer (some ⟨ba1, oa1, none⟩)) s1) ?_
      refine RQ.y (wantT (dj := 17) rfl (vb rfl c23)) (Y.nilCheck rfl) ?_
      refine RQ.y (wantT (dj := 17) rfl (vb rfl c23)) (Y.fieldAddr (off := 3) rfl (by kernel_rfl)) ?_
      refine RQ.y (wantT (dj := 17) rfl (vb rfl c23)) (Y.load (v := .slice A3 d1.data.length c3) rfl (by kernel_rfl) (beC (cellT T (hca1 3 _ rfl)))) ?_
      refine RQ.y (wantT (dj := 17) rfl (vb rfl c23)) (Y.len (by kernel_rfl) rfl) ?_
      refine RQ.y (wantT (dj := 17) rfl (vb rfl c23)) (Y.binI (v := .bool (decide (d0.value ≥ (d1.data.length : Int)))) rfl rfl rfl) ?_
      refine RQ.y rfl (Y.pick (b := true) (v := .bool (decide (d0.value ≥ (d1.data.length : Int)))) (vb rfl c23) rfl) ?_
      refine RQ.nil ?_
      intro w41 hb42
      have szw41 := hb42.size
      have T := Tt T hb42
      refine then_n ?_
      rcases bcases (decide (d0.value ≥ (d1.data.length : Int))) with c43 | c43
      · replace hm := cF c43 hm
        have pc43 := of_decide_eq_false c43
        refine cond_f rfl (vb rfl c43) ?_
        refine wp_skip ?_
        refine then_n ?_
        refine wp_seq ?_
        refine wp_seq ?_
        refine wp_rbd (by kernel_rfl) (by kernel_rfl) ?_
        refine RQ.y rfl (Y.move (v := .pointer (some ⟨ba0, oa0, none⟩)) s0) ?_
        refine RQ.y rfl (Y.nilCheck rfl) ?_
        refine RQ.y rfl (Y.fieldAddr (off := 0) rfl (by kernel_rfl)) ?_
        refine RQ.y rfl (Y.load (v := .int .i64 d0.kind) rfl (by kernel_rfl) (beC (cellT T (hca0 0 _ rfl)))) ?_
        refine RQ.y rfl (Y.binI (v := .bool (d0.kind == 10)) rfl rfl rfl) ?_
        refine RQ.y rfl (Y.move (v := .bool (d0.kind == 10)) rfl) ?_
        rcases bcases (d0.kind == 10) with c44 | c44
        · replace hm := cF c44 hm
          refine RQ.skip (wantN (dj := 34) rfl (vb rfl c44) rfl) ?_
          refine RQ.skip (wantN (dj := 34) rfl (vb rfl c44) rfl) ?_
          refine RQ.skip (wantN (dj := 34) rfl (vb rfl c44) rfl) ?_
          refine RQ.skip (wantN (dj := 34) rfl (vb rfl c44) rfl) ?_
          refine RQ.skip (wantN (dj := 34) rfl (vb rfl c44) rfl) ?_
          refine RQ.y rfl (Y.pick (b := false) (v := .bool false) (vb rfl c44) rfl) ?_
          refine RQ.y rfl (Y.move (v := .bool false) rfl) ?_
          refine RQ.skip (wantN (dj := 41) rfl rfl rfl) ?_
          refine RQ.skip (wantN (dj := 41) rfl rfl rfl) ?_
          refine RQ.skip (wantN (dj := 41) rfl rfl rfl) ?_
          refine RQ.skip (wantN (dj := 41) rfl rfl rfl) ?_
          refine RQ.skip (wantN (dj := 41) rfl rfl rfl) ?_
          refine RQ.skip (wantN (dj := 41) rfl rfl rfl) ?_
          refine RQ.skip (wantN (dj := 41) rfl rfl rfl) ?_
          refine RQ.skip (wantN (dj := 41) rfl rfl rfl) ?_
          refine RQ.skip (wantN (dj := 41) rfl rfl rfl) ?_
          refine RQ.skip (wantN (dj := 41) rfl rfl rfl) ?_
          refine RQ.y rfl (Y.pick (b := false) (v := .bool false) rfl rfl) ?_
          refine RQ.nil ?_
          intro w45 hb46
          have szw45 := hb46.size
          have T := Tt T hb46
          refine then_n ?_
          refine cond_f rfl rfl ?_
          refine wp_skip ?_
          refine then_n ?_
          refine wp_seq ?_
          refine wp_rbd (by kernel_rfl) (by kernel_rfl) ?_
          refine RQ.y rfl (Y.move (v := .pointer (some ⟨ba0, oa0, none⟩)) s0) ?_
          refine RQ.y rfl (Y.nilCheck rfl) ?_
          refine RQ.y rfl (Y.fieldAddr (off := 0) rfl (by kernel_rfl)) ?_
          refine RQ.y rfl (Y.load (v := .int .i64 d0.kind) rfl (by kernel_rfl) (beC (cellT T (hca0 0 _ rfl)))) ?_
          refine RQ.y rfl (Y.move (v := .pointer (some ⟨ba0, oa0, none⟩)) s0) ?_
          refine RQ.y rfl (Y.nilCheck rfl) ?_
          refine RQ.y rfl (Y.fieldAddr (off := 1) rfl (by kernel_rfl)) ?_
          refine RQ.y rfl (Y.load (v := .int .i64 d0.level) rfl (by kernel_rfl) (beC (cellT T (hca0 1 _ rfl)))) ?_
          refine RQ.y rfl (Y.move (v := .pointer (some ⟨ba1, oa1, none⟩)) s1) ?_
          refine RQ.y rfl (Y.nilCheck rfl) ?_
          refine RQ.y rfl (Y.fieldAddr (off := 0) rfl (by kernel_rfl)) ?_
          refine RQ.y rfl (Y.load (v := .int .i64 d1.kind) rfl (by kernel_rfl) (beC (cellT T (hca1 0 _ rfl)))) ?_
          refine RQ.y rfl (Y.move (v := .pointer (some ⟨ba1, oa1, none⟩)) s1) ?_
          refine RQ.y rfl (Y.nilCheck rfl) ?_
          refine RQ.y rfl (Y.fieldAddr (off := 1) rfl (by kernel_rfl)) ?_
          refine RQ.y rfl (Y.load (v := .int .i64 d1.level) rfl (by kernel_rfl) (beC (cellT T (hca1 1 _ rfl)))) ?_
          refine RQ.call rfl (am4 rfl rfl rfl rfl) (by kernel_rfl) (v := .int .i64 (pairClass d0.kind d0.level d1.kind d1.level)) (bel (K := fun _ => True) fun w' hb' => (callB (spec_PairClass d0.kind d0.level d1.kind d1.level w'))) ?_
          refine RQ.y rfl (Y.assign (v := .int .i64 (pairClass d0.kind d0.level d1.kind d1.level)) rfl) ?_
          refine RQ.nil ?_
          intro w47 hb48
          have szw47 := hb48.size
          have T := Tt T hb48
          refine then_n ?_
          refine wp_ret ?_
          obtain rfl := Option.some.inj hm
          exact (ret1 rfl rfl rfl ⟨rfl, T⟩)
        · replace hm := cT c44 hm
          refine RQ.y (wantT (dj := 34) rfl (vb rfl c44)) (Y.move (v := .pointer (some ⟨ba1, oa1, none⟩)) s1) ?_
          refine RQ.y (wantT (dj := 34) rfl (vb rfl c44)) (Y.nilCheck rfl) ?_
          refine RQ.y (wantT (dj := 34) rfl (vb rfl c44)) (Y.fieldAddr (off := 0) rfl (by kernel_rfl)) ?_
          refine RQ.y (wantT (dj := 34) rfl (vb rfl c44)) (Y.load (v := .int .i64 d1.kind) rfl (by kernel_rfl) (beC (cellT T (hca1 0 _ rfl)))) ?_
          refine RQ.y (wantT (dj := 34) rfl (vb rfl c44)) (Y.binI (v := .bool (d1.kind == 9)) rfl rfl rfl) ?_
          refine RQ.y rfl (Y.pick (b := true) (v := .bool (d1.kind == 9)) (vb rfl c44) rfl) ?_
          refine RQ.y rfl (Y.move (v := .bool (d1.kind == 9)) rfl) ?_
          rcases bcases (d1.kind == 9) with c49 | c49
          · replace hm := cF c49 hm
            refine RQ.skip (wantN (dj := 41) rfl (vb rfl c49) rfl) ?_
            refine RQ.skip (wantN (dj := 41) rfl (vb rfl c49) rfl) ?_
            refine RQ.skip (wantN (dj := 41) rfl (vb rfl c49) rfl) ?_
            refine RQ.skip (wantN (dj := 41) rfl (vb rfl c49) rfl) ?_
            refine RQ.skip (wantN (dj := 41) rfl (vb rfl c49) rfl) ?_
            refine RQ.skip (wantN (dj := 41) rfl (vb rfl c49) rfl) ?_
            refine RQ.skip (wantN (dj := 41) rfl (vb rfl c49) rfl) ?_
            refine RQ.skip (wantN (dj := 41) rfl (vb rfl c49) rfl) ?_
            refine RQ.skip (wantN (dj := 41) rfl (vb rfl c49) rfl) ?_
            refine RQ.skip (wantN (dj := 41) rfl (vb rfl c49) rfl) ?_
            refine RQ.y rfl (Y.pick (b := false) (v := .bool false) (vb rfl c49) rfl) ?_
            refine RQ.nil ?_
            intro w50 hb51
            have szw50 := hb51.size
            have T := Tt T hb51
            refine then_n ?_
            refine cond_f rfl rfl ?_
            refine wp_skip ?_
            refine then_n ?_
            refine wp_seq ?_
            refine wp_rbd (by kernel_rfl) (by kernel_rfl) ?_
            refine RQ.y rfl (Y.move (v := .pointer (some ⟨ba0, oa0, none⟩)) s0) ?_
            refine RQ.y rfl (Y.nilCheck rfl) ?_
            refine RQ.y rfl (Y.fieldAddr (off := 0) rfl (by kernel_rfl)) ?_
            refine RQ.y rfl (Y.load (v := .int .i64 d0.kind) rfl (by kernel_rfl) (beC (cellT T (hca0 0 _ rfl)))) ?_
            refine RQ.y rfl (Y.move (v := .pointer (some ⟨ba0, oa0, none⟩)) s0) ?_
            refine RQ.y rfl (Y.nilCheck rfl) ?_
            refine RQ.y rfl (Y.fieldAddr (off := 1) rfl (by kernel_rfl)) ?_
            refine RQ.y rfl (Y.load (v := .int .i64 d0.level) rfl (by kernel_rfl) (beC (cellT T (hca0 1 _ rfl)))) ?_
            refine RQ.y rfl (Y.move (v := .pointer (some ⟨ba1, oa1, none⟩)) s1) ?_
            refine RQ.y rfl (Y.nilCheck rfl) ?_
            refine RQ.y rfl (Y.fieldAddr (off := 0) rfl (by kernel_rfl)) ?_
            refine RQ.y rfl (Y.load (v := .int .i64 d1.kind) rfl (by kernel_rfl) (beC (cellT T (hca1 0 _ rfl)))) ?_
            refine RQ.y rfl (Y.move (v := .pointer (some ⟨ba1, oa1, none⟩)) s1) ?_
            refine RQ.y rfl (Y.nilCheck rfl) ?_
            refine RQ.y rfl (Y.fieldAddr (off := 1) rfl (by kernel_rfl)) ?_
            refine RQ.y rfl (Y.load (v := .int .i64 d1.level) rfl (by kernel_rfl) (beC (cellT T (hca1 1 _ rfl)))) ?_
            refine RQ.call rfl (am4 rfl rfl rfl rfl) (by kernel_rfl) (v := .int .i64 (pairClass d0.kind d0.level d1.kind d1.level)) (bel (K := fun _ => True) fun w' hb' => (callB (spec_PairClass d0.kind d0.level d1.kind d1.level w'))) ?_
            refine RQ.y rfl (Y.assign (v := .int .i64 (pairClass d0.kind d0.level d1.kind d1.level)) rfl) ?_
            refine RQ.nil ?_
            intro w52 hb53
            have szw52 := hb53.size
            have T := Tt T hb53
            refine then_n ?_
            refine wp_ret ?_
            obtain rfl := Option.some.inj hm
            exact (ret1 rfl rfl rfl ⟨rfl, T⟩)
          · replace hm := cT c49 hm
            refine RQ.y (wantT (dj := 41) rfl (vb rfl c49)) (Y.move (v := .pointer (some ⟨ba1, oa1, none⟩)) s1) ?_
            refine RQ.y (wantT (dj := 41) rfl (vb rfl c49)) (Y.nilCheck rfl) ?_
            refine RQ.y (wantT (dj := 41) rfl (vb rfl c49)) (Y.fieldAddr (off := 2) rfl (by kernel_rfl)) ?_
            refine RQ.y (wantT (dj := 41) rfl (vb rfl c49)) (Y.load (v := .int .i64 d1.value) rfl (by kernel_rfl) (beC (cellT T (hca1 2 _ rfl)))) ?_
            refine RQ.y (wantT (dj := 41) rfl (vb rfl c49)) (Y.move (v := .pointer (some ⟨ba0, oa0, none⟩)) s0) ?_
            refine RQ.y (wantT (dj := 41) rfl (vb rfl c49)) (Y.nilCheck rfl) ?_
            refine RQ.y (wantT (dj := 41) rfl (vb rfl c49)) (Y.fieldAddr (off := 3) rfl (by kernel_rfl)) ?_
            refine RQ.y (wantT (dj := 41) rfl (vb rfl c49)) (Y.load (v := .slice A1 d0.data.length c1) rfl (by kernel_rfl) (beC (cellT T (hca0 3 _ rfl)))) ?_
            refine RQ.y (wantT (dj := 41) rfl (vb rfl c49)) (Y.len (by kernel_rfl) rfl) ?_
            refine RQ.y (wantT (dj := 41) rfl (vb rfl c49)) (Y.binI (v := .bool (decide (d1.value ≥ (d0.data.length : Int)))) rfl rfl rfl) ?_
            refine RQ.y rfl (Y.pick (b := true) (v := .bool (decide (d1.value ≥ (d0.data.length : Int)))) (vb rfl c49) rfl) ?_
            refine RQ.nil ?_
            intro w54 hb55
            have szw54 := hb55.size
            have T := Tt T hb55
            refine then_n ?_
            rcases bcases (decide (d1.value ≥ (d0.data.length : Int))) with c56 | c56
            · replace hm := cF c56 hm
              have pc56 := of_decide_eq_false c56
              refine cond_f rfl (vb rfl c56) ?_
              refine wp_skip ?_
              refine then_n ?_
              refine wp_seq ?_
              refine wp_rbd (by kernel_rfl) (by kernel_rfl) ?_
              refine RQ.y rfl (Y.move (v := .pointer (some ⟨ba0, oa0, none⟩)) s0) ?_
              refine RQ.y rfl (Y.nilCheck rfl) ?_
              refine RQ.y rfl (Y.fieldAddr (off := 0) rfl (by kernel_rfl)) ?_
              refine RQ.y rfl (Y.load (v := .int .i64 d0.kind) rfl (by kernel_rfl) (beC (cellT T (hca0 0 _ rfl)))) ?_
              refine RQ.y rfl (Y.move (v := .pointer (some ⟨ba0, oa0, none⟩)) s0) ?_
              refine RQ.y rfl (Y.nilCheck rfl) ?_
              refine RQ.y rfl (Y.fieldAddr (off := 1) rfl (by kernel_rfl)) ?_
              refine RQ.y rfl (Y.load (v := .int .i64 d0.level) rfl (by kernel_rfl) (beC (cellT T (hca0 1 _ rfl)))) ?_
              refine RQ.y rfl (Y.move (v := .pointer (some ⟨ba1, oa1, none⟩)) s1) ?_
              refine RQ.y rfl (Y.nilCheck rfl) ?_
              refine RQ.y rfl (Y.fieldAddr (off := 0) rfl (by kernel_rfl)) ?_
              refine RQ.y rfl (Y.load (v := .int .i64 d1.kind) rfl (by kernel_rfl) (beC (cellT T (hca1 0 _ rfl)))) ?_
              refine RQ.y rfl (Y.move (v := .pointer (some ⟨ba1, oa1, none⟩)) s1) ?_
              refine RQ.y rfl (Y.nilCheck rfl) ?_
              refine RQ.y rfl (Y.fieldAddr (off := 1) rfl (by kernel_rfl)) ?_
              refine RQ.y rfl (Y.load (v := .int .i64 d1.level) rfl (by kernel_rfl) (beC (cellT T (hca1 1 _ rfl)))) ?_
              refine RQ.call rfl (am4 rfl rfl rfl rfl) (by kernel_rfl) (v := .int .i64 (pairClass d0.kind d0.level d1.kind d1.level)) (bel (K := fun _ => True) fun w' hb' => (callB (spec_PairClass d0.kind d0.level d1.kind d1.level w'))) ?_
              refine RQ.y rfl (Y.assign (v := .int .i64 (pairClass d0.kind d0.level d1.kind d1.level)) rfl) ?_
              refine RQ.nil ?_
              intro w57 hb58
              have szw57 := hb58.size
              have T := Tt T hb58
              refine then_n ?_
              refine wp_ret ?_
              obtain rfl := Option.some.inj hm
              exact (ret1 rfl rfl rfl ⟨rfl, T⟩)
            · replace hm := cT c56 hm
              have pc56 := of_decide_eq_true c56
              refine cond_t rfl (vb rfl c56) ?_
              refine wp_seq ?_
              refine wp_rs rfl ?_
              refine RQ.y rfl (Y.assign (v := .int .i64 8) rfl) ?_
              refine RQ.nil ?_
              refine then_n ?_
              refine wp_ret ?_
              obtain rfl := Option.some.inj hm
              exact (then_r (ret1 rfl rfl rfl ⟨rfl, T⟩))
      · replace hm := cT c43 hm
        have pc43 := of_decide_eq_true c43
        refine cond_t rfl (vb rfl c43) ?_
        refine wp_seq ?_
        refine wp_rs rfl ?_
        refine RQ.y rfl (Y.assign (v := .int .i64 8) rfl) ?_
        refine RQ.nil ?_
        refine then_n ?_
        refine wp_ret ?_
        obtain rfl := Option.some.inj hm
        exact (then_r (ret1 rfl rfl rfl ⟨rfl, T⟩))
def m_impl_Net_classOf (d0 : DNet) (d1 : DPair) : Option (Int × Bool) :=
  ((getI d0.agents d1.a).bind fun x8 => ((getI d0.agents d1.b).bind fun x19 => (bif ((pairFirst x8.kind x8.level x19.kind x19.level) == 2) then (bif ((pairClass x8.kind x8.level x19.kind x19.level) == 6) then (bif (x8.kind == 10) then (bif (decide (x19.value ≥ (x8.data.length : Int))) then some (8, false) else some ((pairClass x8.kind x8.level x19.kind x19.level), ((pairFirst x8.kind x8.level x19.kind x19.level) == 2))) else some ((pairClass x8.kind x8.level x19.kind x19.level), ((pairFirst x8.kind x8.level x19.kind x19.level) == 2))) else some ((pairClass x8.kind x8.level x19.kind x19.level), ((pairFirst x8.kind x8.level x19.kind x19.level) == 2))) else (bif ((pairClass x8.kind x8.level x19.kind x19.level) == 6) then (bif (x19.kind == 10) then (bif (decide (x8.value ≥ (x19.data.length : Int))) then some (8, false) else some ((pairClass x8.kind x8.level x19.kind x19.level), ((pairFirst x8.kind x8.level x19.kind x19.level) == 2))) else some ((pairClass x8.kind x8.level x19.kind x19.level), ((pairFirst x8.kind x8.level x19.kind x19.level) == 2))) else some ((pairClass x8.kind x8.level x19.kind x19.level), ((pairFirst x8.kind x8.level x19.kind x19.level) == 2))))))
set_option maxHeartbeats 2000000 in
theorem c_m_impl_Net_classOf (d0 : DNet) (d1 : DPair) (r : Int × Bool) (hm : m_impl_Net_classOf d0 d1 = some r) (v0 : Value) (w : World) (hv0 : Pt netRd w v0 d0) :
    Calls Try.prog 64 #[v0, .agg #[.int .i64 d1.a, .int .i64 d1.b]] w fun e w' => e = .returned (.tuple #[.int .i64 r.1, .bool r.2]) ∧ Below w.heap.size w w' := by
  obtain ⟨ba0, oa0, csa0, rfl, hba0, hRa0, hca0⟩ := hv0
  have hSa0 := hRa0
  obtain ⟨A1, n1, c1, rfl, ⟨h1, r1⟩⟩ := hRa0
  have e1 := h1.len; subst e1
  have q1 := len_le r1
  have T := Below.refl w.heap.size w
  unfold m_impl_Net_classOf at hm
  refine enter 60 Try.func64 rfl rfl rfl ?_
  intro f hf
  have s0 : f 0 = .pointer (some ⟨ba0, oa0, none⟩) := hf 0 _ rfl
  have s1 : f 1 = .agg #[.int .i64 d1.a, .int .i64 d1.b] := hf 1 _ rfl
  refine wp_seq ?_
  refine wp_rl rfl ?_
  refine RL.box rfl s1 (fun w2 B3 hb4 szw2 => ?_)
  replace B3 : Blk w2 w.heap.size 81 #[.int .i64 d1.a, .int .i64 d1.b] := B3
  have GB3 : w.heap.size ≤ w.heap.size := T.size
  have T := Tt T hb4
  refine RL.y rfl (Y.assign (v := .int .i64 0) rfl) ?_
  refine RL.y rfl (Y.assign (v := .bool false) rfl) ?_
  refine RL.nil ?_
  refine then_n ?_
  refine wp_seq ?_
  refine wp_rgt (fun w' => Below w.heap.size w w' ∧ Blk w' w.heap.size 81 #[.int .i64 d1.a, .int .i64 d1.b]) (.q 0 (.q 1 (.q 2 (.q 3 (.q 4 (.q 5 (.q 6 (.q 7 (.q 8 (.q 9 (.q 10 (.q 11 (.q 12 (.q 13 (.q 14 (.q 15 (.two 16 (.a 17 (.a 18 (.a 19 .nil))) 17 (.a 16 (.a 18 (.a 19 .nil)))))))))))))))))))) (by kernel_rfl) (by kernel_rfl) (fun w6 hb7 szw6 => ?_)
  have B3 := blkT B3 hb7
  have T := Tt T hb7
  refine ⟨⟨T, B3⟩, ?_⟩
  refine RT.y rfl rfl (Y.move (v := .pointer (some ⟨ba0, oa0, none⟩)) s0) ?_
  refine RT.y rfl rfl (Y.nilCheck rfl) ?_
  refine RT.y rfl rfl (Y.fieldAddr (off := 0) rfl (by kernel_rfl)) ?_
  refine RT.y rfl rfl (Y.load (v := .slice A1 d0.agents.length c1) rfl (by kernel_rfl) (fun w' hS => (cellT hS.1 (hca0 0 _ rfl)))) ?_
  refine RT.y rfl rfl (Y.fieldAddr (off := 0) rfl (by kernel_rfl)) ?_
  refine RT.y rfl rfl (Y.load (v := .int .i64 d1.a) rfl (by kernel_rfl) (fun w' hS => (blkCell hS.2 (i := 0) rfl))) ?_
  obtain ⟨x8, hx11, hm⟩ := bnd hm
  obtain ⟨k9, hk12, hl13, hx11⟩ := getI_some hx11
  obtain ⟨b15, o16, rfl, hbb15⟩ := h1.addr (by omega)
  obtain ⟨cs10, hRcs10, hc14⟩ := h1.el hx11
  have hScs10 := hRcs10
  obtain ⟨A17, n17, c17, A18, n18, c18, rfl, ⟨h17, r17⟩, ⟨h18, r18⟩⟩ := hRcs10
  have e17 := h17.len; subst e17
  have q17 := len_le r17
  have e18 := h18.len; subst e18
  have q18 := len_le r18
  refine RT.y rfl rfl (Y.indexAddr (m := k9) (sz := 5) rfl rfl hk12 hl13 (by kernel_rfl)) ?_
  refine RT.y rfl rfl (Y.loadN (cs := [.int .i64 x8.kind, .int .i64 x8.level, .int .i64 x8.value, .slice A17 x8.data.length c17, .slice A18 x8.ports.length c18]) rfl (by kernel_rfl) (cells5 (fun w' hS => (cellT hS.1 (hc14 0 _ rfl))) (fun w' hS => (cellT hS.1 (hc14 1 _ rfl))) (fun w' hS => (cellT hS.1 (hc14 2 _ rfl))) (fun w' hS => (cellT hS.1 (hc14 3 _ rfl))) (fun w' hS => (cellT hS.1 (hc14 4 _ rfl))))) ?_
  refine RT.y rfl rfl (Y.move (v := .pointer (some ⟨ba0, oa0, none⟩)) s0) ?_
  refine RT.y rfl rfl (Y.nilCheck rfl) ?_
  refine RT.y rfl rfl (Y.fieldAddr (off := 0) rfl (by kernel_rfl)) ?_
  refine RT.y rfl rfl (Y.load (v := .slice (some ⟨b15, o16, none⟩) d0.agents.length c1) rfl (by kernel_rfl) (fun w' hS => (cellT hS.1 (hca0 0 _ rfl)))) ?_
  refine RT.y rfl rfl (Y.fieldAddr (off := 1) rfl (by kernel_rfl)) ?_
  refine RT.y rfl rfl (Y.load (v := .int .i64 d1.b) rfl (by kernel_rfl) (fun w' hS => (blkCell hS.2 (i := 1) rfl))) ?_
  obtain ⟨x19, hx22, hm⟩ := bnd hm
  obtain ⟨k20, hk23, hl24, hx22⟩ := getI_some hx22
  obtain ⟨cs21, hRcs21, hc25⟩ := h1.el hx22
  have hScs21 := hRcs21
  obtain ⟨A26, n26, c26, A27, n27, c27, rfl, ⟨h26, r26⟩, ⟨h27, r27⟩⟩ := hRcs21
  have e26 := h26.len; subst e26
  have q26 := len_le r26
  have e27 := h27.len; subst e27
  have q27 := len_le r27
  refine RT.y rfl rfl (Y.indexAddr (m := k20) (sz := 5) rfl rfl hk23 hl24 (by kernel_rfl)) ?_
  refine RT.y rfl rfl (Y.loadN (cs := [.int .i64 x19.kind, .int .i64 x19.level, .int .i64 x19.value, .slice A26 x19.data.length c26, .slice A27 x19.ports.length c27]) rfl (by kernel_rfl) (cells5 (fun w' hS => (cellT hS.1 (hc25 0 _ rfl))) (fun w' hS => (cellT hS.1 (hc25 1 _ rfl))) (fun w' hS => (cellT hS.1 (hc25 2 _ rfl))) (fun w' hS => (cellT hS.1 (hc25 3 _ rfl))) (fun w' hS => (cellT hS.1 (hc25 4 _ rfl))))) ?_
  refine RT.both rfl rfl ?_ ?_
  · refine RL.alloc (z := .agg #[.int .i64 0, .int .i64 0, .int .i64 0, .slice none 0 0, .slice none 0 0]) rfl (by kernel_rfl) (fun w28 B29 hb30 szw28 => ?_)
    replace B29 : Blk w28 w6.heap.size 89 #[.int .i64 0, .int .i64 0, .int .i64 0, .slice none 0 0, .slice none 0 0] := B29
    have GB29 : w.heap.size ≤ w6.heap.size := T.size
    have Eob31_ob5 := Nat.ne_of_lt B3.lt
    have B3 := blkT B3 hb30
    have T := Tt T hb30
    refine RL.nil ⟨⟨T, B3⟩, ?_⟩
    refine RT.act rfl ?_
    refine RL.alloc (z := .agg #[.int .i64 0, .int .i64 0, .int .i64 0, .slice none 0 0, .slice none 0 0]) rfl (by kernel_rfl) (fun w32 B33 hb34 szw32 => ?_)
    replace B33 : Blk w32 w28.heap.size 89 #[.int .i64 0, .int .i64 0, .int .i64 0, .slice none 0 0, .slice none 0 0] := B33
    have GB33 : w.heap.size ≤ w28.heap.size := T.size
    have Eob35_ob5 := Nat.ne_of_lt B3.lt
    have Eob35_ob31 := Nat.ne_of_lt B29.lt
    have B3 := blkT B3 hb34
    have B29 := blkT B29 hb34
    have T := Tt T hb34
    refine RL.nil ⟨⟨T, B3⟩, ?_⟩
    refine RT.act rfl ?_
    refine RL.store (v := .agg #[.int .i64 x8.kind, .int .i64 x8.level, .int .i64 x8.value, .slice A17 x8.data.length c17, .slice A18 x8.ports.length c18]) (cs' := #[.int .i64 x8.kind, .int .i64 x8.level, .int .i64 x8.value, .slice A17 x8.data.length c17, .slice A18 x8.ports.length c18]) rfl rfl rfl B29 (by kernel_rfl) (by rfl) (by rfl) (by rfl) (fun w36 B37 ho38 => ?_)
    have szw36 := ho38.size
    have B3 := B3.only_ ho38 (by intro hin; simp at hin; exact Eob31_ob5 hin)
    have B33 := B33.only_ ho38 (by intro hin; simp at hin; exact Eob35_ob31.symm hin)
    have T := T.trans (ho38.below (by first | (simp; done) | (simp; omega)))
    refine RL.nil ⟨⟨T, B3⟩, ?_⟩
    refine RT.act rfl ?_
    refine RL.store (v := .agg #[.int .i64 x19.kind, .int .i64 x19.level, .int .i64 x19.value, .slice A26 x19.data.length c26, .slice A27 x19.ports.length c27]) (cs' := #[.int .i64 x19.kind, .int .i64 x19.level, .int .i64 x19.value, .slice A26 x19.data.length c26, .slice A27 x19.ports.length c27]) rfl rfl rfl B33 (by kernel_rfl) (by rfl) (by rfl) (by rfl) (fun w39 B40 ho41 => ?_)
    have szw39 := ho41.size
    have B3 := B3.only_ ho41 (by intro hin; simp at hin; exact Eob35_ob5 hin)
    have B37 := B37.only_ ho41 (by intro hin; simp at hin; exact Eob35_ob31 hin)
    have T := T.trans (ho41.below (by first | (simp; done) | (simp; omega)))
    refine RL.nil ⟨⟨T, B3⟩, ?_⟩
    refine RT.nil_ ?_
    refine then_n ?_
    refine wp_seq ?_
    refine wp_rb rfl ?_
    refine RQ.y rfl (Y.fieldAddr (off := 0) rfl (by kernel_rfl)) ?_
    refine RQ.y rfl (Y.load (v := .int .i64 x8.kind) rfl (by kernel_rfl) (beC (blkCell B37 (i := 0) rfl))) ?_
    refine RQ.y rfl (Y.fieldAddr (off := 1) rfl (by kernel_rfl)) ?_
    refine RQ.y rfl (Y.load (v := .int .i64 x8.level) rfl (by kernel_rfl) (beC (blkCell B37 (i := 1) rfl))) ?_
    refine RQ.y rfl (Y.fieldAddr (off := 0) rfl (by kernel_rfl)) ?_
    refine RQ.y rfl (Y.load (v := .int .i64 x19.kind) rfl (by kernel_rfl) (beC (blkCell B40 (i := 0) rfl))) ?_
    refine RQ.y rfl (Y.fieldAddr (off := 1) rfl (by kernel_rfl)) ?_
    refine RQ.y rfl (Y.load (v := .int .i64 x19.level) rfl (by kernel_rfl) (beC (blkCell B40 (i := 1) rfl))) ?_
    refine RQ.call rfl (am4 rfl rfl rfl rfl) (by kernel_rfl) (v := .tuple #[.int .i64 (pairClass x8.kind x8.level x19.kind x19.level), .int .i64 (pairFirst x8.kind x8.level x19.kind x19.level)]) (bel (K := fun _ => True) fun w' hb' => (callB (impl_pairOf x8.kind x8.level x19.kind x19.level w'))) ?_
    refine RQ.y rfl (Y.move (v := .tuple #[.int .i64 (pairClass x8.kind x8.level x19.kind x19.level), .int .i64 (pairFirst x8.kind x8.level x19.kind x19.level)]) rfl) ?_
    refine RQ.y rfl (Y.extract (i := 0) rfl rfl) ?_
    refine RQ.y rfl (Y.extract (i := 1) rfl rfl) ?_
    refine RQ.y rfl (Y.assign (v := .int .i64 (pairClass x8.kind x8.level x19.kind x19.level)) rfl) ?_
    refine RQ.y rfl (Y.assign (v := .int .i64 (pairFirst x8.kind x8.level x19.kind x19.level)) rfl) ?_
    refine RQ.nil ?_
    intro w42 hb43
    have szw42 := hb43.size
    have B37 := blkT B37 hb43
    have B40 := blkT B40 hb43
    have T := Tt T hb43
    refine then_n ?_
    refine wp_seq ?_
    refine wp_seq ?_
    refine wp_rs rfl ?_
    refine RQ.y rfl (Y.move (v := .int .i64 (pairFirst x8.kind x8.level x19.kind x19.level)) rfl) ?_
    refine RQ.y rfl (Y.binI (v := .bool ((pairFirst x8.kind x8.level x19.kind x19.level) == 2)) rfl rfl rfl) ?_
    refine RQ.nil ?_
    refine then_n ?_
    rcases bcases ((pairFirst x8.kind x8.level x19.kind x19.level) == 2) with c44 | c44
    · replace hm := cF c44 hm
      refine cond_f rfl (vb rfl c44) ?_
      refine wp_skip ?_
      refine then_n ?_
      refine wp_seq ?_
      refine wp_seq ?_
      refine wp_rs rfl ?_
      refine RQ.y rfl (Y.move (v := .int .i64 (pairClass x8.kind x8.level x19.kind x19.level)) rfl) ?_
      refine RQ.y rfl (Y.binI (v := .bool ((pairClass x8.kind x8.level x19.kind x19.level) == 6)) rfl rfl rfl) ?_
      refine RQ.y rfl (Y.move (v := .bool ((pairClass x8.kind x8.level x19.kind x19.level) == 6)) rfl) ?_
      rcases bcases ((pairClass x8.kind x8.level x19.kind x19.level) == 6) with c45 | c45
      · replace hm := cF c45 hm
        refine RQ.skip (wantN (dj := 44) rfl (vb rfl c45) rfl) ?_
        refine RQ.skip (wantN (dj := 44) rfl (vb rfl c45) rfl) ?_
        refine RQ.skip (wantN (dj := 44) rfl (vb rfl c45) rfl) ?_
        refine RQ.y rfl (Y.pick (b := false) (v := .bool false) (vb rfl c45) rfl) ?_
        refine RQ.y rfl (Y.move (v := .bool false) rfl) ?_
        refine RQ.skip (wantN (dj := 49) rfl rfl rfl) ?_
        refine RQ.skip (wantN (dj := 49) rfl rfl rfl) ?_
        refine RQ.skip (wantN (dj := 49) rfl rfl rfl) ?_
        refine RQ.skip (wantN (dj := 49) rfl rfl rfl) ?_
        refine RQ.skip (wantN (dj := 49) rfl rfl rfl) ?_
        refine RQ.skip (wantN (dj := 49) rfl rfl rfl) ?_
        refine RQ.y rfl (Y.pick (b := false) (v := .bool false) rfl rfl) ?_
        refine RQ.nil ?_
        refine then_n ?_
        refine cond_f rfl rfl ?_
        refine wp_skip ?_
        refine then_n ?_
        refine wp_seq ?_
        refine wp_rs rfl ?_
        refine RQ.y rfl (Y.move (v := .int .i64 (pairClass x8.kind x8.level x19.kind x19.level)) rfl) ?_
        refine RQ.y rfl (Y.move (v := .int .i64 (pairFirst x8.kind x8.level x19.kind x19.level)) rfl) ?_
        refine RQ.y rfl (Y.binI (v := .bool ((pairFirst x8.kind x8.level x19.kind x19.level) == 2)) rfl rfl rfl) ?_
        refine RQ.y rfl (Y.assign (v := .int .i64 (pairClass x8.kind x8.level x19.kind x19.level)) rfl) ?_
        refine RQ.y rfl (Y.assign (v := .bool ((pairFirst x8.kind x8.level x19.kind x19.level) == 2)) rfl) ?_
        refine RQ.nil ?_
        refine then_n ?_
        refine wp_ret ?_
        obtain rfl := Option.some.inj hm
        exact (ret2 rfl rfl rfl rfl ⟨rfl, T⟩)
      · replace hm := cT c45 hm
        refine RQ.y (wantT (dj := 44) rfl (vb rfl c45)) (Y.fieldAddr (off := 0) rfl (by kernel_rfl)) ?_
        refine RQ.y (wantT (dj := 44) rfl (vb rfl c45)) (Y.load (v := .int .i64 x19.kind) rfl (by kernel_rfl) (eqC (blkCell B40 (i := 0) rfl))) ?_
        refine RQ.y (wantT (dj := 44) rfl (vb rfl c45)) (Y.binI (v := .bool (x19.kind == 10)) rfl rfl rfl) ?_
        refine RQ.y rfl (Y.pick (b := true) (v := .bool (x19.kind == 10)) (vb rfl c45) rfl) ?_
        refine RQ.y rfl (Y.move (v := .bool (x19.kind == 10)) rfl) ?_
        rcases bcases (x19.kind == 10) with c46 | c46
        · replace hm := cF c46 hm
          refine RQ.skip (wantN (dj := 49) rfl (vb rfl c46) rfl) ?_
          refine RQ.skip (wantN (dj := 49) rfl (vb rfl c46) rfl) ?_
          refine RQ.skip (wantN (dj := 49) rfl (vb rfl c46) rfl) ?_
          refine RQ.skip (wantN (dj := 49) rfl (vb rfl c46) rfl) ?_
          refine RQ.skip (wantN (dj := 49) rfl (vb rfl c46) rfl) ?_
          refine RQ.skip (wantN (dj := 49) rfl (vb rfl c46) rfl) ?_
          refine RQ.y rfl (Y.pick (b := false) (v := .bool false) (vb rfl c46) rfl) ?_
          refine RQ.nil ?_
          refine then_n ?_
          refine cond_f rfl rfl ?_
          refine wp_skip ?_
          refine then_n ?_
          refine wp_seq ?_
          refine wp_rs rfl ?_
          refine RQ.y rfl (Y.move (v := .int .i64 (pairClass x8.kind x8.level x19.kind x19.level)) rfl) ?_
          refine RQ.y rfl (Y.move (v := .int .i64 (pairFirst x8.kind x8.level x19.kind x19.level)) rfl) ?_
          refine RQ.y rfl (Y.binI (v := .bool ((pairFirst x8.kind x8.level x19.kind x19.level) == 2)) rfl rfl rfl) ?_
          refine RQ.y rfl (Y.assign (v := .int .i64 (pairClass x8.kind x8.level x19.kind x19.level)) rfl) ?_
          refine RQ.y rfl (Y.assign (v := .bool ((pairFirst x8.kind x8.level x19.kind x19.level) == 2)) rfl) ?_
          refine RQ.nil ?_
          refine then_n ?_
          refine wp_ret ?_
          obtain rfl := Option.some.inj hm
          exact (ret2 rfl rfl rfl rfl ⟨rfl, T⟩)
        · replace hm := cT c46 hm
          refine RQ.y (wantT (dj := 49) rfl (vb rfl c46)) (Y.fieldAddr (off := 2) rfl (by kernel_rfl)) ?_
          refine RQ.y (wantT (dj := 49) rfl (vb rfl c46)) (Y.load (v := .int .i64 x8.value) rfl (by kernel_rfl) (eqC (blkCell B37 (i := 2) rfl))) ?_
          refine RQ.y (wantT (dj := 49) rfl (vb rfl c46)) (Y.fieldAddr (off := 3) rfl (by kernel_rfl)) ?_
          refine RQ.y (wantT (dj := 49) rfl (vb rfl c46)) (Y.load (v := .slice A26 x19.data.length c26) rfl (by kernel_rfl) (eqC (blkCell B40 (i := 3) rfl))) ?_
          refine RQ.y (wantT (dj := 49) rfl (vb rfl c46)) (Y.len (by kernel_rfl) rfl) ?_
          refine RQ.y (wantT (dj := 49) rfl (vb rfl c46)) (Y.binI (v := .bool (decide (x8.value ≥ (x19.data.length : Int)))) rfl rfl rfl) ?_
          refine RQ.y rfl (Y.pick (b := true) (v := .bool (decide (x8.value ≥ (x19.data.length : Int)))) (vb rfl c46) rfl) ?_
          refine RQ.nil ?_
          refine then_n ?_
          rcases bcases (decide (x8.value ≥ (x19.data.length : Int))) with c47 | c47
          · replace hm := cF c47 hm
            have pc47 := of_decide_eq_false c47
            refine cond_f rfl (vb rfl c47) ?_
            refine wp_skip ?_
            refine then_n ?_
            refine wp_seq ?_
            refine wp_rs rfl ?_
            refine RQ.y rfl (Y.move (v := .int .i64 (pairClass x8.kind x8.level x19.kind x19.level)) rfl) ?_
            refine RQ.y rfl (Y.move (v := .int .i64 (pairFirst x8.kind x8.level x19.kind x19.level)) rfl) ?_
            refine RQ.y rfl (Y.binI (v := .bool ((pairFirst x8.kind x8.level x19.kind x19.level) == 2)) rfl rfl rfl) ?_
            refine RQ.y rfl (Y.assign (v := .int .i64 (pairClass x8.kind x8.level x19.kind x19.level)) rfl) ?_
            refine RQ.y rfl (Y.assign (v := .bool ((pairFirst x8.kind x8.level x19.kind x19.level) == 2)) rfl) ?_
            refine RQ.nil ?_
            refine then_n ?_
            refine wp_ret ?_
            obtain rfl := Option.some.inj hm
            exact (ret2 rfl rfl rfl rfl ⟨rfl, T⟩)
          · replace hm := cT c47 hm
            have pc47 := of_decide_eq_true c47
            refine cond_t rfl (vb rfl c47) ?_
            refine wp_seq ?_
            refine wp_rs rfl ?_
            refine RQ.y rfl (Y.assign (v := .int .i64 8) rfl) ?_
            refine RQ.y rfl (Y.assign (v := .bool false) rfl) ?_
            refine RQ.nil ?_
            refine then_n ?_
            refine wp_ret ?_
            obtain rfl := Option.some.inj hm
            exact (then_r (ret2 rfl rfl rfl rfl ⟨rfl, T⟩))
    · replace hm := cT c44 hm
      refine cond_t rfl (vb rfl c44) ?_
      refine wp_rl rfl ?_
      refine RL.y rfl (Y.loadN (cs := [.int .i64 x19.kind, .int .i64 x19.level, .int .i64 x19.value, .slice A26 x19.data.length c26, .slice A27 x19.ports.length c27]) rfl (by kernel_rfl) (cells5 (eqC (blkCell B40 (i := 0) rfl)) (eqC (blkCell B40 (i := 1) rfl)) (eqC (blkCell B40 (i := 2) rfl)) (eqC (blkCell B40 (i := 3) rfl)) (eqC (blkCell B40 (i := 4) rfl)))) ?_
      refine RL.y rfl (Y.loadN (cs := [.int .i64 x8.kind, .int .i64 x8.level, .int .i64 x8.value, .slice A17 x8.data.length c17, .slice A18 x8.ports.length c18]) rfl (by kernel_rfl) (cells5 (eqC (blkCell B37 (i := 0) rfl)) (eqC (blkCell B37 (i := 1) rfl)) (eqC (blkCell B37 (i := 2) rfl)) (eqC (blkCell B37 (i := 3) rfl)) (eqC (blkCell B37 (i := 4) rfl)))) ?_
      refine RL.store (v := .agg #[.int .i64 x19.kind, .int .i64 x19.level, .int .i64 x19.value, .slice A26 x19.data.length c26, .slice A27 x19.ports.length c27]) (cs' := #[.int .i64 x19.kind, .int .i64 x19.level, .int .i64 x19.value, .slice A26 x19.data.length c26, .slice A27 x19.ports.length c27]) rfl rfl rfl B37 (by kernel_rfl) (by rfl) (by rfl) (by rfl) (fun w48 B49 ho50 => ?_)
      have szw48 := ho50.size
      have B40 := B40.only_ ho50 (by intro hin; simp at hin; exact Eob35_ob31.symm hin)
      have T := T.trans (ho50.below (by first | (simp; done) | (simp; omega)))
      refine RL.store (v := .agg #[.int .i64 x8.kind, .int .i64 x8.level, .int .i64 x8.value, .slice A17 x8.data.length c17, .slice A18 x8.ports.length c18]) (cs' := #[.int .i64 x8.kind, .int .i64 x8.level, .int .i64 x8.value, .slice A17 x8.data.length c17, .slice A18 x8.ports.length c18]) rfl rfl rfl B40 (by kernel_rfl) (by rfl) (by rfl) (by rfl) (fun w51 B52 ho53 => ?_)
      have szw51 := ho53.size
      have B49 := B49.only_ ho53 (by intro hin; simp at hin; exact Eob35_ob31 hin)
      have T := T.trans (ho53.below (by first | (simp; done) | (simp; omega)))
      refine RL.nil ?_
      refine then_n ?_
      refine wp_seq ?_
      refine wp_seq ?_
      refine wp_rs rfl ?_
      refine RQ.y rfl (Y.move (v := .int .i64 (pairClass x8.kind x8.level x19.kind x19.level)) rfl) ?_
      refine RQ.y rfl (Y.binI (v := .bool ((pairClass x8.kind x8.level x19.kind x19.level) == 6)) rfl rfl rfl) ?_
      refine RQ.y rfl (Y.move (v := .bool ((pairClass x8.kind x8.level x19.kind x19.level) == 6)) rfl) ?_
      rcases bcases ((pairClass x8.kind x8.level x19.kind x19.level) == 6) with c54 | c54
      · replace hm := cF c54 hm
        refine RQ.skip (wantN (dj := 44) rfl (vb rfl c54) rfl) ?_
        refine RQ.skip (wantN (dj := 44) rfl (vb rfl c54) rfl) ?_
        refine RQ.skip (wantN (dj := 44) rfl (vb rfl c54) rfl) ?_
        refine RQ.y rfl (Y.pick (b := false) (v := .bool false) (vb rfl c54) rfl) ?_
        refine RQ.y rfl (Y.move (v := .bool false) rfl) ?_
        refine RQ.skip (wantN (dj := 49) rfl rfl rfl) ?_
        refine RQ.skip (wantN (dj := 49) rfl rfl rfl) ?_
        refine RQ.skip (wantN (dj := 49) rfl rfl rfl) ?_
        refine RQ.skip (wantN (dj := 49) rfl rfl rfl) ?_
        refine RQ.skip (wantN (dj := 49) rfl rfl rfl) ?_
        refine RQ.skip (wantN (dj := 49) rfl rfl rfl) ?_
        refine RQ.y rfl (Y.pick (b := false) (v := .bool false) rfl rfl) ?_
        refine RQ.nil ?_
        refine then_n ?_
        refine cond_f rfl rfl ?_
        refine wp_skip ?_
        refine then_n ?_
        refine wp_seq ?_
        refine wp_rs rfl ?_
        refine RQ.y rfl (Y.move (v := .int .i64 (pairClass x8.kind x8.level x19.kind x19.level)) rfl) ?_
        refine RQ.y rfl (Y.move (v := .int .i64 (pairFirst x8.kind x8.level x19.kind x19.level)) rfl) ?_
        refine RQ.y rfl (Y.binI (v := .bool ((pairFirst x8.kind x8.level x19.kind x19.level) == 2)) rfl rfl rfl) ?_
        refine RQ.y rfl (Y.assign (v := .int .i64 (pairClass x8.kind x8.level x19.kind x19.level)) rfl) ?_
        refine RQ.y rfl (Y.assign (v := .bool ((pairFirst x8.kind x8.level x19.kind x19.level) == 2)) rfl) ?_
        refine RQ.nil ?_
        refine then_n ?_
        refine wp_ret ?_
        obtain rfl := Option.some.inj hm
        exact (ret2 rfl rfl rfl rfl ⟨rfl, T⟩)
      · replace hm := cT c54 hm
        refine RQ.y (wantT (dj := 44) rfl (vb rfl c54)) (Y.fieldAddr (off := 0) rfl (by kernel_rfl)) ?_
        refine RQ.y (wantT (dj := 44) rfl (vb rfl c54)) (Y.load (v := .int .i64 x8.kind) rfl (by kernel_rfl) (eqC (blkCell B52 (i := 0) rfl))) ?_
        refine RQ.y (wantT (dj := 44) rfl (vb rfl c54)) (Y.binI (v := .bool (x8.kind == 10)) rfl rfl rfl) ?_
        refine RQ.y rfl (Y.pick (b := true) (v := .bool (x8.kind == 10)) (vb rfl c54) rfl) ?_
        refine RQ.y rfl (Y.move (v := .bool (x8.kind == 10)) rfl) ?_
        rcases bcases (x8.kind == 10) with c55 | c55
        · replace hm := cF c55 hm
          refine RQ.skip (wantN (dj := 49) rfl (vb rfl c55) rfl) ?_
          refine RQ.skip (wantN (dj := 49) rfl (vb rfl c55) rfl) ?_
          refine RQ.skip (wantN (dj := 49) rfl (vb rfl c55) rfl) ?_
          refine RQ.skip (wantN (dj := 49) rfl (vb rfl c55) rfl) ?_
          refine RQ.skip (wantN (dj := 49) rfl (vb rfl c55) rfl) ?_
          refine RQ.skip (wantN (dj := 49) rfl (vb rfl c55) rfl) ?_
          refine RQ.y rfl (Y.pick (b := false) (v := .bool false) (vb rfl c55) rfl) ?_
          refine RQ.nil ?_
          refine then_n ?_
          refine cond_f rfl rfl ?_
          refine wp_skip ?_
          refine then_n ?_
          refine wp_seq ?_
          refine wp_rs rfl ?_
          refine RQ.y rfl (Y.move (v := .int .i64 (pairClass x8.kind x8.level x19.kind x19.level)) rfl) ?_
          refine RQ.y rfl (Y.move (v := .int .i64 (pairFirst x8.kind x8.level x19.kind x19.level)) rfl) ?_
          refine RQ.y rfl (Y.binI (v := .bool ((pairFirst x8.kind x8.level x19.kind x19.level) == 2)) rfl rfl rfl) ?_
          refine RQ.y rfl (Y.assign (v := .int .i64 (pairClass x8.kind x8.level x19.kind x19.level)) rfl) ?_
          refine RQ.y rfl (Y.assign (v := .bool ((pairFirst x8.kind x8.level x19.kind x19.level) == 2)) rfl) ?_
          refine RQ.nil ?_
          refine then_n ?_
          refine wp_ret ?_
          obtain rfl := Option.some.inj hm
          exact (ret2 rfl rfl rfl rfl ⟨rfl, T⟩)
        · replace hm := cT c55 hm
          refine RQ.y (wantT (dj := 49) rfl (vb rfl c55)) (Y.fieldAddr (off := 2) rfl (by kernel_rfl)) ?_
          refine RQ.y (wantT (dj := 49) rfl (vb rfl c55)) (Y.load (v := .int .i64 x19.value) rfl (by kernel_rfl) (eqC (blkCell B49 (i := 2) rfl))) ?_
          refine RQ.y (wantT (dj := 49) rfl (vb rfl c55)) (Y.fieldAddr (off := 3) rfl (by kernel_rfl)) ?_
          refine RQ.y (wantT (dj := 49) rfl (vb rfl c55)) (Y.load (v := .slice A17 x8.data.length c17) rfl (by kernel_rfl) (eqC (blkCell B52 (i := 3) rfl))) ?_
          refine RQ.y (wantT (dj := 49) rfl (vb rfl c55)) (Y.len (by kernel_rfl) rfl) ?_
          refine RQ.y (wantT (dj := 49) rfl (vb rfl c55)) (Y.binI (v := .bool (decide (x19.value ≥ (x8.data.length : Int)))) rfl rfl rfl) ?_
          refine RQ.y rfl (Y.pick (b := true) (v := .bool (decide (x19.value ≥ (x8.data.length : Int)))) (vb rfl c55) rfl) ?_
          refine RQ.nil ?_
          refine then_n ?_
          rcases bcases (decide (x19.value ≥ (x8.data.length : Int))) with c56 | c56
          · replace hm := cF c56 hm
            have pc56 := of_decide_eq_false c56
            refine cond_f rfl (vb rfl c56) ?_
            refine wp_skip ?_
            refine then_n ?_
            refine wp_seq ?_
            refine wp_rs rfl ?_
            refine RQ.y rfl (Y.move (v := .int .i64 (pairClass x8.kind x8.level x19.kind x19.level)) rfl) ?_
            refine RQ.y rfl (Y.move (v := .int .i64 (pairFirst x8.kind x8.level x19.kind x19.level)) rfl) ?_
            refine RQ.y rfl (Y.binI (v := .bool ((pairFirst x8.kind x8.level x19.kind x19.level) == 2)) rfl rfl rfl) ?_
            refine RQ.y rfl (Y.assign (v := .int .i64 (pairClass x8.kind x8.level x19.kind x19.level)) rfl) ?_
            refine RQ.y rfl (Y.assign (v := .bool ((pairFirst x8.kind x8.level x19.kind x19.level) == 2)) rfl) ?_
            refine RQ.nil ?_
            refine then_n ?_
            refine wp_ret ?_
            obtain rfl := Option.some.inj hm
            exact (ret2 rfl rfl rfl rfl ⟨rfl, T⟩)
          · replace hm := cT c56 hm
            have pc56 := of_decide_eq_true c56
            refine cond_t rfl (vb rfl c56) ?_
            refine wp_seq ?_
            refine wp_rs rfl ?_
            refine RQ.y rfl (Y.assign (v := .int .i64 8) rfl) ?_
            refine RQ.y rfl (Y.assign (v := .bool false) rfl) ?_
            refine RQ.nil ?_
            refine then_n ?_
            refine wp_ret ?_
            obtain rfl := Option.some.inj hm
            exact (then_r (ret2 rfl rfl rfl rfl ⟨rfl, T⟩))
  · refine RL.alloc (z := .agg #[.int .i64 0, .int .i64 0, .int .i64 0, .slice none 0 0, .slice none 0 0]) rfl (by kernel_rfl) (fun w57 B58 hb59 szw57 => ?_)
    replace B58 : Blk w57 w6.heap.size 89 #[.int .i64 0, .int .i64 0, .int .i64 0, .slice none 0 0, .slice none 0 0] := B58
    have GB58 : w.heap.size ≤ w6.heap.size := T.size
    have Eob60_ob5 := Nat.ne_of_lt B3.lt
    have B3 := blkT B3 hb59
    have T := Tt T hb59
    refine RL.nil ⟨⟨T, B3⟩, ?_⟩
    refine RT.act rfl ?_
    refine RL.alloc (z := .agg #[.int .i64 0, .int .i64 0, .int .i64 0, .slice none 0 0, .slice none 0 0]) rfl (by kernel_rfl) (fun w61 B62 hb63 szw61 => ?_)
    replace B62 : Blk w61 w57.heap.size 89 #[.int .i64 0, .int .i64 0, .int .i64 0, .slice none 0 0, .slice none 0 0] := B62
    have GB62 : w.heap.size ≤ w57.heap.size := T.size
    have Eob64_ob5 := Nat.ne_of_lt B3.lt
    have Eob64_ob60 := Nat.ne_of_lt B58.lt
    have B3 := blkT B3 hb63
    have B58 := blkT B58 hb63
    have T := Tt T hb63
    refine RL.nil ⟨⟨T, B3⟩, ?_⟩
    refine RT.act rfl ?_
    refine RL.store (v := .agg #[.int .i64 x8.kind, .int .i64 x8.level, .int .i64 x8.value, .slice A17 x8.data.length c17, .slice A18 x8.ports.length c18]) (cs' := #[.int .i64 x8.kind, .int .i64 x8.level, .int .i64 x8.value, .slice A17 x8.data.length c17, .slice A18 x8.ports.length c18]) rfl rfl rfl B62 (by kernel_rfl) (by rfl) (by rfl) (by rfl) (fun w65 B66 ho67 => ?_)
    have szw65 := ho67.size
    have B3 := B3.only_ ho67 (by intro hin; simp at hin; exact Eob64_ob5 hin)
    have B58 := B58.only_ ho67 (by intro hin; simp at hin; exact Eob64_ob60 hin)
    have T := T.trans (ho67.below (by first | (simp; done) | (simp; omega)))
    refine RL.nil ⟨⟨T, B3⟩, ?_⟩
    refine RT.act rfl ?_
    refine RL.store (v := .agg #[.int .i64 x19.kind, .int .i64 x19.level, .int .i64 x19.value, .slice A26 x19.data.length c26, .slice A27 x19.ports.length c27]) (cs' := #[.int .i64 x19.kind, .int .i64 x19.level, .int .i64 x19.value, .slice A26 x19.data.length c26, .slice A27 x19.ports.length c27]) rfl rfl rfl B58 (by kernel_rfl) (by rfl) (by rfl) (by rfl) (fun w68 B69 ho70 => ?_)
    have szw68 := ho70.size
    have B3 := B3.only_ ho70 (by intro hin; simp at hin; exact Eob60_ob5 hin)
    have B66 := B66.only_ ho70 (by intro hin; simp at hin; exact Eob64_ob60.symm hin)
    have T := T.trans (ho70.below (by first | (simp; done) | (simp; omega)))
    refine RL.nil ⟨⟨T, B3⟩, ?_⟩
    refine RT.nil_ ?_
    refine then_n ?_
    refine wp_seq ?_
    refine wp_rb rfl ?_
    refine RQ.y rfl (Y.fieldAddr (off := 0) rfl (by kernel_rfl)) ?_
    refine RQ.y rfl (Y.load (v := .int .i64 x8.kind) rfl (by kernel_rfl) (beC (blkCell B66 (i := 0) rfl))) ?_
    refine RQ.y rfl (Y.fieldAddr (off := 1) rfl (by kernel_rfl)) ?_
    refine RQ.y rfl (Y.load (v := .int .i64 x8.level) rfl (by kernel_rfl) (beC (blkCell B66 (i := 1) rfl))) ?_
    refine RQ.y rfl (Y.fieldAddr (off := 0) rfl (by kernel_rfl)) ?_
    refine RQ.y rfl (Y.load (v := .int .i64 x19.kind) rfl (by kernel_rfl) (beC (blkCell B69 (i := 0) rfl))) ?_
    refine RQ.y rfl (Y.fieldAddr (off := 1) rfl (by kernel_rfl)) ?_
    refine RQ.y rfl (Y.load (v := .int .i64 x19.level) rfl (by kernel_rfl) (beC (blkCell B69 (i := 1) rfl))) ?_
    refine RQ.call rfl (am4 rfl rfl rfl rfl) (by kernel_rfl) (v := .tuple #[.int .i64 (pairClass x8.kind x8.level x19.kind x19.level), .int .i64 (pairFirst x8.kind x8.level x19.kind x19.level)]) (bel (K := fun _ => True) fun w' hb' => (callB (impl_pairOf x8.kind x8.level x19.kind x19.level w'))) ?_
    refine RQ.y rfl (Y.move (v := .tuple #[.int .i64 (pairClass x8.kind x8.level x19.kind x19.level), .int .i64 (pairFirst x8.kind x8.level x19.kind x19.level)]) rfl) ?_
    refine RQ.y rfl (Y.extract (i := 0) rfl rfl) ?_
    refine RQ.y rfl (Y.extract (i := 1) rfl rfl) ?_
    refine RQ.y rfl (Y.assign (v := .int .i64 (pairClass x8.kind x8.level x19.kind x19.level)) rfl) ?_
    refine RQ.y rfl (Y.assign (v := .int .i64 (pairFirst x8.kind x8.level x19.kind x19.level)) rfl) ?_
    refine RQ.nil ?_
    intro w71 hb72
    have szw71 := hb72.size
    have B69 := blkT B69 hb72
    have B66 := blkT B66 hb72
    have T := Tt T hb72
    refine then_n ?_
    refine wp_seq ?_
    refine wp_seq ?_
    refine wp_rs rfl ?_
    refine RQ.y rfl (Y.move (v := .int .i64 (pairFirst x8.kind x8.level x19.kind x19.level)) rfl) ?_
    refine RQ.y rfl (Y.binI (v := .bool ((pairFirst x8.kind x8.level x19.kind x19.level) == 2)) rfl rfl rfl) ?_
    refine RQ.nil ?_
    refine then_n ?_
    rcases bcases ((pairFirst x8.kind x8.level x19.kind x19.level) == 2) with c73 | c73
    · replace hm := cF c73 hm
      refine cond_f rfl (vb rfl c73) ?_
      refine wp_skip ?_
      refine then_n ?_
      refine wp_seq ?_
      refine wp_seq ?_
      refine wp_rs rfl ?_
      refine RQ.y rfl (Y.move (v := .int .i64 (pairClass x8.kind x8.level x19.kind x19.level)) rfl) ?_
      refine RQ.y rfl (Y.binI (v := .bool ((pairClass x8.kind x8.level x19.kind x19.level) == 6)) rfl rfl rfl) ?_
      refine RQ.y rfl (Y.move (v := .bool ((pairClass x8.kind x8.level x19.kind x19.level) == 6)) rfl) ?_
      rcases bcases ((pairClass x8.kind x8.level x19.kind x19.level) == 6) with c74 | c74
      · replace hm := cF c74 hm
        refine RQ.skip (wantN (dj := 44) rfl (vb rfl c74) rfl) ?_
        refine RQ.skip (wantN (dj := 44) rfl (vb rfl c74) rfl) ?_
        refine RQ.skip (wantN (dj := 44) rfl (vb rfl c74) rfl) ?_
        refine RQ.y rfl (Y.pick (b := false) (v := .bool false) (vb rfl c74) rfl) ?_
        refine RQ.y rfl (Y.move (v := .bool false) rfl) ?_
        refine RQ.skip (wantN (dj := 49) rfl rfl rfl) ?_
        refine RQ.skip (wantN (dj := 49) rfl rfl rfl) ?_
        refine RQ.skip (wantN (dj := 49) rfl rfl rfl) ?_
        refine RQ.skip (wantN (dj := 49) rfl rfl rfl) ?_
        refine RQ.skip (wantN (dj := 49) rfl rfl rfl) ?_
        refine RQ.skip (wantN (dj := 49) rfl rfl rfl) ?_
        refine RQ.y rfl (Y.pick (b := false) (v := .bool false) rfl rfl) ?_
        refine RQ.nil ?_
        refine then_n ?_
        refine cond_f rfl rfl ?_
        refine wp_skip ?_
        refine then_n ?_
        refine wp_seq ?_
        refine wp_rs rfl ?_
        refine RQ.y rfl (Y.move (v := .int .i64 (pairClass x8.kind x8.level x19.kind x19.level)) rfl) ?_
        refine RQ.y rfl (Y.move (v := .int .i64 (pairFirst x8.kind x8.level x19.kind x19.level)) rfl) ?_
        refine RQ.y rfl (Y.binI (v := .bool ((pairFirst x8.kind x8.level x19.kind x19.level) == 2)) rfl rfl rfl) ?_
        refine RQ.y rfl (Y.assign (v := .int .i64 (pairClass x8.kind x8.level x19.kind x19.level)) rfl) ?_
        refine RQ.y rfl (Y.assign (v := .bool ((pairFirst x8.kind x8.level x19.kind x19.level) == 2)) rfl) ?_
        refine RQ.nil ?_
        refine then_n ?_
        refine wp_ret ?_
        obtain rfl := Option.some.inj hm
        exact (ret2 rfl rfl rfl rfl ⟨rfl, T⟩)
      · replace hm := cT c74 hm
        refine RQ.y (wantT (dj := 44) rfl (vb rfl c74)) (Y.fieldAddr (off := 0) rfl (by kernel_rfl)) ?_
        refine RQ.y (wantT (dj := 44) rfl (vb rfl c74)) (Y.load (v := .int .i64 x19.kind) rfl (by kernel_rfl) (eqC (blkCell B69 (i := 0) rfl))) ?_
        refine RQ.y (wantT (dj := 44) rfl (vb rfl c74)) (Y.binI (v := .bool (x19.kind == 10)) rfl rfl rfl) ?_
        refine RQ.y rfl (Y.pick (b := true) (v := .bool (x19.kind == 10)) (vb rfl c74) rfl) ?_
        refine RQ.y rfl (Y.move (v := .bool (x19.kind == 10)) rfl) ?_
        rcases bcases (x19.kind == 10) with c75 | c75
        · replace hm := cF c75 hm
          refine RQ.skip (wantN (dj := 49) rfl (vb rfl c75) rfl) ?_
          refine RQ.skip (wantN (dj := 49) rfl (vb rfl c75) rfl) ?_
          refine RQ.skip (wantN (dj := 49) rfl (vb rfl c75) rfl) ?_
          refine RQ.skip (wantN (dj := 49) rfl (vb rfl c75) rfl) ?_
          refine RQ.skip (wantN (dj := 49) rfl (vb rfl c75) rfl) ?_
          refine RQ.skip (wantN (dj := 49) rfl (vb rfl c75) rfl) ?_
          refine RQ.y rfl (Y.pick (b := false) (v := .bool false) (vb rfl c75) rfl) ?_
          refine RQ.nil ?_
          refine then_n ?_
          refine cond_f rfl rfl ?_
          refine wp_skip ?_
          refine then_n ?_
          refine wp_seq ?_
          refine wp_rs rfl ?_
          refine RQ.y rfl (Y.move (v := .int .i64 (pairClass x8.kind x8.level x19.kind x19.level)) rfl) ?_
          refine RQ.y rfl (Y.move (v := .int .i64 (pairFirst x8.kind x8.level x19.kind x19.level)) rfl) ?_
          refine RQ.y rfl (Y.binI (v := .bool ((pairFirst x8.kind x8.level x19.kind x19.level) == 2)) rfl rfl rfl) ?_
          refine RQ.y rfl (Y.assign (v := .int .i64 (pairClass x8.kind x8.level x19.kind x19.level)) rfl) ?_
          refine RQ.y rfl (Y.assign (v := .bool ((pairFirst x8.kind x8.level x19.kind x19.level) == 2)) rfl) ?_
          refine RQ.nil ?_
          refine then_n ?_
          refine wp_ret ?_
          obtain rfl := Option.some.inj hm
          exact (ret2 rfl rfl rfl rfl ⟨rfl, T⟩)
        · replace hm := cT c75 hm
          refine RQ.y (wantT (dj := 49) rfl (vb rfl c75)) (Y.fieldAddr (off := 2) rfl (by kernel_rfl)) ?_
          refine RQ.y (wantT (dj := 49) rfl (vb rfl c75)) (Y.load (v := .int .i64 x8.value) rfl (by kernel_rfl) (eqC (blkCell B66 (i := 2) rfl))) ?_
          refine RQ.y (wantT (dj := 49) rfl (vb rfl c75)) (Y.fieldAddr (off := 3) rfl (by kernel_rfl)) ?_
          refine RQ.y (wantT (dj := 49) rfl (vb rfl c75)) (Y.load (v := .slice A26 x19.data.length c26) rfl (by kernel_rfl) (eqC (blkCell B69 (i := 3) rfl))) ?_
          refine RQ.y (wantT (dj := 49) rfl (vb rfl c75)) (Y.len (by kernel_rfl) rfl) ?_
          refine RQ.y (wantT (dj := 49) rfl (vb rfl c75)) (Y.binI (v := .bool (decide (x8.value ≥ (x19.data.length : Int)))) rfl rfl rfl) ?_
          refine RQ.y rfl (Y.pick (b := true) (v := .bool (decide (x8.value ≥ (x19.data.length : Int)))) (vb rfl c75) rfl) ?_
          refine RQ.nil ?_
          refine then_n ?_
          rcases bcases (decide (x8.value ≥ (x19.data.length : Int))) with c76 | c76
          · replace hm := cF c76 hm
            have pc76 := of_decide_eq_false c76
            refine cond_f rfl (vb rfl c76) ?_
            refine wp_skip ?_
            refine then_n ?_
            refine wp_seq ?_
            refine wp_rs rfl ?_
            refine RQ.y rfl (Y.move (v := .int .i64 (pairClass x8.kind x8.level x19.kind x19.level)) rfl) ?_
            refine RQ.y rfl (Y.move (v := .int .i64 (pairFirst x8.kind x8.level x19.kind x19.level)) rfl) ?_
            refine RQ.y rfl (Y.binI (v := .bool ((pairFirst x8.kind x8.level x19.kind x19.level) == 2)) rfl rfl rfl) ?_
            refine RQ.y rfl (Y.assign (v := .int .i64 (pairClass x8.kind x8.level x19.kind x19.level)) rfl) ?_
            refine RQ.y rfl (Y.assign (v := .bool ((pairFirst x8.kind x8.level x19.kind x19.level) == 2)) rfl) ?_
            refine RQ.nil ?_
            refine then_n ?_
            refine wp_ret ?_
            obtain rfl := Option.some.inj hm
            exact (ret2 rfl rfl rfl rfl ⟨rfl, T⟩)
          · replace hm := cT c76 hm
            have pc76 := of_decide_eq_true c76
            refine cond_t rfl (vb rfl c76) ?_
            refine wp_seq ?_
            refine wp_rs rfl ?_
            refine RQ.y rfl (Y.assign (v := .int .i64 8) rfl) ?_
            refine RQ.y rfl (Y.assign (v := .bool false) rfl) ?_
            refine RQ.nil ?_
            refine then_n ?_
            refine wp_ret ?_
            obtain rfl := Option.some.inj hm
            exact (then_r (ret2 rfl rfl rfl rfl ⟨rfl, T⟩))
    · replace hm := cT c73 hm
      refine cond_t rfl (vb rfl c73) ?_
      refine wp_rl rfl ?_
      refine RL.y rfl (Y.loadN (cs := [.int .i64 x19.kind, .int .i64 x19.level, .int .i64 x19.value, .slice A26 x19.data.length c26, .slice A27 x19.ports.length c27]) rfl (by kernel_rfl) (cells5 (eqC (blkCell B69 (i := 0) rfl)) (eqC (blkCell B69 (i := 1) rfl)) (eqC (blkCell B69 (i := 2) rfl)) (eqC (blkCell B69 (i := 3) rfl)) (eqC (blkCell B69 (i := 4) rfl)))) ?_
      refine RL.y rfl (Y.loadN (cs := [.int .i64 x8.kind, .int .i64 x8.level, .int .i64 x8.value, .slice A17 x8.data.length c17, .slice A18 x8.ports.length c18]) rfl (by kernel_rfl) (cells5 (eqC (blkCell B66 (i := 0) rfl)) (eqC (blkCell B66 (i := 1) rfl)) (eqC (blkCell B66 (i := 2) rfl)) (eqC (blkCell B66 (i := 3) rfl)) (eqC (blkCell B66 (i := 4) rfl)))) ?_
      refine RL.store (v := .agg #[.int .i64 x19.kind, .int .i64 x19.level, .int .i64 x19.value, .slice A26 x19.data.length c26, .slice A27 x19.ports.length c27]) (cs' := #[.int .i64 x19.kind, .int .i64 x19.level, .int .i64 x19.value, .slice A26 x19.data.length c26, .slice A27 x19.ports.length c27]) rfl rfl rfl B66 (by kernel_rfl) (by rfl) (by rfl) (by rfl) (fun w77 B78 ho79 => ?_)
      have szw77 := ho79.size
      have B69 := B69.only_ ho79 (by intro hin; simp at hin; exact Eob64_ob60 hin)
      have T := T.trans (ho79.below (by first | (simp; done) | (simp; omega)))
      refine RL.store (v := .agg #[.int .i64 x8.kind, .int .i64 x8.level, .int .i64 x8.value, .slice A17 x8.data.length c17, .slice A18 x8.ports.length c18]) (cs' := #[.int .i64 x8.kind, .int .i64 x8.level, .int .i64 x8.value, .slice A17 x8.data.length c17, .slice A18 x8.ports.length c18]) rfl rfl rfl B69 (by kernel_rfl) (by rfl) (by rfl) (by rfl) (fun w80 B81 ho82 => ?_)
      have szw80 := ho82.size
      have B78 := B78.only_ ho82 (by intro hin; simp at hin; exact Eob64_ob60.symm hin)
      have T := T.trans (ho82.below (by first | (simp; done) | (simp; omega)))
      refine RL.nil ?_
      refine then_n ?_
      refine wp_seq ?_
      refine wp_seq ?_
      refine wp_rs rfl ?_
      refine RQ.y rfl (Y.move (v := .int .i64 (pairClass x8.kind x8.level x19.kind x19.level)) rfl) ?_
      refine RQ.y rfl (Y.binI (v := .bool ((pairClass x8.kind x8.level x19.kind x19.level) == 6)) rfl rfl rfl) ?_
      refine RQ.y rfl (Y.move (v := .bool ((pairClass x8.kind x8.level x19.kind x19.level) == 6)) rfl) ?_
      rcases bcases ((pairClass x8.kind x8.level x19.kind x19.level) == 6) with c83 | c83
      · replace hm := cF c83 hm
        refine RQ.skip (wantN (dj := 44) rfl (vb rfl c83) rfl) ?_
        refine RQ.skip (wantN (dj := 44) rfl (vb rfl c83) rfl) ?_
        refine RQ.skip (wantN (dj := 44) rfl (vb rfl c83) rfl) ?_
        refine RQ.y rfl (Y.pick (b := false) (v := .bool false) (vb rfl c83) rfl) ?_
        refine RQ.y rfl (Y.move (v := .bool false) rfl) ?_
        refine RQ.skip (wantN (dj := 49) rfl rfl rfl) ?_
        refine RQ.skip (wantN (dj := 49) rfl rfl rfl) ?_
        refine RQ.skip (wantN (dj := 49) rfl rfl rfl) ?_
        refine RQ.skip (wantN (dj := 49) rfl rfl rfl) ?_
        refine RQ.skip (wantN (dj := 49) rfl rfl rfl) ?_
        refine RQ.skip (wantN (dj := 49) rfl rfl rfl) ?_
        refine RQ.y rfl (Y.pick (b := false) (v := .bool false) rfl rfl) ?_
        refine RQ.nil ?_
        refine then_n ?_
        refine cond_f rfl rfl ?_
        refine wp_skip ?_
        refine then_n ?_
        refine wp_seq ?_
        refine wp_rs rfl ?_
        refine RQ.y rfl (Y.move (v := .int .i64 (pairClass x8.kind x8.level x19.kind x19.level)) rfl) ?_
        refine RQ.y rfl (Y.move (v := .int .i64 (pairFirst x8.kind x8.level x19.kind x19.level)) rfl) ?_
        refine RQ.y rfl (Y.binI (v := .bool ((pairFirst x8.kind x8.level x19.kind x19.level) == 2)) rfl rfl rfl) ?_
        refine RQ.y rfl (Y.assign (v := .int .i64 (pairClass x8.kind x8.level x19.kind x19.level)) rfl) ?_
        refine RQ.y rfl (Y.assign (v := .bool ((pairFirst x8.kind x8.level x19.kind x19.level) == 2)) rfl) ?_
        refine RQ.nil ?_
        refine then_n ?_
        refine wp_ret ?_
        obtain rfl := Option.some.inj hm
        exact (ret2 rfl rfl rfl rfl ⟨rfl, T⟩)
      · replace hm := cT c83 hm
        refine RQ.y (wantT (dj := 44) rfl (vb rfl c83)) (Y.fieldAddr (off := 0) rfl (by kernel_rfl)) ?_
        refine RQ.y (wantT (dj := 44) rfl (vb rfl c83)) (Y.load (v := .int .i64 x8.kind) rfl (by kernel_rfl) (eqC (blkCell B81 (i := 0) rfl))) ?_
        refine RQ.y (wantT (dj := 44) rfl (vb rfl c83)) (Y.binI (v := .bool (x8.kind == 10)) rfl rfl rfl) ?_
        refine RQ.y rfl (Y.pick (b := true) (v := .bool (x8.kind == 10)) (vb rfl c83) rfl) ?_
        refine RQ.y rfl (Y.move (v := .bool (x8.kind == 10)) rfl) ?_
        rcases bcases (x8.kind == 10) with c84 | c84
        · replace hm := cF c84 hm
          refine RQ.skip (wantN (dj := 49) rfl (vb rfl c84) rfl) ?_
          refine RQ.skip (wantN (dj := 49) rfl (vb rfl c84) rfl) ?_
          refine RQ.skip (wantN (dj := 49) rfl (vb rfl c84) rfl) ?_
          refine RQ.skip (wantN (dj := 49) rfl (vb rfl c84) rfl) ?_
          refine RQ.skip (wantN (dj := 49) rfl (vb rfl c84) rfl) ?_
          refine RQ.skip (wantN (dj := 49) rfl (vb rfl c84) rfl) ?_
          refine RQ.y rfl (Y.pick (b := false) (v := .bool false) (vb rfl c84) rfl) ?_
          refine RQ.nil ?_
          refine then_n ?_
          refine cond_f rfl rfl ?_
          refine wp_skip ?_
          refine then_n ?_
          refine wp_seq ?_
          refine wp_rs rfl ?_
          refine RQ.y rfl (Y.move (v := .int .i64 (pairClass x8.kind x8.level x19.kind x19.level)) rfl) ?_
          refine RQ.y rfl (Y.move (v := .int .i64 (pairFirst x8.kind x8.level x19.kind x19.level)) rfl) ?_
          refine RQ.y rfl (Y.binI (v := .bool ((pairFirst x8.kind x8.level x19.kind x19.level) == 2)) rfl rfl rfl) ?_
          refine RQ.y rfl (Y.assign (v := .int .i64 (pairClass x8.kind x8.level x19.kind x19.level)) rfl) ?_
          refine RQ.y rfl (Y.assign (v := .bool ((pairFirst x8.kind x8.level x19.kind x19.level) == 2)) rfl) ?_
          refine RQ.nil ?_
          refine then_n ?_
          refine wp_ret ?_
          obtain rfl := Option.some.inj hm
          exact (ret2 rfl rfl rfl rfl ⟨rfl, T⟩)
        · replace hm := cT c84 hm
          refine RQ.y (wantT (dj := 49) rfl (vb rfl c84)) (Y.fieldAddr (off := 2) rfl (by kernel_rfl)) ?_
          refine RQ.y (wantT (dj := 49) rfl (vb rfl c84)) (Y.load (v := .int .i64 x19.value) rfl (by kernel_rfl) (eqC (blkCell B78 (i := 2) rfl))) ?_
          refine RQ.y (wantT (dj := 49) rfl (vb rfl c84)) (Y.fieldAddr (off := 3) rfl (by kernel_rfl)) ?_
          refine RQ.y (wantT (dj := 49) rfl (vb rfl c84)) (Y.load (v := .slice A17 x8.data.length c17) rfl (by kernel_rfl) (eqC (blkCell B81 (i := 3) rfl))) ?_
          refine RQ.y (wantT (dj := 49) rfl (vb rfl c84)) (Y.len (by kernel_rfl) rfl) ?_
          refine RQ.y (wantT (dj := 49) rfl (vb rfl c84)) (Y.binI (v := .bool (decide (x19.value ≥ (x8.data.length : Int)))) rfl rfl rfl) ?_
          refine RQ.y rfl (Y.pick (b := true) (v := .bool (decide (x19.value ≥ (x8.data.length : Int)))) (vb rfl c84) rfl) ?_
          refine RQ.nil ?_
          refine then_n ?_
          rcases bcases (decide (x19.value ≥ (x8.data.length : Int))) with c85 | c85
          · replace hm := cF c85 hm
            have pc85 := of_decide_eq_false c85
            refine cond_f rfl (vb rfl c85) ?_
            refine wp_skip ?_
            refine then_n ?_
            refine wp_seq ?_
            refine wp_rs rfl ?_
            refine RQ.y rfl (Y.move (v := .int .i64 (pairClass x8.kind x8.level x19.kind x19.level)) rfl) ?_
            refine RQ.y rfl (Y.move (v := .int .i64 (pairFirst x8.kind x8.level x19.kind x19.level)) rfl) ?_
            refine RQ.y rfl (Y.binI (v := .bool ((pairFirst x8.kind x8.level x19.kind x19.level) == 2)) rfl rfl rfl) ?_
            refine RQ.y rfl (Y.assign (v := .int .i64 (pairClass x8.kind x8.level x19.kind x19.level)) rfl) ?_
            refine RQ.y rfl (Y.assign (v := .bool ((pairFirst x8.kind x8.level x19.kind x19.level) == 2)) rfl) ?_
            refine RQ.nil ?_
            refine then_n ?_
            refine wp_ret ?_
            obtain rfl := Option.some.inj hm
            exact (ret2 rfl rfl rfl rfl ⟨rfl, T⟩)
          · replace hm := cT c85 hm
            have pc85 := of_decide_eq_true c85
            refine cond_t rfl (vb rfl c85) ?_
            refine wp_seq ?_
            refine wp_rs rfl ?_
            refine RQ.y rfl (Y.assign (v := .int .i64 8) rfl) ?_
            refine RQ.y rfl (Y.assign (v := .bool false) rfl) ?_
            refine RQ.nil ?_
            refine then_n ?_
            refine wp_ret ?_
            obtain rfl := Option.some.inj hm
            exact (then_r (ret2 rfl rfl rfl rfl ⟨rfl, T⟩))
def m_spec_l00Max (d0 : Int) (d1 : Int) : Option Int :=
  (bif (decide (d0 > d1)) then some d0 else some d1)
set_option maxHeartbeats 2000000 in
theorem c_m_spec_l00Max (d0 : Int) (d1 : Int) (r : Int) (hm : m_spec_l00Max d0 d1 = some r)  (w : World)  :
    Calls Try.prog 130 #[.int .i64 d0, .int .i64 d1] w fun e w' => e = .returned (.int .i64 r) ∧ Below w.heap.size w w' := by
  have T := Below.refl w.heap.size w
  unfold m_spec_l00Max at hm
  refine enter 10 Try.func130 rfl rfl rfl ?_
  intro f hf
  have s0 : f 0 = .int .i64 d0 := hf 0 _ rfl
  have s1 : f 1 = .int .i64 d1 := hf 1 _ rfl
  refine wp_seq ?_
  refine wp_rs rfl ?_
  refine RQ.y rfl (Y.assign (v := .int .i64 0) rfl) ?_
  refine RQ.nil ?_
  refine then_n ?_
  refine wp_seq ?_
  refine wp_seq ?_
  refine wp_rs rfl ?_
  refine RQ.y rfl (Y.move (v := .int .i64 d0) s0) ?_
  refine RQ.y rfl (Y.move (v := .int .i64 d1) s1) ?_
  refine RQ.y rfl (Y.binI (v := .bool (decide (d0 > d1))) rfl rfl rfl) ?_
  refine RQ.nil ?_
  refine then_n ?_
  rcases bcases (decide (d0 > d1)) with c1 | c1
  · replace hm := cF c1 hm
    have pc1 := of_decide_eq_false c1
    refine cond_f rfl (vb rfl c1) ?_
    refine wp_skip ?_
    refine then_n ?_
    refine wp_seq ?_
    refine wp_rs rfl ?_
    refine RQ.y rfl (Y.move (v := .int .i64 d1) s1) ?_
    refine RQ.y rfl (Y.assign (v := .int .i64 d1) rfl) ?_
    refine RQ.nil ?_
    refine then_n ?_
    refine wp_ret ?_
    obtain rfl := Option.some.inj hm
    exact (ret1 rfl rfl rfl ⟨rfl, T⟩)
  · replace hm := cT c1 hm
    have pc1 := of_decide_eq_true c1
    refine cond_t rfl (vb rfl c1) ?_
    refine wp_seq ?_
    refine wp_rs rfl ?_
    refine RQ.y rfl (Y.move (v := .int .i64 d0) s0) ?_
    refine RQ.y rfl (Y.assign (v := .int .i64 d0) rfl) ?_
    refine RQ.nil ?_
    refine then_n ?_
    refine wp_ret ?_
    obtain rfl := Option.some.inj hm
    exact (then_r (ret1 rfl rfl rfl ⟨rfl, T⟩))
end
section
open Go.RowKit
set_option linter.unusedVariables false
set_option linter.unusedSimpArgs false
/-- A loop that seeks the first element with q. -/
theorem findI {α ρ : Type} {L : Nat → Int → Option ρ} {d : List α} {q : α → Bool} {hit : Nat → Option ρ} {K : Option ρ} (h : ∀ g (k : Nat) x, d[k]? = some x → L (g + 1) (k : Int) = if q x then hit k else L g ((k : Int) + 1)) (he : ∀ g, L (g + 1) (d.length : Int) = K) (g : Nat) (hg : d.length < g) :
    L g 0 = match d.findIdx? q with | some i => hit i | none => K := by
  cases hf : d.findIdx? q with
  | none =>
    refine trajI (n := d.length) (fun g k hk => ?_) he g hg
    have hx := List.getElem?_eq_getElem hk
    have := List.findIdx?_eq_none_iff.1 hf d[k] (List.getElem_mem hk)
    rw [h g k _ hx, this]; simp
  | some i =>
    obtain ⟨hi, h1, h2⟩ := List.findIdx?_eq_some_iff_getElem.1 hf
    refine trajI (n := i) (fun g k hk => ?_) (fun g => ?_) g (by omega)
    · have hkl : k < d.length := by omega
      have hx := List.getElem?_eq_getElem hkl
      have := h2 k hk
      rw [h g k _ hx]; simp [this]
    · rw [h g i _ (List.getElem?_eq_getElem hi), h1]; simp
/-- A loop over a list. -/
theorem foldL {α σ ρ : Type} {L : Nat → σ → Int → Option ρ} {d : List α} {f : σ → α → σ} {I : Nat → σ → Prop} {K : σ → Option ρ} (h : ∀ g (k : Nat) x s, d[k]? = some x → I k s → L (g + 1) s (k : Int) = L g (f s x) ((k : Int) + 1) ∧ I (k + 1) (f s x)) (he : ∀ g s, I d.length s → L (g + 1) s (d.length : Int) = K s) :
    ∀ (g : Nat) (s : σ), d.length < g → I 0 s → L g s 0 = K (d.foldl f s) ∧ I d.length (d.foldl f s) := by
  have key : ∀ (m k g : Nat) s, k + m = d.length → m < g → I k s → L g s (k : Int) = K ((d.drop k).foldl f s) ∧ I d.length ((d.drop k).foldl f s) := by
    intro m
    induction m with
    | zero =>
      intro k g s hk hg hI
      obtain ⟨g, rfl⟩ : ∃ g', g = g' + 1 := ⟨g - 1, by omega⟩
      obtain rfl : k = d.length := by omega
      rw [List.drop_length]
      exact ⟨he g s hI, hI⟩
    | succ m ih =>
      intro k g s hk hg hI
      obtain ⟨g, rfl⟩ : ∃ g', g = g' + 1 := ⟨g - 1, by omega⟩
      have hkl : k < d.length := by omega
      have hx := List.getElem?_eq_getElem hkl
      obtain ⟨h1, h2⟩ := h g k _ s hx hI
      rw [h1, List.drop_eq_getElem_cons hkl, List.foldl_cons]
      exact ih (k + 1) g _ (by omega) (by omega) h2
  intro g s hg hI
  have := key d.length 0 g s (by omega) hg hI
  simpa using this
def cls (x y : DAgent) : Int := if (x.kind = 9 ∧ y.kind = 10 ∧ (y.data.length : Int) ≤ x.value) ∨ (x.kind = 10 ∧ y.kind = 9 ∧ (x.data.length : Int) ≤ y.value) then 8 else pairClass x.kind x.level y.kind y.level
theorem p_class (x y : DAgent) : m_spec_l13Class x y = some (cls x y) := by
  unfold m_spec_l13Class cls
  simp only [Bool.cond_eq_ite, beq_iff_eq, decide_eq_true_eq, ge_iff_le]
  by_cases h1 : x.kind = 9
  · have h1' : ¬ x.kind = 10 := by omega
    by_cases h2 : y.kind = 10
    · by_cases h3 : (y.data.length : Int) ≤ x.value <;> simp [h1, h2, h3]
    · simp [h1, h2]
  · by_cases h2 : x.kind = 10
    · by_cases h3 : y.kind = 9
      · by_cases h4 : (x.data.length : Int) ≤ y.value <;> simp [h2, h3, h4]
      · simp [h2, h3]
    · simp [h1, h2]
/-- An active pair of a net. -/
def PairIn (xs : List DAgent) (p : DPair) : Prop := ∃ (i j : Nat) (x y : DAgent), p = ⟨(i : Int), (j : Int)⟩ ∧ i < j ∧ xs[i]? = some x ∧ xs[j]? = some y ∧ x.kind ≠ 1 ∧ y.kind ≠ 1 ∧ x.ports[0]? = some ⟨(j : Int), 0⟩
theorem pairsOf_in {xs : List DAgent} (G : Good xs) {p : DPair} (h : p ∈ pairsOf xs) : PairIn xs p := by
  unfold pairsOf at h
  rw [List.mem_flatMap] at h
  obtain ⟨i, hi, hp⟩ := h
  have hi : i < xs.length := by simpa using hi
  have hx := List.getElem?_eq_getElem hi
  have h0 := G.pos hx
  have hq := List.getElem?_eq_getElem h0
  rw [pairAt_eq hx hq] at hp
  split at hp
  · rename_i hc
    have hp : p = ⟨(i : Int), xs[i].ports[0].agent⟩ := by simpa using hp
    have hb := G.ports i _ hx 0 h0
    unfold badPort at hb
    have ep : peer xs ⟨(i : Int), ((0 : Nat) : Int)⟩ = xs[i].ports[0] := peer_of hx hq
    rw [ep] at hb
    simp only [Bool.or_eq_false_iff, Bool.not_eq_false'] at hb
    obtain ⟨j, k, y, he, hy, hk, _⟩ := hasPort_at hb.1.2
    have hk0 : k = 0 := by have h := hc.1; rw [he] at h; simp only at h; omega
    subst hk0
    have hj : xs[i].ports[0].agent = (j : Int) := by rw [he]
    refine ⟨i, j, xs[i], y, by rw [hp, hj], by have := hc.2.1; omega, hx, hy, hc.2.2, ?_, by rw [hq, he]; rfl⟩
    intro h1
    have := (G.root j y hy).1 h1
    have := hc.2.1
    omega
  · simp at hp
def clsF (x y : DAgent) : Bool := bif cls x y == 8 && !(pairClass x.kind x.level y.kind y.level == 8) then false else pairFirst x.kind x.level y.kind y.level == 2
theorem agentOk_allowed {x : DAgent} (h : agentOk x = true) : allowed x.kind x.level = true := by
  unfold agentOk at h
  simp only [Bool.and_eq_true] at h
  exact h.1.2
theorem p_classOf {d : DNet} {p : DPair} (G : Good d.agents) (h : PairIn d.agents p) : m_impl_Net_classOf d p = some (cls (agentAt d.agents p.a) (agentAt d.agents p.b), clsF (agentAt d.agents p.a) (agentAt d.agents p.b)) := by
  obtain ⟨xs⟩ := d
  have G : Good xs := G
  obtain ⟨i, j, x, y, rfl, hij, hx, hy, h1, h2, _⟩ := h
  have hx : xs[i]? = some x := hx
  have hy : xs[j]? = some y := hy
  have hm : mayPair x.kind x.level y.kind y.level = true := by
    unfold mayPair
    rw [agentOk_allowed (G.ok i x hx), agentOk_allowed (G.ok j y hy)]
    simp [h1, h2]
  unfold m_impl_Net_classOf
  simp only [getI_nat hx, getI_nat hy, Option.bind_some, agentAt_nat hx, agentAt_nat hy]
  have hc : pairClass x.kind x.level y.kind y.level = if rule x.kind x.level y.kind y.level ≠ 0 then rule x.kind x.level y.kind y.level else if rule y.kind y.level x.kind x.level ≠ 0 then rule y.kind y.level x.kind x.level else 8 := by
    unfold pairClass; rw [if_pos hm]
  have hf : pairFirst x.kind x.level y.kind y.level = if rule x.kind x.level y.kind y.level ≠ 0 then 1 else if rule y.kind y.level x.kind x.level ≠ 0 then 2 else 0 := by
    unfold pairFirst; rw [if_pos hm]
  have k1 : rule x.kind x.level y.kind y.level = 6 → y.kind = 10 → x.kind = 9 := by unfold rule; grind
  have k2 : rule y.kind y.level x.kind x.level = 6 → x.kind = 10 → y.kind = 9 := by unfold rule; grind
  have k3 : x.kind = 9 → y.kind = 10 → rule x.kind x.level y.kind y.level = 6 := by unfold rule; grind
  have k4 : x.kind = 10 → rule x.kind x.level y.kind y.level = 0 := by unfold rule; grind
  have k5 : y.kind = 9 → x.kind = 10 → rule y.kind y.level x.kind x.level = 6 := by unfold rule; grind
  unfold clsF cls
  rw [hc, hf]
  generalize rule x.kind x.level y.kind y.level = ra at *
  generalize rule y.kind y.level x.kind x.level = rb at *
  simp only [Bool.cond_eq_ite, beq_iff_eq, decide_eq_true_eq, ge_iff_le]
  clear hc hf hm h1 h2
  grind
end
section
open Go.RowKit Go.Maps
set_option linter.unusedVariables false
set_option linter.unusedSimpArgs false
set_option linter.unusedSectionVars false
/-- A map as data: how often it was written, and what it holds. -/
structure MapM (κ β : Type) where
  n : Nat
  get : κ → Option β
section
variable {κ β : Type}
def MapM.empty : MapM κ β := ⟨0, fun _ => none⟩
def MapM.put [DecidableEq κ] (m : MapM κ β) (x : κ) (v : β) : MapM κ β := ⟨m.n + 1, fun y => if y = x then some v else m.get y⟩
def rdVal (v : Value) : Option (DataW Value × List MemPlace) := some (.held v, [])
/-- A map type: its keys, its elements' zero value. -/
structure MapT (P : Program) (t k : TypeId) (key : κ → Value) (lit : κ → Lit) (good : κ → Prop) (z : Value) : Prop where
  keyed : Keyed P k
  ty : ∃ e, P.underlying t = some (.map k e) ∧ ∀ w, (zeroValue e).run P w = .ok z w
  of : ∀ x, good x → keyOf P k (key x) = some (lit x)
  inj : ∀ x y, lit x = lit y → x = y
def OwM (P : Program) (k : TypeId) (lit : κ → Lit) (enc : β → Value) (w : World) (lo b : Nat) (m : MapM κ β) : Prop :=
  lo ≤ b ∧ ∃ D, w.ownsMap P k rdVal b m.n D ∧ ∀ x zd, D.atKey (lit x) zd = match m.get x with | some v => .held (enc v) | none => zd
variable {P : Program} {t k : TypeId} {key : κ → Value} {lit : κ → Lit} {good : κ → Prop} {z : Value} {enc : β → Value} {w w' : World} {lo b : Nat} {m : MapM κ β}
theorem OwM.lt (h : OwM P k lit enc w lo b m) : b < w.heap.size := by obtain ⟨_, D, h, _⟩ := h; exact h.lt
theorem OwM.keep (h : OwM P k lit enc w lo b m) (hb : w'.heap[b]? = w.heap[b]?) : OwM P k lit enc w' lo b m := by
  obtain ⟨h0, D, ⟨es, clock, h1, F, hs, hD⟩, h2⟩ := h
  exact ⟨h0, D, ⟨es, clock, hb.trans h1, F, hs, hD⟩, h2⟩
theorem OwM.below (h : OwM P k lit enc w lo b m) (hb : Below w.heap.size w w') : OwM P k lit enc w' lo b m := h.keep (hb.block b h.lt)
theorem OwM.only {bs : List Nat} (h : OwM P k lit enc w lo b m) (ho : Only bs w w') (hn : b ∉ bs) : OwM P k lit enc w' lo b m := h.keep (ho.block b hn)
theorem OwM.grown {row : Option Nat} (h : OwM P k lit enc w lo b m) (hg : w.grownBy w' row) (hn : row ≠ some b) : OwM P k lit enc w' lo b m := h.keep (hg.block b h.lt (fun e => hn e.symm))
theorem OwM.new : OwM P k lit enc (w.alloc (.map #[] 0)) w.heap.size w.heap.size (MapM.empty : MapM κ β) :=
  ⟨Nat.le_refl _, .map [], World.ownsMap_made w P k rdVal, fun x zd => rfl⟩
theorem OwM.set [DecidableEq κ] {v : β} (h : OwM P k lit enc w lo b m) (T : MapT P t k key lit good z) {x : κ} (hx : good x) (hn : m.n ≤ 4294967296) :
    ∃ w', (Instr.mapUpdate t (.map (some b)) (key x) (enc v)).run P w = .ok () w' ∧ OwM P k lit enc w' lo b (m.put x v) ∧ Only [b] w w' := by
  obtain ⟨h0, D, h1, h2⟩ := h
  obtain ⟨e, ht, hz⟩ := T.ty
  obtain ⟨w', hr, h3, h4⟩ := h1.store T.keyed ht (by unfold maxLen; omega) (T.of x hx) (d := .held (enc v)) (ps := []) rfl
  refine ⟨w', hr, ⟨h0, _, h3, fun y zd => ?_⟩, ?_⟩
  · unfold MapM.put
    by_cases hy : y = x
    · subst hy
      simp only [if_true]
      exact atKey_put_same h1.isMap (T.keyed.key (T.of y hx)) _ _
    · simp only [if_neg hy]
      rw [atKey_put_other (fun e => hy (T.inj _ _ e))]
      exact h2 y zd
  · obtain ⟨es, clock, es', clock', hb, rfl⟩ := h4
    refine ⟨rfl, rfl, rfl, by simp [ChangeMaps.setBlock], fun j hj => ?_⟩
    exact ChangeMaps.heap_setBlock_other hb _ (by simpa using hj)
end
section
variable {κ β : Type} [DecidableEq κ] {P : Program} {t k : TypeId} {key : κ → Value} {lit : κ → Lit} {good : κ → Prop} {enc : β → Value} {w : World} {lo b : Nat} {m : MapM κ β}
variable {C : World → Prop} {f : Nat → Value} {d : Option Tmp} {ty : TypeId} {pos : String} {af : Array Edge} {g : Option (Nat × Bool)} {x y u : Operand} {ops : Array Oper} {rest : List Oper} {Q : (Nat → Value) → World → Prop}
end
end
section
open Go.RowKit
set_option linter.unusedVariables false
set_option linter.unusedSimpArgs false
set_option maxRecDepth 100000
def m_spec_l13Pair (d0 : DNet) (d1 : Int) : Option (DPair × Int) :=
  ((m_spec_l11Ok d0).bind fun y6 => (bif y6 then ((m_spec_l11Pairs d0).bind fun y14 => ((ck ((y14.length : Int) - 1)).bind fun s23 => (bif (inR d1 0 s23) then ((getI y14 d1).bind fun x30 => some (x30, 0)) else some ((⟨0, 0⟩ : DPair), 2)))) else some ((⟨0, 0⟩ : DPair), 1)))
set_option maxHeartbeats 2000000 in
theorem c_m_spec_l13Pair (d0 : DNet) (d1 : Int) (r : DPair × Int) (hm : m_spec_l13Pair d0 d1 = some r) (v0 : Value) (w : World) (hv0 : Pt netRd w v0 d0) :
    Calls Try.prog 60 #[v0, .int .i64 d1] w fun e w' => e = .returned (.tuple #[.agg #[.int .i64 r.1.a, .int .i64 r.1.b], .int .i64 r.2]) ∧ Below w.heap.size w w' := by
  obtain ⟨ba0, oa0, csa0, rfl, hba0, hRa0, hca0⟩ := hv0
  have hSa0 := hRa0
  obtain ⟨A1, n1, c1, rfl, ⟨h1, r1⟩⟩ := hRa0
  have e1 := h1.len; subst e1
  have q1 := len_le r1
  have T := Below.refl w.heap.size w
  unfold m_spec_l13Pair at hm
  refine enter 24 Try.func60 rfl rfl rfl ?_
  intro f hf
  have s0 : f 0 = .pointer (some ⟨ba0, oa0, none⟩) := hf 0 _ rfl
  have s1 : f 1 = .int .i64 d1 := hf 1 _ rfl
  refine wp_seq ?_
  refine wp_rl rfl ?_
  refine RL.alloc (z := .agg #[.int .i64 0, .int .i64 0]) rfl (by kernel_rfl) (fun w2 B3 hb4 szw2 => ?_)
  replace B3 : Blk w2 w.heap.size 81 #[.int .i64 0, .int .i64 0] := B3
  have GB3 : w.heap.size ≤ w.heap.size := T.size
  have T := Tt T hb4
  refine RL.y rfl (Y.assign (v := .int .i64 0) rfl) ?_
  refine RL.nil ?_
  refine then_n ?_
  refine wp_seq ?_
  refine wp_seq ?_
  refine wp_rb rfl ?_
  refine RQ.y rfl (Y.move (v := .pointer (some ⟨ba0, oa0, none⟩)) s0) ?_
  obtain ⟨y6, e7, hm⟩ := bnd hm
  refine RQ.call rfl (am1 rfl) (by kernel_rfl) (v := .bool y6) (bel (K := fun _ => True) fun w' hb' => (c_m_spec_l11Ok d0 _ e7 _ w' (ptArg netRd_ok hba0 hSa0 hca0 (Tt T hb')))) ?_
  refine RQ.y rfl (Y.not (b' := (!y6)) rfl rfl) ?_
  refine RQ.nil ?_
  intro w8 hb9
  have szw8 := hb9.size
  have B3 := blkT B3 hb9
  have T := Tt T hb9
  refine then_n ?_
  rcases bcases y6 with c10 | c10
  · replace hm := cF c10 hm
    refine cond_t rfl (vbn rfl c10 rfl) ?_
    refine wp_seq ?_
    refine wp_rl rfl ?_
    refine RL.y rfl (Y.build0 (cells := #[.int .i64 0, .int .i64 0])  (by kernel_rfl) (by kernel_rfl)) ?_
    refine RL.store (v := .agg #[.int .i64 0, .int .i64 0]) (cs' := #[.int .i64 0, .int .i64 0]) rfl rfl rfl B3 (by kernel_rfl) (by rfl) (by rfl) (by rfl) (fun w11 B12 ho13 => ?_)
    have szw11 := ho13.size
    have T := T.trans (ho13.below (by first | (simp; done) | (simp; omega)))
    refine RL.y rfl (Y.assign (v := .int .i64 1) rfl) ?_
    refine RL.nil ?_
    refine then_n ?_
    refine wp_ret ?_
    obtain rfl := Option.some.inj hm
    exact (then_r (retct (cs := [.int .i64 0, .int .i64 0]) rfl rfl rfl rfl (by kernel_rfl) (blkCells B12) ⟨rfl, T⟩))
  · replace hm := cT c10 hm
    refine cond_f rfl (vbn rfl c10 rfl) ?_
    refine wp_skip ?_
    refine then_n ?_
    refine wp_seq ?_
    refine wp_rl rfl ?_
    refine RL.y rfl (Y.move (v := .pointer (some ⟨ba0, oa0, none⟩)) s0) ?_
    obtain ⟨y14, e15, hm⟩ := bnd hm
    refine RL.call rfl (am1 rfl) (by kernel_rfl) ((c_m_spec_l11Pairs d0 _ e15 _ _ (ptArg netRd_ok hba0 hSa0 hca0 T)).mono ?_)
    rintro _ w19 ⟨⟨v16, rfl, G17⟩, hb20⟩
    refine ⟨_, rfl, ?_⟩
    have szw19 := hb20.size
    have T0w19 := T.size
    have No18_ob5 := OwF.ne G17 B3.lt
    have B3 := blkT B3 hb20
    have T := Tt T hb20
    replace G17 := OwF.mono G17 T0w19
    refine RL.y rfl (Y.assign (v := v16) rfl) ?_
    refine RL.nil ?_
    refine then_n ?_
    refine wp_seq ?_
    refine wp_seq ?_
    refine wp_rb rfl ?_
    refine RQ.y rfl (Y.move (v := .int .i64 d1) s1) ?_
    refine RQ.y rfl (Y.move (v := v16) rfl) ?_
    obtain ⟨A21, c22, rfl⟩ := OwF.form G17
    have qbA21 := OwF.bound G17
    refine RQ.y rfl (Y.len (by kernel_rfl) rfl) ?_
    obtain ⟨s23, ks23, hm⟩ := bnd hm
    replace ks23 := ck_some ks23
    refine RQ.y rfl (Y.binI (v := .int .i64 s23) rfl rfl (by rw [binI_sub ks23.2, ks23.1])) ?_
    refine RQ.call rfl (am3 rfl rfl rfl) (by kernel_rfl) (v := .bool (inR d1 0 s23)) (bel (K := fun _ => True) fun w' hb' => (callB (spec_l00In d1 0 s23 w'))) ?_
    refine RQ.y rfl (Y.not (b' := (!(inR d1 0 s23))) rfl rfl) ?_
    refine RQ.nil ?_
    intro w24 hb25
    have szw24 := hb25.size
    have B3 := blkT B3 hb25
    have G17 := OwF.below G17 hb25
    have T := Tt T hb25
    refine then_n ?_
    rcases bcases (inR d1 0 s23) with c26 | c26
    · replace hm := cF c26 hm
      refine cond_t rfl (vbn rfl c26 rfl) ?_
      refine wp_seq ?_
      refine wp_rl rfl ?_
      refine RL.y rfl (Y.build0 (cells := #[.int .i64 0, .int .i64 0])  (by kernel_rfl) (by kernel_rfl)) ?_
      refine RL.store (v := .agg #[.int .i64 0, .int .i64 0]) (cs' := #[.int .i64 0, .int .i64 0]) rfl rfl rfl B3 (by kernel_rfl) (by rfl) (by rfl) (by rfl) (fun w27 B28 ho29 => ?_)
      have szw27 := ho29.size
      have G17 := OwF.only G17 ho29 No18_ob5
      have T := T.trans (ho29.below (by first | (simp; done) | (simp; omega)))
      refine RL.y rfl (Y.assign (v := .int .i64 2) rfl) ?_
      refine RL.nil ?_
      refine then_n ?_
      refine wp_ret ?_
      obtain rfl := Option.some.inj hm
      exact (then_r (retct (cs := [.int .i64 0, .int .i64 0]) rfl rfl rfl rfl (by kernel_rfl) (blkCells B28) ⟨rfl, T⟩))
    · replace hm := cT c26 hm
      refine cond_f rfl (vbn rfl c26 rfl) ?_
      refine wp_skip ?_
      refine then_n ?_
      refine wp_seq ?_
      refine wp_rl rfl ?_
      refine RL.y rfl (Y.move (v := .slice A21 y14.length c22) rfl) ?_
      refine RL.y rfl (Y.move (v := .int .i64 d1) s1) ?_
      obtain ⟨x30, hx32, hm⟩ := bnd hm
      obtain ⟨k31, hk33, hl34, hx32⟩ := getI_some hx32
      obtain ⟨b35, rfl⟩ := OwF.addr0 G17 (by omega)
      refine RL.y rfl (Y.indexAddr (m := k31) (sz := 2) rfl rfl hk33 hl34 (by kernel_rfl)) ?_
      refine RL.y rfl (Y.loadN (cs := [.int .i64 x30.a, .int .i64 x30.b]) rfl (by kernel_rfl) (cells2 (eqC (OwF.cell fPair G17 hx32 (j := 0) rfl)) (eqC (OwF.cell fPair G17 hx32 (j := 1) rfl)))) ?_
      refine RL.store (v := .agg #[.int .i64 x30.a, .int .i64 x30.b]) (cs' := #[.int .i64 x30.a, .int .i64 x30.b]) rfl rfl rfl B3 (by kernel_rfl) (by rfl) (by rfl) (by rfl) (fun w36 B37 ho38 => ?_)
      have szw36 := ho38.size
      have G17 := OwF.only G17 ho38 No18_ob5
      have T := T.trans (ho38.below (by first | (simp; done) | (simp; omega)))
      refine RL.y rfl (Y.assign (v := .int .i64 0) rfl) ?_
      refine RL.nil ?_
      refine then_n ?_
      refine wp_ret ?_
      obtain rfl := Option.some.inj hm
      exact (retct (cs := [.int .i64 x30.a, .int .i64 x30.b]) rfl rfl rfl rfl (by kernel_rfl) (blkCells B37) ⟨rfl, T⟩)
def m_impl_pairAt (d0 : DNet) (d1 : Int) : Option (DPair × Int) :=
  ((m_impl_ValidNet d0).bind fun y10 => (bif y10 then ((m_impl_Net_pairs d0).bind fun y18 => (bif (decide (d1 < 0)) then some ((⟨0, 0⟩ : DPair), 2) else (bif (decide (d1 ≥ (y18.length : Int))) then some ((⟨0, 0⟩ : DPair), 2) else ((getI y18 d1).bind fun x29 => some (x29, 0))))) else some ((⟨0, 0⟩ : DPair), 1)))
set_option maxHeartbeats 2000000 in
theorem c_m_impl_pairAt (d0 : DNet) (d1 : Int) (r : DPair × Int) (hm : m_impl_pairAt d0 d1 = some r) (v0 : Value) (w : World) (hv0 : St netRd w v0 d0) :
    Calls Try.prog 63 #[v0, .int .i64 d1] w fun e w' => e = .returned (.tuple #[.agg #[.int .i64 r.1.a, .int .i64 r.1.b], .int .i64 r.2]) ∧ Below w.heap.size w w' := by
  obtain ⟨csa0, rfl, ⟨A1, n1, c1, rfl, ⟨h1, r1⟩⟩⟩ := hv0
  have e1 := h1.len; subst e1
  have q1 := len_le r1
  have T := Below.refl w.heap.size w
  unfold m_impl_pairAt at hm
  refine enter 25 Try.func63 rfl rfl rfl ?_
  intro f hf
  have s0 : f 0 = .agg #[.slice A1 d0.agents.length c1] := hf 0 _ rfl
  have s1 : f 1 = .int .i64 d1 := hf 1 _ rfl
  refine wp_seq ?_
  refine wp_rl rfl ?_
  refine RL.box rfl s0 (fun w2 B3 hb4 szw2 => ?_)
  replace B3 : Blk w2 w.heap.size 30 #[.slice A1 d0.agents.length c1] := B3
  have GB3 : w.heap.size ≤ w.heap.size := T.size
  have T := Tt T hb4
  refine RL.alloc (z := .agg #[.int .i64 0, .int .i64 0]) rfl (by kernel_rfl) (fun w6 B7 hb8 szw6 => ?_)
  replace B7 : Blk w6 w2.heap.size 81 #[.int .i64 0, .int .i64 0] := B7
  have GB7 : w.heap.size ≤ w2.heap.size := T.size
  have Eob9_ob5 := Nat.ne_of_lt B3.lt
  have B3 := blkT B3 hb8
  have T := Tt T hb8
  refine RL.y rfl (Y.assign (v := .int .i64 0) rfl) ?_
  refine RL.nil ?_
  refine then_n ?_
  refine wp_seq ?_
  refine wp_seq ?_
  refine wp_rb rfl ?_
  refine RQ.y rfl (Y.loadN (cs := [.slice A1 d0.agents.length c1]) rfl (by kernel_rfl) (cells1 (beC (blkCell B3 (i := 0) rfl)))) ?_
  obtain ⟨y10, e11, hm⟩ := bnd hm
  refine RQ.call rfl (am1 rfl) (by kernel_rfl) (v := .bool y10) (bel (K := fun _ => True) fun w' hb' => (c_m_impl_ValidNet d0 _ e11 _ w' (stArg (R := netRd) ⟨_, _, _, rfl, ⟨SlAt.now agentRd_ok h1 (Nat.le_refl _) (Tt T hb'), r1⟩⟩))) ?_
  refine RQ.y rfl (Y.not (b' := (!y10)) rfl rfl) ?_
  refine RQ.nil ?_
  intro w12 hb13
  have szw12 := hb13.size
  have B3 := blkT B3 hb13
  have B7 := blkT B7 hb13
  have T := Tt T hb13
  refine then_n ?_
  rcases bcases y10 with c14 | c14
  · replace hm := cF c14 hm
    refine cond_t rfl (vbn rfl c14 rfl) ?_
    refine wp_seq ?_
    refine wp_rl rfl ?_
    refine RL.y rfl (Y.build0 (cells := #[.int .i64 0, .int .i64 0])  (by kernel_rfl) (by kernel_rfl)) ?_
    refine RL.store (v := .agg #[.int .i64 0, .int .i64 0]) (cs' := #[.int .i64 0, .int .i64 0]) rfl rfl rfl B7 (by kernel_rfl) (by rfl) (by rfl) (by rfl) (fun w15 B16 ho17 => ?_)
    have szw15 := ho17.size
    have B3 := B3.only_ ho17 (by intro hin; simp at hin; exact Eob9_ob5 hin)
    have T := T.trans (ho17.below (by first | (simp; done) | (simp; omega)))
    refine RL.y rfl (Y.assign (v := .int .i64 1) rfl) ?_
    refine RL.nil ?_
    refine then_n ?_
    refine wp_ret ?_
    obtain rfl := Option.some.inj hm
    exact (then_r (retct (cs := [.int .i64 0, .int .i64 0]) rfl rfl rfl rfl (by kernel_rfl) (blkCells B16) ⟨rfl, T⟩))
  · replace hm := cT c14 hm
    refine cond_f rfl (vbn rfl c14 rfl) ?_
    refine wp_skip ?_
    refine then_n ?_
    refine wp_seq ?_
    refine wp_rl rfl ?_
    obtain ⟨y18, e19, hm⟩ := bnd hm
    refine RL.call rfl (am1 rfl) (by kernel_rfl) ((c_m_impl_Net_pairs d0 _ e19 _ _ (ptBox (R := netRd) B3 ⟨_, _, _, rfl, ⟨SlAt.now agentRd_ok h1 (Nat.le_refl _) T, r1⟩⟩)).mono ?_)
    rintro _ w23 ⟨⟨v20, rfl, G21⟩, hb24⟩
    refine ⟨_, rfl, ?_⟩
    have szw23 := hb24.size
    have T0w23 := T.size
    have No22_ob5 := OwF.ne G21 B3.lt
    have No22_ob9 := OwF.ne G21 B7.lt
    have B3 := blkT B3 hb24
    have B7 := blkT B7 hb24
    have T := Tt T hb24
    replace G21 := OwF.mono G21 T0w23
    refine RL.y rfl (Y.assign (v := v20) rfl) ?_
    refine RL.nil ?_
    refine then_n ?_
    refine wp_seq ?_
    refine wp_seq ?_
    refine wp_rs rfl ?_
    refine RQ.y rfl (Y.move (v := .int .i64 d1) s1) ?_
    refine RQ.y rfl (Y.binI (v := .bool (decide (d1 < 0))) rfl rfl rfl) ?_
    refine RQ.y rfl (Y.move (v := .bool (decide (d1 < 0))) rfl) ?_
    rcases bcases (decide (d1 < 0)) with c25 | c25
    · replace hm := cF c25 hm
      have pc25 := of_decide_eq_false c25
      refine RQ.y (wantT (dj := 14) rfl (vb rfl c25)) (Y.move (v := .int .i64 d1) s1) ?_
      refine RQ.y (wantT (dj := 14) rfl (vb rfl c25)) (Y.move (v := v20) rfl) ?_
      obtain ⟨A26, c27, rfl⟩ := OwF.form G21
      have qbA26 := OwF.bound G21
      refine RQ.y (wantT (dj := 14) rfl (vb rfl c25)) (Y.len (by kernel_rfl) rfl) ?_
      refine RQ.y (wantT (dj := 14) rfl (vb rfl c25)) (Y.binI (v := .bool (decide (d1 ≥ (y18.length : Int)))) rfl rfl rfl) ?_
      refine RQ.y rfl (Y.pick (b := false) (v := .bool (decide (d1 ≥ (y18.length : Int)))) (vb rfl c25) rfl) ?_
      refine RQ.nil ?_
      refine then_n ?_
      rcases bcases (decide (d1 ≥ (y18.length : Int))) with c28 | c28
      · replace hm := cF c28 hm
        have pc28 := of_decide_eq_false c28
        refine cond_f rfl (vb rfl c28) ?_
        refine wp_skip ?_
        refine then_n ?_
        refine wp_seq ?_
        refine wp_rl rfl ?_
        refine RL.y rfl (Y.move (v := .slice A26 y18.length c27) rfl) ?_
        refine RL.y rfl (Y.move (v := .int .i64 d1) s1) ?_
        obtain ⟨x29, hx31, hm⟩ := bnd hm
        obtain ⟨k30, hk32, hl33, hx31⟩ := getI_some hx31
        obtain ⟨b34, rfl⟩ := OwF.addr0 G21 (by omega)
        refine RL.y rfl (Y.indexAddr (m := k30) (sz := 2) rfl rfl hk32 hl33 (by kernel_rfl)) ?_
        refine RL.y rfl (Y.loadN (cs := [.int .i64 x29.a, .int .i64 x29.b]) rfl (by kernel_rfl) (cells2 (eqC (OwF.cell fPair G21 hx31 (j := 0) rfl)) (eqC (OwF.cell fPair G21 hx31 (j := 1) rfl)))) ?_
        refine RL.store (v := .agg #[.int .i64 x29.a, .int .i64 x29.b]) (cs' := #[.int .i64 x29.a, .int .i64 x29.b]) rfl rfl rfl B7 (by kernel_rfl) (by rfl) (by rfl) (by rfl) (fun w35 B36 ho37 => ?_)
        have szw35 := ho37.size
        have G21 := OwF.only G21 ho37 No22_ob9
        have T := T.trans (ho37.below (by first | (simp; done) | (simp; omega)))
        refine RL.y rfl (Y.assign (v := .int .i64 0) rfl) ?_
        refine RL.nil ?_
        refine then_n ?_
        refine wp_ret ?_
        obtain rfl := Option.some.inj hm
        exact (retct (cs := [.int .i64 x29.a, .int .i64 x29.b]) rfl rfl rfl rfl (by kernel_rfl) (blkCells B36) ⟨rfl, T⟩)
      · replace hm := cT c28 hm
        have pc28 := of_decide_eq_true c28
        refine cond_t rfl (vb rfl c28) ?_
        refine wp_seq ?_
        refine wp_rl rfl ?_
        refine RL.y rfl (Y.build0 (cells := #[.int .i64 0, .int .i64 0])  (by kernel_rfl) (by kernel_rfl)) ?_
        refine RL.store (v := .agg #[.int .i64 0, .int .i64 0]) (cs' := #[.int .i64 0, .int .i64 0]) rfl rfl rfl B7 (by kernel_rfl) (by rfl) (by rfl) (by rfl) (fun w38 B39 ho40 => ?_)
        have szw38 := ho40.size
        have G21 := OwF.only G21 ho40 No22_ob9
        have T := T.trans (ho40.below (by first | (simp; done) | (simp; omega)))
        refine RL.y rfl (Y.assign (v := .int .i64 2) rfl) ?_
        refine RL.nil ?_
        refine then_n ?_
        refine wp_ret ?_
        obtain rfl := Option.some.inj hm
        exact (then_r (retct (cs := [.int .i64 0, .int .i64 0]) rfl rfl rfl rfl (by kernel_rfl) (blkCells B39) ⟨rfl, T⟩))
    · replace hm := cT c25 hm
      have pc25 := of_decide_eq_true c25
      refine RQ.skip (wantN (dj := 14) rfl (vb rfl c25) rfl) ?_
      refine RQ.skip (wantN (dj := 14) rfl (vb rfl c25) rfl) ?_
      refine RQ.skip (wantN (dj := 14) rfl (vb rfl c25) rfl) ?_
      refine RQ.skip (wantN (dj := 14) rfl (vb rfl c25) rfl) ?_
      refine RQ.y rfl (Y.pick (b := true) (v := .bool true) (vb rfl c25) rfl) ?_
      refine RQ.nil ?_
      refine then_n ?_
      refine cond_t rfl rfl ?_
      refine wp_seq ?_
      refine wp_rl rfl ?_
      refine RL.y rfl (Y.build0 (cells := #[.int .i64 0, .int .i64 0])  (by kernel_rfl) (by kernel_rfl)) ?_
      refine RL.store (v := .agg #[.int .i64 0, .int .i64 0]) (cs' := #[.int .i64 0, .int .i64 0]) rfl rfl rfl B7 (by kernel_rfl) (by rfl) (by rfl) (by rfl) (fun w41 B42 ho43 => ?_)
      have szw41 := ho43.size
      have G21 := OwF.only G21 ho43 No22_ob9
      have T := T.trans (ho43.below (by first | (simp; done) | (simp; omega)))
      refine RL.y rfl (Y.assign (v := .int .i64 2) rfl) ?_
      refine RL.nil ?_
      refine then_n ?_
      refine wp_ret ?_
      obtain rfl := Option.some.inj hm
      exact (then_r (retct (cs := [.int .i64 0, .int .i64 0]) rfl rfl rfl rfl (by kernel_rfl) (blkCells B42) ⟨rfl, T⟩))
end
section
open Go.RowKit
set_option linter.unusedVariables false
set_option linter.unusedSimpArgs false
noncomputable def pairNo (d : DNet) (k : Int) : DPair × Int :=
  bif validNet d then (bif decide (0 ≤ k ∧ k < (pairsOf d.agents).length) then ((pairsOf d.agents).getD k.toNat default, 0) else (⟨0, 0⟩, 2)) else (⟨0, 0⟩, 1)
theorem pairs_len {xs : List DAgent} (G : Good xs) : (pairsOf xs).length ≤ 600 := by
  have hl := G.len
  have := flat_le (f := pairAt xs) (fun k => pairAt_le xs k) (List.range' 0 xs.length)
  rw [List.length_range'] at this
  unfold pairsOf; omega
theorem pair_get {l : List DPair} {k : Int} (h : 0 ≤ k ∧ k < l.length) : getI l k = some (l.getD k.toNat default) := by
  obtain ⟨j, rfl⟩ := Int.eq_ofNat_of_zero_le h.1
  have hj : j < l.length := by omega
  refine getI_nat ?_
  simp [List.getD, hj]
theorem p_sPair (d : DNet) (k : Int) (hs : Small d.agents) : m_spec_l13Pair d k = some (pairNo d k) := by
  unfold m_spec_l13Pair pairNo
  rw [p_ok _ hs, Option.bind_some]
  cases hv : validNet d with
  | false => rfl
  | true =>
    have G := good hv
    have hl := pairs_len G
    rw [cond_true, cond_true, p_sPairs G, Option.bind_some, ck_ok (by omega), Option.bind_some]
    have e : inR k 0 (((pairsOf d.agents).length : Int) - 1) = decide (0 ≤ k ∧ k < (pairsOf d.agents).length) := by rw [Bool.eq_iff_iff]; simp [inR]; omega
    rw [e]
    cases hr : decide (0 ≤ k ∧ k < (pairsOf d.agents).length) with
    | false => rfl
    | true => rw [cond_true, cond_true, pair_get (of_decide_eq_true hr), Option.bind_some]
theorem pairNo_in {d : DNet} {k : Int} (h : (pairNo d k).2 = 0) : Good d.agents ∧ PairIn d.agents (pairNo d k).1 := by
  unfold pairNo at h ⊢
  cases hv : validNet d with
  | false => rw [hv] at h; cases h
  | true =>
    have G := good hv
    rw [hv] at h
    refine ⟨G, ?_⟩
    cases hr : decide (0 ≤ k ∧ k < (pairsOf d.agents).length) with
    | false => rw [hr] at h; cases h
    | true =>
      have hr := of_decide_eq_true hr
      simp only [cond_true]
      have := pair_get hr
      obtain ⟨j, hj⟩ := Int.eq_ofNat_of_zero_le hr.1
      subst hj
      have hjl : j < (pairsOf d.agents).length := by omega
      refine pairsOf_in G ?_
      simp only [Int.toNat_natCast, List.getD, List.getElem?_eq_getElem hjl, Option.getD_some]
      exact List.getElem_mem hjl
theorem p_iPair (d : DNet) (k : Int) (hs : Small d.agents) : m_impl_pairAt d k = some (pairNo d k) := by
  unfold m_impl_pairAt pairNo
  rw [p_valid _ hs, Option.bind_some]
  cases hv : validNet d with
  | false => rfl
  | true =>
    have G := good hv
    rw [cond_true, cond_true, p_iPairs G, Option.bind_some]
    by_cases h0 : k < 0
    · rw [decide_eq_true h0, cond_true, decide_eq_false (by omega), cond_false]
    · rw [decide_eq_false h0, cond_false]
      by_cases h1 : k ≥ ((pairsOf d.agents).length : Int)
      · rw [decide_eq_true h1, cond_true, decide_eq_false (by omega), cond_false]
      · have hr : 0 ≤ k ∧ k < ((pairsOf d.agents).length : Int) := by omega
        rw [decide_eq_false h1, cond_false, decide_eq_true hr, cond_true, pair_get hr, Option.bind_some]
end
section
open Go.RowKit
set_option linter.unusedVariables false
set_option linter.unusedSimpArgs false
theorem php : ∀ (n : Nat) (l : List Nat), l.Nodup → (∀ x ∈ l, x < n) → l.length ≤ n
  | 0, l, _, h => by
    cases l with
    | nil => simp
    | cons x l => have := h x (by simp); omega
  | n + 1, l, hn, h => by
    by_cases hm : n ∈ l
    · have h1 := php n (l.erase n) (hn.erase n) (fun x hx => by
        have h2 := (hn.mem_erase_iff).1 hx
        have := h x h2.2
        have := h2.1
        omega)
      have := List.length_erase_of_mem hm
      omega
    · have := php n l hn (fun x hx => by
        have h1 := h x hx
        have : x ≠ n := fun e => hm (by rw [← e]; exact hx)
        omega)
      omega
theorem Good.zero {xs : List DAgent} (G : Good xs) {p : DPort} (h : hasPort xs p = true) : hasPort xs ⟨p.agent, 0⟩ = true := by
  obtain ⟨i, k, x, rfl, hx, hk, _⟩ := hasPort_at h
  exact hasPort_of (k := 0) hx (G.pos hx)
theorem p_max (a b : Int) : m_spec_l00Max a b = some (if b > a then b else a) := by
  unfold m_spec_l00Max
  simp only [Bool.cond_eq_ite, decide_eq_true_eq]
  by_cases h : a > b
  · have : ¬ b > a := by omega
    simp [h, this]
  · by_cases h2 : b > a
    · simp [h, h2]
    · have : a = b := by omega
      subst this; simp
end
section
open Go.RowKit
set_option linter.unusedVariables false
set_option linter.unusedSimpArgs false
structure GL (n : Nat) (l : List Int) : Prop where
  nd : l.Nodup
  inr : ∀ a ∈ l, 0 ≤ a ∧ a < n
theorem GL.len {n : Nat} {l : List Int} (h : GL n l) : l.length ≤ n := by
  have := php n (l.map Int.toNat) (by
    rw [List.nodup_iff_pairwise_ne, List.pairwise_map]
    refine (List.nodup_iff_pairwise_ne.1 h.nd).imp_of_mem ?_
    intro a b ha hb hab e
    have := h.inr a ha; have := h.inr b hb
    exact hab (by omega)) (fun x hx => by
    obtain ⟨a, ha, rfl⟩ := List.mem_map.1 hx
    have := h.inr a ha
    omega)
  simpa using this
theorem GL.add {n : Nat} {l : List Int} (h : GL n l) {a : Int} (h0 : 0 ≤ a) (h1 : a < n) (hn : a ∉ l) : GL n (l ++ [a]) :=
  ⟨List.nodup_append.2 ⟨h.nd, by simp, fun x hx y hy e => by simp at hy; subst hy; subst e; exact hn hx⟩, fun x hx => by
    rcases List.mem_append.1 hx with h2 | h2
    · exact h.inr x h2
    · simp at h2; subst h2; exact ⟨h0, h1⟩⟩
end
section
open Go.RowKit
set_option linter.unusedVariables false
set_option linter.unusedSimpArgs false
/-- A loop that appends f of each element. -/
theorem appL {α β ρ : Type} {L : Nat → List β → Int → Option ρ} {d : List α} {f : α → List β} {B M : Nat} {K : List β → Option ρ} (hB : ∀ x ∈ d, (f x).length ≤ B) (h : ∀ g (k : Nat) x acc, d[k]? = some x → acc.length + (f x).length ≤ M → L (g + 1) acc (k : Int) = L g (acc ++ f x) ((k : Int) + 1)) (he : ∀ g acc, L (g + 1) acc (d.length : Int) = K acc)
    (acc : List β) (g : Nat) (hg : d.length < g) (hM : acc.length + d.length * B ≤ M) : L g acc 0 = K (acc ++ d.flatMap f) ∧ (acc ++ d.flatMap f).length ≤ acc.length + d.length * B := by
  have key := foldL (L := L) (d := d) (f := fun s x => s ++ f x) (I := fun k s => k ≤ d.length ∧ s.length ≤ acc.length + k * B) (K := K)
    (fun g k x s hx ⟨hk, hs⟩ => by
      have hkl := lt_of_some hx
      have hb := hB x (List.mem_of_getElem? hx)
      have h1 : k * B + B ≤ d.length * B := by rw [← Nat.succ_mul]; exact Nat.mul_le_mul_right _ hkl
      refine ⟨h g k x s hx (by omega), hkl, ?_⟩
      rw [List.length_append, Nat.succ_mul]; omega)
    (fun g s _ => he g s) g acc hg ⟨Nat.zero_le _, by omega⟩
  have e : ∀ (d : List α) (acc : List β), d.foldl (fun s x => s ++ f x) acc = acc ++ d.flatMap f := by
    intro d
    induction d with
    | nil => intro acc; simp
    | cons x d ih => intro acc; rw [List.foldl_cons, ih, List.flatMap_cons, List.append_assoc]
  rw [e] at key
  exact ⟨key.1, key.2.2⟩
end
section
open Go.RowKit
set_option linter.unusedVariables false
set_option linter.unusedSimpArgs false
structure DRewriter where
  net : DNet
  book : List DNet
def rewriterRd : Rd DRewriter := fun w B cs x => ∃ (A1 : Option Addr) (n1 c1 : Nat) (A2 : Option Addr) (n2 c2 : Nat) (m : Value), cs = [.slice A1 n1 c1, .slice A2 n2 c2, m] ∧ (SlAt agentRd 5 w B A1 n1 x.net.agents ∧ n1 ≤ c1 ∧ c1 ≤ maxLen) ∧ (SlAt netRd 1 w B A2 n2 x.book ∧ n2 ≤ c2 ∧ c2 ≤ maxLen)
/-- The block of a slice's row. -/
def fb (v : Value) : List Nat := v.ownBlock.toList
/-- Two lists of blocks lie apart. -/
def Ap (l m : List Nat) : Prop := ∀ b ∈ l, b ∉ m
section
variable {l m x l' l2 : List Nat} {k g : Nat} {v u v' : Value}
theorem mem_fb {b : Nat} : b ∈ fb v ↔ v.ownBlock = some b := by simp [fb]
theorem Ap.symm (h : Ap l m) : Ap m l := fun b h1 h2 => h b h2 h1
theorem Ap.nil : Ap [] m := fun b h => by simp at h
theorem Ap.new (h1 : ∀ b ∈ l, k ≤ b) (h2 : ∀ b ∈ x, b < k) : Ap l x := fun b h h' => by have := h1 b h; have := h2 b h'; omega
theorem Ap.one (h : Ap l [g]) : g ∉ l := fun hg => h g hg (by simp)
theorem Ap.far (h : ∀ b ∈ l, b < g) : Ap l [g] := fun b hb h' => by simp at h'; subst h'; exact absurd (h b hb) (Nat.lt_irrefl _)
theorem Ap.farL (h : ∀ b ∈ l, b < g) : Ap [g] l := (Ap.far h).symm
theorem Ap.app (hn : ∀ b ∈ l', b ∈ l ∨ b ∈ l2 ∨ k ≤ b) (h1 : Ap l x) (h2 : Ap l2 x) (hi : ∀ b ∈ x, b < k) : Ap l' x := fun b hb h' => by
  rcases hn b hb with h3 | h3 | h3
  · exact h1 b h3 h'
  · exact h2 b h3 h'
  · have := hi b h'; omega
theorem Ap.cons (h1 : Ap [g] x) (h2 : Ap l x) : Ap (g :: l) x := fun b hb h' => by
  rcases List.mem_cons.1 hb with rfl | hb
  · exact h1 b (by simp) h'
  · exact h2 b hb h'
theorem Ap.append (h1 : Ap l x) (h2 : Ap m x) : Ap (l ++ m) x := fun b hb h' => by
  rcases List.mem_append.1 hb with hb | hb
  · exact h1 b hb h'
  · exact h2 b hb h'
theorem Dj.ap (h : Dj v u) : Ap (fb v) (fb u) := fun b h1 h2 => h b (mem_fb.1 h1) (mem_fb.1 h2)
theorem Ap.dj (h : Ap (fb v) (fb u)) : Dj v u := fun b h1 h2 => h b (mem_fb.2 h1) (mem_fb.2 h2)
theorem ne_ap (h : v.ownBlock ≠ some g) : Ap (fb v) [g] := fun b h1 h2 => by simp at h2; subst h2; exact h (mem_fb.1 h1)
theorem ap_ne (h : Ap (fb v) [g]) : v.ownBlock ≠ some g := fun h1 => h g (mem_fb.2 h1) (by simp)
end
/-- Elements one behind the other, with what they own. -/
def Parts {α : Type} (O : Ow α) (w : World) : List Value → List α → List Nat → Prop
  | cells, [], ib => cells = [] ∧ ib = []
  | cells, x :: xs, ib => ∃ cs rest b1 b2, cells = cs ++ rest ∧ O w cs x b1 ∧ ib = b1 ++ b2 ∧ Parts O w rest xs b2
/-- A slice of the call's own: its row from block lo on, its elements' blocks (no two alike, none the row's), all among bs. -/
def OwN {α : Type} (e : TypeId) (O : Ow α) (sz : Nat) (w : World) (lo : Nat) (v : Value) (xs : List α) (bs : List Nat) : Prop :=
  ∃ cells ib, w.ownsRow lo e sz v xs.length cells ∧ Parts O w cells xs ib ∧ ib.Nodup ∧ (∀ b ∈ ib, b ∈ bs) ∧ (∀ b, v.ownBlock = some b → b ∈ bs ∧ b ∉ ib) ∧ (∀ b ∈ bs, lo ≤ b ∧ b < w.heap.size)
/-- What an element's cells are: one value each. -/
def OneC {α : Type} (O : Ow α) : Prop := ∀ {w cs x bs}, O w cs x bs → ∀ u ∈ cs, u.oneCell' = true
theorem agentOw_one : OneC agentOw := fun ⟨A1, n1, c1, A2, n2, c2, b1, b2, e, _⟩ u hu => by rw [e] at hu; simp at hu; rcases hu with rfl | rfl | rfl | rfl | rfl <;> rfl
section
variable {α : Type} {O : Ow α} {R : Rd α} {sz : Nat} {w w' : World} {lo lo' : Nat} {v : Value} {xs ys : List α} {x : α} {bs : List Nat} {e : TypeId}
theorem Parts.keep (ok : OwOk O sz) : ∀ {xs : List α} {cells : List Value} {ib : List Nat}, (∀ b ∈ ib, w'.heap[b]? = w.heap[b]?) → Parts O w cells xs ib → Parts O w' cells xs ib
  | [], _, _, _, h => h
  | x :: xs, _, _, hb, ⟨cs, rest, b1, b2, e1, hO, e2, hr⟩ => by
    subst e1 e2
    exact ⟨cs, rest, b1, b2, rfl, ok.keep (fun b h => hb b (by simp [h])) hO, rfl, Parts.keep ok (fun b h => hb b (by simp [h])) hr⟩
theorem Parts.append : ∀ {xs ys : List α} {c1 c2 : List Value} {i1 i2 : List Nat}, Parts O w c1 xs i1 → Parts O w c2 ys i2 → Parts O w (c1 ++ c2) (xs ++ ys) (i1 ++ i2)
  | [], _, _, _, _, _, ⟨e1, e2⟩, h2 => by subst e1 e2; exact h2
  | x :: xs, _, _, _, _, _, ⟨cs, rest, b1, b2, e1, hO, e2, hr⟩, h2 => by
    subst e1 e2
    exact ⟨cs, _, b1, _, by rw [List.append_assoc], hO, by rw [List.append_assoc], Parts.append hr h2⟩
theorem Parts.one {cs : List Value} {b : List Nat} (h : O w cs x b) : Parts O w cs [x] b := ⟨cs, [], b, [], by simp, h, by simp, rfl, rfl⟩
theorem Parts.one_ (one : OneC O) : ∀ {xs : List α} {cells : List Value} {ib : List Nat}, Parts O w cells xs ib → ∀ u ∈ cells, u.oneCell' = true
  | [], _, _, ⟨e, _⟩, u, hu => by rw [e] at hu; simp at hu
  | x :: xs, _, _, ⟨cs, rest, b1, b2, e1, hO, e2, hr⟩, u, hu => by
    subst e1
    rcases List.mem_append.1 hu with h | h
    · exact one hO u h
    · exact Parts.one_ one hr u h
theorem Parts.len (ok : OwOk O sz) : ∀ {xs : List α} {cells : List Value} {ib : List Nat}, Parts O w cells xs ib → cells.length = xs.length * sz
  | [], _, _, ⟨e, _⟩ => by rw [e]; simp
  | x :: xs, _, _, ⟨cs, rest, b1, b2, e1, hO, e2, hr⟩ => by
    subst e1
    rw [List.length_append, ok.len hO, Parts.len ok hr, List.length_cons, Nat.add_mul]; omega
theorem Parts.elAt (ok : OwOk O sz) {g : Nat} {cur : Array Value} (hb : Blk w g e cur) : ∀ {xs : List α} {cells : List Value} {ib : List Nat} (o : Nat), (∀ (j : Nat) (u : Value), cells[j]? = some u → cur[o + j]? = some u) → Parts O w cells xs ib → ElAt O sz w g o xs ib
  | [], _, _, o, _, ⟨_, e⟩ => e
  | x :: xs, _, _, o, hc, ⟨cs, rest, b1, b2, e1, hO, e2, hr⟩ => by
    subst e1 e2
    have hl := ok.len hO
    refine ⟨cs, b1, b2, hO, hb.csAt (fun j u hj => hc j u ?_), rfl, Parts.elAt ok hb (o + sz) (fun j u hj => ?_) hr⟩
    · rw [List.getElem?_append_left (lt_of_some hj)]; exact hj
    · have := hc (sz + j) u (by rw [List.getElem?_append_right (by omega), hl, show sz + j - sz = j by omega]; exact hj)
      rwa [show o + (sz + j) = o + sz + j by omega] at this
/-- One element of many. -/
theorem Parts.split (ok : OwOk O sz) : ∀ {xs : List α} {cells : List Value} {ib : List Nat} {k : Nat} {x : α}, Parts O w cells xs ib → xs[k]? = some x →
    ∃ c1 cs c2 i1 b1 i2, cells = c1 ++ cs ++ c2 ∧ c1.length = k * sz ∧ O w cs x b1 ∧ ib = i1 ++ (b1 ++ i2) ∧ ∀ w' cs' x' b1', (∀ b ∈ i1 ++ i2, w'.heap[b]? = w.heap[b]?) → O w' cs' x' b1' → Parts O w' (c1 ++ cs' ++ c2) (xs.set k x') (i1 ++ (b1' ++ i2))
  | [], _, _, _, _, _, h => by simp at h
  | y :: ys, _, _, 0, x, ⟨cs, rest, b1, b2, e1, hO, e2, hr⟩, h => by
    have : y = x := by simpa using h
    subst this
    subst e1 e2
    exact ⟨[], cs, rest, [], b1, b2, by simp, by simp, hO, by simp, fun w' cs' x' b1' hb hO' => ⟨cs', rest, b1', b2, by simp, hO', by simp, Parts.keep ok (fun b h => hb b (by simp [h])) hr⟩⟩
  | y :: ys, _, _, k + 1, x, ⟨cs, rest, b1, b2, e1, hO, e2, hr⟩, h => by
    subst e1 e2
    obtain ⟨c1, cs2, c2, i1, b3, i2, f1, f2, f3, f4, f5⟩ := Parts.split ok hr (by simpa using h)
    subst f1 f4
    refine ⟨cs ++ c1, cs2, c2, b1 ++ i1, b3, i2, by simp, by rw [List.length_append, ok.len hO, f2, Nat.add_mul]; omega, f3, by simp, fun w' cs' x' b1' hb hO' => ?_⟩
    refine ⟨cs, _, b1, _, by simp [List.append_assoc], ok.keep (fun b h => hb b (by simp [h])) hO, by simp [List.append_assoc], f5 w' cs' x' b1' (fun b h => hb b (by simp at h ⊢; rcases h with h | h <;> simp [h])) hO'⟩
theorem OwN.keep (ok : OwOk O sz) (h : OwN e O sz w lo v xs bs) (hk : ∀ b ∈ bs, w'.heap[b]? = w.heap[b]?) (hs : w.heap.size ≤ w'.heap.size) : OwN e O sz w' lo v xs bs := by
  obtain ⟨cells, ib, h1, h2, h3, h4, h5, h6⟩ := h
  refine ⟨cells, ib, ?_, h2.keep ok (fun b hb => hk b (h4 b hb)), h3, h4, h5, fun b hb => by have := h6 b hb; omega⟩
  refine ⟨h1.1, ?_⟩
  rcases h1.2 with h | ⟨g, cap, cur, hv, hg, hh, r⟩
  · exact .inl h
  · exact .inr ⟨g, cap, cur, hv, hg, (hk g (h5 g (by rw [hv]; rfl)).1).trans hh, r⟩
theorem OwN.hi (h : OwN e O sz w lo v xs bs) : ∀ b ∈ bs, b < w.heap.size := by obtain ⟨cells, ib, h1, h2, h3, h4, h5, h6⟩ := h; exact fun b hb => (h6 b hb).2
theorem OwN.lo_ (h : OwN e O sz w lo v xs bs) : ∀ b ∈ bs, lo ≤ b := by obtain ⟨cells, ib, h1, h2, h3, h4, h5, h6⟩ := h; exact fun b hb => (h6 b hb).1
theorem OwN.row (h : OwN e O sz w lo v xs bs) {b : Nat} (hb : v.ownBlock = some b) : b ∈ bs := by obtain ⟨cells, ib, h1, h2, h3, h4, h5, h6⟩ := h; exact (h5 b hb).1
theorem OwN.below (ok : OwOk O sz) (h : OwN e O sz w lo v xs bs) (hb : Below w.heap.size w w') : OwN e O sz w' lo v xs bs := h.keep ok (fun b hin => hb.block b (h.hi b hin)) hb.size
theorem OwN.only {b : Nat} (ok : OwOk O sz) (h : OwN e O sz w lo v xs bs) (ho : Only [b] w w') (hn : b ∉ bs) : OwN e O sz w' lo v xs bs := h.keep ok (fun k hk => ho.block k (by intro hin; simp at hin; subst hin; exact hn hk)) (Nat.le_of_eq ho.size.symm)
theorem OwN.grown {row : Option Nat} (ok : OwOk O sz) (h : OwN e O sz w lo v xs bs) (hg : w.grownBy w' row) (hn : Ap bs row.toList) : OwN e O sz w' lo v xs bs := h.keep ok (fun k hk => hg.block k (h.hi k hk) (fun e => hn k hk (by simp [← e]))) hg.size
theorem OwN.mono (h : OwN e O sz w lo v xs bs) (hl : lo' ≤ lo) : OwN e O sz w lo' v xs bs := by
  obtain ⟨cells, ib, h1, h2, h3, h4, h5, h6⟩ := h
  refine ⟨cells, ib, ?_, h2, h3, h4, h5, fun b hb => by have := h6 b hb; omega⟩
  refine ⟨h1.1, ?_⟩
  rcases h1.2 with h | ⟨g, cap, cur, hv, hg, r⟩
  · exact .inl h
  · exact .inr ⟨g, cap, cur, hv, by omega, r⟩
theorem OwN.nil : OwN e O sz w lo (.slice none 0 0) ([] : List α) [] := ⟨[], [], ⟨by simp, .inl ⟨rfl, rfl⟩⟩, ⟨rfl, rfl⟩, List.nodup_nil, fun b hb => by simp at hb, fun b hb => by simp [Value.ownBlock] at hb, fun b hb => by simp at hb⟩
theorem OwN.form (h : OwN e O sz w lo v xs bs) : ∃ A c, v = .slice A xs.length c := by
  obtain ⟨cells, ib, h1, _⟩ := h
  rcases h1.2 with ⟨rfl, h0⟩ | ⟨g, cap, cur, hv, _⟩
  · exact ⟨none, 0, by rw [h0]⟩
  · exact ⟨_, _, hv⟩
theorem OwN.bound (h : OwN e O sz w lo v xs bs) : xs.length ≤ 9223372036854775807 := by
  obtain ⟨cells, ib, h1, _⟩ := h
  rcases h1.2 with ⟨_, h0⟩ | ⟨g, cap, cur, hv, hg, hh, h1, h2, _⟩
  · omega
  · unfold maxLen at h2; omega
theorem OwN.addr0 {A : Option Addr} {n c : Nat} (h : OwN e O sz w lo (.slice A n c) xs bs) (hn : 0 < n) : ∃ b, A = some ⟨b, 0, none⟩ := by
  obtain ⟨cells, ib, h1, _⟩ := h
  rcases h1.2 with ⟨h0, _⟩ | ⟨g, cap, cur, hv, _⟩
  · injection h0 with h1 h2; omega
  · injection hv with h1; exact ⟨g, h1⟩
theorem OwN.own1 (ok : OwOk O sz) (h : OwN e O sz w lo v xs bs) : ∃ A n c l, v = .slice A n c ∧ OwAt O sz w A n xs l ∧ l.Nodup ∧ (∀ b ∈ l, b ∈ bs) ∧ n ≤ c ∧ c ≤ maxLen := by
  obtain ⟨cells, ib, h1, h2, h3, h4, h5, h6⟩ := h
  rcases h1.2 with ⟨rfl, h0⟩ | ⟨g, cap, cur, rfl, hg, hh, k1, k2, k3, k4⟩
  · have : xs = [] := List.eq_nil_of_length_eq_zero h0
    subst this
    exact ⟨none, 0, 0, [], rfl, ⟨rfl, .inl ⟨rfl, rfl⟩⟩, List.nodup_nil, fun b hb => by simp at hb, Nat.le_refl _, Nat.zero_le _⟩
  · obtain ⟨hg1, hg2⟩ := h5 g rfl
    refine ⟨some ⟨g, 0, none⟩, _, cap, g :: ib, rfl, ⟨rfl, .inr ⟨g, 0, ib, rfl, rfl, ?_⟩⟩, List.nodup_cons.2 ⟨hg2, h3⟩, fun b hb => by
      rcases List.mem_cons.1 hb with rfl | hb
      · exact hg1
      · exact h4 b hb, k1, k2⟩
    refine h2.elAt (e := e) ok (cur := cur) hh 0 (fun j u hj => ?_)
    rw [← k4, List.getElem?_take] at hj
    split at hj
    · simpa using hj
    · cases hj
theorem OwN.own (ok : OwOk O sz) (h : OwN e O sz w lo v xs bs) : OwS O sz w v xs lo w.heap.size := by
  obtain ⟨A, n, c, l, e1, h1, h2, h3, r⟩ := h.own1 ok
  exact ⟨A, n, c, l, e1, h1, h2, fun b hb => ⟨h.lo_ b (h3 b hb), h.hi b (h3 b hb)⟩, r⟩
theorem OwN.rdS (ok : OwOk O sz) (hR : Gives O R w.heap.size) (h : OwN e O sz w lo v xs bs) : RdS R sz w w.heap.size v xs := (h.own ok).reads hR (Nat.le_refl _)
theorem OwN.sl {A : Option Addr} {n c : Nat} (ok : OwOk O sz) (hR : Gives O R w.heap.size) (h : OwN e O sz w lo (.slice A n c) xs bs) : SlAt R sz w w.heap.size A n xs ∧ n ≤ c ∧ c ≤ maxLen := by
  obtain ⟨A', n', c', he, h1, h2⟩ := h.rdS ok hR
  injection he with e1 e2 e3
  subst e1 e2 e3
  exact ⟨h1, h2⟩
/-- An element's cells. -/
theorem OwN.rd {b n c k : Nat} (ok : OwOk O sz) (hR : Gives O R w.heap.size) (h : OwN e O sz w lo (.slice (some ⟨b, 0, none⟩) n c) xs bs) (hx : xs[k]? = some x) : ∃ cs, R w w.heap.size cs x ∧ ∀ j v, cs[j]? = some v → w.cell? ⟨b, 0 + k * sz + j, none⟩ = some v := (h.sl ok hR).1.el hx
theorem OwN.lit1 {g : Nat} {cells : Array Value} {b1 l : List Nat} (B : Blk w g e cells) (hg : lo ≤ g) (hO : O w cells.toList x b1) (ok : OwOk O sz) (nd : b1.Nodup) (hs : ∀ b ∈ b1, b ∈ l) (hl : ∀ b ∈ l, lo ≤ b ∧ b < g) : OwN e O sz w lo (.slice (some ⟨g, 0, none⟩) 1 1) [x] (g :: l) := by
  have hc : cells.size = 1 * sz := by rw [← Array.length_toList, ok.len hO]; omega
  have hgl := B.lt
  refine ⟨cells.toList, b1, ⟨by simpa using hc, .inr ⟨g, 1, cells, rfl, hg, B, Nat.le_refl _, by unfold maxLen; omega, hc, ?_⟩⟩, Parts.one hO, nd, fun b hb => by simp [hs b hb], fun b hb => ?_, fun b hb => ?_⟩
  · rw [List.take_of_length_le]; simp [hc]
  · simp [Value.ownBlock] at hb; subst hb
    exact ⟨by simp, fun h => by have := hl _ (hs _ h); omega⟩
  · rcases List.mem_cons.1 hb with rfl | hb
    · exact ⟨hg, hgl⟩
    · have := hl b hb; omega
theorem nodup2 {l1 l2 m1 m2 : List Nat} (h1 : l1.Nodup) (h2 : l2.Nodup) (s1 : ∀ b ∈ l1, b ∈ m1) (s2 : ∀ b ∈ l2, b ∈ m2) (D : Ap m1 m2) : (l1 ++ l2).Nodup := List.nodup_append.2 ⟨h1, h2, fun a ha b hb e => by subst e; exact D a (s1 a ha) (s2 a hb)⟩
theorem sub2 {l1 l2 m1 m2 : List Nat} (s1 : ∀ b ∈ l1, b ∈ m1) (s2 : ∀ b ∈ l2, b ∈ m2) : ∀ b ∈ l1 ++ l2, b ∈ m1 ++ m2 := fun b hb => by
  rcases List.mem_append.1 hb with h | h
  · simp [s1 b h]
  · simp [s2 b h]
theorem all2 {p : Nat → Prop} {l1 l2 : List Nat} (s1 : ∀ b ∈ l1, p b) (s2 : ∀ b ∈ l2, p b) : ∀ b ∈ l1 ++ l2, p b := fun b hb => by
  rcases List.mem_append.1 hb with h | h
  · exact s1 b h
  · exact s2 b h
end
theorem ptSub {α : Type} {R : Rd α} {sz : Nat} {w w' : World} {x : α} (ok : RdOk R sz) {b o : Nat} {pre cs post : List Value} (hb : b < w.heap.size) (hR : R w w.heap.size cs x) (hc : ∀ j v, (pre ++ cs ++ post)[j]? = some v → w.cell? ⟨b, o + j, none⟩ = some v) (T : Below w.heap.size w w') : Pt R w' (.pointer (some ⟨b, o + pre.length, none⟩)) x :=
  ptArg ok hb hR (fun j v hj => by
    have h := hc (pre.length + j) v (by rw [List.append_assoc, List.getElem?_append_right (by omega), show pre.length + j - pre.length = j by omega, List.getElem?_append_left (lt_of_some hj)]; exact hj)
    rwa [← Nat.add_assoc] at h) T
theorem ret4 {P : Program} {f : Nat → Value} {w : World} {n : Nat} {fn : Func} {R : Ending → World → Prop} {t1 t2 t3 t4 : Tmp} {v1 v2 v3 v4 : Value} (hr : fn.results = #[.tmp t1, .tmp t2, .tmp t3, .tmp t4]) (ht : (Nat.blt t1 n && Nat.blt t2 n && Nat.blt t3 n && Nat.blt t4 n) = true) (hv1 : f t1 = v1) (hv2 : f t2 = v2) (hv3 : f t3 = v3) (hv4 : f t4 = v4) (h : R (.returned (.tuple #[v1, v2, v3, v4])) w) : bodyPost P fn R .ret (Fr n f) w :=
  ⟨rfl, _, by
    simp only [Bool.and_eq_true] at ht
    have h1 : t1 < n := by simpa using ht.1.1.1
    have h2 : t2 < n := by simpa using ht.1.1.2
    have h3 : t3 < n := by simpa using ht.1.2
    have h4 : t4 < n := by simpa using ht.2
    simp only [results, hr]
    simp [Fr, h1, h2, h3, h4, hv1, hv2, hv3, hv4], h⟩
theorem setI_at {α : Type} {xs : List α} {i : Int} {k : Nat} {x : α} (hi : i = (k : Int)) (hk : k < xs.length) : (setI xs i x)[k]? = some x := by
  subst hi
  rw [setI_nat, List.getElem?_set_self hk]
theorem SlAt.nilOf {α : Type} {R : Rd α} {sz B n : Nat} {w : World} {A : Option Addr} {xs : List α} (h : SlAt R sz w B A n xs) (c : A.isNone = true) : xs = [] := by
  cases A with
  | some a => cases c
  | none =>
    rcases Nat.eq_zero_or_pos n with h0 | h0
    · exact List.eq_nil_of_length_eq_zero (by rw [← h.len]; exact h0)
    · obtain ⟨b, o, e, _⟩ := h.2 h0
      cases e
section
variable {P : Program} {C : World → Prop} {f : Nat → Value} {d : Option Tmp} {ty : TypeId} {pos : String} {af : Array Edge} {g : Option (Nat × Bool)} {x y : Operand} {t t' : TypeId} {A : Option Addr} {n c : Nat}
theorem Y.eqNil {e : TypeId} (hx : ev f x = .slice A n c) (hy : ev f y = .slice none 0 0) (ht : P.underlying t = some (.slice e)) : Y P C f ⟨d, .binOp .eql t x y t', ty, pos, af, g⟩ (.bool A.isNone) := fun w _ => by
  simp only [execOp, hx, hy, Sem.run_bind, eqGuard, Result.andThen_ok]
  simp [binOp, run_equal_slice_nil w t e A n c ht]
end
section
variable {α : Type} {R : Rd α} {O : Ow α} {enc : α → List Value} {sz : Nat} {w w' : World} {lo lo' : Nat} {v : Value} {xs ys : List α} {e : TypeId}
theorem OwF.own2 {A : Option Addr} {n c : Nat} (F : FlatT R O enc sz) (h : OwF e enc sz w lo (.slice A n c) xs) : ∃ l, OwAt O sz w A n xs l ∧ l.Nodup ∧ (∀ b ∈ l, b ∈ fb (.slice A n c)) ∧ n ≤ c ∧ c ≤ maxLen := by
  rcases h.2 with ⟨hv, h0⟩ | ⟨g, cap, cur, hv, hg, hh, h1, h2, h3, h4⟩
  · injection hv with e1 e2 e3
    subst e1 e2 e3
    have : xs = [] := List.eq_nil_of_length_eq_zero h0
    subst this
    exact ⟨[], ⟨rfl, .inl ⟨rfl, rfl⟩⟩, List.nodup_nil, fun b hb => by simp at hb, Nat.le_refl _, Nat.zero_le _⟩
  · injection hv with e1 e2 e3
    subst e1 e2 e3
    obtain ⟨A', n', c', l, he, hA, hn, hl, hc1, hc2⟩ := h.own F
    injection he with e1 e2 e3
    subst e1 e2 e3
    by_cases hx : xs = []
    · subst hx; exact ⟨[], ⟨rfl, .inl ⟨rfl, rfl⟩⟩, List.nodup_nil, fun b hb => by simp at hb, hc1, hc2⟩
    · rcases hA.2 with ⟨h5, _⟩ | ⟨b, o, b2, h5, h6, h7⟩
      · exact absurd h5 hx
      · injection h5 with h5
        injection h5 with h5
        subst h5
        have hflat : ∀ (l : List α) (o : Nat) (k : List Nat), ElAt O sz w g o l k → k = [] → True := fun _ _ _ _ _ => trivial
        refine ⟨[g], ⟨hA.1, .inr ⟨g, 0, [], rfl, rfl, ?_⟩⟩, by simp, fun b hb => by simpa [fb, Value.ownBlock] using hb, hc1, hc2⟩
        have hblk : Blk w g e cur := hh
        have key : ∀ (l : List α) (o : Nat), (∀ j u, (l.flatMap enc)[j]? = some u → cur[o + j]? = some u) → ElAt O sz w g o l [] := by
          intro l
          induction l with
          | nil => intro o _; rfl
          | cons x l ih =>
            intro o hl
            refine ⟨enc x, [], [], F.ow, hblk.csAt (fun j u hj => hl j u ?_), rfl, ih (o + sz) (fun j u hj => ?_)⟩
            · simp only [List.flatMap_cons]
              rw [List.getElem?_append_left (lt_of_some hj)]; exact hj
            · have := hl (sz + j) u (by
                simp only [List.flatMap_cons]
                rw [List.getElem?_append_right (by rw [F.len]; omega), F.len, show sz + j - sz = j by omega]; exact hj)
              rwa [show o + (sz + j) = o + sz + j by omega] at this
        refine key xs 0 (fun j u hj => ?_)
        rw [← h4, List.getElem?_take] at hj
        split at hj
        · simpa using hj
        · cases hj
theorem OwF.fhi (h : OwF e enc sz w lo v xs) : ∀ b ∈ fb v, b < w.heap.size := fun b hb => h.hi b (mem_fb.1 hb)
theorem OwF.flo (h : OwF e enc sz w lo v xs) : ∀ b ∈ fb v, lo ≤ b := fun b hb => h.lo_ b (mem_fb.1 hb)
theorem OwF.fboth (h : OwF e enc sz w lo v xs) {g : Nat} (hg : w.heap.size ≤ g) : ∀ b ∈ fb v, lo ≤ b ∧ b < g := fun b hb => ⟨h.flo b hb, Nat.lt_of_lt_of_le (h.fhi b hb) hg⟩
theorem one_hi {g : Nat} (h : g < w.heap.size) : ∀ b ∈ [g], b < w.heap.size := fun b hb => by simp at hb; subst hb; exact h
variable {O' : Ow α} {bs : List Nat} {u : Value}
/-- Another slice of the call's own, while the row of v grows or is written. -/
theorem OwN.dj (h : OwN e O' sz w lo v xs bs) (A : Ap bs (fb u)) : Dj u v := fun b h1 h2 => A b (h.row h2) (mem_fb.2 h1)
theorem OwN.neB {g : Nat} (h : OwN e O' sz w lo v xs bs) (A : Ap bs [g]) : v.ownBlock ≠ some g := fun h1 => A g (h.row h1) (by simp)
theorem OwN.both (h : OwN e O' sz w lo v xs bs) {g : Nat} (hg : w.heap.size ≤ g) : ∀ b ∈ bs, lo ≤ b ∧ b < g := fun b hb => ⟨h.lo_ b hb, Nat.lt_of_lt_of_le (h.hi b hb) hg⟩
end
section
variable {P : Program} {ops : Array Oper} {f : Nat → Value} {rest : List Oper} {Q : (Nat → Value) → World → Prop} {w : World} {d : Option Tmp} {ty : TypeId} {pos : String} {af : Array Edge} {g : Option (Nat × Bool)} {x y : Operand} {t e : TypeId} {z : Value} {sz bb : Nat}
theorem RL.appendN {α : Type} {O : Ow α} {v vy : Value} {xs ys : List α} {lo : Nat} {bs bs2 : List Nat} (ok : OwOk O sz) (one : OneC O) (hp : 0 < sz) (A : AppT P t e z sz bb) (hg : wantF f ops ⟨d, .call ⟨.builtin .append, #[x, y], #[t, t]⟩, ty, pos, af, g⟩ = true)
    (hx : ev f x = v) (hy : ev f y = vy) (hv : OwN e O sz w lo v xs bs) (hr : OwN e O sz w lo vy ys bs2) (D : Ap bs bs2) (hlo : lo ≤ w.heap.size) (hk : xs.length + ys.length ≤ 4294967296)
    (h : ∀ v' w1 bs', OwN e O sz w1 lo v' (xs ++ ys) bs' → w.grownBy w1 v.ownBlock → Below lo w w1 → (∀ b ∈ bs', b ∈ bs ∨ b ∈ bs2 ∨ w.heap.size ≤ b) → RL P ops Q rest (upo f d v') w1) : RL P ops Q (⟨d, .call ⟨.builtin .append, #[x, y], #[t, t]⟩, ty, pos, af, g⟩ :: rest) f w := by
  have hrun : ∀ v' w1, (Builtin.append_ #[t, t] ty #[v, vy]).run P w = .ok v' w1 → (execOp (ev f) ⟨d, .call ⟨.builtin .append, #[x, y], #[t, t]⟩, ty, pos, af, g⟩).run P w = .ok (.value v') w1 := fun v' w1 h0 => by
    simp [execOp, resolve, invoke, builtin, hx, hy, h0]
  have hv0 := hv
  obtain ⟨cells, ib, h1, h2, h3, h4, h5, h6⟩ := hv
  obtain ⟨cells2, ib2, k1, k2, k3, k4, k5, k6⟩ := hr
  have hdis : (ib ++ ib2).Nodup := List.nodup_append.2 ⟨h3, k3, fun a ha b hb e => by subst e; exact D a (h4 a ha) (k4 a hb)⟩
  rcases k1.2 with ⟨rfl, h0⟩ | ⟨g2, cap2, cur2, rfl, hg2, hh2, m1, m2, m3, m4⟩
  · have : ys = [] := List.eq_nil_of_length_eq_zero h0
    subst this
    refine .inl ⟨hg, ?_⟩
    rw [hrun v w (append_none A h1 ty)]
    exact h v w bs (by simpa using hv0) ⟨rfl, rfl, rfl, Nat.le_refl _, fun _ _ _ => rfl⟩ (Below.refl _ _) (fun b hb => .inl hb)
  · have hblk : Blk w g2 e cur2 := hh2
    have hcells : ∀ j u, cells2[j]? = some u → w.cell? ((⟨g2, 0, none⟩ : Addr).add j) = some u := fun j u hj => by
      rw [Addr.add_eq, Nat.zero_add, hblk.cell]
      rw [← m4, List.getElem?_take] at hj
      split at hj
      · simpa using hj
      · cases hj
    obtain ⟨v', w1, r1, r2, r3, r4⟩ := append_own2 A hp h1 hlo ⟨g2, 0, none⟩ ys.length cap2 cells2 (k2.len ok) hcells (k2.one_ one) hk ty
    refine .inl ⟨hg, ?_⟩
    rw [hrun v' w1 r1]
    have hkeep : ∀ b ∈ ib ++ ib2, b < w.heap.size ∧ some b ≠ v.ownBlock := fun b hb => by
      rcases List.mem_append.1 hb with hb | hb
      · exact ⟨(h6 b (h4 b hb)).2, fun e => (h5 b e.symm).2 hb⟩
      · exact ⟨(k6 b (k4 b hb)).2, fun e => D b (h5 b e.symm).1 (k4 b hb)⟩
    refine h v' w1 (fb v' ++ (ib ++ ib2)) ⟨cells ++ cells2, ib ++ ib2, ?_, ?_, hdis, fun b hb => by simp at hb ⊢; exact .inr hb, fun b hb => ⟨by simp [mem_fb.2 hb], fun hin => ?_⟩, fun b hb => ?_⟩ r3 ?_ ?_
    · rw [List.length_append]; exact r2
    · exact (h2.keep ok (fun b hb => r3.block b (hkeep b (by simp [hb])).1 (hkeep b (by simp [hb])).2)).append (k2.keep ok (fun b hb => r3.block b (hkeep b (by simp [hb])).1 (hkeep b (by simp [hb])).2))
    · rcases r4 b hb with h7 | h7
      · exact (hkeep b hin).2 h7.symm
      · have := (hkeep b hin).1; omega
    · rcases List.mem_append.1 hb with h7 | h7
      · exact ⟨(r2.lt b (mem_fb.1 h7)).1, (r2.lt b (mem_fb.1 h7)).2⟩
      · have h8 := (hkeep b h7).1
        have := r3.size
        rcases List.mem_append.1 h7 with h7 | h7
        · exact ⟨(h6 b (h4 b h7)).1, by omega⟩
        · exact ⟨(k6 b (k4 b h7)).1, by omega⟩
    · exact (Below.refl lo w).grown r3 hlo (fun b hb => (h6 b (h5 b hb).1).1)
    · intro b hb
      rcases List.mem_append.1 hb with h7 | h7
      · rcases r4 b (mem_fb.1 h7) with h8 | h8
        · exact .inl (h5 b h8).1
        · exact .inr (.inr h8)
      · rcases List.mem_append.1 h7 with h7 | h7
        · exact .inl (h4 b h7)
        · exact .inr (.inl (k4 b h7))
/-- 'make' of a slice without elements. -/
theorem RL.make0N {α : Type} {O : Ow α} {n : Nat} (A : AppT P t e z sz bb) (hg : wantF f ops ⟨d, .makeSlice t x y, ty, pos, af, g⟩ = true) (hx : ev f x = .int .i64 0) (hy : ev f y = .int .i64 n) (hn : n ≤ 4294967296)
    (h : ∀ w1, OwN e O sz w1 w.heap.size (.slice (some ⟨w.heap.size, 0, none⟩) 0 n) ([] : List α) [w.heap.size] → Below w.heap.size w w1 → w1.heap.size = w.heap.size + 1 → RL P ops Q rest (upo f d (.slice (some ⟨w.heap.size, 0, none⟩) 0 n)) w1) : RL P ops Q (⟨d, .makeSlice t x y, ty, pos, af, g⟩ :: rest) f w := by
  refine .inl ⟨hg, ?_⟩
  obtain ⟨i0, hi, hz0, hz1, hz2⟩ := info_parts A.info
  have hb : bb * n ≤ 281474976710656 := Nat.le_trans (Nat.mul_le_mul A.bb hn) (by decide)
  have hr0 := run_make_rowN (P := P) t e i0 z A.und hi hz0 .i64 .i64 0 n (Nat.zero_le _) (by rw [hz2]; exact hb) (by omega) w
  rw [hz1] at hr0
  have hr : (execOp (ev f) ⟨d, .makeSlice t x y, ty, pos, af, g⟩).run P w = .ok (.value (.slice (some ⟨w.heap.size, 0, none⟩) 0 n)) (w.alloc (.cells (madeCells z.cells (n * sz)) e)) := by
    have hr1 : (Instr.makeSlice t (.int .i64 0) (.int .i64 (n : Int))).run P w = _ := hr0
    simp [execOp, hx, hy, hr1]
  rw [hr]
  have hB := Blk.new w e (madeCells z.cells (n * sz))
  refine h _ ?_ (below_alloc _ _) (World.size_alloc _ _)
  refine ⟨[], [], ⟨by simp, .inr ⟨w.heap.size, n, _, rfl, Nat.le_refl _, hB, Nat.zero_le _, by unfold maxLen; omega, madeCells_size _ _, by simp⟩⟩, ⟨rfl, rfl⟩, List.nodup_nil, fun b hb => by simp at hb, fun b hb => ?_, fun b hb => ?_⟩
  · simp [Value.ownBlock] at hb; subst hb; simp
  · simp at hb; subst hb; rw [World.size_alloc]; omega
/-- A store of one plain cell of an element. -/
theorem RL.storeN {α : Type} {O : Ow α} {v : Value} {xs : List α} {lo k n c b j : Nat} {a a' : α} {bs : List Nat} (ok : OwOk O sz) (hg : wantF f ops ⟨d, .store t x y, ty, pos, af, g⟩ = true) (hx : ev f x = .pointer (some ⟨b, 0 + k * sz + j, none⟩)) (hy : ev f y = v)
    (hv : OwN e O sz w lo (.slice (some ⟨b, 0, none⟩) n c) xs bs) (hk : xs[k]? = some a) (hj : j < sz) (hO : ∀ {w cs l}, O w cs a l → O w (cs.set j v) a' l) (h1 : v.oneCell' = true) (hc : v.cells = #[v]) (hs : (P.info? t).map (·.size) = some 1)
    (h : ∀ w1, OwN e O sz w1 lo (.slice (some ⟨b, 0, none⟩) n c) (xs.set k a') bs → Only [b] w w1 → RL P ops Q rest (upo f d undef) w1) : RL P ops Q (⟨d, .store t x y, ty, pos, af, g⟩ :: rest) f w := by
  refine .inl ⟨hg, ?_⟩
  cases hi : P.info? t with
  | none => rw [hi] at hs; cases hs
  | some inf =>
    rw [hi] at hs
    simp only [Option.map_some, Option.some.injEq] at hs
    obtain ⟨cells, ib, q1, q2, q3, q4, q5, q6⟩ := hv
    rcases q1.2 with ⟨h0, hl0⟩ | ⟨b', cap, cur, hv, hlo, hh, m1, m2, m3, m4⟩
    · cases h0
    · injection hv with e1 e2 e3
      injection e1 with e1
      injection e1 with e1
      subst e1 e2 e3
      obtain ⟨c1, cs, c2, i1, b1, i2, f1, f2, f3, f4, f5⟩ := q2.split ok hk
      have hkl := lt_of_some hk
      have hcl := ok.len f3
      have hcs : cells.length = xs.length * sz := q1.1
      have hkc : k * sz + sz ≤ xs.length * sz := by
        have := Nat.mul_le_mul_right sz (show k + 1 ≤ xs.length from hkl)
        rw [Nat.add_mul] at this; omega
      have hcc : xs.length * sz ≤ cur.size := by rw [m3]; exact Nat.mul_le_mul_right _ m1
      have hst := run_storeCells_at (P := P) b (k * sz + j) e [v] 0 cur w hh (by simp; omega) (fun u hu => by simp at hu; subst hu; exact h1)
      have hr : (execOp (ev f) ⟨d, .store t x y, ty, pos, af, g⟩).run P w = .ok .skip (w.setRow b (cur.toList.take (k * sz + j) ++ [v] ++ cur.toList.drop (k * sz + j + 1)).toArray) := by
        simp only [Nat.add_zero] at hst
        simp [execOp, hx, hy, Instr.storeAt, Instr.sureAddr, storeVar, sizeOf, typeInfo, hi, hc, hs, hst]
      rw [hr]
      have hb0 := q5 b rfl
      have hon := setRow_only w b (cur.toList.take (k * sz + j) ++ [v] ++ cur.toList.drop (k * sz + j + 1)).toArray
      refine h _ ⟨c1 ++ cs.set j v ++ c2, ib, ⟨?_, .inr ⟨b, c, _, by rw [List.length_set], hlo, setRow_heap w b cur _ e _ hh, by rw [List.length_set]; exact m1, m2, ?_, ?_⟩⟩, ?_, q3, q4, q5, fun b' hb' => by have := q6 b' hb'; rw [hon.size]; exact this⟩ hon
      · rw [f1] at hcs
        simp only [List.length_append, List.length_set] at hcs ⊢
        exact hcs
      · simp only [List.size_toArray, List.length_append, List.length_take, List.length_drop, Array.length_toList, List.length_cons, List.length_nil]
        rw [← m3]; omega
      · rw [List.length_set]
        have hsp := splice_take (A := cur.toList) (E := [v]) (p := k * sz + j) (L := xs.length * sz) (by simp; omega) (by simpa using hcc)
        simp only [List.length_cons, List.length_nil, Nat.zero_add] at hsp
        show List.take (xs.length * sz) (cur.toList.take (k * sz + j) ++ [v] ++ cur.toList.drop (k * sz + j + 1)) = _
        rw [hsp, m4, f1]
        have e5 : (c1 ++ cs ++ c2).take (k * sz + j) = c1 ++ cs.take j := by
          rw [List.append_assoc, ← f2, List.take_length_add_append, List.take_append_of_le_length (by omega)]
        have e6 : (c1 ++ cs ++ c2).drop (k * sz + j + 1) = cs.drop (j + 1) ++ c2 := by
          rw [List.append_assoc, ← f2, Nat.add_assoc, List.drop_length_add_append, List.drop_append_of_le_length (by omega)]
        rw [e5, e6, List.set_eq_take_append_cons_drop, if_pos (by omega)]
        simp [List.append_assoc]
      · have hkeep : ∀ b' ∈ ib, (w.setRow b (cur.toList.take (k * sz + j) ++ [v] ++ cur.toList.drop (k * sz + j + 1)).toArray).heap[b']? = w.heap[b']? := fun b' hb' => hon.block b' (by intro hin; simp at hin; subst hin; exact hb0.2 hb')
        rw [f4] at hkeep ⊢
        exact f5 _ _ _ _ (fun b' hb' => hkeep b' (by simp at hb' ⊢; rcases hb' with h | h <;> simp [h])) (hO (ok.keep (fun b' hb' => hkeep b' (by simp [hb'])) f3))
end
end
end Go.Proofs.Ytampijkiidjcmaa
