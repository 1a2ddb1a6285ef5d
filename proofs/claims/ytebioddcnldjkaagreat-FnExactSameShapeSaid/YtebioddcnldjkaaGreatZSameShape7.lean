/- Lemmas of the proof of SameShape, part 7. No condition. -/
import Derived.Test.YtebioddcnldjkaaGreatZSameShape6
namespace Go.Proofs.YtebioddcnldjkaaGreat
section
open Go.RowKit
set_option linter.unusedVariables false
set_option linter.unusedSimpArgs false
set_option maxRecDepth 100000
def m_spec_l00Same_A1 : Option Bool :=
  some true
def m_spec_l00Same_B1 (d0 : List Int) (d1 : List Int) (rec1 : Int → Option Bool) (K1 : Option Bool) (i3 : Int) : Option Bool :=
  (bif (decide (i3 < (d0.length : Int))) then ((getI d0 i3).bind fun x6 => ((getI d1 i3).bind fun x15 => (bif (x6 != x15) then some false else (rec1 (i3 + 1))))) else (K1))
def m_spec_l00Same_L1 (d0 : List Int) (d1 : List Int) (K1 : Option Bool) : Nat → Int → Option Bool
  | 0, _ => none
  | g + 1, i3 => m_spec_l00Same_B1 d0 d1 (m_spec_l00Same_L1 d0 d1 K1 g) K1 i3
def m_spec_l00Same (d0 : List Int) (d1 : List Int) : Option Bool :=
  (bif ((d0.length : Int) != (d1.length : Int)) then some false else (m_spec_l00Same_L1 d0 d1 m_spec_l00Same_A1 (d0.length + 1) 0))
set_option maxHeartbeats 2000000 in
theorem c_m_spec_l00Same (d0 : List Int) (d1 : List Int) (r : Bool) (hm : m_spec_l00Same d0 d1 = some r) (v0 : Value) (v1 : Value) (w : World) (hv0 : Sl intRd 1 w v0 d0) (hv1 : Sl intRd 1 w v1 d1) :
    Calls Tryz.prog 114 #[v0, v1] w fun e w' => e = .returned (.bool r) ∧ Below w.heap.size w w' := by
  obtain ⟨Aa0, na0, ca0, rfl, ha0, ra0⟩ := hv0
  have ea0 := ha0.len; subst ea0
  have qa0 := len_le ra0
  obtain ⟨Aa1, na1, ca1, rfl, ha1, ra1⟩ := hv1
  have ea1 := ha1.len; subst ea1
  have qa1 := len_le ra1
  have T := Below.refl w.heap.size w
  unfold m_spec_l00Same at hm
  refine enter 26 Tryz.func114 rfl rfl rfl ?_
  intro f hf
  have s0 : f 0 = .slice Aa0 d0.length ca0 := hf 0 _ rfl
  have s1 : f 1 = .slice Aa1 d1.length ca1 := hf 1 _ rfl
  refine wp_seq ?_
  refine wp_rs rfl ?_
  refine RQ.y rfl (Y.assign (v := .bool false) rfl) ?_
  refine RQ.nil ?_
  refine then_n ?_
  refine wp_seq ?_
  refine wp_seq ?_
  refine wp_rs rfl ?_
  refine RQ.y rfl (Y.move (v := .slice Aa0 d0.length ca0) s0) ?_
  refine RQ.y rfl (Y.len (by kernel_rfl) rfl) ?_
  refine RQ.y rfl (Y.move (v := .slice Aa1 d1.length ca1) s1) ?_
  refine RQ.y rfl (Y.len (by kernel_rfl) rfl) ?_
  refine RQ.y rfl (Y.binI (v := .bool ((d0.length : Int) != (d1.length : Int))) rfl rfl rfl) ?_
  refine RQ.nil ?_
  refine then_n ?_
  rcases bcases ((d0.length : Int) != (d1.length : Int)) with c1 | c1
  · replace hm := cF c1 hm
    refine cond_f rfl (vb rfl c1) ?_
    refine wp_skip ?_
    refine then_n ?_
    refine wp_seq ?_
    refine wp_seq ?_
    refine wp_rs rfl ?_
    refine RQ.y rfl (Y.assign (v := .int .i64 0) rfl) ?_
    refine RQ.nil ?_
    refine then_n ?_
    refine wp_block ?_
    obtain ⟨K1, hK1, hm⟩ : ∃ K, K = m_spec_l00Same_A1 ∧ m_spec_l00Same_L1 d0 d1 K (d0.length + 1) 0 = some r := ⟨_, rfl, hm⟩
    refine wp_loopX (fun g f w' => ∃ (i3 : Int), f 0 = .slice Aa0 d0.length ca0 ∧ f 1 = .slice Aa1 d1.length ca1 ∧ f 5 = .int .i64 i3 ∧ 0 ≤ i3 ∧ Below w.heap.size w w' ∧ m_spec_l00Same_L1 d0 d1 K1 g i3 = some r) 0 (fun f w' => Below w.heap.size w w' ∧ m_spec_l00Same_A1  = some r) (d0.length + 1) ⟨0, s0, s1, rfl, (by omega), T, hm⟩ ?_ ?_
    · rintro f w2 ⟨T, hm⟩
      unfold m_spec_l00Same_A1 at hm
      refine blk_hit (then_n ?_)
      refine wp_seq ?_
      refine wp_rs rfl ?_
      refine RQ.y rfl (Y.assign (v := .bool true) rfl) ?_
      refine RQ.nil ?_
      refine then_n ?_
      refine wp_ret ?_
      obtain rfl := Option.some.inj hm
      exact (ret1 rfl rfl rfl ⟨rfl, T⟩)
    · rintro g f w4 ⟨i3, s0_1, s1_1, s5_1, nn5_1, T, hm⟩
      rcases g with _ | g
      · simp only [m_spec_l00Same_L1] at hm; cases hm
      obtain ⟨rec1, hrec1, hm⟩ : ∃ z, z = m_spec_l00Same_L1 d0 d1 K1 g ∧ m_spec_l00Same_B1 d0 d1 z K1 i3 = some r := ⟨_, rfl, hm⟩
      unfold m_spec_l00Same_B1 at hm
      refine wp_seq ?_
      refine wp_seq ?_
      refine wp_rs rfl ?_
      refine RQ.y rfl (Y.move (v := .int .i64 i3) s5_1) ?_
      refine RQ.y rfl (Y.move (v := .slice Aa0 d0.length ca0) s0_1) ?_
      refine RQ.y rfl (Y.len (by kernel_rfl) rfl) ?_
      refine RQ.y rfl (Y.binI (v := .bool (decide (i3 < (d0.length : Int)))) rfl rfl rfl) ?_
      refine RQ.nil ?_
      refine then_n ?_
      rcases bcases (decide (i3 < (d0.length : Int))) with c5 | c5
      · replace hm := cF c5 hm
        have pc5 := of_decide_eq_false c5
        refine cond_f rfl (vb rfl c5) ?_
        refine wp_exit ?_
        exact (then_x (then_x (hit_x ⟨_, rfl, ⟨T, (by rw [hK1] at hm; exact hm)⟩⟩)))
      · replace hm := cT c5 hm
        have pc5 := of_decide_eq_true c5
        refine cond_t rfl (vb rfl c5) ?_
        refine wp_skip ?_
        refine then_n ?_
        refine wp_seq ?_
        refine wp_block ?_
        refine wp_seq ?_
        refine wp_rbd (by kernel_rfl) (by kernel_rfl) ?_
        refine RQ.y rfl (Y.move (v := .slice Aa0 d0.length ca0) s0_1) ?_
        refine RQ.y rfl (Y.move (v := .int .i64 i3) s5_1) ?_
        obtain ⟨x6, hx9, hm⟩ := bnd hm
        obtain ⟨k7, hk10, hl11, hx9⟩ := getI_some hx9
        obtain ⟨b13, o14, rfl, hbb13⟩ := ha0.addr (by omega)
        obtain ⟨cs8, hRcs8, hc12⟩ := ha0.el hx9
        have hScs8 := hRcs8
        obtain rfl := hRcs8
        refine RQ.y rfl (Y.indexAddr (m := k7) (sz := 1) rfl rfl hk10 hl11 (by kernel_rfl)) ?_
        refine RQ.y rfl (Y.load (v := .int .i64 x6) rfl (by kernel_rfl) (beC (cellT T (hc12 0 _ rfl)))) ?_
        refine RQ.y rfl (Y.move (v := .slice Aa1 d1.length ca1) s1_1) ?_
        refine RQ.y rfl (Y.move (v := .int .i64 i3) s5_1) ?_
        obtain ⟨x15, hx18, hm⟩ := bnd hm
        obtain ⟨k16, hk19, hl20, hx18⟩ := getI_some hx18
        obtain ⟨b22, o23, rfl, hbb22⟩ := ha1.addr (by omega)
        obtain ⟨cs17, hRcs17, hc21⟩ := ha1.el hx18
        have hScs17 := hRcs17
        obtain rfl := hRcs17
        refine RQ.y rfl (Y.indexAddr (m := k16) (sz := 1) rfl rfl hk19 hl20 (by kernel_rfl)) ?_
        refine RQ.y rfl (Y.load (v := .int .i64 x15) rfl (by kernel_rfl) (beC (cellT T (hc21 0 _ rfl)))) ?_
        refine RQ.y rfl (Y.binI (v := .bool (x6 != x15)) rfl rfl rfl) ?_
        refine RQ.nil ?_
        intro w24 hb25
        have szw24 := hb25.size
        have T := Tt T hb25
        refine then_n ?_
        rcases bcases (x6 != x15) with c26 | c26
        · replace hm := cF c26 hm
          refine cond_f rfl (vb rfl c26) ?_
          refine wp_skip ?_
          refine blk_n (then_n ?_)
          refine wp_rs rfl ?_
          refine RQ.y rfl (Y.move (v := .int .i64 i3) s5_1) ?_
          refine RQ.y rfl (Y.binI rfl rfl (binI_add (m := i3) (by omega))) ?_
          refine RQ.y rfl (Y.assign (v := .int .i64 (i3 + 1)) rfl) ?_
          refine RQ.nil ?_
          exact (then_n ⟨g, _, Nat.lt_succ_self _, rfl, ⟨(i3 + 1), s0_1, s1_1, rfl, (by omega), T, (by rw [← hrec1]; exact hm)⟩⟩)
        · replace hm := cT c26 hm
          refine cond_t rfl (vb rfl c26) ?_
          refine wp_seq ?_
          refine wp_rs rfl ?_
          refine RQ.y rfl (Y.assign (v := .bool false) rfl) ?_
          refine RQ.nil ?_
          refine then_n ?_
          refine wp_ret ?_
          obtain rfl := Option.some.inj hm
          exact (blk_r (then_r (then_r (hit_r (blk_r (then_r (ret1 rfl rfl rfl ⟨rfl, T⟩)))))))
  · replace hm := cT c1 hm
    refine cond_t rfl (vb rfl c1) ?_
    refine wp_seq ?_
    refine wp_rs rfl ?_
    refine RQ.y rfl (Y.assign (v := .bool false) rfl) ?_
    refine RQ.nil ?_
    refine then_n ?_
    refine wp_ret ?_
    obtain rfl := Option.some.inj hm
    exact (then_r (ret1 rfl rfl rfl ⟨rfl, T⟩))
def m_spec_l11SameAgent_A1 : Option Bool :=
  some true
def m_spec_l11SameAgent_B1 (d0 : DAgent) (d1 : DAgent) (rec1 : Int → Option Bool) (K1 : Option Bool) (i17 : Int) : Option Bool :=
  (bif (decide (i17 < (d0.ports.length : Int))) then ((getI d0.ports i17).bind fun x20 => ((getI d1.ports i17).bind fun x29 => (bif (x20.agent == x29.agent && x20.slot == x29.slot) then (rec1 (i17 + 1)) else some false))) else (K1))
def m_spec_l11SameAgent_L1 (d0 : DAgent) (d1 : DAgent) (K1 : Option Bool) : Nat → Int → Option Bool
  | 0, _ => none
  | g + 1, i17 => m_spec_l11SameAgent_B1 d0 d1 (m_spec_l11SameAgent_L1 d0 d1 K1 g) K1 i17
def m_spec_l11SameAgent (d0 : DAgent) (d1 : DAgent) : Option Bool :=
  (bif (d0.kind != d1.kind) then some false else (bif (d0.level != d1.level) then some false else (bif (d0.value != d1.value) then some false else ((m_spec_l00Same d0.data d1.data).bind fun y8 => (bif y8 then (bif ((d0.ports.length : Int) != (d1.ports.length : Int)) then some false else (m_spec_l11SameAgent_L1 d0 d1 m_spec_l11SameAgent_A1 (d0.ports.length + 1) 0)) else some false)))))
set_option maxHeartbeats 2000000 in
theorem c_m_spec_l11SameAgent (d0 : DAgent) (d1 : DAgent) (r : Bool) (hm : m_spec_l11SameAgent d0 d1 = some r) (v0 : Value) (v1 : Value) (w : World) (hv0 : Pt agentRd w v0 d0) (hv1 : Pt agentRd w v1 d1) :
    Calls Tryz.prog 84 #[v0, v1] w fun e w' => e = .returned (.bool r) ∧ Below w.heap.size w w' := by
  obtain ⟨ba0, oa0, csa0, rfl, hba0, hRa0, hca0⟩ := hv0
  have hSa0 := hRa0
  obtain ⟨A1, n1, c1, A2, n2, c2, rfl, ⟨h1, r1⟩, ⟨h2, r2⟩⟩ := hRa0
  have e1 := h1.len; subst e1
  have q1 := len_le r1
  have e2 := h2.len; subst e2
  have q2 := len_le r2
  obtain ⟨ba1, oa1, csa1, rfl, hba1, hRa1, hca1⟩ := hv1
  have hSa1 := hRa1
  obtain ⟨A3, n3, c3, A4, n4, c4, rfl, ⟨h3, r3⟩, ⟨h4, r4⟩⟩ := hRa1
  have e3 := h3.len; subst e3
  have q3 := len_le r3
  have e4 := h4.len; subst e4
  have q4 := len_le r4
  have T := Below.refl w.heap.size w
  unfold m_spec_l11SameAgent at hm
  refine enter 86 Tryz.func84 rfl rfl rfl ?_
  intro f hf
  have s0 : f 0 = .pointer (some ⟨ba0, oa0, none⟩) := hf 0 _ rfl
  have s1 : f 1 = .pointer (some ⟨ba1, oa1, none⟩) := hf 1 _ rfl
  refine wp_seq ?_
  refine wp_rs rfl ?_
  refine RQ.y rfl (Y.assign (v := .bool false) rfl) ?_
  refine RQ.nil ?_
  refine then_n ?_
  refine wp_seq ?_
  refine wp_seq ?_
  refine wp_rbd (by kernel_rfl) (by kernel_rfl) ?_
  refine RQ.y rfl (Y.move (v := .pointer (some ⟨ba0, oa0, none⟩)) s0) ?_
  refine RQ.y rfl (Y.nilCheck rfl) ?_
  refine RQ.y rfl (Y.fieldAddr (off := 0) rfl (by kernel_rfl)) ?_
  refine RQ.y rfl (Y.load (v := .int .i64 d0.kind) rfl (by kernel_rfl) (beC (cellT T (hca0 0 _ rfl)))) ?_
  refine RQ.y rfl (Y.move (v := .pointer (some ⟨ba1, oa1, none⟩)) s1) ?_
  refine RQ.y rfl (Y.nilCheck rfl) ?_
  refine RQ.y rfl (Y.fieldAddr (off := 0) rfl (by kernel_rfl)) ?_
  refine RQ.y rfl (Y.load (v := .int .i64 d1.kind) rfl (by kernel_rfl) (beC (cellT T (hca1 0 _ rfl)))) ?_
  refine RQ.y rfl (Y.binI (v := .bool (d0.kind != d1.kind)) rfl rfl rfl) ?_
  refine RQ.y rfl (Y.move (v := .bool (d0.kind != d1.kind)) rfl) ?_
  rcases bcases (d0.kind != d1.kind) with c5 | c5
  · replace hm := cF c5 hm
    refine RQ.y (wantT (dj := 15) rfl (vb rfl c5)) (Y.move (v := .pointer (some ⟨ba0, oa0, none⟩)) s0) ?_
    refine RQ.y (wantT (dj := 15) rfl (vb rfl c5)) (Y.nilCheck rfl) ?_
    refine RQ.y (wantT (dj := 15) rfl (vb rfl c5)) (Y.fieldAddr (off := 1) rfl (by kernel_rfl)) ?_
    refine RQ.y (wantT (dj := 15) rfl (vb rfl c5)) (Y.load (v := .int .i64 d0.level) rfl (by kernel_rfl) (beC (cellT T (hca0 1 _ rfl)))) ?_
    refine RQ.y (wantT (dj := 15) rfl (vb rfl c5)) (Y.move (v := .pointer (some ⟨ba1, oa1, none⟩)) s1) ?_
    refine RQ.y (wantT (dj := 15) rfl (vb rfl c5)) (Y.nilCheck rfl) ?_
    refine RQ.y (wantT (dj := 15) rfl (vb rfl c5)) (Y.fieldAddr (off := 1) rfl (by kernel_rfl)) ?_
    refine RQ.y (wantT (dj := 15) rfl (vb rfl c5)) (Y.load (v := .int .i64 d1.level) rfl (by kernel_rfl) (beC (cellT T (hca1 1 _ rfl)))) ?_
    refine RQ.y (wantT (dj := 15) rfl (vb rfl c5)) (Y.binI (v := .bool (d0.level != d1.level)) rfl rfl rfl) ?_
    refine RQ.y rfl (Y.pick (b := false) (v := .bool (d0.level != d1.level)) (vb rfl c5) rfl) ?_
    refine RQ.y rfl (Y.move (v := .bool (d0.level != d1.level)) rfl) ?_
    rcases bcases (d0.level != d1.level) with c6 | c6
    · replace hm := cF c6 hm
      refine RQ.y (wantT (dj := 26) rfl (vb rfl c6)) (Y.move (v := .pointer (some ⟨ba0, oa0, none⟩)) s0) ?_
      refine RQ.y (wantT (dj := 26) rfl (vb rfl c6)) (Y.nilCheck rfl) ?_
      refine RQ.y (wantT (dj := 26) rfl (vb rfl c6)) (Y.fieldAddr (off := 2) rfl (by kernel_rfl)) ?_
      refine RQ.y (wantT (dj := 26) rfl (vb rfl c6)) (Y.load (v := .int .i64 d0.value) rfl (by kernel_rfl) (beC (cellT T (hca0 2 _ rfl)))) ?_
      refine RQ.y (wantT (dj := 26) rfl (vb rfl c6)) (Y.move (v := .pointer (some ⟨ba1, oa1, none⟩)) s1) ?_
      refine RQ.y (wantT (dj := 26) rfl (vb rfl c6)) (Y.nilCheck rfl) ?_
      refine RQ.y (wantT (dj := 26) rfl (vb rfl c6)) (Y.fieldAddr (off := 2) rfl (by kernel_rfl)) ?_
      refine RQ.y (wantT (dj := 26) rfl (vb rfl c6)) (Y.load (v := .int .i64 d1.value) rfl (by kernel_rfl) (beC (cellT T (hca1 2 _ rfl)))) ?_
      refine RQ.y (wantT (dj := 26) rfl (vb rfl c6)) (Y.binI (v := .bool (d0.value != d1.value)) rfl rfl rfl) ?_
      refine RQ.y rfl (Y.pick (b := false) (v := .bool (d0.value != d1.value)) (vb rfl c6) rfl) ?_
      refine RQ.y rfl (Y.move (v := .bool (d0.value != d1.value)) rfl) ?_
      rcases bcases (d0.value != d1.value) with c7 | c7
      · replace hm := cF c7 hm
        refine RQ.y (wantT (dj := 37) rfl (vb rfl c7)) (Y.move (v := .pointer (some ⟨ba0, oa0, none⟩)) s0) ?_
        refine RQ.y (wantT (dj := 37) rfl (vb rfl c7)) (Y.nilCheck rfl) ?_
        refine RQ.y (wantT (dj := 37) rfl (vb rfl c7)) (Y.fieldAddr (off := 3) rfl (by kernel_rfl)) ?_
        refine RQ.y (wantT (dj := 37) rfl (vb rfl c7)) (Y.load (v := .slice A1 d0.data.length c1) rfl (by kernel_rfl) (beC (cellT T (hca0 3 _ rfl)))) ?_
        refine RQ.y (wantT (dj := 37) rfl (vb rfl c7)) (Y.move (v := .pointer (some ⟨ba1, oa1, none⟩)) s1) ?_
        refine RQ.y (wantT (dj := 37) rfl (vb rfl c7)) (Y.nilCheck rfl) ?_
        refine RQ.y (wantT (dj := 37) rfl (vb rfl c7)) (Y.fieldAddr (off := 3) rfl (by kernel_rfl)) ?_
        refine RQ.y (wantT (dj := 37) rfl (vb rfl c7)) (Y.load (v := .slice A3 d1.data.length c3) rfl (by kernel_rfl) (beC (cellT T (hca1 3 _ rfl)))) ?_
        obtain ⟨y8, e9, hm⟩ := bnd hm
        refine RQ.call (wantT (dj := 37) rfl (vb rfl c7)) (am2 rfl rfl) (by kernel_rfl) (v := .bool y8) (bel (K := fun _ => True) fun w' hb' => (c_m_spec_l00Same d0.data d1.data _ e9 _ _ w' (slArg intRd_ok h1 r1 (Tt T hb')) (slArg intRd_ok h3 r3 (Tt T hb')))) ?_
        refine RQ.y (wantT (dj := 37) rfl (vb rfl c7)) (Y.not (b' := (!y8)) rfl rfl) ?_
        refine RQ.y rfl (Y.pick (b := false) (v := .bool (!y8)) (vb rfl c7) rfl) ?_
        refine RQ.y rfl (Y.move (v := .bool (!y8)) rfl) ?_
        rcases bcases y8 with c10 | c10
        · replace hm := cF c10 hm
          refine RQ.skip (wantN (dj := 49) rfl (vbn rfl c10 rfl) rfl) ?_
          refine RQ.skip (wantN (dj := 49) rfl (vbn rfl c10 rfl) rfl) ?_
          refine RQ.skip (wantN (dj := 49) rfl (vbn rfl c10 rfl) rfl) ?_
          refine RQ.skip (wantN (dj := 49) rfl (vbn rfl c10 rfl) rfl) ?_
          refine RQ.skip (wantN (dj := 49) rfl (vbn rfl c10 rfl) rfl) ?_
          refine RQ.skip (wantN (dj := 49) rfl (vbn rfl c10 rfl) rfl) ?_
          refine RQ.skip (wantN (dj := 49) rfl (vbn rfl c10 rfl) rfl) ?_
          refine RQ.skip (wantN (dj := 49) rfl (vbn rfl c10 rfl) rfl) ?_
          refine RQ.skip (wantN (dj := 49) rfl (vbn rfl c10 rfl) rfl) ?_
          refine RQ.skip (wantN (dj := 49) rfl (vbn rfl c10 rfl) rfl) ?_
          refine RQ.skip (wantN (dj := 49) rfl (vbn rfl c10 rfl) rfl) ?_
          refine RQ.y rfl (Y.pick (b := true) (v := .bool true) (vbn rfl c10 rfl) rfl) ?_
          refine RQ.nil ?_
          intro w11 hb12
          have szw11 := hb12.size
          have T := Tt T hb12
          refine then_n ?_
          refine cond_t rfl rfl ?_
          refine wp_seq ?_
          refine wp_rs rfl ?_
          refine RQ.y rfl (Y.assign (v := .bool false) rfl) ?_
          refine RQ.nil ?_
          refine then_n ?_
          refine wp_ret ?_
          obtain rfl := Option.some.inj hm
          exact (then_r (ret1 rfl rfl rfl ⟨rfl, T⟩))
        · replace hm := cT c10 hm
          refine RQ.y (wantT (dj := 49) rfl (vbn rfl c10 rfl)) (Y.move (v := .pointer (some ⟨ba0, oa0, none⟩)) s0) ?_
          refine RQ.y (wantT (dj := 49) rfl (vbn rfl c10 rfl)) (Y.nilCheck rfl) ?_
          refine RQ.y (wantT (dj := 49) rfl (vbn rfl c10 rfl)) (Y.fieldAddr (off := 4) rfl (by kernel_rfl)) ?_
          refine RQ.y (wantT (dj := 49) rfl (vbn rfl c10 rfl)) (Y.load (v := .slice A2 d0.ports.length c2) rfl (by kernel_rfl) (beC (cellT T (hca0 4 _ rfl)))) ?_
          refine RQ.y (wantT (dj := 49) rfl (vbn rfl c10 rfl)) (Y.len (by kernel_rfl) rfl) ?_
          refine RQ.y (wantT (dj := 49) rfl (vbn rfl c10 rfl)) (Y.move (v := .pointer (some ⟨ba1, oa1, none⟩)) s1) ?_
          refine RQ.y (wantT (dj := 49) rfl (vbn rfl c10 rfl)) (Y.nilCheck rfl) ?_
          refine RQ.y (wantT (dj := 49) rfl (vbn rfl c10 rfl)) (Y.fieldAddr (off := 4) rfl (by kernel_rfl)) ?_
          refine RQ.y (wantT (dj := 49) rfl (vbn rfl c10 rfl)) (Y.load (v := .slice A4 d1.ports.length c4) rfl (by kernel_rfl) (beC (cellT T (hca1 4 _ rfl)))) ?_
          refine RQ.y (wantT (dj := 49) rfl (vbn rfl c10 rfl)) (Y.len (by kernel_rfl) rfl) ?_
          refine RQ.y (wantT (dj := 49) rfl (vbn rfl c10 rfl)) (Y.binI (v := .bool ((d0.ports.length : Int) != (d1.ports.length : Int))) rfl rfl rfl) ?_
          refine RQ.y rfl (Y.pick (b := false) (v := .bool ((d0.ports.length : Int) != (d1.ports.length : Int))) (vbn rfl c10 rfl) rfl) ?_
          refine RQ.nil ?_
          intro w13 hb14
          have szw13 := hb14.size
          have T := Tt T hb14
          refine then_n ?_
          rcases bcases ((d0.ports.length : Int) != (d1.ports.length : Int)) with c15 | c15
          · replace hm := cF c15 hm
            refine cond_f rfl (vb rfl c15) ?_
            refine wp_skip ?_
            refine then_n ?_
            refine wp_seq ?_
            refine wp_seq ?_
            refine wp_rs rfl ?_
            refine RQ.y rfl (Y.assign (v := .int .i64 0) rfl) ?_
            refine RQ.nil ?_
            refine then_n ?_
            refine wp_block ?_
            obtain ⟨K1, hK1, hm⟩ : ∃ K, K = m_spec_l11SameAgent_A1 ∧ m_spec_l11SameAgent_L1 d0 d1 K (d0.ports.length + 1) 0 = some r := ⟨_, rfl, hm⟩
            refine wp_loopX (fun g f w' => ∃ (i17 : Int), f 0 = .pointer (some ⟨ba0, oa0, none⟩) ∧ f 1 = .pointer (some ⟨ba1, oa1, none⟩) ∧ f 5 = .int .i64 i17 ∧ 0 ≤ i17 ∧ Below w.heap.size w w' ∧ m_spec_l11SameAgent_L1 d0 d1 K1 g i17 = some r) 0 (fun f w' => Below w.heap.size w w' ∧ m_spec_l11SameAgent_A1  = some r) (d0.ports.length + 1) ⟨0, s0, s1, rfl, (by omega), T, hm⟩ ?_ ?_
            · rintro f w16 ⟨T, hm⟩
              unfold m_spec_l11SameAgent_A1 at hm
              refine blk_hit (then_n ?_)
              refine wp_seq ?_
              refine wp_rs rfl ?_
              refine RQ.y rfl (Y.assign (v := .bool true) rfl) ?_
              refine RQ.nil ?_
              refine then_n ?_
              refine wp_ret ?_
              obtain rfl := Option.some.inj hm
              exact (ret1 rfl rfl rfl ⟨rfl, T⟩)
            · rintro g f w18 ⟨i17, s0_1, s1_1, s5_1, nn5_1, T, hm⟩
              rcases g with _ | g
              · simp only [m_spec_l11SameAgent_L1] at hm; cases hm
              obtain ⟨rec1, hrec1, hm⟩ : ∃ z, z = m_spec_l11SameAgent_L1 d0 d1 K1 g ∧ m_spec_l11SameAgent_B1 d0 d1 z K1 i17 = some r := ⟨_, rfl, hm⟩
              unfold m_spec_l11SameAgent_B1 at hm
              refine wp_seq ?_
              refine wp_seq ?_
              refine wp_rs rfl ?_
              refine RQ.y rfl (Y.move (v := .int .i64 i17) s5_1) ?_
              refine RQ.y rfl (Y.move (v := .pointer (some ⟨ba0, oa0, none⟩)) s0_1) ?_
              refine RQ.y rfl (Y.nilCheck rfl) ?_
              refine RQ.y rfl (Y.fieldAddr (off := 4) rfl (by kernel_rfl)) ?_
              refine RQ.y rfl (Y.load (v := .slice A2 d0.ports.length c2) rfl (by kernel_rfl) (eqC (cellT T (hca0 4 _ rfl)))) ?_
              refine RQ.y rfl (Y.len (by kernel_rfl) rfl) ?_
              refine RQ.y rfl (Y.binI (v := .bool (decide (i17 < (d0.ports.length : Int)))) rfl rfl rfl) ?_
              refine RQ.nil ?_
              refine then_n ?_
              rcases bcases (decide (i17 < (d0.ports.length : Int))) with c19 | c19
              · replace hm := cF c19 hm
                have pc19 := of_decide_eq_false c19
                refine cond_f rfl (vb rfl c19) ?_
                refine wp_exit ?_
                exact (then_x (then_x (hit_x ⟨_, rfl, ⟨T, (by rw [hK1] at hm; exact hm)⟩⟩)))
              · replace hm := cT c19 hm
                have pc19 := of_decide_eq_true c19
                refine cond_t rfl (vb rfl c19) ?_
                refine wp_skip ?_
                refine then_n ?_
                refine wp_seq ?_
                refine wp_block ?_
                refine wp_seq ?_
                refine wp_rbd (by kernel_rfl) (by kernel_rfl) ?_
                refine RQ.y rfl (Y.move (v := .pointer (some ⟨ba0, oa0, none⟩)) s0_1) ?_
                refine RQ.y rfl (Y.nilCheck rfl) ?_
                refine RQ.y rfl (Y.fieldAddr (off := 4) rfl (by kernel_rfl)) ?_
                refine RQ.y rfl (Y.load (v := .slice A2 d0.ports.length c2) rfl (by kernel_rfl) (beC (cellT T (hca0 4 _ rfl)))) ?_
                refine RQ.y rfl (Y.move (v := .int .i64 i17) s5_1) ?_
                obtain ⟨x20, hx23, hm⟩ := bnd hm
                obtain ⟨k21, hk24, hl25, hx23⟩ := getI_some hx23
                obtain ⟨b27, o28, rfl, hbb27⟩ := h2.addr (by omega)
                obtain ⟨cs22, hRcs22, hc26⟩ := h2.el hx23
                have hScs22 := hRcs22
                obtain rfl := hRcs22
                refine RQ.y rfl (Y.indexAddr (m := k21) (sz := 2) rfl rfl hk24 hl25 (by kernel_rfl)) ?_
                refine RQ.y rfl (Y.loadN (cs := [.int .i64 x20.agent, .int .i64 x20.slot]) rfl (by kernel_rfl) (cells2 (beC (cellT T (hc26 0 _ rfl))) (beC (cellT T (hc26 1 _ rfl))))) ?_
                refine RQ.y rfl (Y.move (v := .pointer (some ⟨ba1, oa1, none⟩)) s1_1) ?_
                refine RQ.y rfl (Y.nilCheck rfl) ?_
                refine RQ.y rfl (Y.fieldAddr (off := 4) rfl (by kernel_rfl)) ?_
                refine RQ.y rfl (Y.load (v := .slice A4 d1.ports.length c4) rfl (by kernel_rfl) (beC (cellT T (hca1 4 _ rfl)))) ?_
                refine RQ.y rfl (Y.move (v := .int .i64 i17) s5_1) ?_
                obtain ⟨x29, hx32, hm⟩ := bnd hm
                obtain ⟨k30, hk33, hl34, hx32⟩ := getI_some hx32
                obtain ⟨b36, o37, rfl, hbb36⟩ := h4.addr (by omega)
                obtain ⟨cs31, hRcs31, hc35⟩ := h4.el hx32
                have hScs31 := hRcs31
                obtain rfl := hRcs31
                refine RQ.y rfl (Y.indexAddr (m := k30) (sz := 2) rfl rfl hk33 hl34 (by kernel_rfl)) ?_
                refine RQ.y rfl (Y.loadN (cs := [.int .i64 x29.agent, .int .i64 x29.slot]) rfl (by kernel_rfl) (cells2 (beC (cellT T (hc35 0 _ rfl))) (beC (cellT T (hc35 1 _ rfl))))) ?_
                refine RQ.y rfl (Y.neS (b := (x20.agent == x29.agent && x20.slot == x29.slot)) rfl rfl (eqPort_run _ _ _ _) (eqGuardPort_run _ _ _ _ _)) ?_
                refine RQ.nil ?_
                intro w38 hb39
                have szw38 := hb39.size
                have T := Tt T hb39
                refine then_n ?_
                rcases bcases (x20.agent == x29.agent && x20.slot == x29.slot) with c40 | c40
                · replace hm := cF c40 hm
                  refine cond_t rfl (vbn rfl c40 rfl) ?_
                  refine wp_seq ?_
                  refine wp_rs rfl ?_
                  refine RQ.y rfl (Y.assign (v := .bool false) rfl) ?_
                  refine RQ.nil ?_
                  refine then_n ?_
                  refine wp_ret ?_
                  obtain rfl := Option.some.inj hm
                  exact (blk_r (then_r (then_r (hit_r (blk_r (then_r (ret1 rfl rfl rfl ⟨rfl, T⟩)))))))
                · replace hm := cT c40 hm
                  refine cond_f rfl (vbn rfl c40 rfl) ?_
                  refine wp_skip ?_
                  refine blk_n (then_n ?_)
                  refine wp_rs rfl ?_
                  refine RQ.y rfl (Y.move (v := .int .i64 i17) s5_1) ?_
                  refine RQ.y rfl (Y.binI rfl rfl (binI_add (m := i17) (by omega))) ?_
                  refine RQ.y rfl (Y.assign (v := .int .i64 (i17 + 1)) rfl) ?_
                  refine RQ.nil ?_
                  exact (then_n ⟨g, _, Nat.lt_succ_self _, rfl, ⟨(i17 + 1), s0_1, s1_1, rfl, (by omega), T, (by rw [← hrec1]; exact hm)⟩⟩)
          · replace hm := cT c15 hm
            refine cond_t rfl (vb rfl c15) ?_
            refine wp_seq ?_
            refine wp_rs rfl ?_
            refine RQ.y rfl (Y.assign (v := .bool false) rfl) ?_
            refine RQ.nil ?_
            refine then_n ?_
            refine wp_ret ?_
            obtain rfl := Option.some.inj hm
            exact (then_r (ret1 rfl rfl rfl ⟨rfl, T⟩))
      · replace hm := cT c7 hm
        refine RQ.skip (wantN (dj := 37) rfl (vb rfl c7) rfl) ?_
        refine RQ.skip (wantN (dj := 37) rfl (vb rfl c7) rfl) ?_
        refine RQ.skip (wantN (dj := 37) rfl (vb rfl c7) rfl) ?_
        refine RQ.skip (wantN (dj := 37) rfl (vb rfl c7) rfl) ?_
        refine RQ.skip (wantN (dj := 37) rfl (vb rfl c7) rfl) ?_
        refine RQ.skip (wantN (dj := 37) rfl (vb rfl c7) rfl) ?_
        refine RQ.skip (wantN (dj := 37) rfl (vb rfl c7) rfl) ?_
        refine RQ.skip (wantN (dj := 37) rfl (vb rfl c7) rfl) ?_
        refine RQ.skip (wantN (dj := 37) rfl (vb rfl c7) rfl) ?_
        refine RQ.skip (wantN (dj := 37) rfl (vb rfl c7) rfl) ?_
        refine RQ.y rfl (Y.pick (b := true) (v := .bool true) (vb rfl c7) rfl) ?_
        refine RQ.y rfl (Y.move (v := .bool true) rfl) ?_
        refine RQ.skip (wantN (dj := 49) rfl rfl rfl) ?_
        refine RQ.skip (wantN (dj := 49) rfl rfl rfl) ?_
        refine RQ.skip (wantN (dj := 49) rfl rfl rfl) ?_
        refine RQ.skip (wantN (dj := 49) rfl rfl rfl) ?_
        refine RQ.skip (wantN (dj := 49) rfl rfl rfl) ?_
        refine RQ.skip (wantN (dj := 49) rfl rfl rfl) ?_
        refine RQ.skip (wantN (dj := 49) rfl rfl rfl) ?_
        refine RQ.skip (wantN (dj := 49) rfl rfl rfl) ?_
        refine RQ.skip (wantN (dj := 49) rfl rfl rfl) ?_
        refine RQ.skip (wantN (dj := 49) rfl rfl rfl) ?_
        refine RQ.skip (wantN (dj := 49) rfl rfl rfl) ?_
        refine RQ.y rfl (Y.pick (b := true) (v := .bool true) rfl rfl) ?_
        refine RQ.nil ?_
        intro w42 hb43
        have szw42 := hb43.size
        have T := Tt T hb43
        refine then_n ?_
        refine cond_t rfl rfl ?_
        refine wp_seq ?_
        refine wp_rs rfl ?_
        refine RQ.y rfl (Y.assign (v := .bool false) rfl) ?_
        refine RQ.nil ?_
        refine then_n ?_
        refine wp_ret ?_
        obtain rfl := Option.some.inj hm
        exact (then_r (ret1 rfl rfl rfl ⟨rfl, T⟩))
    · replace hm := cT c6 hm
      refine RQ.skip (wantN (dj := 26) rfl (vb rfl c6) rfl) ?_
      refine RQ.skip (wantN (dj := 26) rfl (vb rfl c6) rfl) ?_
      refine RQ.skip (wantN (dj := 26) rfl (vb rfl c6) rfl) ?_
      refine RQ.skip (wantN (dj := 26) rfl (vb rfl c6) rfl) ?_
      refine RQ.skip (wantN (dj := 26) rfl (vb rfl c6) rfl) ?_
      refine RQ.skip (wantN (dj := 26) rfl (vb rfl c6) rfl) ?_
      refine RQ.skip (wantN (dj := 26) rfl (vb rfl c6) rfl) ?_
      refine RQ.skip (wantN (dj := 26) rfl (vb rfl c6) rfl) ?_
      refine RQ.skip (wantN (dj := 26) rfl (vb rfl c6) rfl) ?_
      refine RQ.y rfl (Y.pick (b := true) (v := .bool true) (vb rfl c6) rfl) ?_
      refine RQ.y rfl (Y.move (v := .bool true) rfl) ?_
      refine RQ.skip (wantN (dj := 37) rfl rfl rfl) ?_
      refine RQ.skip (wantN (dj := 37) rfl rfl rfl) ?_
      refine RQ.skip (wantN (dj := 37) rfl rfl rfl) ?_
      refine RQ.skip (wantN (dj := 37) rfl rfl rfl) ?_
      refine RQ.skip (wantN (dj := 37) rfl rfl rfl) ?_
      refine RQ.skip (wantN (dj := 37) rfl rfl rfl) ?_
      refine RQ.skip (wantN (dj := 37) rfl rfl rfl) ?_
      refine RQ.skip (wantN (dj := 37) rfl rfl rfl) ?_
      refine RQ.skip (wantN (dj := 37) rfl rfl rfl) ?_
      refine RQ.skip (wantN (dj := 37) rfl rfl rfl) ?_
      refine RQ.y rfl (Y.pick (b := true) (v := .bool true) rfl rfl) ?_
      refine RQ.y rfl (Y.move (v := .bool true) rfl) ?_
      refine RQ.skip (wantN (dj := 49) rfl rfl rfl) ?_
      refine RQ.skip (wantN (dj := 49) rfl rfl rfl) ?_
      refine RQ.skip (wantN (dj := 49) rfl rfl rfl) ?_
      refine RQ.skip (wantN (dj := 49) rfl rfl rfl) ?_
      refine RQ.skip (wantN (dj := 49) rfl rfl rfl) ?_
      refine RQ.skip (wantN (dj := 49) rfl rfl rfl) ?_
      refine RQ.skip (wantN (dj := 49) rfl rfl rfl) ?_
      refine RQ.skip (wantN (dj := 49) rfl rfl rfl) ?_
      refine RQ.skip (wantN (dj := 49) rfl rfl rfl) ?_
      refine RQ.skip (wantN (dj := 49) rfl rfl rfl) ?_
      refine RQ.skip (wantN (dj := 49) rfl rfl rfl) ?_
      refine RQ.y rfl (Y.pick (b := true) (v := .bool true) rfl rfl) ?_
      refine RQ.nil ?_
      intro w44 hb45
      have szw44 := hb45.size
      have T := Tt T hb45
      refine then_n ?_
      refine cond_t rfl rfl ?_
      refine wp_seq ?_
      refine wp_rs rfl ?_
      refine RQ.y rfl (Y.assign (v := .bool false) rfl) ?_
      refine RQ.nil ?_
      refine then_n ?_
      refine wp_ret ?_
      obtain rfl := Option.some.inj hm
      exact (then_r (ret1 rfl rfl rfl ⟨rfl, T⟩))
  · replace hm := cT c5 hm
    refine RQ.skip (wantN (dj := 15) rfl (vb rfl c5) rfl) ?_
    refine RQ.skip (wantN (dj := 15) rfl (vb rfl c5) rfl) ?_
    refine RQ.skip (wantN (dj := 15) rfl (vb rfl c5) rfl) ?_
    refine RQ.skip (wantN (dj := 15) rfl (vb rfl c5) rfl) ?_
    refine RQ.skip (wantN (dj := 15) rfl (vb rfl c5) rfl) ?_
    refine RQ.skip (wantN (dj := 15) rfl (vb rfl c5) rfl) ?_
    refine RQ.skip (wantN (dj := 15) rfl (vb rfl c5) rfl) ?_
    refine RQ.skip (wantN (dj := 15) rfl (vb rfl c5) rfl) ?_
    refine RQ.skip (wantN (dj := 15) rfl (vb rfl c5) rfl) ?_
    refine RQ.y rfl (Y.pick (b := true) (v := .bool true) (vb rfl c5) rfl) ?_
    refine RQ.y rfl (Y.move (v := .bool true) rfl) ?_
    refine RQ.skip (wantN (dj := 26) rfl rfl rfl) ?_
    refine RQ.skip (wantN (dj := 26) rfl rfl rfl) ?_
    refine RQ.skip (wantN (dj := 26) rfl rfl rfl) ?_
    refine RQ.skip (wantN (dj := 26) rfl rfl rfl) ?_
    refine RQ.skip (wantN (dj := 26) rfl rfl rfl) ?_
    refine RQ.skip (wantN (dj := 26) rfl rfl rfl) ?_
    refine RQ.skip (wantN (dj := 26) rfl rfl rfl) ?_
    refine RQ.skip (wantN (dj := 26) rfl rfl rfl) ?_
    refine RQ.skip (wantN (dj := 26) rfl rfl rfl) ?_
    refine RQ.y rfl (Y.pick (b := true) (v := .bool true) rfl rfl) ?_
    refine RQ.y rfl (Y.move (v := .bool true) rfl) ?_
    refine RQ.skip (wantN (dj := 37) rfl rfl rfl) ?_
    refine RQ.skip (wantN (dj := 37) rfl rfl rfl) ?_
    refine RQ.skip (wantN (dj := 37) rfl rfl rfl) ?_
    refine RQ.skip (wantN (dj := 37) rfl rfl rfl) ?_
    refine RQ.skip (wantN (dj := 37) rfl rfl rfl) ?_
    refine RQ.skip (wantN (dj := 37) rfl rfl rfl) ?_
    refine RQ.skip (wantN (dj := 37) rfl rfl rfl) ?_
    refine RQ.skip (wantN (dj := 37) rfl rfl rfl) ?_
    refine RQ.skip (wantN (dj := 37) rfl rfl rfl) ?_
    refine RQ.skip (wantN (dj := 37) rfl rfl rfl) ?_
    refine RQ.y rfl (Y.pick (b := true) (v := .bool true) rfl rfl) ?_
    refine RQ.y rfl (Y.move (v := .bool true) rfl) ?_
    refine RQ.skip (wantN (dj := 49) rfl rfl rfl) ?_
    refine RQ.skip (wantN (dj := 49) rfl rfl rfl) ?_
    refine RQ.skip (wantN (dj := 49) rfl rfl rfl) ?_
    refine RQ.skip (wantN (dj := 49) rfl rfl rfl) ?_
    refine RQ.skip (wantN (dj := 49) rfl rfl rfl) ?_
    refine RQ.skip (wantN (dj := 49) rfl rfl rfl) ?_
    refine RQ.skip (wantN (dj := 49) rfl rfl rfl) ?_
    refine RQ.skip (wantN (dj := 49) rfl rfl rfl) ?_
    refine RQ.skip (wantN (dj := 49) rfl rfl rfl) ?_
    refine RQ.skip (wantN (dj := 49) rfl rfl rfl) ?_
    refine RQ.skip (wantN (dj := 49) rfl rfl rfl) ?_
    refine RQ.y rfl (Y.pick (b := true) (v := .bool true) rfl rfl) ?_
    refine RQ.nil ?_
    intro w46 hb47
    have szw46 := hb47.size
    have T := Tt T hb47
    refine then_n ?_
    refine cond_t rfl rfl ?_
    refine wp_seq ?_
    refine wp_rs rfl ?_
    refine RQ.y rfl (Y.assign (v := .bool false) rfl) ?_
    refine RQ.nil ?_
    refine then_n ?_
    refine wp_ret ?_
    obtain rfl := Option.some.inj hm
    exact (then_r (ret1 rfl rfl rfl ⟨rfl, T⟩))
def m_spec_l11Same_A1 : Option Bool :=
  some true
def m_spec_l11Same_B1 (d0 : DNet) (d1 : DNet) (rec1 : Int → Option Bool) (K1 : Option Bool) (i7 : Int) : Option Bool :=
  (bif (decide (i7 < (d0.agents.length : Int))) then ((getI d0.agents i7).bind fun x10 => ((getI d1.agents i7).bind fun x21 => ((m_spec_l11SameAgent x10 x21).bind fun y32 => (bif y32 then (rec1 (i7 + 1)) else some false)))) else (K1))
def m_spec_l11Same_L1 (d0 : DNet) (d1 : DNet) (K1 : Option Bool) : Nat → Int → Option Bool
  | 0, _ => none
  | g + 1, i7 => m_spec_l11Same_B1 d0 d1 (m_spec_l11Same_L1 d0 d1 K1 g) K1 i7
def m_spec_l11Same (d0 : DNet) (d1 : DNet) : Option Bool :=
  (bif ((d0.agents.length : Int) != (d1.agents.length : Int)) then some false else (m_spec_l11Same_L1 d0 d1 m_spec_l11Same_A1 (d0.agents.length + 1) 0))
set_option maxHeartbeats 2000000 in
theorem c_m_spec_l11Same (d0 : DNet) (d1 : DNet) (r : Bool) (hm : m_spec_l11Same d0 d1 = some r) (v0 : Value) (v1 : Value) (w : World) (hv0 : Pt netRd w v0 d0) (hv1 : Pt netRd w v1 d1) :
    Calls Tryz.prog 64 #[v0, v1] w fun e w' => e = .returned (.bool r) ∧ Below w.heap.size w w' := by
  obtain ⟨ba0, oa0, csa0, rfl, hba0, hRa0, hca0⟩ := hv0
  have hSa0 := hRa0
  obtain ⟨A1, n1, c1, rfl, ⟨h1, r1⟩⟩ := hRa0
  have e1 := h1.len; subst e1
  have q1 := len_le r1
  obtain ⟨ba1, oa1, csa1, rfl, hba1, hRa1, hca1⟩ := hv1
  have hSa1 := hRa1
  obtain ⟨A2, n2, c2, rfl, ⟨h2, r2⟩⟩ := hRa1
  have e2 := h2.len; subst e2
  have q2 := len_le r2
  have T := Below.refl w.heap.size w
  unfold m_spec_l11Same at hm
  refine enter 40 Tryz.func64 rfl rfl rfl ?_
  intro f hf
  have s0 : f 0 = .pointer (some ⟨ba0, oa0, none⟩) := hf 0 _ rfl
  have s1 : f 1 = .pointer (some ⟨ba1, oa1, none⟩) := hf 1 _ rfl
  refine wp_seq ?_
  refine wp_rs rfl ?_
  refine RQ.y rfl (Y.assign (v := .bool false) rfl) ?_
  refine RQ.nil ?_
  refine then_n ?_
  refine wp_seq ?_
  refine wp_seq ?_
  refine wp_rbd (by kernel_rfl) (by kernel_rfl) ?_
  refine RQ.y rfl (Y.move (v := .pointer (some ⟨ba0, oa0, none⟩)) s0) ?_
  refine RQ.y rfl (Y.nilCheck rfl) ?_
  refine RQ.y rfl (Y.fieldAddr (off := 0) rfl (by kernel_rfl)) ?_
  refine RQ.y rfl (Y.load (v := .slice A1 d0.agents.length c1) rfl (by kernel_rfl) (beC (cellT T (hca0 0 _ rfl)))) ?_
  refine RQ.y rfl (Y.len (by kernel_rfl) rfl) ?_
  refine RQ.y rfl (Y.move (v := .pointer (some ⟨ba1, oa1, none⟩)) s1) ?_
  refine RQ.y rfl (Y.nilCheck rfl) ?_
  refine RQ.y rfl (Y.fieldAddr (off := 0) rfl (by kernel_rfl)) ?_
  refine RQ.y rfl (Y.load (v := .slice A2 d1.agents.length c2) rfl (by kernel_rfl) (beC (cellT T (hca1 0 _ rfl)))) ?_
  refine RQ.y rfl (Y.len (by kernel_rfl) rfl) ?_
  refine RQ.y rfl (Y.binI (v := .bool ((d0.agents.length : Int) != (d1.agents.length : Int))) rfl rfl rfl) ?_
  refine RQ.nil ?_
  intro w3 hb4
  have szw3 := hb4.size
  have T := Tt T hb4
  refine then_n ?_
  rcases bcases ((d0.agents.length : Int) != (d1.agents.length : Int)) with c5 | c5
  · replace hm := cF c5 hm
    refine cond_f rfl (vb rfl c5) ?_
    refine wp_skip ?_
    refine then_n ?_
    refine wp_seq ?_
    refine wp_seq ?_
    refine wp_rs rfl ?_
    refine RQ.y rfl (Y.assign (v := .int .i64 0) rfl) ?_
    refine RQ.nil ?_
    refine then_n ?_
    refine wp_block ?_
    obtain ⟨K1, hK1, hm⟩ : ∃ K, K = m_spec_l11Same_A1 ∧ m_spec_l11Same_L1 d0 d1 K (d0.agents.length + 1) 0 = some r := ⟨_, rfl, hm⟩
    refine wp_loopX (fun g f w' => ∃ (i7 : Int), f 0 = .pointer (some ⟨ba0, oa0, none⟩) ∧ f 1 = .pointer (some ⟨ba1, oa1, none⟩) ∧ f 5 = .int .i64 i7 ∧ 0 ≤ i7 ∧ Below w.heap.size w w' ∧ m_spec_l11Same_L1 d0 d1 K1 g i7 = some r) 0 (fun f w' => Below w.heap.size w w' ∧ m_spec_l11Same_A1  = some r) (d0.agents.length + 1) ⟨0, s0, s1, rfl, (by omega), T, hm⟩ ?_ ?_
    · rintro f w6 ⟨T, hm⟩
      unfold m_spec_l11Same_A1 at hm
      refine blk_hit (then_n ?_)
      refine wp_seq ?_
      refine wp_rs rfl ?_
      refine RQ.y rfl (Y.assign (v := .bool true) rfl) ?_
      refine RQ.nil ?_
      refine then_n ?_
      refine wp_ret ?_
      obtain rfl := Option.some.inj hm
      exact (ret1 rfl rfl rfl ⟨rfl, T⟩)
    · rintro g f w8 ⟨i7, s0_1, s1_1, s5_1, nn5_1, T, hm⟩
      rcases g with _ | g
      · simp only [m_spec_l11Same_L1] at hm; cases hm
      obtain ⟨rec1, hrec1, hm⟩ : ∃ z, z = m_spec_l11Same_L1 d0 d1 K1 g ∧ m_spec_l11Same_B1 d0 d1 z K1 i7 = some r := ⟨_, rfl, hm⟩
      unfold m_spec_l11Same_B1 at hm
      refine wp_seq ?_
      refine wp_seq ?_
      refine wp_rs rfl ?_
      refine RQ.y rfl (Y.move (v := .int .i64 i7) s5_1) ?_
      refine RQ.y rfl (Y.move (v := .pointer (some ⟨ba0, oa0, none⟩)) s0_1) ?_
      refine RQ.y rfl (Y.nilCheck rfl) ?_
      refine RQ.y rfl (Y.fieldAddr (off := 0) rfl (by kernel_rfl)) ?_
      refine RQ.y rfl (Y.load (v := .slice A1 d0.agents.length c1) rfl (by kernel_rfl) (eqC (cellT T (hca0 0 _ rfl)))) ?_
      refine RQ.y rfl (Y.len (by kernel_rfl) rfl) ?_
      refine RQ.y rfl (Y.binI (v := .bool (decide (i7 < (d0.agents.length : Int)))) rfl rfl rfl) ?_
      refine RQ.nil ?_
      refine then_n ?_
      rcases bcases (decide (i7 < (d0.agents.length : Int))) with c9 | c9
      · replace hm := cF c9 hm
        have pc9 := of_decide_eq_false c9
        refine cond_f rfl (vb rfl c9) ?_
        refine wp_exit ?_
        exact (then_x (then_x (hit_x ⟨_, rfl, ⟨T, (by rw [hK1] at hm; exact hm)⟩⟩)))
      · replace hm := cT c9 hm
        have pc9 := of_decide_eq_true c9
        refine cond_t rfl (vb rfl c9) ?_
        refine wp_skip ?_
        refine then_n ?_
        refine wp_seq ?_
        refine wp_block ?_
        refine wp_seq ?_
        refine wp_rbd (by kernel_rfl) (by kernel_rfl) ?_
        refine RQ.y rfl (Y.move (v := .pointer (some ⟨ba0, oa0, none⟩)) s0_1) ?_
        refine RQ.y rfl (Y.nilCheck rfl) ?_
        refine RQ.y rfl (Y.fieldAddr (off := 0) rfl (by kernel_rfl)) ?_
        refine RQ.y rfl (Y.load (v := .slice A1 d0.agents.length c1) rfl (by kernel_rfl) (beC (cellT T (hca0 0 _ rfl)))) ?_
        refine RQ.y rfl (Y.move (v := .int .i64 i7) s5_1) ?_
        obtain ⟨x10, hx13, hm⟩ := bnd hm
        obtain ⟨k11, hk14, hl15, hx13⟩ := getI_some hx13
        obtain ⟨b17, o18, rfl, hbb17⟩ := h1.addr (by omega)
        obtain ⟨cs12, hRcs12, hc16⟩ := h1.el hx13
        have hScs12 := hRcs12
        obtain ⟨A19, n19, c19, A20, n20, c20, rfl, ⟨h19, r19⟩, ⟨h20, r20⟩⟩ := hRcs12
        have e19 := h19.len; subst e19
        have q19 := len_le r19
        have e20 := h20.len; subst e20
        have q20 := len_le r20
        refine RQ.y rfl (Y.indexAddr (m := k11) (sz := 5) rfl rfl hk14 hl15 (by kernel_rfl)) ?_
        refine RQ.y rfl (Y.move (v := .pointer (some ⟨ba1, oa1, none⟩)) s1_1) ?_
        refine RQ.y rfl (Y.nilCheck rfl) ?_
        refine RQ.y rfl (Y.fieldAddr (off := 0) rfl (by kernel_rfl)) ?_
        refine RQ.y rfl (Y.load (v := .slice A2 d1.agents.length c2) rfl (by kernel_rfl) (beC (cellT T (hca1 0 _ rfl)))) ?_
        refine RQ.y rfl (Y.move (v := .int .i64 i7) s5_1) ?_
        obtain ⟨x21, hx24, hm⟩ := bnd hm
        obtain ⟨k22, hk25, hl26, hx24⟩ := getI_some hx24
        obtain ⟨b28, o29, rfl, hbb28⟩ := h2.addr (by omega)
        obtain ⟨cs23, hRcs23, hc27⟩ := h2.el hx24
        have hScs23 := hRcs23
        obtain ⟨A30, n30, c30, A31, n31, c31, rfl, ⟨h30, r30⟩, ⟨h31, r31⟩⟩ := hRcs23
        have e30 := h30.len; subst e30
        have q30 := len_le r30
        have e31 := h31.len; subst e31
        have q31 := len_le r31
        refine RQ.y rfl (Y.indexAddr (m := k22) (sz := 5) rfl rfl hk25 hl26 (by kernel_rfl)) ?_
        obtain ⟨y32, e33, hm⟩ := bnd hm
        refine RQ.call rfl (am2 rfl rfl) (by kernel_rfl) (v := .bool y32) (bel (K := fun _ => True) fun w' hb' => (c_m_spec_l11SameAgent x10 x21 _ e33 _ _ w' (ptArg agentRd_ok hbb17 hScs12 hc16 (Tt T hb')) (ptArg agentRd_ok hbb28 hScs23 hc27 (Tt T hb')))) ?_
        refine RQ.y rfl (Y.not (b' := (!y32)) rfl rfl) ?_
        refine RQ.nil ?_
        intro w34 hb35
        have szw34 := hb35.size
        have T := Tt T hb35
        refine then_n ?_
        rcases bcases y32 with c36 | c36
        · replace hm := cF c36 hm
          refine cond_t rfl (vbn rfl c36 rfl) ?_
          refine wp_seq ?_
          refine wp_rs rfl ?_
          refine RQ.y rfl (Y.assign (v := .bool false) rfl) ?_
          refine RQ.nil ?_
          refine then_n ?_
          refine wp_ret ?_
          obtain rfl := Option.some.inj hm
          exact (blk_r (then_r (then_r (hit_r (blk_r (then_r (ret1 rfl rfl rfl ⟨rfl, T⟩)))))))
        · replace hm := cT c36 hm
          refine cond_f rfl (vbn rfl c36 rfl) ?_
          refine wp_skip ?_
          refine blk_n (then_n ?_)
          refine wp_rs rfl ?_
          refine RQ.y rfl (Y.move (v := .int .i64 i7) s5_1) ?_
          refine RQ.y rfl (Y.binI rfl rfl (binI_add (m := i7) (by omega))) ?_
          refine RQ.y rfl (Y.assign (v := .int .i64 (i7 + 1)) rfl) ?_
          refine RQ.nil ?_
          exact (then_n ⟨g, _, Nat.lt_succ_self _, rfl, ⟨(i7 + 1), s0_1, s1_1, rfl, (by omega), T, (by rw [← hrec1]; exact hm)⟩⟩)
  · replace hm := cT c5 hm
    refine cond_t rfl (vb rfl c5) ?_
    refine wp_seq ?_
    refine wp_rs rfl ?_
    refine RQ.y rfl (Y.assign (v := .bool false) rfl) ?_
    refine RQ.nil ?_
    refine then_n ?_
    refine wp_ret ?_
    obtain rfl := Option.some.inj hm
    exact (then_r (ret1 rfl rfl rfl ⟨rfl, T⟩))
def m_slices_Equal_int64_int64_A1 : Option Bool :=
  some true
def m_slices_Equal_int64_int64_B1 (d0 : List Int) (d1 : List Int) (rec1 : Int → Option Bool) (K1 : Option Bool) (i3 : Int) : Option Bool :=
  (bif (decide (i3 < (d0.length : Int))) then ((getI d0 i3).bind fun x6 => ((getI d1 i3).bind fun x15 => (bif (x6 != x15) then some false else (rec1 (i3 + 1))))) else (K1))
def m_slices_Equal_int64_int64_L1 (d0 : List Int) (d1 : List Int) (K1 : Option Bool) : Nat → Int → Option Bool
  | 0, _ => none
  | g + 1, i3 => m_slices_Equal_int64_int64_B1 d0 d1 (m_slices_Equal_int64_int64_L1 d0 d1 K1 g) K1 i3
def m_slices_Equal_int64_int64 (d0 : List Int) (d1 : List Int) : Option Bool :=
  (bif ((d0.length : Int) != (d1.length : Int)) then some false else (m_slices_Equal_int64_int64_L1 d0 d1 m_slices_Equal_int64_int64_A1 (d0.length + 1) 0))
set_option maxHeartbeats 2000000 in
theorem c_m_slices_Equal_int64_int64 (d0 : List Int) (d1 : List Int) (r : Bool) (hm : m_slices_Equal_int64_int64 d0 d1 = some r) (v0 : Value) (v1 : Value) (w : World) (hv0 : Sl intRd 1 w v0 d0) (hv1 : Sl intRd 1 w v1 d1) :
    Calls Tryz.prog 85 #[v0, v1] w fun e w' => e = .returned (.bool r) ∧ Below w.heap.size w w' := by
  obtain ⟨Aa0, na0, ca0, rfl, ha0, ra0⟩ := hv0
  have ea0 := ha0.len; subst ea0
  have qa0 := len_le ra0
  obtain ⟨Aa1, na1, ca1, rfl, ha1, ra1⟩ := hv1
  have ea1 := ha1.len; subst ea1
  have qa1 := len_le ra1
  have T := Below.refl w.heap.size w
  unfold m_slices_Equal_int64_int64 at hm
  refine enter 26 Tryz.func85 rfl rfl rfl ?_
  intro f hf
  have s0 : f 0 = .slice Aa0 d0.length ca0 := hf 0 _ rfl
  have s1 : f 1 = .slice Aa1 d1.length ca1 := hf 1 _ rfl
  refine wp_seq ?_
  refine wp_rs rfl ?_
  refine RQ.y rfl (Y.assign (v := .bool false) rfl) ?_
  refine RQ.nil ?_
  refine then_n ?_
  refine wp_seq ?_
  refine wp_seq ?_
  refine wp_rs rfl ?_
  refine RQ.y rfl (Y.move (v := .slice Aa0 d0.length ca0) s0) ?_
  refine RQ.y rfl (Y.len (by kernel_rfl) rfl) ?_
  refine RQ.y rfl (Y.move (v := .slice Aa1 d1.length ca1) s1) ?_
  refine RQ.y rfl (Y.len (by kernel_rfl) rfl) ?_
  refine RQ.y rfl (Y.binI (v := .bool ((d0.length : Int) != (d1.length : Int))) rfl rfl rfl) ?_
  refine RQ.nil ?_
  refine then_n ?_
  rcases bcases ((d0.length : Int) != (d1.length : Int)) with c1 | c1
  · replace hm := cF c1 hm
    refine cond_f rfl (vb rfl c1) ?_
    refine wp_skip ?_
    refine then_n ?_
    refine wp_seq ?_
    refine wp_seq ?_
    refine wp_rs rfl ?_
    refine RQ.y rfl (Y.move (v := .slice Aa0 d0.length ca0) s0) ?_
    refine RQ.y rfl (Y.len (by kernel_rfl) rfl) ?_
    refine RQ.y rfl (Y.move (v := .int .i64 0) rfl) ?_
    refine RQ.nil ?_
    refine then_n ?_
    refine wp_block ?_
    obtain ⟨K1, hK1, hm⟩ : ∃ K, K = m_slices_Equal_int64_int64_A1 ∧ m_slices_Equal_int64_int64_L1 d0 d1 K (d0.length + 1) 0 = some r := ⟨_, rfl, hm⟩
    refine wp_loopX (fun g f w' => ∃ (i3 : Int), f 0 = .slice Aa0 d0.length ca0 ∧ f 1 = .slice Aa1 d1.length ca1 ∧ f 12 = .int .i64 (d0.length : Int) ∧ f 13 = .int .i64 i3 ∧ 0 ≤ i3 ∧ Below w.heap.size w w' ∧ m_slices_Equal_int64_int64_L1 d0 d1 K1 g i3 = some r) 0 (fun f w' => Below w.heap.size w w' ∧ m_slices_Equal_int64_int64_A1  = some r) (d0.length + 1) ⟨0, s0, s1, rfl, rfl, (by omega), T, hm⟩ ?_ ?_
    · rintro f w2 ⟨T, hm⟩
      unfold m_slices_Equal_int64_int64_A1 at hm
      refine blk_hit (then_n ?_)
      refine wp_seq ?_
      refine wp_rs rfl ?_
      refine RQ.y rfl (Y.assign (v := .bool true) rfl) ?_
      refine RQ.nil ?_
      refine then_n ?_
      refine wp_ret ?_
      obtain rfl := Option.some.inj hm
      exact (ret1 rfl rfl rfl ⟨rfl, T⟩)
    · rintro g f w4 ⟨i3, s0_1, s1_1, s12_1, s13_1, nn13_1, T, hm⟩
      rcases g with _ | g
      · simp only [m_slices_Equal_int64_int64_L1] at hm; cases hm
      obtain ⟨rec1, hrec1, hm⟩ : ∃ z, z = m_slices_Equal_int64_int64_L1 d0 d1 K1 g ∧ m_slices_Equal_int64_int64_B1 d0 d1 z K1 i3 = some r := ⟨_, rfl, hm⟩
      unfold m_slices_Equal_int64_int64_B1 at hm
      refine wp_seq ?_
      refine wp_rs rfl ?_
      refine RQ.y rfl (Y.binI (v := .bool (decide (i3 < (d0.length : Int)))) s13_1 s12_1 rfl) ?_
      refine RQ.nil ?_
      refine then_n ?_
      refine wp_seq ?_
      rcases bcases (decide (i3 < (d0.length : Int))) with c5 | c5
      · replace hm := cF c5 hm
        have pc5 := of_decide_eq_false c5
        refine cond_f rfl (vb rfl c5) ?_
        refine wp_exit ?_
        exact (then_x (then_x (hit_x ⟨_, rfl, ⟨T, (by rw [hK1] at hm; exact hm)⟩⟩)))
      · replace hm := cT c5 hm
        have pc5 := of_decide_eq_true c5
        refine cond_t rfl (vb rfl c5) ?_
        refine wp_skip ?_
        refine then_n ?_
        refine wp_seq ?_
        refine wp_block ?_
        refine wp_seq ?_
        refine wp_rs rfl ?_
        refine RQ.y rfl (Y.move (v := .int .i64 i3) s13_1) ?_
        refine RQ.y rfl (Y.assign (v := .int .i64 i3) rfl) ?_
        refine RQ.nil ?_
        refine then_n ?_
        refine wp_seq ?_
        refine wp_rbd (by kernel_rfl) (by kernel_rfl) ?_
        refine RQ.y rfl (Y.move (v := .slice Aa0 d0.length ca0) s0_1) ?_
        refine RQ.y rfl (Y.move (v := .int .i64 i3) rfl) ?_
        obtain ⟨x6, hx9, hm⟩ := bnd hm
        obtain ⟨k7, hk10, hl11, hx9⟩ := getI_some hx9
        obtain ⟨b13, o14, rfl, hbb13⟩ := ha0.addr (by omega)
        obtain ⟨cs8, hRcs8, hc12⟩ := ha0.el hx9
        have hScs8 := hRcs8
        obtain rfl := hRcs8
        refine RQ.y rfl (Y.indexAddr (m := k7) (sz := 1) rfl rfl hk10 hl11 (by kernel_rfl)) ?_
        refine RQ.y rfl (Y.load (v := .int .i64 x6) rfl (by kernel_rfl) (beC (cellT T (hc12 0 _ rfl)))) ?_
        refine RQ.y rfl (Y.move (v := .slice Aa1 d1.length ca1) s1_1) ?_
        refine RQ.y rfl (Y.move (v := .int .i64 i3) rfl) ?_
        obtain ⟨x15, hx18, hm⟩ := bnd hm
        obtain ⟨k16, hk19, hl20, hx18⟩ := getI_some hx18
        obtain ⟨b22, o23, rfl, hbb22⟩ := ha1.addr (by omega)
        obtain ⟨cs17, hRcs17, hc21⟩ := ha1.el hx18
        have hScs17 := hRcs17
        obtain rfl := hRcs17
        refine RQ.y rfl (Y.indexAddr (m := k16) (sz := 1) rfl rfl hk19 hl20 (by kernel_rfl)) ?_
        refine RQ.y rfl (Y.load (v := .int .i64 x15) rfl (by kernel_rfl) (beC (cellT T (hc21 0 _ rfl)))) ?_
        refine RQ.y rfl (Y.binI (v := .bool (x6 != x15)) rfl rfl rfl) ?_
        refine RQ.nil ?_
        intro w24 hb25
        have szw24 := hb25.size
        have T := Tt T hb25
        refine then_n ?_
        rcases bcases (x6 != x15) with c26 | c26
        · replace hm := cF c26 hm
          refine cond_f rfl (vb rfl c26) ?_
          refine wp_skip ?_
          refine blk_n (then_n ?_)
          refine wp_rs rfl ?_
          refine RQ.y rfl (Y.binI s13_1 rfl (binI_add (m := i3) (by omega))) ?_
          refine RQ.y rfl (Y.move (v := .int .i64 (i3 + 1)) rfl) ?_
          refine RQ.nil ?_
          exact (then_n ⟨g, _, Nat.lt_succ_self _, rfl, ⟨(i3 + 1), s0_1, s1_1, s12_1, rfl, (by omega), T, (by rw [← hrec1]; exact hm)⟩⟩)
        · replace hm := cT c26 hm
          refine cond_t rfl (vb rfl c26) ?_
          refine wp_seq ?_
          refine wp_rs rfl ?_
          refine RQ.y rfl (Y.assign (v := .bool false) rfl) ?_
          refine RQ.nil ?_
          refine then_n ?_
          refine wp_ret ?_
          obtain rfl := Option.some.inj hm
          exact (blk_r (then_r (then_r (hit_r (blk_r (then_r (ret1 rfl rfl rfl ⟨rfl, T⟩)))))))
  · replace hm := cT c1 hm
    refine cond_t rfl (vb rfl c1) ?_
    refine wp_seq ?_
    refine wp_rs rfl ?_
    refine RQ.y rfl (Y.assign (v := .bool false) rfl) ?_
    refine RQ.nil ?_
    refine then_n ?_
    refine wp_ret ?_
    obtain rfl := Option.some.inj hm
    exact (then_r (ret1 rfl rfl rfl ⟨rfl, T⟩))
def m_slices_Equal_impl_Port_impl_Port_A1 : Option Bool :=
  some true
def m_slices_Equal_impl_Port_impl_Port_B1 (d0 : List DPort) (d1 : List DPort) (rec1 : Int → Option Bool) (K1 : Option Bool) (i3 : Int) : Option Bool :=
  (bif (decide (i3 < (d0.length : Int))) then ((getI d0 i3).bind fun x6 => ((getI d1 i3).bind fun x15 => (bif (x6.agent == x15.agent && x6.slot == x15.slot) then (rec1 (i3 + 1)) else some false))) else (K1))
def m_slices_Equal_impl_Port_impl_Port_L1 (d0 : List DPort) (d1 : List DPort) (K1 : Option Bool) : Nat → Int → Option Bool
  | 0, _ => none
  | g + 1, i3 => m_slices_Equal_impl_Port_impl_Port_B1 d0 d1 (m_slices_Equal_impl_Port_impl_Port_L1 d0 d1 K1 g) K1 i3
def m_slices_Equal_impl_Port_impl_Port (d0 : List DPort) (d1 : List DPort) : Option Bool :=
  (bif ((d0.length : Int) != (d1.length : Int)) then some false else (m_slices_Equal_impl_Port_impl_Port_L1 d0 d1 m_slices_Equal_impl_Port_impl_Port_A1 (d0.length + 1) 0))
set_option maxHeartbeats 2000000 in
theorem c_m_slices_Equal_impl_Port_impl_Port (d0 : List DPort) (d1 : List DPort) (r : Bool) (hm : m_slices_Equal_impl_Port_impl_Port d0 d1 = some r) (v0 : Value) (v1 : Value) (w : World) (hv0 : Sl portRd 2 w v0 d0) (hv1 : Sl portRd 2 w v1 d1) :
    Calls Tryz.prog 86 #[v0, v1] w fun e w' => e = .returned (.bool r) ∧ Below w.heap.size w w' := by
  obtain ⟨Aa0, na0, ca0, rfl, ha0, ra0⟩ := hv0
  have ea0 := ha0.len; subst ea0
  have qa0 := len_le ra0
  obtain ⟨Aa1, na1, ca1, rfl, ha1, ra1⟩ := hv1
  have ea1 := ha1.len; subst ea1
  have qa1 := len_le ra1
  have T := Below.refl w.heap.size w
  unfold m_slices_Equal_impl_Port_impl_Port at hm
  refine enter 26 Tryz.func86 rfl rfl rfl ?_
  intro f hf
  have s0 : f 0 = .slice Aa0 d0.length ca0 := hf 0 _ rfl
  have s1 : f 1 = .slice Aa1 d1.length ca1 := hf 1 _ rfl
  refine wp_seq ?_
  refine wp_rs rfl ?_
  refine RQ.y rfl (Y.assign (v := .bool false) rfl) ?_
  refine RQ.nil ?_
  refine then_n ?_
  refine wp_seq ?_
  refine wp_seq ?_
  refine wp_rs rfl ?_
  refine RQ.y rfl (Y.move (v := .slice Aa0 d0.length ca0) s0) ?_
  refine RQ.y rfl (Y.len (by kernel_rfl) rfl) ?_
  refine RQ.y rfl (Y.move (v := .slice Aa1 d1.length ca1) s1) ?_
  refine RQ.y rfl (Y.len (by kernel_rfl) rfl) ?_
  refine RQ.y rfl (Y.binI (v := .bool ((d0.length : Int) != (d1.length : Int))) rfl rfl rfl) ?_
  refine RQ.nil ?_
  refine then_n ?_
  rcases bcases ((d0.length : Int) != (d1.length : Int)) with c1 | c1
  · replace hm := cF c1 hm
    refine cond_f rfl (vb rfl c1) ?_
    refine wp_skip ?_
    refine then_n ?_
    refine wp_seq ?_
    refine wp_seq ?_
    refine wp_rs rfl ?_
    refine RQ.y rfl (Y.move (v := .slice Aa0 d0.length ca0) s0) ?_
    refine RQ.y rfl (Y.len (by kernel_rfl) rfl) ?_
    refine RQ.y rfl (Y.move (v := .int .i64 0) rfl) ?_
    refine RQ.nil ?_
    refine then_n ?_
    refine wp_block ?_
    obtain ⟨K1, hK1, hm⟩ : ∃ K, K = m_slices_Equal_impl_Port_impl_Port_A1 ∧ m_slices_Equal_impl_Port_impl_Port_L1 d0 d1 K (d0.length + 1) 0 = some r := ⟨_, rfl, hm⟩
    refine wp_loopX (fun g f w' => ∃ (i3 : Int), f 0 = .slice Aa0 d0.length ca0 ∧ f 1 = .slice Aa1 d1.length ca1 ∧ f 12 = .int .i64 (d0.length : Int) ∧ f 13 = .int .i64 i3 ∧ 0 ≤ i3 ∧ Below w.heap.size w w' ∧ m_slices_Equal_impl_Port_impl_Port_L1 d0 d1 K1 g i3 = some r) 0 (fun f w' => Below w.heap.size w w' ∧ m_slices_Equal_impl_Port_impl_Port_A1  = some r) (d0.length + 1) ⟨0, s0, s1, rfl, rfl, (by omega), T, hm⟩ ?_ ?_
    · rintro f w2 ⟨T, hm⟩
      unfold m_slices_Equal_impl_Port_impl_Port_A1 at hm
      refine blk_hit (then_n ?_)
      refine wp_seq ?_
      refine wp_rs rfl ?_
      refine RQ.y rfl (Y.assign (v := .bool true) rfl) ?_
      refine RQ.nil ?_
      refine then_n ?_
      refine wp_ret ?_
      obtain rfl := Option.some.inj hm
      exact (ret1 rfl rfl rfl ⟨rfl, T⟩)
    · rintro g f w4 ⟨i3, s0_1, s1_1, s12_1, s13_1, nn13_1, T, hm⟩
      rcases g with _ | g
      · simp only [m_slices_Equal_impl_Port_impl_Port_L1] at hm; cases hm
      obtain ⟨rec1, hrec1, hm⟩ : ∃ z, z = m_slices_Equal_impl_Port_impl_Port_L1 d0 d1 K1 g ∧ m_slices_Equal_impl_Port_impl_Port_B1 d0 d1 z K1 i3 = some r := ⟨_, rfl, hm⟩
      unfold m_slices_Equal_impl_Port_impl_Port_B1 at hm
      refine wp_seq ?_
      refine wp_rs rfl ?_
      refine RQ.y rfl (Y.binI (v := .bool (decide (i3 < (d0.length : Int)))) s13_1 s12_1 rfl) ?_
      refine RQ.nil ?_
      refine then_n ?_
      refine wp_seq ?_
      rcases bcases (decide (i3 < (d0.length : Int))) with c5 | c5
      · replace hm := cF c5 hm
        have pc5 := of_decide_eq_false c5
        refine cond_f rfl (vb rfl c5) ?_
        refine wp_exit ?_
        exact (then_x (then_x (hit_x ⟨_, rfl, ⟨T, (by rw [hK1] at hm; exact hm)⟩⟩)))
      · replace hm := cT c5 hm
        have pc5 := of_decide_eq_true c5
        refine cond_t rfl (vb rfl c5) ?_
        refine wp_skip ?_
        refine then_n ?_
        refine wp_seq ?_
        refine wp_block ?_
        refine wp_seq ?_
        refine wp_rs rfl ?_
        refine RQ.y rfl (Y.move (v := .int .i64 i3) s13_1) ?_
        refine RQ.y rfl (Y.assign (v := .int .i64 i3) rfl) ?_
        refine RQ.nil ?_
        refine then_n ?_
        refine wp_seq ?_
        refine wp_rbd (by kernel_rfl) (by kernel_rfl) ?_
        refine RQ.y rfl (Y.move (v := .slice Aa0 d0.length ca0) s0_1) ?_
        refine RQ.y rfl (Y.move (v := .int .i64 i3) rfl) ?_
        obtain ⟨x6, hx9, hm⟩ := bnd hm
        obtain ⟨k7, hk10, hl11, hx9⟩ := getI_some hx9
        obtain ⟨b13, o14, rfl, hbb13⟩ := ha0.addr (by omega)
        obtain ⟨cs8, hRcs8, hc12⟩ := ha0.el hx9
        have hScs8 := hRcs8
        obtain rfl := hRcs8
        refine RQ.y rfl (Y.indexAddr (m := k7) (sz := 2) rfl rfl hk10 hl11 (by kernel_rfl)) ?_
        refine RQ.y rfl (Y.loadN (cs := [.int .i64 x6.agent, .int .i64 x6.slot]) rfl (by kernel_rfl) (cells2 (beC (cellT T (hc12 0 _ rfl))) (beC (cellT T (hc12 1 _ rfl))))) ?_
        refine RQ.y rfl (Y.move (v := .slice Aa1 d1.length ca1) s1_1) ?_
        refine RQ.y rfl (Y.move (v := .int .i64 i3) rfl) ?_
        obtain ⟨x15, hx18, hm⟩ := bnd hm
        obtain ⟨k16, hk19, hl20, hx18⟩ := getI_some hx18
        obtain ⟨b22, o23, rfl, hbb22⟩ := ha1.addr (by omega)
        obtain ⟨cs17, hRcs17, hc21⟩ := ha1.el hx18
        have hScs17 := hRcs17
        obtain rfl := hRcs17
        refine RQ.y rfl (Y.indexAddr (m := k16) (sz := 2) rfl rfl hk19 hl20 (by kernel_rfl)) ?_
        refine RQ.y rfl (Y.loadN (cs := [.int .i64 x15.agent, .int .i64 x15.slot]) rfl (by kernel_rfl) (cells2 (beC (cellT T (hc21 0 _ rfl))) (beC (cellT T (hc21 1 _ rfl))))) ?_
        refine RQ.y rfl (Y.neS (b := (x6.agent == x15.agent && x6.slot == x15.slot)) rfl rfl (eqPort_run _ _ _ _) (eqGuardPort_run _ _ _ _ _)) ?_
        refine RQ.nil ?_
        intro w24 hb25
        have szw24 := hb25.size
        have T := Tt T hb25
        refine then_n ?_
        rcases bcases (x6.agent == x15.agent && x6.slot == x15.slot) with c26 | c26
        · replace hm := cF c26 hm
          refine cond_t rfl (vbn rfl c26 rfl) ?_
          refine wp_seq ?_
          refine wp_rs rfl ?_
          refine RQ.y rfl (Y.assign (v := .bool false) rfl) ?_
          refine RQ.nil ?_
          refine then_n ?_
          refine wp_ret ?_
          obtain rfl := Option.some.inj hm
          exact (blk_r (then_r (then_r (hit_r (blk_r (then_r (ret1 rfl rfl rfl ⟨rfl, T⟩)))))))
        · replace hm := cT c26 hm
          refine cond_f rfl (vbn rfl c26 rfl) ?_
          refine wp_skip ?_
          refine blk_n (then_n ?_)
          refine wp_rs rfl ?_
          refine RQ.y rfl (Y.binI s13_1 rfl (binI_add (m := i3) (by omega))) ?_
          refine RQ.y rfl (Y.move (v := .int .i64 (i3 + 1)) rfl) ?_
          refine RQ.nil ?_
          exact (then_n ⟨g, _, Nat.lt_succ_self _, rfl, ⟨(i3 + 1), s0_1, s1_1, s12_1, rfl, (by omega), T, (by rw [← hrec1]; exact hm)⟩⟩)
  · replace hm := cT c1 hm
    refine cond_t rfl (vb rfl c1) ?_
    refine wp_seq ?_
    refine wp_rs rfl ?_
    refine RQ.y rfl (Y.assign (v := .bool false) rfl) ?_
    refine RQ.nil ?_
    refine then_n ?_
    refine wp_ret ?_
    obtain rfl := Option.some.inj hm
    exact (then_r (ret1 rfl rfl rfl ⟨rfl, T⟩))
def m_impl_sameAgent (d0 : DAgent) (d1 : DAgent) : Option Bool :=
  (bif (d0.kind == d1.kind) then (bif (d0.level == d1.level) then (bif (d0.value == d1.value) then ((m_slices_Equal_int64_int64 d0.data d1.data).bind fun y22 => (bif y22 then ((m_slices_Equal_impl_Port_impl_Port d0.ports d1.ports).bind fun y27 => some y27) else some false)) else some false) else some false) else some false)
set_option maxHeartbeats 2000000 in
theorem c_m_impl_sameAgent (d0 : DAgent) (d1 : DAgent) (r : Bool) (hm : m_impl_sameAgent d0 d1 = some r) (v0 : Value) (v1 : Value) (w : World) (hv0 : St agentRd w v0 d0) (hv1 : St agentRd w v1 d1) :
    Calls Tryz.prog 66 #[v0, v1] w fun e w' => e = .returned (.bool r) ∧ Below w.heap.size w w' := by
  obtain ⟨csa0, rfl, ⟨A1, n1, c1, A2, n2, c2, rfl, ⟨h1, r1⟩, ⟨h2, r2⟩⟩⟩ := hv0
  have e1 := h1.len; subst e1
  have q1 := len_le r1
  have e2 := h2.len; subst e2
  have q2 := len_le r2
  obtain ⟨csa1, rfl, ⟨A3, n3, c3, A4, n4, c4, rfl, ⟨h3, r3⟩, ⟨h4, r4⟩⟩⟩ := hv1
  have e3 := h3.len; subst e3
  have q3 := len_le r3
  have e4 := h4.len; subst e4
  have q4 := len_le r4
  have T := Below.refl w.heap.size w
  unfold m_impl_sameAgent at hm
  refine enter 38 Tryz.func66 rfl rfl rfl ?_
  intro f hf
  have s0 : f 0 = .agg #[.int .i64 d0.kind, .int .i64 d0.level, .int .i64 d0.value, .slice A1 d0.data.length c1, .slice A2 d0.ports.length c2] := hf 0 _ rfl
  have s1 : f 1 = .agg #[.int .i64 d1.kind, .int .i64 d1.level, .int .i64 d1.value, .slice A3 d1.data.length c3, .slice A4 d1.ports.length c4] := hf 1 _ rfl
  refine wp_seq ?_
  refine wp_rl rfl ?_
  refine RL.box rfl s0 (fun w5 B6 hb7 szw5 => ?_)
  replace B6 : Blk w5 w.heap.size 63 #[.int .i64 d0.kind, .int .i64 d0.level, .int .i64 d0.value, .slice A1 d0.data.length c1, .slice A2 d0.ports.length c2] := B6
  have GB6 : w.heap.size ≤ w.heap.size := T.size
  have T := Tt T hb7
  refine RL.box rfl s1 (fun w9 B10 hb11 szw9 => ?_)
  replace B10 : Blk w9 w5.heap.size 63 #[.int .i64 d1.kind, .int .i64 d1.level, .int .i64 d1.value, .slice A3 d1.data.length c3, .slice A4 d1.ports.length c4] := B10
  have GB10 : w.heap.size ≤ w5.heap.size := T.size
  have Eob12_ob8 := Nat.ne_of_lt B6.lt
  have B6 := blkT B6 hb11
  have T := Tt T hb11
  refine RL.y rfl (Y.assign (v := .bool false) rfl) ?_
  refine RL.nil ?_
  refine then_n ?_
  refine wp_seq ?_
  refine wp_rb rfl ?_
  refine RQ.y rfl (Y.fieldAddr (off := 0) rfl (by kernel_rfl)) ?_
  refine RQ.y rfl (Y.load (v := .int .i64 d0.kind) rfl (by kernel_rfl) (beC (blkCell B6 (i := 0) rfl))) ?_
  refine RQ.y rfl (Y.fieldAddr (off := 0) rfl (by kernel_rfl)) ?_
  refine RQ.y rfl (Y.load (v := .int .i64 d1.kind) rfl (by kernel_rfl) (beC (blkCell B10 (i := 0) rfl))) ?_
  refine RQ.y rfl (Y.binI (v := .bool (d0.kind == d1.kind)) rfl rfl rfl) ?_
  refine RQ.y rfl (Y.move (v := .bool (d0.kind == d1.kind)) rfl) ?_
  rcases bcases (d0.kind == d1.kind) with c13 | c13
  · replace hm := cF c13 hm
    refine RQ.skip (wantN (dj := 10) rfl (vb rfl c13) rfl) ?_
    refine RQ.skip (wantN (dj := 10) rfl (vb rfl c13) rfl) ?_
    refine RQ.skip (wantN (dj := 10) rfl (vb rfl c13) rfl) ?_
    refine RQ.skip (wantN (dj := 10) rfl (vb rfl c13) rfl) ?_
    refine RQ.skip (wantN (dj := 10) rfl (vb rfl c13) rfl) ?_
    refine RQ.y rfl (Y.pick (b := false) (v := .bool false) (vb rfl c13) rfl) ?_
    refine RQ.y rfl (Y.move (v := .bool false) rfl) ?_
    refine RQ.skip (wantN (dj := 17) rfl rfl rfl) ?_
    refine RQ.skip (wantN (dj := 17) rfl rfl rfl) ?_
    refine RQ.skip (wantN (dj := 17) rfl rfl rfl) ?_
    refine RQ.skip (wantN (dj := 17) rfl rfl rfl) ?_
    refine RQ.skip (wantN (dj := 17) rfl rfl rfl) ?_
    refine RQ.y rfl (Y.pick (b := false) (v := .bool false) rfl rfl) ?_
    refine RQ.y rfl (Y.move (v := .bool false) rfl) ?_
    refine RQ.skip (wantN (dj := 24) rfl rfl rfl) ?_
    refine RQ.skip (wantN (dj := 24) rfl rfl rfl) ?_
    refine RQ.skip (wantN (dj := 24) rfl rfl rfl) ?_
    refine RQ.skip (wantN (dj := 24) rfl rfl rfl) ?_
    refine RQ.skip (wantN (dj := 24) rfl rfl rfl) ?_
    refine RQ.y rfl (Y.pick (b := false) (v := .bool false) rfl rfl) ?_
    refine RQ.y rfl (Y.move (v := .bool false) rfl) ?_
    refine RQ.skip (wantN (dj := 31) rfl rfl rfl) ?_
    refine RQ.skip (wantN (dj := 31) rfl rfl rfl) ?_
    refine RQ.skip (wantN (dj := 31) rfl rfl rfl) ?_
    refine RQ.skip (wantN (dj := 31) rfl rfl rfl) ?_
    refine RQ.skip (wantN (dj := 31) rfl rfl rfl) ?_
    refine RQ.y rfl (Y.pick (b := false) (v := .bool false) rfl rfl) ?_
    refine RQ.y rfl (Y.assign (v := .bool false) rfl) ?_
    refine RQ.nil ?_
    intro w14 hb15
    have szw14 := hb15.size
    have T := Tt T hb15
    refine then_n ?_
    refine wp_ret ?_
    obtain rfl := Option.some.inj hm
    exact (ret1 rfl rfl rfl ⟨rfl, T⟩)
  · replace hm := cT c13 hm
    refine RQ.y (wantT (dj := 10) rfl (vb rfl c13)) (Y.fieldAddr (off := 1) rfl (by kernel_rfl)) ?_
    refine RQ.y (wantT (dj := 10) rfl (vb rfl c13)) (Y.load (v := .int .i64 d0.level) rfl (by kernel_rfl) (beC (blkCell B6 (i := 1) rfl))) ?_
    refine RQ.y (wantT (dj := 10) rfl (vb rfl c13)) (Y.fieldAddr (off := 1) rfl (by kernel_rfl)) ?_
    refine RQ.y (wantT (dj := 10) rfl (vb rfl c13)) (Y.load (v := .int .i64 d1.level) rfl (by kernel_rfl) (beC (blkCell B10 (i := 1) rfl))) ?_
    refine RQ.y (wantT (dj := 10) rfl (vb rfl c13)) (Y.binI (v := .bool (d0.level == d1.level)) rfl rfl rfl) ?_
    refine RQ.y rfl (Y.pick (b := true) (v := .bool (d0.level == d1.level)) (vb rfl c13) rfl) ?_
    refine RQ.y rfl (Y.move (v := .bool (d0.level == d1.level)) rfl) ?_
    rcases bcases (d0.level == d1.level) with c16 | c16
    · replace hm := cF c16 hm
      refine RQ.skip (wantN (dj := 17) rfl (vb rfl c16) rfl) ?_
      refine RQ.skip (wantN (dj := 17) rfl (vb rfl c16) rfl) ?_
      refine RQ.skip (wantN (dj := 17) rfl (vb rfl c16) rfl) ?_
      refine RQ.skip (wantN (dj := 17) rfl (vb rfl c16) rfl) ?_
      refine RQ.skip (wantN (dj := 17) rfl (vb rfl c16) rfl) ?_
      refine RQ.y rfl (Y.pick (b := false) (v := .bool false) (vb rfl c16) rfl) ?_
      refine RQ.y rfl (Y.move (v := .bool false) rfl) ?_
      refine RQ.skip (wantN (dj := 24) rfl rfl rfl) ?_
      refine RQ.skip (wantN (dj := 24) rfl rfl rfl) ?_
      refine RQ.skip (wantN (dj := 24) rfl rfl rfl) ?_
      refine RQ.skip (wantN (dj := 24) rfl rfl rfl) ?_
      refine RQ.skip (wantN (dj := 24) rfl rfl rfl) ?_
      refine RQ.y rfl (Y.pick (b := false) (v := .bool false) rfl rfl) ?_
      refine RQ.y rfl (Y.move (v := .bool false) rfl) ?_
      refine RQ.skip (wantN (dj := 31) rfl rfl rfl) ?_
      refine RQ.skip (wantN (dj := 31) rfl rfl rfl) ?_
      refine RQ.skip (wantN (dj := 31) rfl rfl rfl) ?_
      refine RQ.skip (wantN (dj := 31) rfl rfl rfl) ?_
      refine RQ.skip (wantN (dj := 31) rfl rfl rfl) ?_
      refine RQ.y rfl (Y.pick (b := false) (v := .bool false) rfl rfl) ?_
      refine RQ.y rfl (Y.assign (v := .bool false) rfl) ?_
      refine RQ.nil ?_
      intro w17 hb18
      have szw17 := hb18.size
      have T := Tt T hb18
      refine then_n ?_
      refine wp_ret ?_
      obtain rfl := Option.some.inj hm
      exact (ret1 rfl rfl rfl ⟨rfl, T⟩)
    · replace hm := cT c16 hm
      refine RQ.y (wantT (dj := 17) rfl (vb rfl c16)) (Y.fieldAddr (off := 2) rfl (by kernel_rfl)) ?_
      refine RQ.y (wantT (dj := 17) rfl (vb rfl c16)) (Y.load (v := .int .i64 d0.value) rfl (by kernel_rfl) (beC (blkCell B6 (i := 2) rfl))) ?_
      refine RQ.y (wantT (dj := 17) rfl (vb rfl c16)) (Y.fieldAddr (off := 2) rfl (by kernel_rfl)) ?_
      refine RQ.y (wantT (dj := 17) rfl (vb rfl c16)) (Y.load (v := .int .i64 d1.value) rfl (by kernel_rfl) (beC (blkCell B10 (i := 2) rfl))) ?_
      refine RQ.y (wantT (dj := 17) rfl (vb rfl c16)) (Y.binI (v := .bool (d0.value == d1.value)) rfl rfl rfl) ?_
      refine RQ.y rfl (Y.pick (b := true) (v := .bool (d0.value == d1.value)) (vb rfl c16) rfl) ?_
      refine RQ.y rfl (Y.move (v := .bool (d0.value == d1.value)) rfl) ?_
      rcases bcases (d0.value == d1.value) with c19 | c19
      · replace hm := cF c19 hm
        refine RQ.skip (wantN (dj := 24) rfl (vb rfl c19) rfl) ?_
        refine RQ.skip (wantN (dj := 24) rfl (vb rfl c19) rfl) ?_
        refine RQ.skip (wantN (dj := 24) rfl (vb rfl c19) rfl) ?_
        refine RQ.skip (wantN (dj := 24) rfl (vb rfl c19) rfl) ?_
        refine RQ.skip (wantN (dj := 24) rfl (vb rfl c19) rfl) ?_
        refine RQ.y rfl (Y.pick (b := false) (v := .bool false) (vb rfl c19) rfl) ?_
        refine RQ.y rfl (Y.move (v := .bool false) rfl) ?_
        refine RQ.skip (wantN (dj := 31) rfl rfl rfl) ?_
        refine RQ.skip (wantN (dj := 31) rfl rfl rfl) ?_
        refine RQ.skip (wantN (dj := 31) rfl rfl rfl) ?_
        refine RQ.skip (wantN (dj := 31) rfl rfl rfl) ?_
        refine RQ.skip (wantN (dj := 31) rfl rfl rfl) ?_
        refine RQ.y rfl (Y.pick (b := false) (v := .bool false) rfl rfl) ?_
        refine RQ.y rfl (Y.assign (v := .bool false) rfl) ?_
        refine RQ.nil ?_
        intro w20 hb21
        have szw20 := hb21.size
        have T := Tt T hb21
        refine then_n ?_
        refine wp_ret ?_
        obtain rfl := Option.some.inj hm
        exact (ret1 rfl rfl rfl ⟨rfl, T⟩)
      · replace hm := cT c19 hm
        refine RQ.y (wantT (dj := 24) rfl (vb rfl c19)) (Y.fieldAddr (off := 3) rfl (by kernel_rfl)) ?_
        refine RQ.y (wantT (dj := 24) rfl (vb rfl c19)) (Y.load (v := .slice A1 d0.data.length c1) rfl (by kernel_rfl) (beC (blkCell B6 (i := 3) rfl))) ?_
        refine RQ.y (wantT (dj := 24) rfl (vb rfl c19)) (Y.fieldAddr (off := 3) rfl (by kernel_rfl)) ?_
        refine RQ.y (wantT (dj := 24) rfl (vb rfl c19)) (Y.load (v := .slice A3 d1.data.length c3) rfl (by kernel_rfl) (beC (blkCell B10 (i := 3) rfl))) ?_
        obtain ⟨y22, e23, hm⟩ := bnd hm
        refine RQ.call (wantT (dj := 24) rfl (vb rfl c19)) (am2 rfl rfl) (by kernel_rfl) (v := .bool y22) (bel (K := fun _ => True) fun w' hb' => (c_m_slices_Equal_int64_int64 d0.data d1.data _ e23 _ _ w' (slArg intRd_ok h1 r1 (Tt T hb')) (slArg intRd_ok h3 r3 (Tt T hb')))) ?_
        refine RQ.y rfl (Y.pick (b := true) (v := .bool y22) (vb rfl c19) rfl) ?_
        refine RQ.y rfl (Y.move (v := .bool y22) rfl) ?_
        rcases bcases y22 with c24 | c24
        · replace hm := cF c24 hm
          refine RQ.skip (wantN (dj := 31) rfl (vb rfl c24) rfl) ?_
          refine RQ.skip (wantN (dj := 31) rfl (vb rfl c24) rfl) ?_
          refine RQ.skip (wantN (dj := 31) rfl (vb rfl c24) rfl) ?_
          refine RQ.skip (wantN (dj := 31) rfl (vb rfl c24) rfl) ?_
          refine RQ.skip (wantN (dj := 31) rfl (vb rfl c24) rfl) ?_
          refine RQ.y rfl (Y.pick (b := false) (v := .bool false) (vb rfl c24) rfl) ?_
          refine RQ.y rfl (Y.assign (v := .bool false) rfl) ?_
          refine RQ.nil ?_
          intro w25 hb26
          have szw25 := hb26.size
          have T := Tt T hb26
          refine then_n ?_
          refine wp_ret ?_
          obtain rfl := Option.some.inj hm
          exact (ret1 rfl rfl rfl ⟨rfl, T⟩)
        · replace hm := cT c24 hm
          refine RQ.y (wantT (dj := 31) rfl (vb rfl c24)) (Y.fieldAddr (off := 4) rfl (by kernel_rfl)) ?_
          refine RQ.y (wantT (dj := 31) rfl (vb rfl c24)) (Y.load (v := .slice A2 d0.ports.length c2) rfl (by kernel_rfl) (beC (blkCell B6 (i := 4) rfl))) ?_
          refine RQ.y (wantT (dj := 31) rfl (vb rfl c24)) (Y.fieldAddr (off := 4) rfl (by kernel_rfl)) ?_
          refine RQ.y (wantT (dj := 31) rfl (vb rfl c24)) (Y.load (v := .slice A4 d1.ports.length c4) rfl (by kernel_rfl) (beC (blkCell B10 (i := 4) rfl))) ?_
          obtain ⟨y27, e28, hm⟩ := bnd hm
          refine RQ.call (wantT (dj := 31) rfl (vb rfl c24)) (am2 rfl rfl) (by kernel_rfl) (v := .bool y27) (bel (K := fun _ => True) fun w' hb' => (c_m_slices_Equal_impl_Port_impl_Port d0.ports d1.ports _ e28 _ _ w' (slArg portRd_ok h2 r2 (Tt T hb')) (slArg portRd_ok h4 r4 (Tt T hb')))) ?_
          refine RQ.y rfl (Y.pick (b := true) (v := .bool y27) (vb rfl c24) rfl) ?_
          refine RQ.y rfl (Y.assign (v := .bool y27) rfl) ?_
          refine RQ.nil ?_
          intro w29 hb30
          have szw29 := hb30.size
          have T := Tt T hb30
          refine then_n ?_
          refine wp_ret ?_
          obtain rfl := Option.some.inj hm
          exact (ret1 rfl rfl rfl ⟨rfl, T⟩)
def m_slices_EqualFunc_impl_Agent_impl_Agent_impl_Agent_impl_Agent_A1 : Option Bool :=
  some true
def m_slices_EqualFunc_impl_Agent_impl_Agent_impl_Agent_impl_Agent_B1 (d0 : List DAgent) (d1 : List DAgent) (d2 : DAgent → DAgent → Option Bool) (rec1 : Int → Option Bool) (K1 : Option Bool) (i3 : Int) : Option Bool :=
  (bif (decide (i3 < (d0.length : Int))) then ((getI d0 i3).bind fun x6 => ((getI d1 i3).bind fun x24 => ((d2 x6 x24).bind fun y42 => (bif y42 then (rec1 (i3 + 1)) else some false)))) else (K1))
def m_slices_EqualFunc_impl_Agent_impl_Agent_impl_Agent_impl_Agent_L1 (d0 : List DAgent) (d1 : List DAgent) (d2 : DAgent → DAgent → Option Bool) (K1 : Option Bool) : Nat → Int → Option Bool
  | 0, _ => none
  | g + 1, i3 => m_slices_EqualFunc_impl_Agent_impl_Agent_impl_Agent_impl_Agent_B1 d0 d1 d2 (m_slices_EqualFunc_impl_Agent_impl_Agent_impl_Agent_impl_Agent_L1 d0 d1 d2 K1 g) K1 i3
def m_slices_EqualFunc_impl_Agent_impl_Agent_impl_Agent_impl_Agent (d0 : List DAgent) (d1 : List DAgent) (d2 : DAgent → DAgent → Option Bool) : Option Bool :=
  (bif ((d0.length : Int) != (d1.length : Int)) then some false else (m_slices_EqualFunc_impl_Agent_impl_Agent_impl_Agent_impl_Agent_L1 d0 d1 d2 m_slices_EqualFunc_impl_Agent_impl_Agent_impl_Agent_impl_Agent_A1 (d0.length + 1) 0))
set_option maxHeartbeats 2000000 in
theorem c_m_slices_EqualFunc_impl_Agent_impl_Agent_impl_Agent_impl_Agent (d0 : List DAgent) (d1 : List DAgent) (d2 : DAgent → DAgent → Option Bool) (r : Bool) (hm : m_slices_EqualFunc_impl_Agent_impl_Agent_impl_Agent_impl_Agent d0 d1 d2 = some r) (v0 : Value) (v1 : Value) (gf2 : FuncId) (caps2 : Array Value) (w : World) (hv0 : Sl agentRd 5 w v0 d0) (hv1 : Sl agentRd 5 w v1 d1) (hgo2 : isGo Tryz.prog gf2 = true) (hf2 : ∀ (x0 : DAgent) (x1 : DAgent) (b : Bool), d2 x0 x1 = some b → ∀ w1, Below w.heap.size w w1 → ∀ y0, St agentRd w1 y0 x0 → ∀ y1, St agentRd w1 y1 x1 → Calls Tryz.prog gf2 (#[y0, y1] ++ caps2) w1 fun e w2 => e = .returned (.bool b) ∧ Below w1.heap.size w1 w2) :
    Calls Tryz.prog 65 #[v0, v1, .func (.func gf2) #[] caps2] w fun e w' => e = .returned (.bool r) ∧ Below w.heap.size w w' := by
  obtain ⟨Aa0, na0, ca0, rfl, ha0, ra0⟩ := hv0
  have ea0 := ha0.len; subst ea0
  have qa0 := len_le ra0
  obtain ⟨Aa1, na1, ca1, rfl, ha1, ra1⟩ := hv1
  have ea1 := ha1.len; subst ea1
  have qa1 := len_le ra1
  have T := Below.refl w.heap.size w
  unfold m_slices_EqualFunc_impl_Agent_impl_Agent_impl_Agent_impl_Agent at hm
  refine enter 32 Tryz.func65 rfl rfl rfl ?_
  intro f hf
  have s0 : f 0 = .slice Aa0 d0.length ca0 := hf 0 _ rfl
  have s1 : f 1 = .slice Aa1 d1.length ca1 := hf 1 _ rfl
  have s2 : f 2 = .func (.func gf2) #[] caps2 := hf 2 _ rfl
  refine wp_seq ?_
  refine wp_rs rfl ?_
  refine RQ.y rfl (Y.assign (v := .bool false) rfl) ?_
  refine RQ.nil ?_
  refine then_n ?_
  refine wp_seq ?_
  refine wp_seq ?_
  refine wp_rs rfl ?_
  refine RQ.y rfl (Y.move (v := .slice Aa0 d0.length ca0) s0) ?_
  refine RQ.y rfl (Y.len (by kernel_rfl) rfl) ?_
  refine RQ.y rfl (Y.move (v := .slice Aa1 d1.length ca1) s1) ?_
  refine RQ.y rfl (Y.len (by kernel_rfl) rfl) ?_
  refine RQ.y rfl (Y.binI (v := .bool ((d0.length : Int) != (d1.length : Int))) rfl rfl rfl) ?_
  refine RQ.nil ?_
  refine then_n ?_
  rcases bcases ((d0.length : Int) != (d1.length : Int)) with c1 | c1
  · replace hm := cF c1 hm
    refine cond_f rfl (vb rfl c1) ?_
    refine wp_skip ?_
    refine then_n ?_
    refine wp_seq ?_
    refine wp_seq ?_
    refine wp_rs rfl ?_
    refine RQ.y rfl (Y.move (v := .slice Aa0 d0.length ca0) s0) ?_
    refine RQ.y rfl (Y.len (by kernel_rfl) rfl) ?_
    refine RQ.y rfl (Y.move (v := .int .i64 0) rfl) ?_
    refine RQ.nil ?_
    refine then_n ?_
    refine wp_block ?_
    obtain ⟨K1, hK1, hm⟩ : ∃ K, K = m_slices_EqualFunc_impl_Agent_impl_Agent_impl_Agent_impl_Agent_A1 ∧ m_slices_EqualFunc_impl_Agent_impl_Agent_impl_Agent_impl_Agent_L1 d0 d1 d2 K (d0.length + 1) 0 = some r := ⟨_, rfl, hm⟩
    refine wp_loopX (fun g f w' => ∃ (i3 : Int), f 1 = .slice Aa1 d1.length ca1 ∧ f 2 = .func (.func gf2) #[] caps2 ∧ f 15 = .slice Aa0 d0.length ca0 ∧ f 16 = .int .i64 (d0.length : Int) ∧ f 17 = .int .i64 i3 ∧ 0 ≤ i3 ∧ Below w.heap.size w w' ∧ m_slices_EqualFunc_impl_Agent_impl_Agent_impl_Agent_impl_Agent_L1 d0 d1 d2 K1 g i3 = some r) 0 (fun f w' => Below w.heap.size w w' ∧ m_slices_EqualFunc_impl_Agent_impl_Agent_impl_Agent_impl_Agent_A1  = some r) (d0.length + 1) ⟨0, s1, s2, rfl, rfl, rfl, (by omega), T, hm⟩ ?_ ?_
    · rintro f w2 ⟨T, hm⟩
      unfold m_slices_EqualFunc_impl_Agent_impl_Agent_impl_Agent_impl_Agent_A1 at hm
      refine blk_hit (then_n ?_)
      refine wp_seq ?_
      refine wp_rs rfl ?_
      refine RQ.y rfl (Y.assign (v := .bool true) rfl) ?_
      refine RQ.nil ?_
      refine then_n ?_
      refine wp_ret ?_
      obtain rfl := Option.some.inj hm
      exact (ret1 rfl rfl rfl ⟨rfl, T⟩)
    · rintro g f w4 ⟨i3, s1_1, s2_1, s15_1, s16_1, s17_1, nn17_1, T, hm⟩
      rcases g with _ | g
      · simp only [m_slices_EqualFunc_impl_Agent_impl_Agent_impl_Agent_impl_Agent_L1] at hm; cases hm
      obtain ⟨rec1, hrec1, hm⟩ : ∃ z, z = m_slices_EqualFunc_impl_Agent_impl_Agent_impl_Agent_impl_Agent_L1 d0 d1 d2 K1 g ∧ m_slices_EqualFunc_impl_Agent_impl_Agent_impl_Agent_impl_Agent_B1 d0 d1 d2 z K1 i3 = some r := ⟨_, rfl, hm⟩
      unfold m_slices_EqualFunc_impl_Agent_impl_Agent_impl_Agent_impl_Agent_B1 at hm
      refine wp_seq ?_
      refine wp_rs rfl ?_
      refine RQ.y rfl (Y.binI (v := .bool (decide (i3 < (d0.length : Int)))) s17_1 s16_1 rfl) ?_
      refine RQ.nil ?_
      refine then_n ?_
      refine wp_seq ?_
      rcases bcases (decide (i3 < (d0.length : Int))) with c5 | c5
      · replace hm := cF c5 hm
        have pc5 := of_decide_eq_false c5
        refine cond_f rfl (vb rfl c5) ?_
        refine wp_exit ?_
        exact (then_x (then_x (hit_x ⟨_, rfl, ⟨T, (by rw [hK1] at hm; exact hm)⟩⟩)))
      · replace hm := cT c5 hm
        have pc5 := of_decide_eq_true c5
        refine cond_t rfl (vb rfl c5) ?_
        refine wp_skip ?_
        refine then_n ?_
        refine wp_seq ?_
        refine wp_block ?_
        refine wp_seq ?_
        refine wp_rl rfl ?_
        refine RL.y rfl (Y.move (v := .int .i64 i3) s17_1) ?_
        obtain ⟨x6, hx9, hm⟩ := bnd hm
        obtain ⟨k7, hk10, hl11, hx9⟩ := getI_some hx9
        obtain ⟨b13, o14, rfl, hbb13⟩ := ha0.addr (by omega)
        obtain ⟨cs8, hRcs8, hc12⟩ := ha0.el hx9
        have hScs8 := hRcs8
        obtain ⟨A15, n15, c15, A16, n16, c16, rfl, ⟨h15, r15⟩, ⟨h16, r16⟩⟩ := hRcs8
        have e15 := h15.len; subst e15
        have q15 := len_le r15
        have e16 := h16.len; subst e16
        have q16 := len_le r16
        refine RL.y rfl (Y.indexAddr (m := k7) (sz := 5) s15_1 s17_1 hk10 hl11 (by kernel_rfl)) ?_
        refine RL.y rfl (Y.loadN (cs := [.int .i64 x6.kind, .int .i64 x6.level, .int .i64 x6.value, .slice A15 x6.data.length c15, .slice A16 x6.ports.length c16]) rfl (by kernel_rfl) (cells5 (eqC (cellT T (hc12 0 _ rfl))) (eqC (cellT T (hc12 1 _ rfl))) (eqC (cellT T (hc12 2 _ rfl))) (eqC (cellT T (hc12 3 _ rfl))) (eqC (cellT T (hc12 4 _ rfl))))) ?_
        refine RL.alloc (z := .agg #[.int .i64 0, .int .i64 0, .int .i64 0, .slice none 0 0, .slice none 0 0]) rfl (by kernel_rfl) (fun w17 B18 hb19 szw17 => ?_)
        replace B18 : Blk w17 w4.heap.size 63 #[.int .i64 0, .int .i64 0, .int .i64 0, .slice none 0 0, .slice none 0 0] := B18
        have GB18 : w.heap.size ≤ w4.heap.size := T.size
        have T := Tt T hb19
        refine RL.y rfl (Y.assign (v := .int .i64 i3) rfl) ?_
        refine RL.store (v := .agg #[.int .i64 x6.kind, .int .i64 x6.level, .int .i64 x6.value, .slice A15 x6.data.length c15, .slice A16 x6.ports.length c16]) (cs' := #[.int .i64 x6.kind, .int .i64 x6.level, .int .i64 x6.value, .slice A15 x6.data.length c15, .slice A16 x6.ports.length c16]) rfl rfl rfl B18 (by kernel_rfl) (by rfl) (by rfl) (by rfl) (fun w21 B22 ho23 => ?_)
        have szw21 := ho23.size
        have T := T.trans (ho23.below (by first | (simp; done) | (simp; omega)))
        refine RL.nil ?_
        refine then_n ?_
        refine wp_seq ?_
        refine wp_rl rfl ?_
        refine RL.y rfl (Y.move (v := .slice Aa1 d1.length ca1) s1_1) ?_
        refine RL.y rfl (Y.move (v := .int .i64 i3) rfl) ?_
        obtain ⟨x24, hx27, hm⟩ := bnd hm
        obtain ⟨k25, hk28, hl29, hx27⟩ := getI_some hx27
        obtain ⟨b31, o32, rfl, hbb31⟩ := ha1.addr (by omega)
        obtain ⟨cs26, hRcs26, hc30⟩ := ha1.el hx27
        have hScs26 := hRcs26
        obtain ⟨A33, n33, c33, A34, n34, c34, rfl, ⟨h33, r33⟩, ⟨h34, r34⟩⟩ := hRcs26
        have e33 := h33.len; subst e33
        have q33 := len_le r33
        have e34 := h34.len; subst e34
        have q34 := len_le r34
        refine RL.y rfl (Y.indexAddr (m := k25) (sz := 5) rfl rfl hk28 hl29 (by kernel_rfl)) ?_
        refine RL.y rfl (Y.loadN (cs := [.int .i64 x24.kind, .int .i64 x24.level, .int .i64 x24.value, .slice A33 x24.data.length c33, .slice A34 x24.ports.length c34]) rfl (by kernel_rfl) (cells5 (eqC (cellT T (hc30 0 _ rfl))) (eqC (cellT T (hc30 1 _ rfl))) (eqC (cellT T (hc30 2 _ rfl))) (eqC (cellT T (hc30 3 _ rfl))) (eqC (cellT T (hc30 4 _ rfl))))) ?_
        refine RL.alloc (z := .agg #[.int .i64 0, .int .i64 0, .int .i64 0, .slice none 0 0, .slice none 0 0]) rfl (by kernel_rfl) (fun w35 B36 hb37 szw35 => ?_)
        replace B36 : Blk w35 w21.heap.size 63 #[.int .i64 0, .int .i64 0, .int .i64 0, .slice none 0 0, .slice none 0 0] := B36
        have GB36 : w.heap.size ≤ w21.heap.size := T.size
        have Eob38_ob20 := Nat.ne_of_lt B22.lt
        have B22 := blkT B22 hb37
        have T := Tt T hb37
        refine RL.store (v := .agg #[.int .i64 x24.kind, .int .i64 x24.level, .int .i64 x24.value, .slice A33 x24.data.length c33, .slice A34 x24.ports.length c34]) (cs' := #[.int .i64 x24.kind, .int .i64 x24.level, .int .i64 x24.value, .slice A33 x24.data.length c33, .slice A34 x24.ports.length c34]) rfl rfl rfl B36 (by kernel_rfl) (by rfl) (by rfl) (by rfl) (fun w39 B40 ho41 => ?_)
        have szw39 := ho41.size
        have B22 := B22.only_ ho41 (by intro hin; simp at hin; exact Eob38_ob20 hin)
        have T := T.trans (ho41.below (by first | (simp; done) | (simp; omega)))
        refine RL.nil ?_
        refine then_n ?_
        refine wp_seq ?_
        refine wp_rb rfl ?_
        refine RQ.y rfl (Y.move (v := .func (.func gf2) #[] caps2) s2_1) ?_
        refine RQ.y rfl (Y.loadN (cs := [.int .i64 x6.kind, .int .i64 x6.level, .int .i64 x6.value, .slice A15 x6.data.length c15, .slice A16 x6.ports.length c16]) rfl (by kernel_rfl) (cells5 (beC (blkCell B22 (i := 0) rfl)) (beC (blkCell B22 (i := 1) rfl)) (beC (blkCell B22 (i := 2) rfl)) (beC (blkCell B22 (i := 3) rfl)) (beC (blkCell B22 (i := 4) rfl)))) ?_
        refine RQ.y rfl (Y.loadN (cs := [.int .i64 x24.kind, .int .i64 x24.level, .int .i64 x24.value, .slice A33 x24.data.length c33, .slice A34 x24.ports.length c34]) rfl (by kernel_rfl) (cells5 (beC (blkCell B40 (i := 0) rfl)) (beC (blkCell B40 (i := 1) rfl)) (beC (blkCell B40 (i := 2) rfl)) (beC (blkCell B40 (i := 3) rfl)) (beC (blkCell B40 (i := 4) rfl)))) ?_
        obtain ⟨y42, e43, hm⟩ := bnd hm
        refine RQ.callV rfl rfl (am2 rfl rfl) hgo2 (v := .bool y42) (bel (K := fun _ => True) fun w' hb' => hf2 x6 x24 y42 e43 w' (Tt T hb') _ (stArg (R := agentRd) ⟨_, _, _, _, _, _, rfl, ⟨SlAt.now intRd_ok h15 (Nat.le_refl _) (Tt T hb'), r15⟩, ⟨SlAt.now portRd_ok h16 (Nat.le_refl _) (Tt T hb'), r16⟩⟩) _ (stArg (R := agentRd) ⟨_, _, _, _, _, _, rfl, ⟨SlAt.now intRd_ok h33 (Nat.le_refl _) (Tt T hb'), r33⟩, ⟨SlAt.now portRd_ok h34 (Nat.le_refl _) (Tt T hb'), r34⟩⟩)) ?_
        refine RQ.y rfl (Y.not (b' := (!y42)) rfl rfl) ?_
        refine RQ.nil ?_
        intro w44 hb45
        have szw44 := hb45.size
        have T := Tt T hb45
        refine then_n ?_
        rcases bcases y42 with c46 | c46
        · replace hm := cF c46 hm
          refine cond_t rfl (vbn rfl c46 rfl) ?_
          refine wp_seq ?_
          refine wp_rs rfl ?_
          refine RQ.y rfl (Y.assign (v := .bool false) rfl) ?_
          refine RQ.nil ?_
          refine then_n ?_
          refine wp_ret ?_
          obtain rfl := Option.some.inj hm
          exact (blk_r (then_r (then_r (hit_r (blk_r (then_r (ret1 rfl rfl rfl ⟨rfl, T⟩)))))))
        · replace hm := cT c46 hm
          refine cond_f rfl (vbn rfl c46 rfl) ?_
          refine wp_skip ?_
          refine blk_n (then_n ?_)
          refine wp_rs rfl ?_
          refine RQ.y rfl (Y.binI s17_1 rfl (binI_add (m := i3) (by omega))) ?_
          refine RQ.y rfl (Y.move (v := .int .i64 (i3 + 1)) rfl) ?_
          refine RQ.nil ?_
          exact (then_n ⟨g, _, Nat.lt_succ_self _, rfl, ⟨(i3 + 1), s1_1, s2_1, s15_1, s16_1, rfl, (by omega), T, (by rw [← hrec1]; exact hm)⟩⟩)
  · replace hm := cT c1 hm
    refine cond_t rfl (vb rfl c1) ?_
    refine wp_seq ?_
    refine wp_rs rfl ?_
    refine RQ.y rfl (Y.assign (v := .bool false) rfl) ?_
    refine RQ.nil ?_
    refine then_n ?_
    refine wp_ret ?_
    obtain rfl := Option.some.inj hm
    exact (then_r (ret1 rfl rfl rfl ⟨rfl, T⟩))
def m_impl_SameNet (d0 : DNet) (d1 : DNet) : Option Bool :=
  ((m_slices_EqualFunc_impl_Agent_impl_Agent_impl_Agent_impl_Agent d0.agents d1.agents (fun x0 x1 => m_impl_sameAgent x0 x1)).bind fun y11 => some y11)
set_option maxHeartbeats 2000000 in
theorem c_m_impl_SameNet (d0 : DNet) (d1 : DNet) (r : Bool) (hm : m_impl_SameNet d0 d1 = some r) (v0 : Value) (v1 : Value) (w : World) (hv0 : St netRd w v0 d0) (hv1 : St netRd w v1 d1) :
    Calls Tryz.prog 35 #[v0, v1] w fun e w' => e = .returned (.bool r) ∧ Below w.heap.size w w' := by
  obtain ⟨csa0, rfl, ⟨A1, n1, c1, rfl, ⟨h1, r1⟩⟩⟩ := hv0
  have e1 := h1.len; subst e1
  have q1 := len_le r1
  obtain ⟨csa1, rfl, ⟨A2, n2, c2, rfl, ⟨h2, r2⟩⟩⟩ := hv1
  have e2 := h2.len; subst e2
  have q2 := len_le r2
  have T := Below.refl w.heap.size w
  unfold m_impl_SameNet at hm
  refine enter 10 Tryz.func35 rfl rfl rfl ?_
  intro f hf
  have s0 : f 0 = .agg #[.slice A1 d0.agents.length c1] := hf 0 _ rfl
  have s1 : f 1 = .agg #[.slice A2 d1.agents.length c2] := hf 1 _ rfl
  refine wp_seq ?_
  refine wp_rl rfl ?_
  refine RL.box rfl s0 (fun w3 B4 hb5 szw3 => ?_)
  replace B4 : Blk w3 w.heap.size 31 #[.slice A1 d0.agents.length c1] := B4
  have GB4 : w.heap.size ≤ w.heap.size := T.size
  have T := Tt T hb5
  refine RL.box rfl s1 (fun w7 B8 hb9 szw7 => ?_)
  replace B8 : Blk w7 w3.heap.size 31 #[.slice A2 d1.agents.length c2] := B8
  have GB8 : w.heap.size ≤ w3.heap.size := T.size
  have Eob10_ob6 := Nat.ne_of_lt B4.lt
  have B4 := blkT B4 hb9
  have T := Tt T hb9
  refine RL.y rfl (Y.assign (v := .bool false) rfl) ?_
  refine RL.nil ?_
  refine then_n ?_
  refine wp_seq ?_
  refine wp_rb rfl ?_
  refine RQ.y rfl (Y.fieldAddr (off := 0) rfl (by kernel_rfl)) ?_
  refine RQ.y rfl (Y.load (v := .slice A1 d0.agents.length c1) rfl (by kernel_rfl) (beC (blkCell B4 (i := 0) rfl))) ?_
  refine RQ.y rfl (Y.fieldAddr (off := 0) rfl (by kernel_rfl)) ?_
  refine RQ.y rfl (Y.load (v := .slice A2 d1.agents.length c2) rfl (by kernel_rfl) (beC (blkCell B8 (i := 0) rfl))) ?_
  obtain ⟨y11, e12, hm⟩ := bnd hm
  refine RQ.call rfl (am3 rfl rfl rfl) (by kernel_rfl) (v := .bool y11) (bel (K := fun _ => True) fun w' hb' => (c_m_slices_EqualFunc_impl_Agent_impl_Agent_impl_Agent_impl_Agent d0.agents d1.agents (fun x0 x1 => m_impl_sameAgent x0 x1) _ e12 _ _ _ _ w' (slArg agentRd_ok h1 r1 (Tt T hb')) (slArg agentRd_ok h2 r2 (Tt T hb')) (by kernel_rfl) (fun x0 x1 b hx w1 hb1 y0 hy0 y1 hy1 => Calls.arr (by simp) (c_m_impl_sameAgent x0 x1 _ hx _ _  w1 hy0 hy1 )))) ?_
  refine RQ.y rfl (Y.assign (v := .bool y11) rfl) ?_
  refine RQ.nil ?_
  intro w13 hb14
  have szw13 := hb14.size
  have T := Tt T hb14
  refine then_n ?_
  refine wp_ret ?_
  obtain rfl := Option.some.inj hm
  exact (ret1 rfl rfl rfl ⟨rfl, T⟩)
def m_spec_l12Shape (d0 : DNet) (d1 : DNet) : Option Bool :=
  ((m_spec_l12Net d0).bind fun y3 => ((m_spec_l12Net d1).bind fun y20 => ((m_spec_l11Same y3 y20).bind fun y37 => some y37)))
set_option maxHeartbeats 2000000 in
theorem c_m_spec_l12Shape (d0 : DNet) (d1 : DNet) (r : Bool) (hm : m_spec_l12Shape d0 d1 = some r) (v0 : Value) (v1 : Value) (w : World) (hv0 : Pt netRd w v0 d0) (hv1 : Pt netRd w v1 d1) :
    Calls Tryz.prog 34 #[v0, v1] w fun e w' => e = .returned (.bool r) ∧ Below w.heap.size w w' := by
  obtain ⟨ba0, oa0, csa0, rfl, hba0, hRa0, hca0⟩ := hv0
  have hSa0 := hRa0
  obtain ⟨A1, n1, c1, rfl, ⟨h1, r1⟩⟩ := hRa0
  have e1 := h1.len; subst e1
  have q1 := len_le r1
  obtain ⟨ba1, oa1, csa1, rfl, hba1, hRa1, hca1⟩ := hv1
  have hSa1 := hRa1
  obtain ⟨A2, n2, c2, rfl, ⟨h2, r2⟩⟩ := hRa1
  have e2 := h2.len; subst e2
  have q2 := len_le r2
  have T := Below.refl w.heap.size w
  unfold m_spec_l12Shape at hm
  refine enter 12 Tryz.func34 rfl rfl rfl ?_
  intro f hf
  have s0 : f 0 = .pointer (some ⟨ba0, oa0, none⟩) := hf 0 _ rfl
  have s1 : f 1 = .pointer (some ⟨ba1, oa1, none⟩) := hf 1 _ rfl
  refine wp_seq ?_
  refine wp_rs rfl ?_
  refine RQ.y rfl (Y.assign (v := .bool false) rfl) ?_
  refine RQ.nil ?_
  refine then_n ?_
  refine wp_seq ?_
  refine wp_rl rfl ?_
  refine RL.y rfl (Y.move (v := .pointer (some ⟨ba0, oa0, none⟩)) s0) ?_
  obtain ⟨y3, e4, hm⟩ := bnd hm
  refine RL.call rfl (am1 rfl) (by kernel_rfl) ((c_m_spec_l12Net d0 _ e4 _ _ (ptArg netRd_ok hba0 hSa0 hca0 T)).mono ?_)
  rintro _ w9 ⟨⟨v5, bs8, rfl, G6⟩, hb10⟩
  refine ⟨_, rfl, ?_⟩
  have szw9 := hb10.size
  have T0w9 := T.size
  have T := Tt T hb10
  replace G6 := OwN.mono G6 T0w9
  refine RL.alloc (z := .agg #[.slice none 0 0]) rfl (by kernel_rfl) (fun w11 B12 hb13 szw11 => ?_)
  replace B12 : Blk w11 w9.heap.size 31 #[.slice none 0 0] := B12
  have GB12 : w.heap.size ≤ w9.heap.size := T.size
  have No7_ob14 := Ap.far (OwN.hi G6)
  have G6 := OwN.below agentOw_ok G6 hb13
  have T := Tt T hb13
  obtain ⟨A15, c16, rfl⟩ := OwN.form G6
  have qbA15 := OwN.bound G6
  refine RL.store (v := .agg #[.slice A15 y3.agents.length c16]) (cs' := #[.slice A15 y3.agents.length c16]) rfl rfl rfl B12 (by kernel_rfl) (by rfl) (by rfl) (by rfl) (fun w17 B18 ho19 => ?_)
  have szw17 := ho19.size
  have G6 := OwN.only agentOw_ok G6 ho19 (Ap.one No7_ob14)
  have T := T.trans (ho19.below (by first | (simp; done) | (simp; omega)))
  refine RL.nil ?_
  refine then_n ?_
  refine wp_seq ?_
  refine wp_rl rfl ?_
  refine RL.y rfl (Y.move (v := .pointer (some ⟨ba1, oa1, none⟩)) s1) ?_
  obtain ⟨y20, e21, hm⟩ := bnd hm
  refine RL.call rfl (am1 rfl) (by kernel_rfl) ((c_m_spec_l12Net d1 _ e21 _ _ (ptArg netRd_ok hba1 hSa1 hca1 T)).mono ?_)
  rintro _ w26 ⟨⟨v22, bs25, rfl, G23⟩, hb27⟩
  refine ⟨_, rfl, ?_⟩
  have szw26 := hb27.size
  have T0w26 := T.size
  have Zo24_ob14 : Ap bs25 [w9.heap.size] := (Ap.new (OwN.lo_ G23) (one_hi B18.lt))
  have Zo24_o7 : Ap bs25 bs8 := (Ap.new (OwN.lo_ G23) (OwN.hi G6))
  have B18 := blkT B18 hb27
  have G6 := OwN.below agentOw_ok G6 hb27
  have T := Tt T hb27
  replace G23 := OwN.mono G23 T0w26
  refine RL.alloc (z := .agg #[.slice none 0 0]) rfl (by kernel_rfl) (fun w28 B29 hb30 szw28 => ?_)
  replace B29 : Blk w28 w26.heap.size 31 #[.slice none 0 0] := B29
  have GB29 : w.heap.size ≤ w26.heap.size := T.size
  have Eob31_ob14 := Nat.ne_of_lt B18.lt
  have No7_ob31 := Ap.far (OwN.hi G6)
  have No24_ob31 := Ap.far (OwN.hi G23)
  have B18 := blkT B18 hb30
  have G6 := OwN.below agentOw_ok G6 hb30
  have G23 := OwN.below agentOw_ok G23 hb30
  have T := Tt T hb30
  obtain ⟨A32, c33, rfl⟩ := OwN.form G23
  have qbA32 := OwN.bound G23
  refine RL.store (v := .agg #[.slice A32 y20.agents.length c33]) (cs' := #[.slice A32 y20.agents.length c33]) rfl rfl rfl B29 (by kernel_rfl) (by rfl) (by rfl) (by rfl) (fun w34 B35 ho36 => ?_)
  have szw34 := ho36.size
  have B18 := B18.only_ ho36 (by intro hin; simp at hin; exact Eob31_ob14 hin)
  have G6 := OwN.only agentOw_ok G6 ho36 (Ap.one No7_ob31)
  have G23 := OwN.only agentOw_ok G23 ho36 (Ap.one No24_ob31)
  have T := T.trans (ho36.below (by first | (simp; done) | (simp; omega)))
  refine RL.nil ?_
  refine then_n ?_
  refine wp_seq ?_
  refine wp_rb rfl ?_
  obtain ⟨y37, e38, hm⟩ := bnd hm
  refine RQ.call rfl (am2 rfl rfl) (by kernel_rfl) (v := .bool y37) (bel (K := fun _ => True) fun w' hb' => (c_m_spec_l11Same y3 y20 _ e38 _ _ w' (ptBox (R := netRd) (blkT B18 hb') ⟨_, _, _, rfl, (OwN.sl agentOw_ok (agentOw_reads _) (OwN.below agentOw_ok G6 hb'))⟩) (ptBox (R := netRd) (blkT B35 hb') ⟨_, _, _, rfl, (OwN.sl agentOw_ok (agentOw_reads _) (OwN.below agentOw_ok G23 hb'))⟩))) ?_
  refine RQ.y rfl (Y.assign (v := .bool y37) rfl) ?_
  refine RQ.nil ?_
  intro w39 hb40
  have szw39 := hb40.size
  have T := Tt T hb40
  refine then_n ?_
  refine wp_ret ?_
  obtain rfl := Option.some.inj hm
  exact (ret1 rfl rfl rfl ⟨rfl, T⟩)
def m_spec_SameShape (d0 : DNet) (d1 : DNet) : Option Bool :=
  ((m_spec_l11Ok d0).bind fun y11 => (bif y11 then ((m_spec_l11Ok d1).bind fun y16 => (bif y16 then ((m_spec_l12Shape d0 d1).bind fun y21 => some y21) else some false)) else some false))
set_option maxHeartbeats 2000000 in
theorem c_m_spec_SameShape (d0 : DNet) (d1 : DNet) (r : Bool) (hm : m_spec_SameShape d0 d1 = some r) (v0 : Value) (v1 : Value) (w : World) (hv0 : St netRd w v0 d0) (hv1 : St netRd w v1 d1) :
    Calls Tryz.prog 19 #[v0, v1] w fun e w' => e = .returned (.bool r) ∧ Below w.heap.size w w' := by
  obtain ⟨csa0, rfl, ⟨A1, n1, c1, rfl, ⟨h1, r1⟩⟩⟩ := hv0
  have e1 := h1.len; subst e1
  have q1 := len_le r1
  obtain ⟨csa1, rfl, ⟨A2, n2, c2, rfl, ⟨h2, r2⟩⟩⟩ := hv1
  have e2 := h2.len; subst e2
  have q2 := len_le r2
  have T := Below.refl w.heap.size w
  unfold m_spec_SameShape at hm
  refine enter 12 Tryz.func19 rfl rfl rfl ?_
  intro f hf
  have s0 : f 0 = .agg #[.slice A1 d0.agents.length c1] := hf 0 _ rfl
  have s1 : f 1 = .agg #[.slice A2 d1.agents.length c2] := hf 1 _ rfl
  refine wp_seq ?_
  refine wp_rl rfl ?_
  refine RL.box rfl s0 (fun w3 B4 hb5 szw3 => ?_)
  replace B4 : Blk w3 w.heap.size 31 #[.slice A1 d0.agents.length c1] := B4
  have GB4 : w.heap.size ≤ w.heap.size := T.size
  have T := Tt T hb5
  refine RL.box rfl s1 (fun w7 B8 hb9 szw7 => ?_)
  replace B8 : Blk w7 w3.heap.size 31 #[.slice A2 d1.agents.length c2] := B8
  have GB8 : w.heap.size ≤ w3.heap.size := T.size
  have Eob10_ob6 := Nat.ne_of_lt B4.lt
  have B4 := blkT B4 hb9
  have T := Tt T hb9
  refine RL.y rfl (Y.assign (v := .bool false) rfl) ?_
  refine RL.nil ?_
  refine then_n ?_
  refine wp_seq ?_
  refine wp_rb rfl ?_
  obtain ⟨y11, e12, hm⟩ := bnd hm
  refine RQ.call rfl (am1 rfl) (by kernel_rfl) (v := .bool y11) (bel (K := fun _ => True) fun w' hb' => (c_m_spec_l11Ok d0 _ e12 _ w' (ptBox (R := netRd) (blkT B4 hb') ⟨_, _, _, rfl, ⟨SlAt.now agentRd_ok h1 (Nat.le_refl _) (Tt T hb'), r1⟩⟩))) ?_
  refine RQ.y rfl (Y.move (v := .bool y11) rfl) ?_
  rcases bcases y11 with c13 | c13
  · replace hm := cF c13 hm
    refine RQ.skip (wantN (dj := 6) rfl (vb rfl c13) rfl) ?_
    refine RQ.y rfl (Y.pick (b := false) (v := .bool false) (vb rfl c13) rfl) ?_
    refine RQ.y rfl (Y.move (v := .bool false) rfl) ?_
    refine RQ.skip (wantN (dj := 9) rfl rfl rfl) ?_
    refine RQ.y rfl (Y.pick (b := false) (v := .bool false) rfl rfl) ?_
    refine RQ.y rfl (Y.assign (v := .bool false) rfl) ?_
    refine RQ.nil ?_
    intro w14 hb15
    have szw14 := hb15.size
    have T := Tt T hb15
    refine then_n ?_
    refine wp_ret ?_
    obtain rfl := Option.some.inj hm
    exact (ret1 rfl rfl rfl ⟨rfl, T⟩)
  · replace hm := cT c13 hm
    obtain ⟨y16, e17, hm⟩ := bnd hm
    refine RQ.call (wantT (dj := 6) rfl (vb rfl c13)) (am1 rfl) (by kernel_rfl) (v := .bool y16) (bel (K := fun _ => True) fun w' hb' => (c_m_spec_l11Ok d1 _ e17 _ w' (ptBox (R := netRd) (blkT B8 hb') ⟨_, _, _, rfl, ⟨SlAt.now agentRd_ok h2 (Nat.le_refl _) (Tt T hb'), r2⟩⟩))) ?_
    refine RQ.y rfl (Y.pick (b := true) (v := .bool y16) (vb rfl c13) rfl) ?_
    refine RQ.y rfl (Y.move (v := .bool y16) rfl) ?_
    rcases bcases y16 with c18 | c18
    · replace hm := cF c18 hm
      refine RQ.skip (wantN (dj := 9) rfl (vb rfl c18) rfl) ?_
      refine RQ.y rfl (Y.pick (b := false) (v := .bool false) (vb rfl c18) rfl) ?_
      refine RQ.y rfl (Y.assign (v := .bool false) rfl) ?_
      refine RQ.nil ?_
      intro w19 hb20
      have szw19 := hb20.size
      have T := Tt T hb20
      refine then_n ?_
      refine wp_ret ?_
      obtain rfl := Option.some.inj hm
      exact (ret1 rfl rfl rfl ⟨rfl, T⟩)
    · replace hm := cT c18 hm
      obtain ⟨y21, e22, hm⟩ := bnd hm
      refine RQ.call (wantT (dj := 9) rfl (vb rfl c18)) (am2 rfl rfl) (by kernel_rfl) (v := .bool y21) (bel (K := fun _ => True) fun w' hb' => (c_m_spec_l12Shape d0 d1 _ e22 _ _ w' (ptBox (R := netRd) (blkT B4 hb') ⟨_, _, _, rfl, ⟨SlAt.now agentRd_ok h1 (Nat.le_refl _) (Tt T hb'), r1⟩⟩) (ptBox (R := netRd) (blkT B8 hb') ⟨_, _, _, rfl, ⟨SlAt.now agentRd_ok h2 (Nat.le_refl _) (Tt T hb'), r2⟩⟩))) ?_
      refine RQ.y rfl (Y.pick (b := true) (v := .bool y21) (vb rfl c18) rfl) ?_
      refine RQ.y rfl (Y.assign (v := .bool y21) rfl) ?_
      refine RQ.nil ?_
      intro w23 hb24
      have szw23 := hb24.size
      have T := Tt T hb24
      refine then_n ?_
      refine wp_ret ?_
      obtain rfl := Option.some.inj hm
      exact (ret1 rfl rfl rfl ⟨rfl, T⟩)
def m_impl_SameShape (d0 : DNet) (d1 : DNet) : Option Bool :=
  ((m_impl_ValidNet d0).bind fun y13 => (bif y13 then ((m_impl_ValidNet d1).bind fun y18 => (bif y18 then (bif ((d0.agents.length : Int) == (d1.agents.length : Int)) then ((m_impl_canonical d0).bind fun y24 => ((m_impl_canonical d1).bind fun y32 => ((m_impl_SameNet y24 y32).bind fun y44 => some y44))) else some false) else some false)) else some false))
set_option maxHeartbeats 2000000 in
theorem c_m_impl_SameShape (d0 : DNet) (d1 : DNet) (r : Bool) (hm : m_impl_SameShape d0 d1 = some r) (v0 : Value) (v1 : Value) (w : World) (hv0 : St netRd w v0 d0) (hv1 : St netRd w v1 d1) :
    Calls Tryz.prog 20 #[v0, v1] w fun e w' => e = .returned (.bool r) ∧ Below w.heap.size w w' := by
  obtain ⟨csa0, rfl, ⟨A1, n1, c1, rfl, ⟨h1, r1⟩⟩⟩ := hv0
  have e1 := h1.len; subst e1
  have q1 := len_le r1
  obtain ⟨csa1, rfl, ⟨A2, n2, c2, rfl, ⟨h2, r2⟩⟩⟩ := hv1
  have e2 := h2.len; subst e2
  have q2 := len_le r2
  have T := Below.refl w.heap.size w
  unfold m_impl_SameShape at hm
  refine enter 27 Tryz.func20 rfl rfl rfl ?_
  intro f hf
  have s0 : f 0 = .agg #[.slice A1 d0.agents.length c1] := hf 0 _ rfl
  have s1 : f 1 = .agg #[.slice A2 d1.agents.length c2] := hf 1 _ rfl
  refine wp_seq ?_
  refine wp_rl rfl ?_
  refine RL.box rfl s0 (fun w3 B4 hb5 szw3 => ?_)
  replace B4 : Blk w3 w.heap.size 31 #[.slice A1 d0.agents.length c1] := B4
  have GB4 : w.heap.size ≤ w.heap.size := T.size
  have T := Tt T hb5
  refine RL.box rfl s1 (fun w7 B8 hb9 szw7 => ?_)
  replace B8 : Blk w7 w3.heap.size 31 #[.slice A2 d1.agents.length c2] := B8
  have GB8 : w.heap.size ≤ w3.heap.size := T.size
  have Eob10_ob6 := Nat.ne_of_lt B4.lt
  have B4 := blkT B4 hb9
  have T := Tt T hb9
  refine RL.y rfl (Y.assign (v := .bool false) rfl) ?_
  refine RL.nil ?_
  refine then_n ?_
  refine wp_seq ?_
  refine wp_rg (fun w' => Below w.heap.size w w' ∧ Blk w' w.heap.size 31 #[.slice A1 d0.agents.length c1] ∧ Blk w' w3.heap.size 31 #[.slice A2 d1.agents.length c2]) [(0, true), (1, false), (2, true), (3, true), (4, false), (5, true), (6, true), (7, true), (8, true), (9, true), (10, true), (11, true), (12, true), (13, true), (14, true), (15, true), (16, true), (18, true), (17, false), (19, false), (20, false), (21, true), (22, true)] (by kernel_rfl) (by kernel_rfl) (fun w11 hb12 szw11 => ?_)
  have B4 := blkT B4 hb12
  have B8 := blkT B8 hb12
  have T := Tt T hb12
  refine ⟨⟨T, B4, B8⟩, ?_⟩
  refine RG.y rfl rfl (Y.loadN (cs := [.slice A1 d0.agents.length c1]) rfl (by kernel_rfl) (cells1 (fun w' hS => (blkCell hS.2.1 (i := 0) rfl)))) ?_
  refine RG.act rfl ?_
  obtain ⟨y13, e14, hm⟩ := bnd hm
  refine RL.call rfl (am1 rfl) (by kernel_rfl) ((c_m_impl_ValidNet d0 _ e14 _ _ (stArg (R := netRd) ⟨_, _, _, rfl, ⟨SlAt.now agentRd_ok h1 (Nat.le_refl _) T, r1⟩⟩)).mono ?_)
  rintro _ w15 ⟨rfl, hb16⟩
  refine ⟨_, rfl, ?_⟩
  have szw15 := hb16.size
  have B4 := blkT B4 hb16
  have B8 := blkT B8 hb16
  have T := Tt T hb16
  refine RL.nil ⟨⟨T, B4, B8⟩, ?_⟩
  refine RG.y rfl rfl (Y.move (v := .bool y13) rfl) ?_
  rcases bcases y13 with c17 | c17
  · replace hm := cF c17 hm
    refine RG.skip rfl (wantN (dj := 7) rfl (vb rfl c17) rfl) ?_
    refine RG.act rfl ?_
    refine RL.skip (wantN (dj := 7) rfl (vb rfl c17) rfl) ?_
    refine RL.nil ⟨⟨T, B4, B8⟩, ?_⟩
    refine RG.y rfl rfl (Y.pick (b := false) (v := .bool false) (vb rfl c17) rfl) ?_
    refine RG.y rfl rfl (Y.move (v := .bool false) rfl) ?_
    refine RG.skip rfl (wantN (dj := 11) rfl rfl rfl) ?_
    refine RG.skip rfl (wantN (dj := 11) rfl rfl rfl) ?_
    refine RG.skip rfl (wantN (dj := 11) rfl rfl rfl) ?_
    refine RG.skip rfl (wantN (dj := 11) rfl rfl rfl) ?_
    refine RG.skip rfl (wantN (dj := 11) rfl rfl rfl) ?_
    refine RG.skip rfl (wantN (dj := 11) rfl rfl rfl) ?_
    refine RG.skip rfl (wantN (dj := 11) rfl rfl rfl) ?_
    refine RG.y rfl rfl (Y.pick (b := false) (v := .bool false) rfl rfl) ?_
    refine RG.y rfl rfl (Y.move (v := .bool false) rfl) ?_
    refine RG.skip rfl (wantN (dj := 20) rfl rfl rfl) ?_
    refine RG.skip rfl (wantN (dj := 20) rfl rfl rfl) ?_
    refine RG.act rfl ?_
    refine RL.skip (wantN (dj := 20) rfl rfl rfl) ?_
    refine RL.nil ⟨⟨T, B4, B8⟩, ?_⟩
    refine RG.act rfl ?_
    refine RL.skip (wantN (dj := 20) rfl rfl rfl) ?_
    refine RL.nil ⟨⟨T, B4, B8⟩, ?_⟩
    refine RG.act rfl ?_
    refine RL.skip (wantN (dj := 20) rfl rfl rfl) ?_
    refine RL.nil ⟨⟨T, B4, B8⟩, ?_⟩
    refine RG.y rfl rfl (Y.pick (b := false) (v := .bool false) rfl rfl) ?_
    refine RG.y rfl rfl (Y.assign (v := .bool false) rfl) ?_
    refine RG.nil ?_
    refine then_n ?_
    refine wp_ret ?_
    obtain rfl := Option.some.inj hm
    exact (ret1 rfl rfl rfl ⟨rfl, T⟩)
  · replace hm := cT c17 hm
    refine RG.y rfl (wantT (dj := 7) rfl (vb rfl c17)) (Y.loadN (cs := [.slice A2 d1.agents.length c2]) rfl (by kernel_rfl) (cells1 (fun w' hS => (blkCell hS.2.2 (i := 0) rfl)))) ?_
    refine RG.act rfl ?_
    obtain ⟨y18, e19, hm⟩ := bnd hm
    refine RL.call (wantT (dj := 7) rfl (vb rfl c17)) (am1 rfl) (by kernel_rfl) ((c_m_impl_ValidNet d1 _ e19 _ _ (stArg (R := netRd) ⟨_, _, _, rfl, ⟨SlAt.now agentRd_ok h2 (Nat.le_refl _) T, r2⟩⟩)).mono ?_)
    rintro _ w20 ⟨rfl, hb21⟩
    refine ⟨_, rfl, ?_⟩
    have szw20 := hb21.size
    have B4 := blkT B4 hb21
    have B8 := blkT B8 hb21
    have T := Tt T hb21
    refine RL.nil ⟨⟨T, B4, B8⟩, ?_⟩
    refine RG.y rfl rfl (Y.pick (b := true) (v := .bool y18) (vb rfl c17) rfl) ?_
    refine RG.y rfl rfl (Y.move (v := .bool y18) rfl) ?_
    rcases bcases y18 with c22 | c22
    · replace hm := cF c22 hm
      refine RG.skip rfl (wantN (dj := 11) rfl (vb rfl c22) rfl) ?_
      refine RG.skip rfl (wantN (dj := 11) rfl (vb rfl c22) rfl) ?_
      refine RG.skip rfl (wantN (dj := 11) rfl (vb rfl c22) rfl) ?_
      refine RG.skip rfl (wantN (dj := 11) rfl (vb rfl c22) rfl) ?_
      refine RG.skip rfl (wantN (dj := 11) rfl (vb rfl c22) rfl) ?_
      refine RG.skip rfl (wantN (dj := 11) rfl (vb rfl c22) rfl) ?_
      refine RG.skip rfl (wantN (dj := 11) rfl (vb rfl c22) rfl) ?_
      refine RG.y rfl rfl (Y.pick (b := false) (v := .bool false) (vb rfl c22) rfl) ?_
      refine RG.y rfl rfl (Y.move (v := .bool false) rfl) ?_
      refine RG.skip rfl (wantN (dj := 20) rfl rfl rfl) ?_
      refine RG.skip rfl (wantN (dj := 20) rfl rfl rfl) ?_
      refine RG.act rfl ?_
      refine RL.skip (wantN (dj := 20) rfl rfl rfl) ?_
      refine RL.nil ⟨⟨T, B4, B8⟩, ?_⟩
      refine RG.act rfl ?_
      refine RL.skip (wantN (dj := 20) rfl rfl rfl) ?_
      refine RL.nil ⟨⟨T, B4, B8⟩, ?_⟩
      refine RG.act rfl ?_
      refine RL.skip (wantN (dj := 20) rfl rfl rfl) ?_
      refine RL.nil ⟨⟨T, B4, B8⟩, ?_⟩
      refine RG.y rfl rfl (Y.pick (b := false) (v := .bool false) rfl rfl) ?_
      refine RG.y rfl rfl (Y.assign (v := .bool false) rfl) ?_
      refine RG.nil ?_
      refine then_n ?_
      refine wp_ret ?_
      obtain rfl := Option.some.inj hm
      exact (ret1 rfl rfl rfl ⟨rfl, T⟩)
    · replace hm := cT c22 hm
      refine RG.y rfl (wantT (dj := 11) rfl (vb rfl c22)) (Y.fieldAddr (off := 0) rfl (by kernel_rfl)) ?_
      refine RG.y rfl (wantT (dj := 11) rfl (vb rfl c22)) (Y.load (v := .slice A1 d0.agents.length c1) rfl (by kernel_rfl) (fun w' hS => (blkCell hS.2.1 (i := 0) rfl))) ?_
      refine RG.y rfl (wantT (dj := 11) rfl (vb rfl c22)) (Y.len (by kernel_rfl) rfl) ?_
      refine RG.y rfl (wantT (dj := 11) rfl (vb rfl c22)) (Y.fieldAddr (off := 0) rfl (by kernel_rfl)) ?_
      refine RG.y rfl (wantT (dj := 11) rfl (vb rfl c22)) (Y.load (v := .slice A2 d1.agents.length c2) rfl (by kernel_rfl) (fun w' hS => (blkCell hS.2.2 (i := 0) rfl))) ?_
      refine RG.y rfl (wantT (dj := 11) rfl (vb rfl c22)) (Y.len (by kernel_rfl) rfl) ?_
      refine RG.y rfl (wantT (dj := 11) rfl (vb rfl c22)) (Y.binI (v := .bool ((d0.agents.length : Int) == (d1.agents.length : Int))) rfl rfl rfl) ?_
      refine RG.y rfl rfl (Y.pick (b := true) (v := .bool ((d0.agents.length : Int) == (d1.agents.length : Int))) (vb rfl c22) rfl) ?_
      refine RG.y rfl rfl (Y.move (v := .bool ((d0.agents.length : Int) == (d1.agents.length : Int))) rfl) ?_
      rcases bcases ((d0.agents.length : Int) == (d1.agents.length : Int)) with c23 | c23
      · replace hm := cF c23 hm
        refine RG.skip rfl (wantN (dj := 20) rfl (vb rfl c23) rfl) ?_
        refine RG.skip rfl (wantN (dj := 20) rfl (vb rfl c23) rfl) ?_
        refine RG.act rfl ?_
        refine RL.skip (wantN (dj := 20) rfl (vb rfl c23) rfl) ?_
        refine RL.nil ⟨⟨T, B4, B8⟩, ?_⟩
        refine RG.act rfl ?_
        refine RL.skip (wantN (dj := 20) rfl (vb rfl c23) rfl) ?_
        refine RL.nil ⟨⟨T, B4, B8⟩, ?_⟩
        refine RG.act rfl ?_
        refine RL.skip (wantN (dj := 20) rfl (vb rfl c23) rfl) ?_
        refine RL.nil ⟨⟨T, B4, B8⟩, ?_⟩
        refine RG.y rfl rfl (Y.pick (b := false) (v := .bool false) (vb rfl c23) rfl) ?_
        refine RG.y rfl rfl (Y.assign (v := .bool false) rfl) ?_
        refine RG.nil ?_
        refine then_n ?_
        refine wp_ret ?_
        obtain rfl := Option.some.inj hm
        exact (ret1 rfl rfl rfl ⟨rfl, T⟩)
      · replace hm := cT c23 hm
        refine RG.y rfl (wantT (dj := 20) rfl (vb rfl c23)) (Y.loadN (cs := [.slice A1 d0.agents.length c1]) rfl (by kernel_rfl) (cells1 (fun w' hS => (blkCell hS.2.1 (i := 0) rfl)))) ?_
        refine RG.y rfl (wantT (dj := 20) rfl (vb rfl c23)) (Y.loadN (cs := [.slice A2 d1.agents.length c2]) rfl (by kernel_rfl) (cells1 (fun w' hS => (blkCell hS.2.2 (i := 0) rfl)))) ?_
        refine RG.act rfl ?_
        obtain ⟨y24, e25, hm⟩ := bnd hm
        refine RL.call (wantT (dj := 20) rfl (vb rfl c23)) (am1 rfl) (by kernel_rfl) ((c_m_impl_canonical d0 _ e25 _ _ (stArg (R := netRd) ⟨_, _, _, rfl, ⟨SlAt.now agentRd_ok h1 (Nat.le_refl _) T, r1⟩⟩)).mono ?_)
        rintro _ w30 ⟨⟨v26, bs29, rfl, G27⟩, hb31⟩
        refine ⟨_, rfl, ?_⟩
        have szw30 := hb31.size
        have T0w30 := T.size
        have Zo28_ob6 : Ap bs29 [w.heap.size] := (Ap.new (OwN.lo_ G27) (one_hi B4.lt))
        have Zo28_ob10 : Ap bs29 [w3.heap.size] := (Ap.new (OwN.lo_ G27) (one_hi B8.lt))
        have B4 := blkT B4 hb31
        have B8 := blkT B8 hb31
        have T := Tt T hb31
        replace G27 := OwN.mono G27 T0w30
        refine RL.nil ⟨⟨T, B4, B8⟩, ?_⟩
        refine RG.act rfl ?_
        obtain ⟨y32, e33, hm⟩ := bnd hm
        refine RL.call (wantT (dj := 20) rfl (vb rfl c23)) (am1 rfl) (by kernel_rfl) ((c_m_impl_canonical d1 _ e33 _ _ (stArg (R := netRd) ⟨_, _, _, rfl, ⟨SlAt.now agentRd_ok h2 (Nat.le_refl _) T, r2⟩⟩)).mono ?_)
        rintro _ w38 ⟨⟨v34, bs37, rfl, G35⟩, hb39⟩
        refine ⟨_, rfl, ?_⟩
        have szw38 := hb39.size
        have T0w38 := T.size
        have Zo36_ob6 : Ap bs37 [w.heap.size] := (Ap.new (OwN.lo_ G35) (one_hi B4.lt))
        have Zo36_ob10 : Ap bs37 [w3.heap.size] := (Ap.new (OwN.lo_ G35) (one_hi B8.lt))
        have Zo36_o28 : Ap bs37 bs29 := (Ap.new (OwN.lo_ G35) (OwN.hi G27))
        have B4 := blkT B4 hb39
        have B8 := blkT B8 hb39
        have G27 := OwN.below agentOw_ok G27 hb39
        have T := Tt T hb39
        replace G35 := OwN.mono G35 T0w38
        refine RL.nil ⟨⟨T, B4, B8⟩, ?_⟩
        refine RG.act rfl ?_
        obtain ⟨A40, c41, rfl⟩ := OwN.form G27
        have qbA40 := OwN.bound G27
        obtain ⟨A42, c43, rfl⟩ := OwN.form G35
        have qbA42 := OwN.bound G35
        obtain ⟨y44, e45, hm⟩ := bnd hm
        refine RL.call (wantT (dj := 20) rfl (vb rfl c23)) (am2 rfl rfl) (by kernel_rfl) ((c_m_impl_SameNet y24 y32 _ e45 _ _ _ (stArg (R := netRd) ⟨_, _, _, rfl, (OwN.sl agentOw_ok (agentOw_reads _) G27)⟩) (stArg (R := netRd) ⟨_, _, _, rfl, (OwN.sl agentOw_ok (agentOw_reads _) G35)⟩)).mono ?_)
        rintro _ w46 ⟨rfl, hb47⟩
        refine ⟨_, rfl, ?_⟩
        have szw46 := hb47.size
        have B4 := blkT B4 hb47
        have B8 := blkT B8 hb47
        have G27 := OwN.below agentOw_ok G27 hb47
        have G35 := OwN.below agentOw_ok G35 hb47
        have T := Tt T hb47
        refine RL.nil ⟨⟨T, B4, B8⟩, ?_⟩
        refine RG.y rfl rfl (Y.pick (b := true) (v := .bool y44) (vb rfl c23) rfl) ?_
        refine RG.y rfl rfl (Y.assign (v := .bool y44) rfl) ?_
        refine RG.nil ?_
        refine then_n ?_
        refine wp_ret ?_
        obtain rfl := Option.some.inj hm
        exact (ret1 rfl rfl rfl ⟨rfl, T⟩)
end
section
open Go.RowKit
set_option linter.unusedVariables false
set_option linter.unusedSimpArgs false
theorem bne_nat {n m : Nat} : ((n : Int) != (m : Int)) = !decide (n = m) := by
  by_cases h : n = m
  · subst h; simp
  · simp [h]; omega
theorem ite_dec {p : Prop} [Decidable p] : (if p then some true else some false : Option Bool) = some (decide p) := by
  by_cases h : p <;> simp [h]
theorem decide_len {α : Type} [DecidableEq α] {xs ys : List α} (h : ¬ xs.length = ys.length) : decide (xs = ys) = false := decide_eq_false fun e => h (by rw [e])
theorem p_l00Same (xs ys : List Int) : m_spec_l00Same xs ys = some (decide (xs = ys)) := by
  unfold m_spec_l00Same
  rw [bne_nat]
  by_cases hl : xs.length = ys.length
  · rw [decide_eq_true hl, Bool.not_true, cond_false, ← ite_dec]
    exact eqI hl (fun g k hx hy => by
      simp -implicitDefEqProofs only [m_spec_l00Same_L1, m_spec_l00Same_B1, dlt hx, cond_true, getI_nat (List.getElem?_eq_getElem hx), getI_nat (List.getElem?_eq_getElem hy), Option.bind_some]
      by_cases h : xs[k] = ys[k]
      · rw [if_pos h, show (xs[k] != ys[k]) = false by simpa using h, cond_false]
      · rw [if_neg h, show (xs[k] != ys[k]) = true by simpa using h, cond_true])
      (fun g => by simp -implicitDefEqProofs only [m_spec_l00Same_L1, m_spec_l00Same_B1, dge, cond_false, m_spec_l00Same_A1]) _ (Nat.lt_succ_self _)
  · rw [decide_eq_false hl, Bool.not_false, cond_true, decide_len hl]
theorem p_EqInt (xs ys : List Int) : m_slices_Equal_int64_int64 xs ys = some (decide (xs = ys)) := by
  unfold m_slices_Equal_int64_int64
  rw [bne_nat]
  by_cases hl : xs.length = ys.length
  · rw [decide_eq_true hl, Bool.not_true, cond_false, ← ite_dec]
    exact eqI hl (fun g k hx hy => by
      simp -implicitDefEqProofs only [m_slices_Equal_int64_int64_L1, m_slices_Equal_int64_int64_B1, dlt hx, cond_true, getI_nat (List.getElem?_eq_getElem hx), getI_nat (List.getElem?_eq_getElem hy), Option.bind_some]
      by_cases h : xs[k] = ys[k]
      · rw [if_pos h, show (xs[k] != ys[k]) = false by simpa using h, cond_false]
      · rw [if_neg h, show (xs[k] != ys[k]) = true by simpa using h, cond_true])
      (fun g => by simp -implicitDefEqProofs only [m_slices_Equal_int64_int64_L1, m_slices_Equal_int64_int64_B1, dge, cond_false, m_slices_Equal_int64_int64_A1]) _ (Nat.lt_succ_self _)
  · rw [decide_eq_false hl, Bool.not_false, cond_true, decide_len hl]
theorem portEq (p q : DPort) : (p.agent == q.agent && p.slot == q.slot) = decide (p = q) := by
  obtain ⟨a, b⟩ := p
  obtain ⟨c, d⟩ := q
  by_cases h1 : a = c <;> by_cases h2 : b = d <;> simp [h1, h2]
theorem p_EqPort (xs ys : List DPort) : m_slices_Equal_impl_Port_impl_Port xs ys = some (decide (xs = ys)) := by
  unfold m_slices_Equal_impl_Port_impl_Port
  rw [bne_nat]
  by_cases hl : xs.length = ys.length
  · rw [decide_eq_true hl, Bool.not_true, cond_false, ← ite_dec]
    exact eqI hl (fun g k hx hy => by
      simp -implicitDefEqProofs only [m_slices_Equal_impl_Port_impl_Port_L1, m_slices_Equal_impl_Port_impl_Port_B1, dlt hx, cond_true, getI_nat (List.getElem?_eq_getElem hx), getI_nat (List.getElem?_eq_getElem hy), Option.bind_some, portEq]
      by_cases h : xs[k] = ys[k]
      · rw [if_pos h, decide_eq_true h, cond_true]
      · rw [if_neg h, decide_eq_false h, cond_false])
      (fun g => by simp -implicitDefEqProofs only [m_slices_Equal_impl_Port_impl_Port_L1, m_slices_Equal_impl_Port_impl_Port_B1, dge, cond_false, m_slices_Equal_impl_Port_impl_Port_A1]) _ (Nat.lt_succ_self _)
  · rw [decide_eq_false hl, Bool.not_false, cond_true, decide_len hl]
theorem agentEq (x y : DAgent) : (x = y) ↔ (x.kind = y.kind ∧ x.level = y.level ∧ x.value = y.value ∧ x.data = y.data ∧ x.ports = y.ports) := by
  obtain ⟨a, b, c, d, e⟩ := x
  obtain ⟨a', b', c', d', e'⟩ := y
  simp
theorem p_sSameAgent (x y : DAgent) : m_spec_l11SameAgent x y = some (decide (x = y)) := by
  unfold m_spec_l11SameAgent
  rw [p_l00Same, Option.bind_some, bne_nat]
  by_cases h1 : x.kind = y.kind
  · by_cases h2 : x.level = y.level
    · by_cases h3 : x.value = y.value
      · by_cases h4 : x.data = y.data
        · rw [show (x.kind != y.kind) = false by simpa using h1, show (x.level != y.level) = false by simpa using h2, show (x.value != y.value) = false by simpa using h3, decide_eq_true h4, cond_false, cond_false, cond_false, cond_true]
          by_cases hl : x.ports.length = y.ports.length
          · rw [decide_eq_true hl, Bool.not_true, cond_false]
            have := eqI (L := fun g k => m_spec_l11SameAgent_L1 x y m_spec_l11SameAgent_A1 g k) (no := some false) (yes := some true) hl (fun g k hx hy => by
              simp -implicitDefEqProofs only [m_spec_l11SameAgent_L1, m_spec_l11SameAgent_B1, dlt hx, cond_true, getI_nat (List.getElem?_eq_getElem hx), getI_nat (List.getElem?_eq_getElem hy), Option.bind_some, portEq]
              by_cases h : x.ports[k] = y.ports[k]
              · rw [if_pos h, decide_eq_true h, cond_true]
              · rw [if_neg h, decide_eq_false h, cond_false])
              (fun g => by simp -implicitDefEqProofs only [m_spec_l11SameAgent_L1, m_spec_l11SameAgent_B1, dge, cond_false, m_spec_l11SameAgent_A1]) (x.ports.length + 1) (Nat.lt_succ_self _)
            refine this.trans ?_
            rw [ite_dec]
            congr 1
            exact decide_eq_decide.2 (by rw [agentEq]; simp [h1, h2, h3, h4])
          · rw [decide_eq_false hl, Bool.not_false, cond_true, show decide (x = y) = false from decide_eq_false (fun e => hl (by rw [e]))]
        · rw [decide_eq_false h4, show decide (x = y) = false from decide_eq_false (fun e => h4 (by rw [e]))]
          simp [h1, h2, h3]
      · rw [show (x.value != y.value) = true by simpa using h3, show decide (x = y) = false from decide_eq_false (fun e => h3 (by rw [e]))]
        simp [h1, h2]
    · rw [show (x.level != y.level) = true by simpa using h2, show decide (x = y) = false from decide_eq_false (fun e => h2 (by rw [e]))]
      simp [h1]
  · rw [show (x.kind != y.kind) = true by simpa using h1, show decide (x = y) = false from decide_eq_false (fun e => h1 (by rw [e])), cond_true]
theorem p_iSameAgent (x y : DAgent) : m_impl_sameAgent x y = some (decide (x = y)) := by
  unfold m_impl_sameAgent
  rw [p_EqInt, Option.bind_some, p_EqPort, Option.bind_some]
  by_cases h1 : x.kind = y.kind
  · by_cases h2 : x.level = y.level
    · by_cases h3 : x.value = y.value
      · by_cases h4 : x.data = y.data
        · have e : decide (x = y) = decide (x.ports = y.ports) := decide_eq_decide.2 (by rw [agentEq]; simp [h1, h2, h3, h4])
          rw [e]; simp [h1, h2, h3, h4]
        · rw [decide_eq_false h4, show decide (x = y) = false from decide_eq_false (fun e => h4 (by rw [e]))]
          simp [h1, h2, h3]
      · rw [show decide (x = y) = false from decide_eq_false (fun e => h3 (by rw [e])), show (x.value == y.value) = false by simpa using h3]
        simp [h1, h2]
    · rw [show decide (x = y) = false from decide_eq_false (fun e => h2 (by rw [e])), show (x.level == y.level) = false by simpa using h2]
      simp [h1]
  · rw [show decide (x = y) = false from decide_eq_false (fun e => h1 (by rw [e])), show (x.kind == y.kind) = false by simpa using h1, cond_false]
theorem netEq (d e : DNet) : decide (d = e) = decide (d.agents = e.agents) := by
  obtain ⟨a⟩ := d
  obtain ⟨b⟩ := e
  exact decide_eq_decide.2 (by simp)
theorem p_sSame (d e : DNet) : m_spec_l11Same d e = some (decide (d = e)) := by
  unfold m_spec_l11Same
  rw [bne_nat, netEq]
  by_cases hl : d.agents.length = e.agents.length
  · rw [decide_eq_true hl, Bool.not_true, cond_false, ← ite_dec]
    exact eqI hl (fun g k hx hy => by
      simp -implicitDefEqProofs only [m_spec_l11Same_L1, m_spec_l11Same_B1, dlt hx, cond_true, getI_nat (List.getElem?_eq_getElem hx), getI_nat (List.getElem?_eq_getElem hy), Option.bind_some, p_sSameAgent]
      by_cases h : d.agents[k] = e.agents[k]
      · rw [if_pos h, decide_eq_true h, cond_true]
      · rw [if_neg h, decide_eq_false h, cond_false])
      (fun g => by simp -implicitDefEqProofs only [m_spec_l11Same_L1, m_spec_l11Same_B1, dge, cond_false, m_spec_l11Same_A1]) _ (Nat.lt_succ_self _)
  · rw [decide_eq_false hl, Bool.not_false, cond_true, decide_len hl]
theorem p_iSame (d e : DNet) : m_impl_SameNet d e = some (decide (d = e)) := by
  unfold m_impl_SameNet m_slices_EqualFunc_impl_Agent_impl_Agent_impl_Agent_impl_Agent
  rw [bne_nat, netEq]
  by_cases hl : d.agents.length = e.agents.length
  · rw [decide_eq_true hl, Bool.not_true, cond_false, ← ite_dec]
    have := eqI (L := fun g k => m_slices_EqualFunc_impl_Agent_impl_Agent_impl_Agent_impl_Agent_L1 d.agents e.agents (fun x0 x1 => m_impl_sameAgent x0 x1) m_slices_EqualFunc_impl_Agent_impl_Agent_impl_Agent_impl_Agent_A1 g k) (no := some false) (yes := some true) hl (fun g k hx hy => by
      simp -implicitDefEqProofs only [m_slices_EqualFunc_impl_Agent_impl_Agent_impl_Agent_impl_Agent_L1, m_slices_EqualFunc_impl_Agent_impl_Agent_impl_Agent_impl_Agent_B1, dlt hx, cond_true, getI_nat (List.getElem?_eq_getElem hx), getI_nat (List.getElem?_eq_getElem hy), Option.bind_some, p_iSameAgent]
      by_cases h : d.agents[k] = e.agents[k]
      · rw [if_pos h, decide_eq_true h, cond_true]
      · rw [if_neg h, decide_eq_false h, cond_false])
      (fun g => by simp -implicitDefEqProofs only [m_slices_EqualFunc_impl_Agent_impl_Agent_impl_Agent_impl_Agent_L1, m_slices_EqualFunc_impl_Agent_impl_Agent_impl_Agent_impl_Agent_B1, dge, cond_false, m_slices_EqualFunc_impl_Agent_impl_Agent_impl_Agent_impl_Agent_A1]) (d.agents.length + 1) (Nat.lt_succ_self _)
    rw [this]
    by_cases h : d.agents = e.agents
    · rw [if_pos h]; rfl
    · rw [if_neg h]; rfl
  · rw [decide_eq_false hl, Bool.not_false, cond_true, decide_len hl, Option.bind_some]
theorem canonNet_len {xs : List DAgent} (G : Good xs) : (canonNet xs).agents.length = xs.length := by
  unfold canonNet renL
  rw [List.length_map, canon_len G]
noncomputable def sameShape (d e : DNet) : Bool := validNet d && validNet e && decide (canonNet d.agents = canonNet e.agents)
theorem p_sShape {d e : DNet} (hd : validNet d = true) (he : validNet e = true) (hs : Small d.agents) (hs' : Small e.agents) : m_spec_l12Shape d e = some (decide (canonNet d.agents = canonNet e.agents)) := by
  obtain ⟨xs⟩ := d
  obtain ⟨ys⟩ := e
  unfold m_spec_l12Shape
  rw [p_sNet (good hd) hs, Option.bind_some, p_sNet (good he) hs', Option.bind_some, p_sSame, Option.bind_some]
theorem p_sSameShape (d e : DNet) (hs : Small d.agents) (hs' : Small e.agents) : m_spec_SameShape d e = some (sameShape d e) := by
  unfold m_spec_SameShape sameShape
  rw [p_ok _ hs, Option.bind_some, p_ok _ hs', Option.bind_some]
  cases hd : validNet d with
  | false => rfl
  | true =>
    cases he : validNet e with
    | false => rfl
    | true => rw [cond_true, cond_true, p_sShape hd he hs hs']; rfl
theorem p_iSameShape (d e : DNet) (hs : Small d.agents) (hs' : Small e.agents) : m_impl_SameShape d e = some (sameShape d e) := by
  unfold m_impl_SameShape sameShape
  rw [p_valid _ hs, Option.bind_some, p_valid _ hs', Option.bind_some]
  cases hd : validNet d with
  | false => rfl
  | true =>
    cases he : validNet e with
    | false => rfl
    | true =>
      rw [cond_true, cond_true]
      by_cases hl : d.agents.length = e.agents.length
      · rw [show ((d.agents.length : Int) == (e.agents.length : Int)) = true by simp [hl], cond_true]
        obtain ⟨xs⟩ := d
        obtain ⟨ys⟩ := e
        rw [p_iNet (good hd) hs, Option.bind_some, p_iNet (good he) hs', Option.bind_some, p_iSame]; rfl
      · rw [show ((d.agents.length : Int) == (e.agents.length : Int)) = false by simp; omega, cond_false]
        have : ¬ canonNet d.agents = canonNet e.agents := fun h => hl (by rw [← canonNet_len (good hd), ← canonNet_len (good he), h])
        rw [decide_eq_false this]; rfl
end
section
open Go.RowKit
set_option linter.unusedVariables false
theorem Blk.only {w w' : World} {g lo hi : Nat} {t : TypeId} {cs : Array Value} (h : Blk w g t cs) (ho : OnlyIn lo hi w w') (hg : g < lo ∨ hi ≤ g) : Blk w' g t cs := (ho.block g hg).trans h
end
section
open Go.RowKit
set_option linter.unusedVariables false
theorem specSameShape_v (v u : Value) (x y : DNet) (w : World) {B B' : Nat} (h : RdT netRd w B v x) (h' : RdT netRd w B' u y) (hB : B ≤ w.heap.size) (hB' : B' ≤ w.heap.size) (hs : szNet x ≤ 1048576) (hs' : szNet y ≤ 1048576) :
    Calls Tryz.prog 19 #[v, u] w fun e w' => e = .returned (.bool (sameShape x y)) ∧ Below w.heap.size w w' :=
  c_m_spec_SameShape x y _ (p_sSameShape x y hs hs') v u w (h.more netRd_ok hB) (h'.more netRd_ok hB')
theorem implSameShape_v (v u : Value) (x y : DNet) (w : World) {B B' : Nat} (h : RdT netRd w B v x) (h' : RdT netRd w B' u y) (hB : B ≤ w.heap.size) (hB' : B' ≤ w.heap.size) (hs : szNet x ≤ 1048576) (hs' : szNet y ≤ 1048576) :
    Calls Tryz.prog 20 #[v, u] w fun e w' => e = .returned (.bool (sameShape x y)) ∧ Below w.heap.size w w' :=
  c_m_impl_SameShape x y _ (p_iSameShape x y hs hs') v u w (h.more netRd_ok hB) (h'.more netRd_ok hB')
end
section
open Go.RowKit
set_option linter.unusedVariables false
set_option linter.unusedSimpArgs false
theorem szInt64S_v (v : Value) (xs : List Int) (left : Int) (w : World) {B : Nat} (h : RdS intRd 1 w B v xs) (hB : B ≤ w.heap.size) (h0 : 0 ≤ left) (h1 : left ≤ 1048576) :
    Calls Tryz.prog 67 #[v, .int .i64 left] w fun e w' => e = .returned (.int .i64 (szL left xs.length)) ∧ Below w.heap.size w w' := by
  obtain ⟨A, n, c, rfl, h, hnc, hcm⟩ := h
  have hr := Below.refl w.heap.size w
  have hl := h.len
  rw [← hl]
  unfold maxLen at hcm
  clear h hl
  by_cases hl : left - n < 0
  · have He := Lib.hid (szL_neg hl)
    go_enter Tryz.func67, Tryz.ntmps67
    go_wp2
    go_ret
    exact ⟨by rw [He.out]; rfl, hr⟩
  · have He := Lib.hid (szL_pos hl)
    go_enter Tryz.func67, Tryz.ntmps67
    go_wp2
    go_ret
    exact ⟨by rw [He.out]; rfl, hr⟩
theorem szPortS_v (v : Value) (xs : List DPort) (left : Int) (w : World) {B : Nat} (h : RdS portRd 2 w B v xs) (hB : B ≤ w.heap.size) (h0 : 0 ≤ left) (h1 : left ≤ 1048576) :
    Calls Tryz.prog 68 #[v, .int .i64 left] w fun e w' => e = .returned (.int .i64 (szL left xs.length)) ∧ Below w.heap.size w w' := by
  obtain ⟨A, n, c, rfl, h, hnc, hcm⟩ := h
  have hr := Below.refl w.heap.size w
  have hl := h.len
  rw [← hl]
  unfold maxLen at hcm
  clear h hl
  by_cases hl : left - n < 0
  · have He := Lib.hid (szL_neg hl)
    go_enter Tryz.func68, Tryz.ntmps68
    go_wp2
    go_ret
    exact ⟨by rw [He.out]; rfl, hr⟩
  · have He := Lib.hid (szL_pos hl)
    go_enter Tryz.func68, Tryz.ntmps68
    go_wp2
    go_ret
    exact ⟨by rw [He.out]; rfl, hr⟩
set_option maxHeartbeats 1000000 in
theorem szAgent_v (v : Value) (x : DAgent) (left : Int) (w : World) {B : Nat} (h : RdT agentRd w B v x) (hB : B ≤ w.heap.size) (h0 : 0 ≤ left) (h1 : left ≤ 1048576) :
    Calls Tryz.prog 37 #[v, .int .i64 left] w fun e w' => e = .returned (.int .i64 (szL left (szAgent x))) ∧ Below w.heap.size w w' := by
  obtain ⟨cs, rfl, A1, n1, c1, A2, n2, c2, rfl, ⟨g1, r1⟩, ⟨g2, r2⟩⟩ := h
  have hb : ∀ o1, Below w.heap.size w (w.alloc o1) := fun o1 => (Below.refl _ _).alloc (Nat.le_refl _) _
  obtain ⟨s0, es0⟩ : ∃ s : Nat, s = x.data.length := ⟨_, rfl⟩
  obtain ⟨s1, es1⟩ : ∃ s : Nat, s = x.ports.length := ⟨_, rfl⟩
  have Hs : Hid (szAgent x = s0 + s1) := by show _ = _; rw [es0, es1]; rfl
  have Es0 := Lib.hid es0
  have Es1 := Lib.hid es1
  clear es0 es1
  by_cases d0 : left - (s0 : Int) < 0
  · have He : Hid (szL left (szAgent x) = -1) := by show _ = _; rw [Hs.out, szL_neg (by omega)]
    go_enter Tryz.func37, Tryz.ntmps37
    go_wp2_with fail
    refine (szInt64S_v _ x.data (left) _ (B := B) ⟨A1, n1, c1, rfl, g1.below intRd_ok ((hb _).mono hB), r1⟩ (Nat.le_trans hB (hb _).size) (by omega) (by omega)).mono ?_
    rw [← Es0.out, szL_neg (by omega)]
    rintro e w1 ⟨rfl, q1⟩
    have T := (hb _).trans (q1.mono (hb _).size)
    have B1 := (Blk.new w _ _).below q1 (by simp)
    have z1 : w.heap.size + 1 ≤ w1.heap.size := by have := q1.size; simpa using this
    clear q1
    go_wp2_with fail
    go_ret
    exact ⟨by rw [He.out]; rfl, T⟩
  · skip
    by_cases d1 : left - s0 - (s1 : Int) < 0
    · have He : Hid (szL left (szAgent x) = -1) := by show _ = _; rw [Hs.out, szL_neg (by omega)]
      go_enter Tryz.func37, Tryz.ntmps37
      go_wp2_with fail
      refine (szInt64S_v _ x.data (left) _ (B := B) ⟨A1, n1, c1, rfl, g1.below intRd_ok ((hb _).mono hB), r1⟩ (Nat.le_trans hB (hb _).size) (by omega) (by omega)).mono ?_
      rw [← Es0.out, szL_pos (by omega)]
      rintro e w1 ⟨rfl, q1⟩
      have T := (hb _).trans (q1.mono (hb _).size)
      have B1 := (Blk.new w _ _).below q1 (by simp)
      have z1 : w.heap.size + 1 ≤ w1.heap.size := by have := q1.size; simpa using this
      clear q1
      have cB := B1.cell
      go_wp2_with fail
      clear cB
      refine (szPortS_v _ x.ports (left - s0) _ (B := B) ⟨A2, n2, c2, rfl, g2.below portRd_ok ((T).mono hB), r2⟩ (Nat.le_trans hB (T).size) (by omega) (by omega)).mono ?_
      rw [← Es1.out, szL_neg (by omega)]
      rintro e w2 ⟨rfl, q2⟩
      have T := T.trans (q2.mono T.size)
      have B1 := B1.below q2 (by omega)
      have z2 := Nat.le_trans z1 q2.size
      clear q2
      go_wp2_with fail
      go_ret
      exact ⟨by rw [He.out]; rfl, T⟩
    · skip
      have He : Hid (szL left (szAgent x) = left - s0 - s1) := by show _ = _; rw [Hs.out, szL_pos (by omega)]; try omega
      go_enter Tryz.func37, Tryz.ntmps37
      go_wp2_with fail
      refine (szInt64S_v _ x.data (left) _ (B := B) ⟨A1, n1, c1, rfl, g1.below intRd_ok ((hb _).mono hB), r1⟩ (Nat.le_trans hB (hb _).size) (by omega) (by omega)).mono ?_
      rw [← Es0.out, szL_pos (by omega)]
      rintro e w1 ⟨rfl, q1⟩
      have T := (hb _).trans (q1.mono (hb _).size)
      have B1 := (Blk.new w _ _).below q1 (by simp)
      have z1 : w.heap.size + 1 ≤ w1.heap.size := by have := q1.size; simpa using this
      clear q1
      have cB := B1.cell
      go_wp2_with fail
      clear cB
      refine (szPortS_v _ x.ports (left - s0) _ (B := B) ⟨A2, n2, c2, rfl, g2.below portRd_ok ((T).mono hB), r2⟩ (Nat.le_trans hB (T).size) (by omega) (by omega)).mono ?_
      rw [← Es1.out, szL_pos (by omega)]
      rintro e w2 ⟨rfl, q2⟩
      have T := T.trans (q2.mono T.size)
      have B1 := B1.below q2 (by omega)
      have z2 := Nat.le_trans z1 q2.size
      clear q2
      go_wp2_with fail
      go_ret
      exact ⟨by rw [He.out]; rfl, T⟩
theorem szAgentS_take {xs : List DAgent} {k : Nat} {x : DAgent} (h : xs[k]? = some x) : ((xs.take (k + 1)).map szAgent).sum = ((xs.take k).map szAgent).sum + szAgent x := by
  rw [take_succ_some h]; simp
theorem szAgentS_le (xs : List DAgent) (k : Nat) : ((xs.take k).map szAgent).sum ≤ (xs.map szAgent).sum := by
  have h : ((xs.take k ++ xs.drop k).map szAgent).sum = (xs.map szAgent).sum := by rw [List.take_append_drop]
  rw [List.map_append, List.sum_append] at h
  omega
set_option maxHeartbeats 1000000 in
theorem szAgentS_v (v : Value) (xs : List DAgent) (left : Int) (w : World) {B : Nat} (h : RdS agentRd 5 w B v xs) (hB : B ≤ w.heap.size) (h0 : 0 ≤ left) (h1 : left ≤ 1048576) :
    Calls Tryz.prog 23 #[v, .int .i64 left] w fun e w' => e = .returned (.int .i64 (szL left (szAgentS xs))) ∧ Below w.heap.size w w' := by
  obtain ⟨A, n, c, rfl, hx, hnc, hcm⟩ := h
  have hr := Below.refl w.heap.size w
  unfold maxLen at hcm
  have lx := Lib.hid hx.len
  by_cases hl : left - n < 0
  · have He : Hid (szL left (szAgentS xs) = -1) := szL_neg (by unfold szAgentS; rw [← lx.out]; omega)
    go_enter Tryz.func23, Tryz.ntmps23
    go_wp2
    go_ret
    exact ⟨by rw [He.out]; rfl, hr⟩
  · go_enter Tryz.func23, Tryz.ntmps23
    go_wp2
    go_loopw [1, 5] (fun s i wr => ∃ (k : Nat) (l : Int), k ≤ n ∧ i = .int .i64 k ∧ s = .int .i64 l ∧ 0 ≤ l ∧ l ≤ 1048576 ∧ Hid (l = left - n - (((xs.take k).map szAgent).sum : Nat)) ∧ Below w.heap.size w wr) (fun _ i _ => n - (intOf i).toNat)
    case atStart => exact ⟨0, left - n, by omega, rfl, rfl, by omega, by omega, by simp [Hid], hr⟩
    case round =>
      obtain ⟨k, s, hk, rfl, rfl, hs0, hs1, hs, hq⟩ := hrel
      by_cases hlt : k < n
      · obtain ⟨b, off, x, A1, n1, c1, A2, n2, c2, rfl, hb, hxk, hc0, hc1, hc2, hc3, hc4, ⟨g1, r1⟩, ⟨g2, r2⟩⟩ := (hx.below agentRd_ok (hq.mono hB)).agent hlt
        have Hxk := Lib.hid hxk
        clear hxk
        by_cases hd : s - (szAgent x : Int) < 0
        · have f := szL_neg hd
          have He : Hid (szL left (szAgentS xs) = -1) := szL_neg (by
            have e1 := szAgentS_le xs (k + 1)
            rw [szAgentS_take Hxk.out] at e1
            have e2 := hs.out
            have e3 := lx.out
            unfold szAgentS
            omega)
          go_wp2_with fail
          refine (szAgent_v _ x s _ (B := B) ⟨_, rfl, A1, n1, c1, A2, n2, c2, rfl, ⟨g1, r1⟩, ⟨g2, r2⟩⟩ (Nat.le_trans hB hq.size) hs0 hs1).mono ?_
          rintro e w1 ⟨rfl, q1⟩
          go_wp2_with fail
          go_ret
          exact ⟨by rw [He.out]; rfl, hq.trans (q1.mono hq.size)⟩
        · have f := szL_pos hd
          have Hn : Hid (s - (szAgent x : Int) = left - n - (((xs.take (k + 1)).map szAgent).sum : Nat)) := by
            have e1 := szAgentS_take Hxk.out
            have e2 := hs.out
            show _ = _
            rw [e1]
            omega
          go_wp2_with fail
          refine (szAgent_v _ x s _ (B := B) ⟨_, rfl, A1, n1, c1, A2, n2, c2, rfl, ⟨g1, r1⟩, ⟨g2, r2⟩⟩ (Nat.le_trans hB hq.size) hs0 hs1).mono ?_
          rintro e w1 ⟨rfl, q1⟩
          go_wp2_with fail
          go_roundw
          case rel => exact ⟨k + 1, s - (szAgent x : Int), by omega, by go_num, rfl, by omega, by omega, Hn.out, hq.trans (q1.mono hq.size)⟩
          case measure => simp [intOf]; omega
      · have He : Hid (szL left (szAgentS xs) = s) := by
          have e1 : xs.take k = xs := List.take_of_length_le (by have := lx.out; omega)
          have e2 := hs.out
          rw [e1] at e2
          have e3 := lx.out
          show _ = _
          rw [szL_pos (by unfold szAgentS; omega)]
          unfold szAgentS
          omega
        go_wp2_with fail
        go_ret
        exact ⟨by rw [He.out]; rfl, hq⟩
set_option maxHeartbeats 1000000 in
theorem szNet_v (v : Value) (x : DNet) (left : Int) (w : World) {B : Nat} (h : RdT netRd w B v x) (hB : B ≤ w.heap.size) (h0 : 0 ≤ left) (h1 : left ≤ 1048576) :
    Calls Tryz.prog 7 #[v, .int .i64 left] w fun e w' => e = .returned (.int .i64 (szL left (szNet x))) ∧ Below w.heap.size w w' := by
  obtain ⟨cs, rfl, A1, n1, c1, rfl, ⟨g1, r1⟩⟩ := h
  have hb : ∀ o1, Below w.heap.size w (w.alloc o1) := fun o1 => (Below.refl _ _).alloc (Nat.le_refl _) _
  obtain ⟨s0, es0⟩ : ∃ s : Nat, s = szAgentS x.agents := ⟨_, rfl⟩
  have Hs : Hid (szNet x = s0) := by show _ = _; rw [es0]; rfl
  have Es0 := Lib.hid es0
  clear es0
  by_cases d0 : left - (s0 : Int) < 0
  · have He : Hid (szL left (szNet x) = -1) := by show _ = _; rw [Hs.out, szL_neg (by omega)]
    go_enter Tryz.func7, Tryz.ntmps7
    go_wp2_with fail
    refine (szAgentS_v _ x.agents (left) _ (B := B) ⟨A1, n1, c1, rfl, g1.below agentRd_ok ((hb _).mono hB), r1⟩ (Nat.le_trans hB (hb _).size) (by omega) (by omega)).mono ?_
    rw [← Es0.out, szL_neg (by omega)]
    rintro e w1 ⟨rfl, q1⟩
    have T := (hb _).trans (q1.mono (hb _).size)
    have B1 := (Blk.new w _ _).below q1 (by simp)
    have z1 : w.heap.size + 1 ≤ w1.heap.size := by have := q1.size; simpa using this
    clear q1
    go_wp2_with fail
    go_ret
    exact ⟨by rw [He.out]; rfl, T⟩
  · skip
    have He : Hid (szL left (szNet x) = left - s0) := by show _ = _; rw [Hs.out, szL_pos (by omega)]; try omega
    go_enter Tryz.func7, Tryz.ntmps7
    go_wp2_with fail
    refine (szAgentS_v _ x.agents (left) _ (B := B) ⟨A1, n1, c1, rfl, g1.below agentRd_ok ((hb _).mono hB), r1⟩ (Nat.le_trans hB (hb _).size) (by omega) (by omega)).mono ?_
    rw [← Es0.out, szL_pos (by omega)]
    rintro e w1 ⟨rfl, q1⟩
    have T := (hb _).trans (q1.mono (hb _).size)
    have B1 := (Blk.new w _ _).below q1 (by simp)
    have z1 : w.heap.size + 1 ≤ w1.heap.size := by have := q1.size; simpa using this
    clear q1
    go_wp2_with fail
    go_ret
    exact ⟨by rw [He.out]; rfl, T⟩
end
section
open Go.RowKit
set_option linter.unusedVariables false
set_option linter.unusedSimpArgs false
theorem toPort_v (v : Value) (x : DPort) (w : World) {B : Nat} (h : RdT portRd w B v x) :
    Calls Tryz.prog 91 #[v] w fun e w' => e = .returned (.agg #[.int .i64 x.agent, .int .i64 x.slot]) ∧ Below w.heap.size w w' := by
  obtain ⟨cs, rfl, rfl⟩ := h
  go_enter Tryz.func91, Tryz.ntmps91
  go_wp2_with fail
  exact bodyPost_ret (v := .agg #[.int .i64 x.agent, .int .i64 x.slot]) (by simp [results, Tryz.results91, go_sem]) rfl ⟨rfl, (((Below.refl _ _).alloc (Nat.le_refl _) _).alloc (by simp) _).alloc (by simp; omega) _⟩
theorem info_PortS : (Tryz.prog.info? 65).map (fun i => (i.zero, i.size, i.bytes)) = some (some (.agg #[.int .i64 0, .int .i64 0]), 2, 16) := by kernel_rfl
set_option maxHeartbeats 1000000 in
theorem toPortS_v (v : Value) (xs : List DPort) (w : World) {B : Nat} (h : RdS portRd 2 w B v xs) (hB : B ≤ w.heap.size) (hs : xs.length ≤ 1048576) :
    Calls Tryz.prog 73 #[v] w fun e w' => Ret1 (fun v' => OwS portOw 2 w' v' xs w.heap.size w'.heap.size) e ∧ Below w.heap.size w w' := by
  obtain ⟨A, n, c, rfl, hx, hnc, hcm⟩ := h
  have lx := Lib.hid hx.len
  have hlen := hs
  have hn : n ≤ 1048576 := by have := lx.out; omega
  have hmk := run_make_sz 61 65 Tryz.underlying61 info_PortS n (by omega) (by omega)
  go_enter Tryz.func73, Tryz.ntmps73
  go_wp2
  clear hmk
  go_loopw [4] (fun i wr => ∃ k : Nat, k ≤ n ∧ i = .int .i64 k ∧ Below w.heap.size w wr ∧ w.heap.size + 1 ≤ wr.heap.size ∧ (∃ arr, Blk wr w.heap.size 65 arr ∧ Hid (arr.size = n * 2)) ∧ ∃ bs, ElAt portOw 2 wr w.heap.size 0 (xs.take k) bs ∧ bs.Nodup ∧ ∀ b ∈ bs, w.heap.size + 1 ≤ b ∧ b < wr.heap.size) (fun i _ => n - (intOf i).toNat)
  case atStart => exact ⟨0, by omega, rfl, (Below.refl _ _).alloc (Nat.le_refl _) _, by simp, ⟨_, Blk.new _ _ _, by simp [Hid, madeCells_size]⟩, [], rfl, List.nodup_nil, fun b hb => by simp at hb⟩
  case round =>
    obtain ⟨k, hk, rfl, hb, hzz, ⟨arr, BA, hasz⟩, bs, hel, hnd, hin⟩ := hrel
    by_cases hlt : k < n
    · obtain ⟨b, off, x, rfl, hlb, hxk, hc0, hc1⟩ := (hx.below portRd_ok (hb.mono hB)).port hlt
      have Hxk := Lib.hid hxk
      clear hxk
      go_wp2_with fail
      refine (toPort_v _ x _ (B := 0) ⟨_, rfl, rfl⟩).mono ?_
      rintro e w1 ⟨rfl, q1⟩
      obtain ⟨bl, HO, nd1, in1⟩ : ∃ bl, portOw w1 [.int .i64 x.agent, .int .i64 x.slot] x bl ∧ bl.Nodup ∧ ∀ b ∈ bl, wr.heap.size ≤ b ∧ b < w1.heap.size := ⟨[], ⟨rfl, rfl⟩, List.nodup_nil, fun b hb => by simp at hb⟩
      have BA := BA.below q1 (by omega)
      obtain ⟨z0, hz0⟩ := BA.some_ (i := k * 2) (by rw [hasz.out]; omega)
      obtain ⟨z1, hz1⟩ := BA.some_ (i := k * 2 + 1) (by rw [hasz.out]; omega)
      have fz := BA.frozen
      have zz := q1.size
      have Hel := Lib.hid (hel.keep portOw_ok (q1.block _ (by omega)) (fun k hk => q1.block k (hin k hk).2))
      clear hel
      have TB : ∀ y0 y1, Below w.heap.size w ((w1.setCell ⟨w.heap.size, k * 2, none⟩ y0).setCell ⟨w.heap.size, k * 2 + 1, none⟩ y1) := fun y0 y1 => (((hb.trans (q1.mono hb.size)).setCell (p := ⟨w.heap.size, k * 2, none⟩) (Nat.le_refl _) _).setCell (p := ⟨w.heap.size, k * 2 + 1, none⟩) (Nat.le_refl _) _)
      go_wp2_with fail
      go_roundw
      case rel =>
        refine ⟨k + 1, by omega, by go_num, TB _ _, by simp [World.setCell]; omega, ⟨_, ((BA.set_ (k * 2) _).set_ (k * 2 + 1) _), by simpa [Hid] using hasz⟩, bs ++ bl, ?_⟩
        rw [take_succ_some Hxk.out]
        have hlk : (xs.take k).length = k := by have := lx.out; simp; omega
        have h1 := ElAt.setRun portOw_ok (vs := [.int .i64 x.agent, .int .i64 x.slot]) (p := k * 2) Hel.out (fun hh => by have := hin _ hh; omega) (Or.inr (by rw [hlk]; omega))
        have hnn := nodup_two hnd nd1 hin in1 hzz zz
        refine ⟨ElAt.append h1 (ElAt.one (portOw_ok.keep (w' := setRun w1 w.heap.size (k * 2) [.int .i64 x.agent, .int .i64 x.slot]) (fun b hb => setRun_block (fun e => by have := in1 b hb; omega)) HO) ?_), hnn.1, fun b hb => by have := hnn.2 b hb; simp only [World.size_setCell]; exact this⟩
        rw [hlk, Nat.zero_add]
        exact setRun_csAt (vs := [.int .i64 x.agent, .int .i64 x.slot]) (fun j hj => by
          have hj : j < 2 := by simpa using hj
          match j, hj with
          | 0, _ => exact ⟨z0, hz0⟩
          | 1, _ => exact ⟨z1, hz1⟩) (fun j hj => fz _)
      case measure => simp [intOf]; omega
    · have hkn : k = n := by omega
      have e : xs.take k = xs := List.take_of_length_le (by have := lx.out; omega)
      rw [e] at hel
      have Hkn := Lib.hid hkn
      clear hkn e
      go_wp2
      go_ret
      exact ⟨⟨_, rfl, some ⟨w.heap.size, 0, none⟩, n, n, w.heap.size :: bs, rfl, ⟨lx.out, .inr ⟨_, _, bs, rfl, rfl, hel⟩⟩, List.nodup_cons.2 ⟨fun hh => by have := hin _ hh; omega, hnd⟩, fun b hb => by
        rcases List.mem_cons.1 hb with rfl | hb
        · omega
        · have := hin b hb; omega, Nat.le_refl _, by unfold maxLen; omega⟩, hb⟩
end
section
open Go.RowKit
set_option linter.unusedVariables false
set_option linter.unusedSimpArgs false
set_option maxHeartbeats 1000000 in
theorem toAgent_v (v : Value) (x : DAgent) (w : World) {B : Nat} (h : RdT agentRd w B v x) (hB : B ≤ w.heap.size) (hs : szAgent x ≤ 1048576) :
    Calls Tryz.prog 44 #[v] w fun e w' => Ret1 (fun v' => OwT agentOw w' v' x w.heap.size w'.heap.size) e ∧ Below w.heap.size w w' := by
  obtain ⟨cs, rfl, A1, n1, c1, A2, n2, c2, rfl, ⟨h1, r1⟩, ⟨h2, r2⟩⟩ := h
  unfold szAgent at hs
  have hb : ∀ o1 o2 o3, Below w.heap.size w (((w.alloc o1).alloc o2).alloc o3) := fun o1 o2 o3 => (((Below.refl _ _).alloc (Nat.le_refl _) _).alloc (by simp) _).alloc (by simp; omega) _
  go_enter Tryz.func44, Tryz.ntmps44
  go_wp2_with fail
  refine (toInt64S_v _ x.data _ (B := B) ⟨A1, n1, c1, rfl, h1.below intRd_ok ((hb _ _ _).mono hB), r1⟩ (Nat.le_trans hB (hb _ _ _).size) (by first | omega | (unfold lenOk; omega))).mono ?_
  rintro e w1 ⟨⟨v1, rfl, O1⟩, q1⟩
  have z1 : w.heap.size + 1 + 1 + 1 ≤ w1.heap.size := by have := q1.size; simpa using this
  have O1 := O1.wide (lo' := w.heap.size + 1 + 1 + 1) (hi' := w1.heap.size) (by simp) (Nat.le_refl _)
  obtain ⟨A1', m1, d1, bs1, rfl, ow1, nd1, in1, rr1⟩ := O1
  have T1 := (hb _ _ _).trans (q1.mono (hb _ _ _).size)
  have BB := blk3_0.below q1 (by simp <;> omega)
  have BR := blk3_1.below q1 (by simp <;> omega)
  have BO := blk3_2.below q1 (by simp <;> omega)
  clear q1
  have cB := BB.cell
  have cO := BO.cell
  have fO := BO.frozen
  go_wp2_with fail
  clear cB cO fO
  have T1 := T1.setCell (p := ⟨w.heap.size + 1 + 1, 3, none⟩) (by simp; omega) (.slice A1' m1 d1)
  have BB := BB.far (p := ⟨w.heap.size + 1 + 1, 3, none⟩) (by simp; omega) (.slice A1' m1 d1)
  have BR := BR.far (p := ⟨w.heap.size + 1 + 1, 3, none⟩) (by simp) (.slice A1' m1 d1)
  have BO := BO.set_ 3 (.slice A1' m1 d1)
  have ow1 := ow1.keep intOw_ok (w' := World.setCell w1 ⟨w.heap.size + 1 + 1, 3, none⟩ (.slice A1' m1 d1)) (fun k hk => Below.heap_setCell _ _ _ _ (by have := in1 k hk; simp; omega))
  refine (toPortS_v _ x.ports _ (B := B) ⟨A2, n2, c2, rfl, h2.below portRd_ok (T1.mono hB), r2⟩ (Nat.le_trans hB T1.size) (by first | omega | (unfold lenOk; omega))).mono ?_
  rintro e w2 ⟨⟨v2, rfl, O2⟩, q2⟩
  have z2 : w1.heap.size ≤ w2.heap.size := by have := q2.size; simpa using this
  have O2 := O2.wide (lo' := w1.heap.size) (hi' := w2.heap.size) (by simp) (Nat.le_refl _)
  obtain ⟨A2', m2, d2, bs2, rfl, ow2, nd2, in2, rr2⟩ := O2
  have T1 := T1.trans (q2.mono T1.size)
  have BB := BB.below q2 (by simp <;> omega)
  have BR := BR.below q2 (by simp <;> omega)
  have BO := BO.below q2 (by simp <;> omega)
  have ow1 := ow1.keep intOw_ok (w' := w2) (fun k hk => q2.block k (by have := in1 k hk; simp <;> omega))
  clear q2
  have cB := BB.cell
  have cO := BO.cell
  have fO := BO.frozen
  have cR := BR.cell
  have fR := BR.frozen
  go_wp2_with fail
  have hfin : ∀ w', OnlyIn (w.heap.size + 1) (w.heap.size + 1 + 1 + 1) w2 w' → (Ret1 (fun v' => OwT agentOw w' v' x w.heap.size w'.heap.size) (.returned (.agg #[.int .i64 x.kind, .int .i64 x.level, .int .i64 x.value, (.slice A1' m1 d1), (.slice A2' m2 d2)])) ∧ Below w.heap.size w w') := fun w' ho => by
    refine ⟨⟨_, rfl, [.int .i64 x.kind, .int .i64 x.level, .int .i64 x.value, (.slice A1' m1 d1), (.slice A2' m2 d2)], bs1 ++ bs2, rfl, ⟨A1', m1, d1, A2', m2, d2, bs1, bs2, rfl, ⟨ow1.keep intOw_ok (fun k hk => ho.block k (.inr (by have := in1 k hk; omega))), rr1⟩, ⟨ow2.keep portOw_ok (fun k hk => ho.block k (.inr (by have := in2 k hk; omega))), rr2⟩, rfl⟩, ?_⟩, T1.trans (ho.below.mono (by omega))⟩
    have h1 : bs1.Nodup ∧ ∀ b ∈ bs1, w.heap.size ≤ b ∧ b < w1.heap.size := ⟨nd1, fun b hb => by have := in1 b hb; omega⟩
    have h2 := nodup_two (lo := w.heap.size) (mid := w1.heap.size) (hi := w2.heap.size) h1.1 nd2 (fun b hb => by have := h1.2 b hb; omega) in2 (by omega) (by omega)
    exact ⟨h2.1, fun b hb => by have := h2.2 b hb; have := ho.size; omega⟩
  refine bodyPost_ret (v := .agg #[.int .i64 x.kind, .int .i64 x.level, .int .i64 x.value, (.slice A1' m1 d1), (.slice A2' m2 d2)]) (by simp [results, Tryz.results44, go_sem, cR]) rfl (hfin _ ?_)
  repeat (first | (with_reducible exact OnlyIn.refl _ _ _) | (with_reducible refine OnlyIn.setCell ?_ ⟨by simp, by simp⟩ _))
theorem szAgentS_el {xs : List DAgent} {k : Nat} {x : DAgent} (h : xs[k]? = some x) : szAgent x ≤ szAgentS xs := by
  have h1 := szAgentS_take h
  have h2 := szAgentS_le xs (k + 1)
  unfold szAgentS
  omega
theorem info_AgentS : (Tryz.prog.info? 63).map (fun i => (i.zero, i.size, i.bytes)) = some (some (.agg #[.int .i64 0, .int .i64 0, .int .i64 0, .slice none 0 0, .slice none 0 0]), 5, 72) := by kernel_rfl
set_option maxHeartbeats 1000000 in
theorem toAgentS_v (v : Value) (xs : List DAgent) (w : World) {B : Nat} (h : RdS agentRd 5 w B v xs) (hB : B ≤ w.heap.size) (hs : szAgentS xs ≤ 1048576) :
    Calls Tryz.prog 26 #[v] w fun e w' => Ret1 (fun v' => OwS agentOw 5 w' v' xs w.heap.size w'.heap.size) e ∧ Below w.heap.size w w' := by
  obtain ⟨A, n, c, rfl, hx, hnc, hcm⟩ := h
  have lx := Lib.hid hx.len
  have hlen : xs.length ≤ 1048576 := by unfold szAgentS at hs; omega
  have hn : n ≤ 1048576 := by have := lx.out; omega
  have hmk := run_make_sz 29 63 Tryz.underlying29 info_AgentS n (by omega) (by omega)
  go_enter Tryz.func26, Tryz.ntmps26
  go_wp2
  clear hmk
  go_loopw [4] (fun i wr => ∃ k : Nat, k ≤ n ∧ i = .int .i64 k ∧ Below w.heap.size w wr ∧ w.heap.size + 1 ≤ wr.heap.size ∧ (∃ arr, Blk wr w.heap.size 63 arr ∧ Hid (arr.size = n * 5)) ∧ ∃ bs, ElAt agentOw 5 wr w.heap.size 0 (xs.take k) bs ∧ bs.Nodup ∧ ∀ b ∈ bs, w.heap.size + 1 ≤ b ∧ b < wr.heap.size) (fun i _ => n - (intOf i).toNat)
  case atStart => exact ⟨0, by omega, rfl, (Below.refl _ _).alloc (Nat.le_refl _) _, by simp, ⟨_, Blk.new _ _ _, by simp [Hid, madeCells_size]⟩, [], rfl, List.nodup_nil, fun b hb => by simp at hb⟩
  case round =>
    obtain ⟨k, hk, rfl, hb, hzz, ⟨arr, BA, hasz⟩, bs, hel, hnd, hin⟩ := hrel
    by_cases hlt : k < n
    · obtain ⟨b, off, x, A1, n1, c1, A2, n2, c2, rfl, hlb, hxk, hc0, hc1, hc2, hc3, hc4, ⟨h1, r1⟩, ⟨h2, r2⟩⟩ := (hx.below agentRd_ok (hb.mono hB)).agent hlt
      have Hxk := Lib.hid hxk
      clear hxk
      go_wp2_with fail
      refine (toAgent_v _ x _ (B := B) ⟨_, rfl, A1, n1, c1, A2, n2, c2, rfl, ⟨h1, r1⟩, ⟨h2, r2⟩⟩ (Nat.le_trans hB hb.size) (by have := szAgentS_el Hxk.out; omega)).mono ?_
      rintro e w1 ⟨⟨v1, rfl, O1⟩, q1⟩
      obtain ⟨cs1, bl, rfl, HO, nd1, in1⟩ := O1
      have HO' := HO
      obtain ⟨A1', m1, d1, A2', m2, d2, b1, b2, rfl, _⟩ := HO'
      have BA := BA.below q1 (by omega)
      obtain ⟨z0, hz0⟩ := BA.some_ (i := k * 5) (by rw [hasz.out]; omega)
      obtain ⟨z1, hz1⟩ := BA.some_ (i := k * 5 + 1) (by rw [hasz.out]; omega)
      obtain ⟨z2, hz2⟩ := BA.some_ (i := k * 5 + 2) (by rw [hasz.out]; omega)
      obtain ⟨z3, hz3⟩ := BA.some_ (i := k * 5 + 3) (by rw [hasz.out]; omega)
      obtain ⟨z4, hz4⟩ := BA.some_ (i := k * 5 + 4) (by rw [hasz.out]; omega)
      have fz := BA.frozen
      have zz := q1.size
      have Hel := Lib.hid (hel.keep agentOw_ok (q1.block _ (by omega)) (fun k hk => q1.block k (hin k hk).2))
      clear hel
      have TB : ∀ y0 y1 y2 y3 y4, Below w.heap.size w (((((w1.setCell ⟨w.heap.size, k * 5, none⟩ y0).setCell ⟨w.heap.size, k * 5 + 1, none⟩ y1).setCell ⟨w.heap.size, k * 5 + 2, none⟩ y2).setCell ⟨w.heap.size, k * 5 + 3, none⟩ y3).setCell ⟨w.heap.size, k * 5 + 4, none⟩ y4) := fun y0 y1 y2 y3 y4 => ((((((hb.trans (q1.mono hb.size)).setCell (p := ⟨w.heap.size, k * 5, none⟩) (Nat.le_refl _) _).setCell (p := ⟨w.heap.size, k * 5 + 1, none⟩) (Nat.le_refl _) _).setCell (p := ⟨w.heap.size, k * 5 + 2, none⟩) (Nat.le_refl _) _).setCell (p := ⟨w.heap.size, k * 5 + 3, none⟩) (Nat.le_refl _) _).setCell (p := ⟨w.heap.size, k * 5 + 4, none⟩) (Nat.le_refl _) _)
      go_wp2_with fail
      go_roundw
      case rel =>
        refine ⟨k + 1, by omega, by go_num, TB _ _ _ _ _, by simp [World.setCell]; omega, ⟨_, (((((BA.set_ (k * 5) _).set_ (k * 5 + 1) _).set_ (k * 5 + 2) _).set_ (k * 5 + 3) _).set_ (k * 5 + 4) _), by simpa [Hid] using hasz⟩, bs ++ bl, ?_⟩
        rw [take_succ_some Hxk.out]
        have hlk : (xs.take k).length = k := by have := lx.out; simp; omega
        have h1 := ElAt.setRun agentOw_ok (vs := [.int .i64 x.kind, .int .i64 x.level, .int .i64 x.value, .slice A1' m1 d1, .slice A2' m2 d2]) (p := k * 5) Hel.out (fun hh => by have := hin _ hh; omega) (Or.inr (by rw [hlk]; omega))
        have hnn := nodup_two hnd nd1 hin in1 hzz zz
        refine ⟨ElAt.append h1 (ElAt.one (agentOw_ok.keep (w' := setRun w1 w.heap.size (k * 5) [.int .i64 x.kind, .int .i64 x.level, .int .i64 x.value, .slice A1' m1 d1, .slice A2' m2 d2]) (fun b hb => setRun_block (fun e => by have := in1 b hb; omega)) HO) ?_), hnn.1, fun b hb => by have := hnn.2 b hb; simp only [World.size_setCell]; exact this⟩
        rw [hlk, Nat.zero_add]
        exact setRun_csAt (vs := [.int .i64 x.kind, .int .i64 x.level, .int .i64 x.value, .slice A1' m1 d1, .slice A2' m2 d2]) (fun j hj => by
          have hj : j < 5 := by simpa using hj
          match j, hj with
          | 0, _ => exact ⟨z0, hz0⟩
          | 1, _ => exact ⟨z1, hz1⟩
          | 2, _ => exact ⟨z2, hz2⟩
          | 3, _ => exact ⟨z3, hz3⟩
          | 4, _ => exact ⟨z4, hz4⟩) (fun j hj => fz _)
      case measure => simp [intOf]; omega
    · have hkn : k = n := by omega
      have e : xs.take k = xs := List.take_of_length_le (by have := lx.out; omega)
      rw [e] at hel
      have Hkn := Lib.hid hkn
      clear hkn e
      go_wp2
      go_ret
      exact ⟨⟨_, rfl, some ⟨w.heap.size, 0, none⟩, n, n, w.heap.size :: bs, rfl, ⟨lx.out, .inr ⟨_, _, bs, rfl, rfl, hel⟩⟩, List.nodup_cons.2 ⟨fun hh => by have := hin _ hh; omega, hnd⟩, fun b hb => by
        rcases List.mem_cons.1 hb with rfl | hb
        · omega
        · have := hin b hb; omega, Nat.le_refl _, by unfold maxLen; omega⟩, hb⟩
set_option maxHeartbeats 1000000 in
theorem toNet_v (v : Value) (x : DNet) (w : World) {B : Nat} (h : RdT netRd w B v x) (hB : B ≤ w.heap.size) (hs : szNet x ≤ 1048576) :
    Calls Tryz.prog 9 #[v] w fun e w' => Ret1 (fun v' => OwT netOw w' v' x w.heap.size w'.heap.size) e ∧ Below w.heap.size w w' := by
  obtain ⟨cs, rfl, A1, n1, c1, rfl, ⟨h1, r1⟩⟩ := h
  unfold szNet at hs
  have hb : ∀ o1 o2 o3, Below w.heap.size w (((w.alloc o1).alloc o2).alloc o3) := fun o1 o2 o3 => (((Below.refl _ _).alloc (Nat.le_refl _) _).alloc (by simp) _).alloc (by simp; omega) _
  go_enter Tryz.func9, Tryz.ntmps9
  go_wp2_with fail
  refine (toAgentS_v _ x.agents _ (B := B) ⟨A1, n1, c1, rfl, h1.below agentRd_ok ((hb _ _ _).mono hB), r1⟩ (Nat.le_trans hB (hb _ _ _).size) (by first | omega | (unfold lenOk; omega))).mono ?_
  rintro e w1 ⟨⟨v1, rfl, O1⟩, q1⟩
  have z1 : w.heap.size + 1 + 1 + 1 ≤ w1.heap.size := by have := q1.size; simpa using this
  have O1 := O1.wide (lo' := w.heap.size + 1 + 1 + 1) (hi' := w1.heap.size) (by simp) (Nat.le_refl _)
  obtain ⟨A1', m1, d1, bs1, rfl, ow1, nd1, in1, rr1⟩ := O1
  have T1 := (hb _ _ _).trans (q1.mono (hb _ _ _).size)
  have BB := blk3_0.below q1 (by simp <;> omega)
  have BR := blk3_1.below q1 (by simp <;> omega)
  have BO := blk3_2.below q1 (by simp <;> omega)
  clear q1
  have cB := BB.cell
  have cO := BO.cell
  have fO := BO.frozen
  have cR := BR.cell
  have fR := BR.frozen
  go_wp2_with fail
  have hfin : ∀ w', OnlyIn (w.heap.size + 1) (w.heap.size + 1 + 1 + 1) w1 w' → (Ret1 (fun v' => OwT netOw w' v' x w.heap.size w'.heap.size) (.returned (.agg #[(.slice A1' m1 d1)])) ∧ Below w.heap.size w w') := fun w' ho => by
    refine ⟨⟨_, rfl, [(.slice A1' m1 d1)], bs1, rfl, ⟨A1', m1, d1, bs1, rfl, ⟨ow1.keep agentOw_ok (fun k hk => ho.block k (.inr (by have := in1 k hk; omega))), rr1⟩, rfl⟩, ?_⟩, T1.trans (ho.below.mono (by omega))⟩
    have h1 : bs1.Nodup ∧ ∀ b ∈ bs1, w.heap.size ≤ b ∧ b < w1.heap.size := ⟨nd1, fun b hb => by have := in1 b hb; omega⟩
    exact ⟨h1.1, fun b hb => by have := h1.2 b hb; have := ho.size; omega⟩
  refine bodyPost_ret (v := .agg #[(.slice A1' m1 d1)]) (by simp [results, Tryz.results9, go_sem, cR]) rfl (hfin _ ?_)
  repeat (first | (with_reducible exact OnlyIn.refl _ _ _) | (with_reducible refine OnlyIn.setCell ?_ ⟨by simp, by simp⟩ _))
end
section
open Go.RowKit
set_option linter.unusedVariables false
set_option linter.unusedSimpArgs false
set_option maxHeartbeats 1000000 in
theorem eqPort_v (v u : Value) (x y : DPort) (w : World) {B B' : Nat} (h : RdT portRd w B v x) (h' : RdT portRd w B' u y) (hB : B ≤ w.heap.size) (hB' : B' ≤ w.heap.size) :
    Calls Tryz.prog 111 #[v, u] w fun e w' => e = .returned (.bool (decide (x = y))) ∧ Below w.heap.size w w' := by
  obtain ⟨cs, rfl, rfl⟩ := h
  obtain ⟨cs, rfl, rfl⟩ := h'
  have hb : ∀ o1 o2, Below w.heap.size w ((w.alloc o1).alloc o2) := fun o1 o2 => ((Below.refl _ _).alloc (Nat.le_refl _) _).alloc (by simp) _
  by_cases e0 : x.agent = y.agent
  · have f0 : (x.agent != y.agent) = false := by simp [e0]
    by_cases e1 : x.slot = y.slot
    · have f1 : (x.slot != y.slot) = false := by simp [e1]
      have He : Hid (decide (x = y) = true) := decide_eq_true (by cases x; cases y; simp_all)
      clear e0 e1
      go_enter Tryz.func111, Tryz.ntmps111
      go_wp2_with fail
      go_ret
      exact ⟨by rw [He.out]; rfl, hb _ _⟩
    · have f1 : (x.slot != y.slot) = true := by simp [e1]
      have He : Hid (decide (x = y) = false) := decide_eq_false (by intro exy; exact e1 (by rw [exy]))
      clear e0 e1
      go_enter Tryz.func111, Tryz.ntmps111
      go_wp2_with fail
      go_ret
      exact ⟨by rw [He.out]; rfl, hb _ _⟩
  · have f0 : (x.agent != y.agent) = true := by simp [e0]
    have He : Hid (decide (x = y) = false) := decide_eq_false (by intro exy; exact e0 (by rw [exy]))
    clear e0
    go_enter Tryz.func111, Tryz.ntmps111
    go_wp2_with fail
    go_ret
    exact ⟨by rw [He.out]; rfl, hb _ _⟩
set_option maxHeartbeats 1000000 in
theorem eqPortS_v (v u : Value) (xs ys : List DPort) (w : World) {B B' : Nat} (h : RdS portRd 2 w B v xs) (h' : RdS portRd 2 w B' u ys) (hB : B ≤ w.heap.size) (hB' : B' ≤ w.heap.size) :
    Calls Tryz.prog 81 #[v, u] w fun e w' => e = .returned (.bool (eqL xs ys)) ∧ Below w.heap.size w w' := by
  obtain ⟨A, n, c, rfl, hx, hnc, hcm⟩ := h
  obtain ⟨C, m, d, rfl, hy, hmd, hdm⟩ := h'
  unfold maxLen at hcm hdm
  have lx := Lib.hid hx.len
  have ly := Lib.hid hy.len
  have hr := Below.refl w.heap.size w
  by_cases hnm : n = m
  · subst hnm
    go_enter Tryz.func81, Tryz.ntmps81
    go_wp2
    go_loopw [5] (fun i wr => ∃ k : Nat, k ≤ n ∧ i = .int .i64 k ∧ Hid (xs.take k = ys.take k) ∧ Below w.heap.size w wr) (fun i _ => n - (intOf i).toNat)
    case atStart => exact ⟨0, by omega, rfl, rfl, hr⟩
    case round =>
      obtain ⟨k, hk, rfl, ht, hq⟩ := hrel
      by_cases hlt : k < n
      · have hx' := hx.below portRd_ok (hq.mono hB)
        have hy' := hy.below portRd_ok (hq.mono hB')
        obtain ⟨b, off, x, rfl, hb, hxk, hc0, hc1⟩ := hx'.port hlt
        obtain ⟨b', off', y, rfl, hb', hyk, hc0', hc1'⟩ := hy'.port hlt
        have Hxk := Lib.hid hxk
        have Hyk := Lib.hid hyk
        clear hxk hyk hx' hy'
        have hzB : B ≤ wr.drew.heap.size := Nat.le_trans hB hq.size
        have hzB' : B' ≤ wr.drew.heap.size := Nat.le_trans hB' hq.size
        by_cases hxy : x = y
        · have hf : decide (x = y) = true := decide_eq_true hxy
          have Hxy := Lib.hid hxy
          clear hxy
          go_wp2_with fail
          go_region_with (go_at_call 111; refine (eqPort_v _ _ x y _ (B := 0) (B' := 0) ⟨_, rfl, rfl⟩ ⟨_, rfl, rfl⟩ (Nat.zero_le _) (Nat.zero_le _)).mono ?_; rintro e w1 ⟨rfl, hq1⟩)
          all_goals
            go_wp2_with fail
            go_roundw
            case rel => exact ⟨k + 1, by omega, by go_num, eqL_step Hxk.out Hyk.out ht.out Hxy.out, hq.drew.trans (hq1.mono hq.size)⟩
            case measure => simp [intOf]; omega
        · have hf : decide (x = y) = false := decide_eq_false hxy
          have Hno := Lib.hid (eqL_no Hxk.out Hyk.out hxy)
          clear hxy
          go_wp2_with fail
          go_region_with (go_at_call 111; refine (eqPort_v _ _ x y _ (B := 0) (B' := 0) ⟨_, rfl, rfl⟩ ⟨_, rfl, rfl⟩ (Nat.zero_le _) (Nat.zero_le _)).mono ?_; rintro e w1 ⟨rfl, hq1⟩)
          all_goals
            go_wp2_with fail
            go_ret
            exact ⟨by rw [Hno.out]; rfl, hq.drew.trans (hq1.mono hq.size)⟩
      · have Hyes := Lib.hid (eqL_yes (k := k) ht.out (by have := lx.out; omega) (by have := ly.out; omega))
        go_wp2
        go_ret
        exact ⟨by rw [Hyes.out]; rfl, hq⟩
  · have Hno := Lib.hid (eqL_len (xs := xs) (ys := ys) (by have := lx.out; have := ly.out; omega))
    have hf : ((n : Int) != (m : Int)) = true := by simp; omega
    go_enter Tryz.func81, Tryz.ntmps81
    go_wp2
    go_ret
    exact ⟨by rw [Hno.out]; rfl, hr⟩
end
section
open Go.RowKit
set_option linter.unusedVariables false
set_option linter.unusedSimpArgs false
set_option maxHeartbeats 1000000 in
theorem eqAgent_v (v u : Value) (x y : DAgent) (w : World) {B B' : Nat} (h : RdT agentRd w B v x) (h' : RdT agentRd w B' u y) (hB : B ≤ w.heap.size) (hB' : B' ≤ w.heap.size) :
    Calls Tryz.prog 59 #[v, u] w fun e w' => e = .returned (.bool (decide (x = y))) ∧ Below w.heap.size w w' := by
  obtain ⟨cs, rfl, A1, n1, c1, A2, n2, c2, rfl, ⟨h1, r1⟩, ⟨h2, r2⟩⟩ := h
  obtain ⟨cs, rfl, A1', n1', c1', A2', n2', c2', rfl, ⟨h1', r1'⟩, ⟨h2', r2'⟩⟩ := h'
  have hb : ∀ o1 o2, Below w.heap.size w ((w.alloc o1).alloc o2) := fun o1 o2 => ((Below.refl _ _).alloc (Nat.le_refl _) _).alloc (by simp) _
  by_cases e0 : x.kind = y.kind
  · have f0 : (x.kind != y.kind) = false := by simp [e0]
    by_cases e1 : x.level = y.level
    · have f1 : (x.level != y.level) = false := by simp [e1]
      by_cases e2 : x.value = y.value
      · have f2 : (x.value != y.value) = false := by simp [e2]
        by_cases e3 : x.data = y.data
        · have f3 : eqL x.data y.data = true := decide_eq_true e3
          by_cases e4 : x.ports = y.ports
          · have f4 : eqL x.ports y.ports = true := decide_eq_true e4
            have He : Hid (decide (x = y) = true) := decide_eq_true (by cases x; cases y; simp_all)
            clear e0 e1 e2 e3 e4
            go_enter Tryz.func59, Tryz.ntmps59
            go_wp2_with fail
            refine (eqInt64S_v _ _ x.data y.data _ (B := B) (B' := B') ⟨A1, n1, c1, rfl, h1.below intRd_ok ((hb _ _).mono hB), r1⟩ ⟨A1', n1', c1', rfl, h1'.below intRd_ok ((hb _ _).mono hB'), r1'⟩ (Nat.le_trans hB (hb _ _).size) (Nat.le_trans hB' (hb _ _).size)).mono ?_
            rintro e w1 ⟨rfl, q1⟩
            have T := (hb _ _).trans (q1.mono (hb _ _).size)
            have B1 := blk2_0.below q1 (by simp <;> omega)
            have B2 := blk2_1.below q1 (by simp <;> omega)
            have z1 : w.heap.size + 1 + 1 ≤ w1.heap.size := by have := q1.size; simpa using this
            clear q1
            have g1 := B1.cell
            have g2 := B2.cell
            go_wp2_with fail
            clear g1 g2
            refine (eqPortS_v _ _ x.ports y.ports _ (B := B) (B' := B') ⟨A2, n2, c2, rfl, h2.below portRd_ok ((T).mono hB), r2⟩ ⟨A2', n2', c2', rfl, h2'.below portRd_ok ((T).mono hB'), r2'⟩ (Nat.le_trans hB (T).size) (Nat.le_trans hB' (T).size)).mono ?_
            rintro e w2 ⟨rfl, q2⟩
            have T := T.trans (q2.mono T.size)
            have B1 := B1.below q2 (by omega)
            have B2 := B2.below q2 (by omega)
            have z2 := Nat.le_trans z1 q2.size
            clear q2
            go_wp2_with fail
            go_ret
            exact ⟨by rw [He.out]; rfl, T⟩
          · have f4 : eqL x.ports y.ports = false := decide_eq_false e4
            have He : Hid (decide (x = y) = false) := decide_eq_false (by intro exy; exact e4 (by rw [exy]))
            clear e0 e1 e2 e3 e4
            go_enter Tryz.func59, Tryz.ntmps59
            go_wp2_with fail
            refine (eqInt64S_v _ _ x.data y.data _ (B := B) (B' := B') ⟨A1, n1, c1, rfl, h1.below intRd_ok ((hb _ _).mono hB), r1⟩ ⟨A1', n1', c1', rfl, h1'.below intRd_ok ((hb _ _).mono hB'), r1'⟩ (Nat.le_trans hB (hb _ _).size) (Nat.le_trans hB' (hb _ _).size)).mono ?_
            rintro e w1 ⟨rfl, q1⟩
            have T := (hb _ _).trans (q1.mono (hb _ _).size)
            have B1 := blk2_0.below q1 (by simp <;> omega)
            have B2 := blk2_1.below q1 (by simp <;> omega)
            have z1 : w.heap.size + 1 + 1 ≤ w1.heap.size := by have := q1.size; simpa using this
            clear q1
            have g1 := B1.cell
            have g2 := B2.cell
            go_wp2_with fail
            clear g1 g2
            refine (eqPortS_v _ _ x.ports y.ports _ (B := B) (B' := B') ⟨A2, n2, c2, rfl, h2.below portRd_ok ((T).mono hB), r2⟩ ⟨A2', n2', c2', rfl, h2'.below portRd_ok ((T).mono hB'), r2'⟩ (Nat.le_trans hB (T).size) (Nat.le_trans hB' (T).size)).mono ?_
            rintro e w2 ⟨rfl, q2⟩
            have T := T.trans (q2.mono T.size)
            have B1 := B1.below q2 (by omega)
            have B2 := B2.below q2 (by omega)
            have z2 := Nat.le_trans z1 q2.size
            clear q2
            go_wp2_with fail
            go_ret
            exact ⟨by rw [He.out]; rfl, T⟩
        · have f3 : eqL x.data y.data = false := decide_eq_false e3
          have He : Hid (decide (x = y) = false) := decide_eq_false (by intro exy; exact e3 (by rw [exy]))
          clear e0 e1 e2 e3
          go_enter Tryz.func59, Tryz.ntmps59
          go_wp2_with fail
          refine (eqInt64S_v _ _ x.data y.data _ (B := B) (B' := B') ⟨A1, n1, c1, rfl, h1.below intRd_ok ((hb _ _).mono hB), r1⟩ ⟨A1', n1', c1', rfl, h1'.below intRd_ok ((hb _ _).mono hB'), r1'⟩ (Nat.le_trans hB (hb _ _).size) (Nat.le_trans hB' (hb _ _).size)).mono ?_
          rintro e w1 ⟨rfl, q1⟩
          have T := (hb _ _).trans (q1.mono (hb _ _).size)
          have B1 := blk2_0.below q1 (by simp <;> omega)
          have B2 := blk2_1.below q1 (by simp <;> omega)
          have z1 : w.heap.size + 1 + 1 ≤ w1.heap.size := by have := q1.size; simpa using this
          clear q1
          go_wp2_with fail
          go_ret
          exact ⟨by rw [He.out]; rfl, T⟩
      · have f2 : (x.value != y.value) = true := by simp [e2]
        have He : Hid (decide (x = y) = false) := decide_eq_false (by intro exy; exact e2 (by rw [exy]))
        clear e0 e1 e2
        go_enter Tryz.func59, Tryz.ntmps59
        go_wp2_with fail
        go_ret
        exact ⟨by rw [He.out]; rfl, hb _ _⟩
    · have f1 : (x.level != y.level) = true := by simp [e1]
      have He : Hid (decide (x = y) = false) := decide_eq_false (by intro exy; exact e1 (by rw [exy]))
      clear e0 e1
      go_enter Tryz.func59, Tryz.ntmps59
      go_wp2_with fail
      go_ret
      exact ⟨by rw [He.out]; rfl, hb _ _⟩
  · have f0 : (x.kind != y.kind) = true := by simp [e0]
    have He : Hid (decide (x = y) = false) := decide_eq_false (by intro exy; exact e0 (by rw [exy]))
    clear e0
    go_enter Tryz.func59, Tryz.ntmps59
    go_wp2_with fail
    go_ret
    exact ⟨by rw [He.out]; rfl, hb _ _⟩
set_option maxHeartbeats 1000000 in
theorem eqAgentS_v (v u : Value) (xs ys : List DAgent) (w : World) {B B' : Nat} (h : RdS agentRd 5 w B v xs) (h' : RdS agentRd 5 w B' u ys) (hB : B ≤ w.heap.size) (hB' : B' ≤ w.heap.size) :
    Calls Tryz.prog 29 #[v, u] w fun e w' => e = .returned (.bool (eqL xs ys)) ∧ Below w.heap.size w w' := by
  obtain ⟨A, n, c, rfl, hx, hnc, hcm⟩ := h
  obtain ⟨C, m, d, rfl, hy, hmd, hdm⟩ := h'
  unfold maxLen at hcm hdm
  have lx := Lib.hid hx.len
  have ly := Lib.hid hy.len
  have hr := Below.refl w.heap.size w
  by_cases hnm : n = m
  · subst hnm
    go_enter Tryz.func29, Tryz.ntmps29
    go_wp2
    go_loopw [5] (fun i wr => ∃ k : Nat, k ≤ n ∧ i = .int .i64 k ∧ Hid (xs.take k = ys.take k) ∧ Below w.heap.size w wr) (fun i _ => n - (intOf i).toNat)
    case atStart => exact ⟨0, by omega, rfl, rfl, hr⟩
    case round =>
      obtain ⟨k, hk, rfl, ht, hq⟩ := hrel
      by_cases hlt : k < n
      · have hx' := hx.below agentRd_ok (hq.mono hB)
        have hy' := hy.below agentRd_ok (hq.mono hB')
        obtain ⟨b, off, x, A1, n1, c1, A2, n2, c2, rfl, hb, hxk, hc0, hc1, hc2, hc3, hc4, ⟨h1, r1⟩, ⟨h2, r2⟩⟩ := hx'.agent hlt
        obtain ⟨b', off', y, A1', n1', c1', A2', n2', c2', rfl, hb', hyk, hc0', hc1', hc2', hc3', hc4', ⟨h1', r1'⟩, ⟨h2', r2'⟩⟩ := hy'.agent hlt
        have Hxk := Lib.hid hxk
        have Hyk := Lib.hid hyk
        clear hxk hyk hx' hy'
        have hzB : B ≤ wr.drew.heap.size := Nat.le_trans hB hq.size
        have hzB' : B' ≤ wr.drew.heap.size := Nat.le_trans hB' hq.size
        by_cases hxy : x = y
        · have hf : decide (x = y) = true := decide_eq_true hxy
          have Hxy := Lib.hid hxy
          clear hxy
          go_wp2_with fail
          go_region_with (go_at_call 59; refine (eqAgent_v _ _ x y _ (B := B) (B' := B') ⟨_, rfl, A1, n1, c1, A2, n2, c2, rfl, ⟨h1.drew intRd_ok, r1⟩, ⟨h2.drew portRd_ok, r2⟩⟩ ⟨_, rfl, A1', n1', c1', A2', n2', c2', rfl, ⟨h1'.drew intRd_ok, r1'⟩, ⟨h2'.drew portRd_ok, r2'⟩⟩ hzB hzB').mono ?_; rintro e w1 ⟨rfl, hq1⟩)
          all_goals
            go_wp2_with fail
            go_roundw
            case rel => exact ⟨k + 1, by omega, by go_num, eqL_step Hxk.out Hyk.out ht.out Hxy.out, hq.drew.trans (hq1.mono hq.size)⟩
            case measure => simp [intOf]; omega
        · have hf : decide (x = y) = false := decide_eq_false hxy
          have Hno := Lib.hid (eqL_no Hxk.out Hyk.out hxy)
          clear hxy
          go_wp2_with fail
          go_region_with (go_at_call 59; refine (eqAgent_v _ _ x y _ (B := B) (B' := B') ⟨_, rfl, A1, n1, c1, A2, n2, c2, rfl, ⟨h1.drew intRd_ok, r1⟩, ⟨h2.drew portRd_ok, r2⟩⟩ ⟨_, rfl, A1', n1', c1', A2', n2', c2', rfl, ⟨h1'.drew intRd_ok, r1'⟩, ⟨h2'.drew portRd_ok, r2'⟩⟩ hzB hzB').mono ?_; rintro e w1 ⟨rfl, hq1⟩)
          all_goals
            go_wp2_with fail
            go_ret
            exact ⟨by rw [Hno.out]; rfl, hq.drew.trans (hq1.mono hq.size)⟩
      · have Hyes := Lib.hid (eqL_yes (k := k) ht.out (by have := lx.out; omega) (by have := ly.out; omega))
        go_wp2
        go_ret
        exact ⟨by rw [Hyes.out]; rfl, hq⟩
  · have Hno := Lib.hid (eqL_len (xs := xs) (ys := ys) (by have := lx.out; have := ly.out; omega))
    have hf : ((n : Int) != (m : Int)) = true := by simp; omega
    go_enter Tryz.func29, Tryz.ntmps29
    go_wp2
    go_ret
    exact ⟨by rw [Hno.out]; rfl, hr⟩
set_option maxHeartbeats 1000000 in
theorem eqNet_v (v u : Value) (x y : DNet) (w : World) {B B' : Nat} (h : RdT netRd w B v x) (h' : RdT netRd w B' u y) (hB : B ≤ w.heap.size) (hB' : B' ≤ w.heap.size) :
    Calls Tryz.prog 12 #[v, u] w fun e w' => e = .returned (.bool (decide (x = y))) ∧ Below w.heap.size w w' := by
  obtain ⟨cs, rfl, A1, n1, c1, rfl, ⟨h1, r1⟩⟩ := h
  obtain ⟨cs, rfl, A1', n1', c1', rfl, ⟨h1', r1'⟩⟩ := h'
  have hb : ∀ o1 o2, Below w.heap.size w ((w.alloc o1).alloc o2) := fun o1 o2 => ((Below.refl _ _).alloc (Nat.le_refl _) _).alloc (by simp) _
  by_cases e0 : x.agents = y.agents
  · have f0 : eqL x.agents y.agents = true := decide_eq_true e0
    have He : Hid (decide (x = y) = true) := decide_eq_true (by cases x; cases y; simp_all)
    clear e0
    go_enter Tryz.func12, Tryz.ntmps12
    go_wp2_with fail
    refine (eqAgentS_v _ _ x.agents y.agents _ (B := B) (B' := B') ⟨A1, n1, c1, rfl, h1.below agentRd_ok ((hb _ _).mono hB), r1⟩ ⟨A1', n1', c1', rfl, h1'.below agentRd_ok ((hb _ _).mono hB'), r1'⟩ (Nat.le_trans hB (hb _ _).size) (Nat.le_trans hB' (hb _ _).size)).mono ?_
    rintro e w1 ⟨rfl, q1⟩
    have T := (hb _ _).trans (q1.mono (hb _ _).size)
    have B1 := blk2_0.below q1 (by simp <;> omega)
    have B2 := blk2_1.below q1 (by simp <;> omega)
    have z1 : w.heap.size + 1 + 1 ≤ w1.heap.size := by have := q1.size; simpa using this
    clear q1
    go_wp2_with fail
    go_ret
    exact ⟨by rw [He.out]; rfl, T⟩
  · have f0 : eqL x.agents y.agents = false := decide_eq_false e0
    have He : Hid (decide (x = y) = false) := decide_eq_false (by intro exy; exact e0 (by rw [exy]))
    clear e0
    go_enter Tryz.func12, Tryz.ntmps12
    go_wp2_with fail
    refine (eqAgentS_v _ _ x.agents y.agents _ (B := B) (B' := B') ⟨A1, n1, c1, rfl, h1.below agentRd_ok ((hb _ _).mono hB), r1⟩ ⟨A1', n1', c1', rfl, h1'.below agentRd_ok ((hb _ _).mono hB'), r1'⟩ (Nat.le_trans hB (hb _ _).size) (Nat.le_trans hB' (hb _ _).size)).mono ?_
    rintro e w1 ⟨rfl, q1⟩
    have T := (hb _ _).trans (q1.mono (hb _ _).size)
    have B1 := blk2_0.below q1 (by simp <;> omega)
    have B2 := blk2_1.below q1 (by simp <;> omega)
    have z1 : w.heap.size + 1 + 1 ≤ w1.heap.size := by have := q1.size; simpa using this
    clear q1
    go_wp2_with fail
    go_ret
    exact ⟨by rw [He.out]; rfl, T⟩
end
section
open Go.RowKit
set_option linter.unusedVariables false
set_option linter.unusedSimpArgs false
set_option maxRecDepth 100000
set_option maxHeartbeats 8000000 in
theorem walk_SameShape (w : World) (v0 : Value) (x : DNet) (R0 : RdT netRd w w.heap.size v0 x) (v1 : Value) (y : DNet) (R1 : RdT netRd w w.heap.size v1 y) :
    Calls Tryz.prog 5 #[v0, v1] w fun e w' => e = .returned (.bool true) ∧ Below w.heap.size w w' := by
  obtain ⟨a0A0, a0n0, a0c0, rfl⟩ : ∃ a0A0 a0n0 a0c0, v0 = .agg #[.slice a0A0 a0n0 a0c0] := by obtain ⟨cs, rfl, ⟨A0, n0, c0, rfl, _⟩⟩ := R0; exact ⟨A0, n0, c0, rfl⟩
  obtain ⟨a1A0, a1n0, a1c0, rfl⟩ : ∃ a1A0 a1n0 a1c0, v1 = .agg #[.slice a1A0 a1n0 a1c0] := by obtain ⟨cs, rfl, ⟨A0, n0, c0, rfl, _⟩⟩ := R1; exact ⟨A0, n0, c0, rfl⟩
  by_cases d0 : (szNet x : Int) ≤ 1048576
  case neg =>
    have T := Below.refl w.heap.size w
    have T : Below w.heap.size w (w.alloc (.cells #[.slice a0A0 a0n0 a0c0] 24)) := T.alloc (by first | exact Nat.le_refl _ | (simp; done) | (simp; omega)) _
    have B0 : Blk (w.alloc (.cells #[.slice a0A0 a0n0 a0c0] 24)) (w.heap.size) 24 #[.slice a0A0 a0n0 a0c0] := by have := Blk.new w 24 #[.slice a0A0 a0n0 a0c0]; simpa using this
    have zb0 : (w.alloc (.cells #[.slice a0A0 a0n0 a0c0] 24)).heap.size = w.heap.size + 1 := by simp
    have T : Below w.heap.size w ((w.alloc (.cells #[.slice a0A0 a0n0 a0c0] 24)).alloc (.cells #[.slice a1A0 a1n0 a1c0] 24)) := T.alloc (by first | exact Nat.le_refl _ | (simp; done) | (simp; omega)) _
    have B0 := B0.alloc (.cells #[.slice a1A0 a1n0 a1c0] 24)
    have B1 : Blk ((w.alloc (.cells #[.slice a0A0 a0n0 a0c0] 24)).alloc (.cells #[.slice a1A0 a1n0 a1c0] 24)) (w.heap.size + 1) 24 #[.slice a1A0 a1n0 a1c0] := by have := Blk.new (w.alloc (.cells #[.slice a0A0 a0n0 a0c0] 24)) 24 #[.slice a1A0 a1n0 a1c0]; simpa using this
    have zb1 : ((w.alloc (.cells #[.slice a0A0 a0n0 a0c0] 24)).alloc (.cells #[.slice a1A0 a1n0 a1c0] 24)).heap.size = w.heap.size + 1 + 1 := by simp
    go_enter Tryz.func5, Tryz.ntmps5
    go_wp2_with fail
    refine (szNet_v _ x (1048576) _ (R0.below netRd_ok T) T.size (by omega) (by omega)).mono ?_
    rw [szL_neg (by omega)]
    rintro e w1 ⟨rfl, b1⟩
    have z1 := b1.size
    have B0 := B0.below b1 (by omega)
    have B1 := B1.below b1 (by omega)
    have T := T.trans (b1.mono (by omega))
    have gB0 := B0.cell
    have gB1 := B1.cell
    go_wp2_with fail
    go_ret
    exact ⟨rfl, T⟩
  by_cases d1 : (szNet y : Int) ≤ 1048576 - (szNet x : Int)
  case neg =>
    have T := Below.refl w.heap.size w
    have T : Below w.heap.size w (w.alloc (.cells #[.slice a0A0 a0n0 a0c0] 24)) := T.alloc (by first | exact Nat.le_refl _ | (simp; done) | (simp; omega)) _
    have B0 : Blk (w.alloc (.cells #[.slice a0A0 a0n0 a0c0] 24)) (w.heap.size) 24 #[.slice a0A0 a0n0 a0c0] := by have := Blk.new w 24 #[.slice a0A0 a0n0 a0c0]; simpa using this
    have zb0 : (w.alloc (.cells #[.slice a0A0 a0n0 a0c0] 24)).heap.size = w.heap.size + 1 := by simp
    have T : Below w.heap.size w ((w.alloc (.cells #[.slice a0A0 a0n0 a0c0] 24)).alloc (.cells #[.slice a1A0 a1n0 a1c0] 24)) := T.alloc (by first | exact Nat.le_refl _ | (simp; done) | (simp; omega)) _
    have B0 := B0.alloc (.cells #[.slice a1A0 a1n0 a1c0] 24)
    have B1 : Blk ((w.alloc (.cells #[.slice a0A0 a0n0 a0c0] 24)).alloc (.cells #[.slice a1A0 a1n0 a1c0] 24)) (w.heap.size + 1) 24 #[.slice a1A0 a1n0 a1c0] := by have := Blk.new (w.alloc (.cells #[.slice a0A0 a0n0 a0c0] 24)) 24 #[.slice a1A0 a1n0 a1c0]; simpa using this
    have zb1 : ((w.alloc (.cells #[.slice a0A0 a0n0 a0c0] 24)).alloc (.cells #[.slice a1A0 a1n0 a1c0] 24)).heap.size = w.heap.size + 1 + 1 := by simp
    go_enter Tryz.func5, Tryz.ntmps5
    go_wp2_with fail
    refine (szNet_v _ x (1048576) _ (R0.below netRd_ok T) T.size (by omega) (by omega)).mono ?_
    rw [szL_pos (by omega)]
    rintro e w1 ⟨rfl, b1⟩
    have z1 := b1.size
    have B0 := B0.below b1 (by omega)
    have B1 := B1.below b1 (by omega)
    have T := T.trans (b1.mono (by omega))
    have gB0 := B0.cell
    have gB1 := B1.cell
    go_wp2_with fail
    refine (szNet_v _ y (1048576 - (szNet x : Int)) _ (R1.below netRd_ok T) T.size (by omega) (by omega)).mono ?_
    rw [szL_neg (by omega)]
    rintro e w2 ⟨rfl, b2⟩
    have z2 := b2.size
    have B0 := B0.below b2 (by omega)
    have B1 := B1.below b2 (by omega)
    have T := T.trans (b2.mono (by omega))
    clear gB0
    clear gB1
    have gB0 := B0.cell
    have gB1 := B1.cell
    go_wp2_with fail
    go_ret
    exact ⟨rfl, T⟩
  have s0 : szNet x ≤ 1048576 := by omega
  have s1 : szNet y ≤ 1048576 := by omega
  have T := Below.refl w.heap.size w
  have T : Below w.heap.size w (w.alloc (.cells #[.slice a0A0 a0n0 a0c0] 24)) := T.alloc (by first | exact Nat.le_refl _ | (simp; done) | (simp; omega)) _
  have B0 : Blk (w.alloc (.cells #[.slice a0A0 a0n0 a0c0] 24)) (w.heap.size) 24 #[.slice a0A0 a0n0 a0c0] := by have := Blk.new w 24 #[.slice a0A0 a0n0 a0c0]; simpa using this
  have zb0 : (w.alloc (.cells #[.slice a0A0 a0n0 a0c0] 24)).heap.size = w.heap.size + 1 := by simp
  have T : Below w.heap.size w ((w.alloc (.cells #[.slice a0A0 a0n0 a0c0] 24)).alloc (.cells #[.slice a1A0 a1n0 a1c0] 24)) := T.alloc (by first | exact Nat.le_refl _ | (simp; done) | (simp; omega)) _
  have B0 := B0.alloc (.cells #[.slice a1A0 a1n0 a1c0] 24)
  have B1 : Blk ((w.alloc (.cells #[.slice a0A0 a0n0 a0c0] 24)).alloc (.cells #[.slice a1A0 a1n0 a1c0] 24)) (w.heap.size + 1) 24 #[.slice a1A0 a1n0 a1c0] := by have := Blk.new (w.alloc (.cells #[.slice a0A0 a0n0 a0c0] 24)) 24 #[.slice a1A0 a1n0 a1c0]; simpa using this
  have zb1 : ((w.alloc (.cells #[.slice a0A0 a0n0 a0c0] 24)).alloc (.cells #[.slice a1A0 a1n0 a1c0] 24)).heap.size = w.heap.size + 1 + 1 := by simp
  go_enter Tryz.func5, Tryz.ntmps5
  go_wp2_with fail
  refine (szNet_v _ x (1048576) _ (R0.below netRd_ok T) T.size (by omega) (by omega)).mono ?_
  rw [szL_pos (by omega)]
  rintro e w1 ⟨rfl, b1⟩
  have z1 := b1.size
  have B0 := B0.below b1 (by omega)
  have B1 := B1.below b1 (by omega)
  have T := T.trans (b1.mono (by omega))
  have gB0 := B0.cell
  have gB1 := B1.cell
  go_wp2_with fail
  refine (szNet_v _ y (1048576 - (szNet x : Int)) _ (R1.below netRd_ok T) T.size (by omega) (by omega)).mono ?_
  rw [szL_pos (by omega)]
  rintro e w2 ⟨rfl, b2⟩
  have z2 := b2.size
  have B0 := B0.below b2 (by omega)
  have B1 := B1.below b2 (by omega)
  have T := T.trans (b2.mono (by omega))
  clear gB0
  clear gB1
  have gB0 := B0.cell
  have gB1 := B1.cell
  go_wp2_with fail
  have T := T.drew
  have B0 := B0.drew
  have B1 := B1.drew
  have zd3 : w2.drew.heap.size = w2.heap.size := rfl
  go_region_held3 (fun w' => w'.cell? ⟨w.heap.size, 0, none⟩ = some (.slice a0A0 a0n0 a0c0) ∧ w'.cell? ⟨w.heap.size + 1, 0, none⟩ = some (.slice a1A0 a1n0 a1c0)) (exact ⟨gB0 0, gB1 0⟩) (first
    | (go_at_call_of 9 (a0A0); refine (toNet_v _ x _ (R0.below netRd_ok T) T.size s0).mono ?_; rintro e w4 ⟨⟨t1, rfl, p2⟩, b4⟩; have z4 := b4.size; have B0 := B0.below b4 (by omega); have B1 := B1.below b4 (by omega); have T := T.trans (b4.mono (by omega)); clear gB0; clear gB1; have gB0 := B0.cell; have gB1 := B1.cell)
    | (go_at_call_of 9 (a1A0); refine (toNet_v _ y _ (R1.below netRd_ok T) T.size s1).mono ?_; rintro e w5 ⟨⟨t3, rfl, p4⟩, b5⟩; have z5 := b5.size; have B0 := B0.below b5 (by omega); have B1 := B1.below b5 (by omega); have p2 := p2.below netOw_ok b5 (by omega); have T := T.trans (b5.mono (by omega)); clear gB0; clear gB1; have gB0 := B0.cell; have gB1 := B1.cell)
    | (go_at_call 19; refine (specSameShape_v _ _ x y _ (p2.reads (netOw_reads (w5).heap.size) (by omega)) (p4.reads (netOw_reads (w5).heap.size) (by omega)) (Nat.le_refl _) (Nat.le_refl _) s0 s1).mono ?_; rintro e w6 ⟨rfl, b6⟩; have z6 := b6.size; have B0 := B0.below b6 (by omega); have B1 := B1.below b6 (by omega); have p2 := p2.below netOw_ok b6 (by omega); have p4 := p4.below netOw_ok b6 (by omega); have T := T.trans (b6.mono (by omega)); clear gB0; clear gB1; have gB0 := B0.cell; have gB1 := B1.cell; clear p2; clear p4))
  go_wp2_with fail
  refine (toNet_v _ x _ (R0.below netRd_ok T) T.size s0).mono ?_
  rintro e w7 ⟨⟨t6, rfl, p7⟩, b7⟩
  have z7 := b7.size
  have B0 := B0.below b7 (by omega)
  have B1 := B1.below b7 (by omega)
  have T := T.trans (b7.mono (by omega))
  clear gB0
  clear gB1
  have gB0 := B0.cell
  have gB1 := B1.cell
  obtain ⟨l9A0, l9n0, l9c0, rfl⟩ : ∃ l9A0 l9n0 l9c0, t6 = .agg #[.slice l9A0 l9n0 l9c0] := by obtain ⟨cs, bs, rfl, ⟨A0, n0, c0, b0, rfl, _⟩, _⟩ := p7; exact ⟨A0, n0, c0, rfl⟩
  have b8 : Below w7.heap.size w7 (w7.alloc (.cells #[.slice l9A0 l9n0 l9c0] 31)) := (Below.refl _ _).alloc (Nat.le_refl _) _
  have z8 : (w7.alloc (.cells #[.slice l9A0 l9n0 l9c0] 31)).heap.size = w7.heap.size + 1 := World.size_alloc _ _
  have B0 := B0.below b8 (by omega)
  have B1 := B1.below b8 (by omega)
  have p7 := p7.below netOw_ok b8 (by omega)
  have T := T.trans (b8.mono (by omega))
  have X8 : Blk (w7.alloc (.cells #[.slice l9A0 l9n0 l9c0] 31)) w7.heap.size 31 #[.slice l9A0 l9n0 l9c0] := Blk.new _ _ _
  clear gB0
  clear gB1
  have gB0 := B0.cell
  have gB1 := B1.cell
  have gX8 := X8.cell
  go_wp2_with fail
  refine (toNet_v _ y _ (R1.below netRd_ok T) T.size s1).mono ?_
  rintro e w9 ⟨⟨t10, rfl, p11⟩, b9⟩
  have z9 := b9.size
  have B0 := B0.below b9 (by omega)
  have B1 := B1.below b9 (by omega)
  have X8 := X8.below b9 (by omega)
  have p7 := p7.below netOw_ok b9 (by omega)
  have T := T.trans (b9.mono (by omega))
  clear gB0
  clear gB1
  clear gX8
  have gB0 := B0.cell
  have gB1 := B1.cell
  have gX8 := X8.cell
  obtain ⟨l13A0, l13n0, l13c0, rfl⟩ : ∃ l13A0 l13n0 l13c0, t10 = .agg #[.slice l13A0 l13n0 l13c0] := by obtain ⟨cs, bs, rfl, ⟨A0, n0, c0, b0, rfl, _⟩, _⟩ := p11; exact ⟨A0, n0, c0, rfl⟩
  have b10 : Below w9.heap.size w9 (w9.alloc (.cells #[.slice l13A0 l13n0 l13c0] 31)) := (Below.refl _ _).alloc (Nat.le_refl _) _
  have z10 : (w9.alloc (.cells #[.slice l13A0 l13n0 l13c0] 31)).heap.size = w9.heap.size + 1 := World.size_alloc _ _
  have B0 := B0.below b10 (by omega)
  have B1 := B1.below b10 (by omega)
  have X8 := X8.below b10 (by omega)
  have p7 := p7.below netOw_ok b10 (by omega)
  have p11 := p11.below netOw_ok b10 (by omega)
  have T := T.trans (b10.mono (by omega))
  have X12 : Blk (w9.alloc (.cells #[.slice l13A0 l13n0 l13c0] 31)) w9.heap.size 31 #[.slice l13A0 l13n0 l13c0] := Blk.new _ _ _
  clear gB0
  clear gB1
  clear gX8
  have gB0 := B0.cell
  have gB1 := B1.cell
  have gX8 := X8.cell
  have gX12 := X12.cell
  go_wp2_with fail
  refine (implSameShape_v _ _ x y _ (p7.reads (netOw_reads ((w9.alloc (.cells #[.slice l13A0 l13n0 l13c0] 31))).heap.size) (by omega)) (p11.reads (netOw_reads ((w9.alloc (.cells #[.slice l13A0 l13n0 l13c0] 31))).heap.size) (by omega)) (Nat.le_refl _) (Nat.le_refl _) s0 s1).mono ?_
  rintro e w11 ⟨rfl, b11⟩
  have z11 := b11.size
  have B0 := B0.below b11 (by omega)
  have B1 := B1.below b11 (by omega)
  have X8 := X8.below b11 (by omega)
  have X12 := X12.below b11 (by omega)
  have p7 := p7.below netOw_ok b11 (by omega)
  have p11 := p11.below netOw_ok b11 (by omega)
  have T := T.trans (b11.mono (by omega))
  clear gB0
  clear gB1
  clear gX8
  clear gX12
  have gB0 := B0.cell
  have gB1 := B1.cell
  have gX8 := X8.cell
  have gX12 := X12.cell
  go_wp2_with fail
  have T := T.drew
  have B0 := B0.drew
  have B1 := B1.drew
  have X8 := X8.drew
  have X12 := X12.drew
  have p7 := p7.keep netOw_ok (w' := w11.drew) (fun _ _ _ => rfl)
  have p11 := p11.keep netOw_ok (w' := w11.drew) (fun _ _ _ => rfl)
  have zd12 : w11.drew.heap.size = w11.heap.size := rfl
  go_region_held3 (fun w' => w'.cell? ⟨w7.heap.size, 0, none⟩ = some (.slice l9A0 l9n0 l9c0) ∧ w'.cell? ⟨w.heap.size, 0, none⟩ = some (.slice a0A0 a0n0 a0c0)) (exact ⟨gX8 0, gB0 0⟩) (first
    | (go_at_call 9; refine (toNet_v _ x _ (R0.below netRd_ok T) T.size s0).mono ?_; rintro e w13 ⟨⟨t15, rfl, p16⟩, b13⟩; have z13 := b13.size; have B0 := B0.below b13 (by omega); have B1 := B1.below b13 (by omega); have X8 := X8.below b13 (by omega); have X12 := X12.below b13 (by omega); have p7 := p7.below netOw_ok b13 (by omega); have p11 := p11.below netOw_ok b13 (by omega); have T := T.trans (b13.mono (by omega)); clear gB0; clear gB1; clear gX8; clear gX12; have gB0 := B0.cell; have gB1 := B1.cell; have gX8 := X8.cell; have gX12 := X12.cell)
    | (go_at_call 12; refine (eqNet_v _ _ _ _ _ (p7.reads (netOw_reads (w13).heap.size) (by omega)) (p16.reads (netOw_reads (w13).heap.size) (by omega)) (Nat.le_refl _) (Nat.le_refl _)).mono ?_; rintro e w14 ⟨rfl, b14⟩; have z14 := b14.size; have B0 := B0.below b14 (by omega); have B1 := B1.below b14 (by omega); have X8 := X8.below b14 (by omega); have X12 := X12.below b14 (by omega); have p7 := p7.below netOw_ok b14 (by omega); have p11 := p11.below netOw_ok b14 (by omega); have p16 := p16.below netOw_ok b14 (by omega); have T := T.trans (b14.mono (by omega)); clear gB0; clear gB1; clear gX8; clear gX12; have gB0 := B0.cell; have gB1 := B1.cell; have gX8 := X8.cell; have gX12 := X12.cell))
  go_wp2_with fail
  have T := T.drew
  have B0 := B0.drew
  have B1 := B1.drew
  have X8 := X8.drew
  have X12 := X12.drew
  have p7 := p7.keep netOw_ok (w' := w14.drew) (fun _ _ _ => rfl)
  have p11 := p11.keep netOw_ok (w' := w14.drew) (fun _ _ _ => rfl)
  have p16 := p16.keep netOw_ok (w' := w14.drew) (fun _ _ _ => rfl)
  have zd15 : w14.drew.heap.size = w14.heap.size := rfl
  go_region_held3 (fun w' => w'.cell? ⟨w9.heap.size, 0, none⟩ = some (.slice l13A0 l13n0 l13c0) ∧ w'.cell? ⟨w.heap.size + 1, 0, none⟩ = some (.slice a1A0 a1n0 a1c0)) (exact ⟨gX12 0, gB1 0⟩) (first
    | (go_at_call 9; refine (toNet_v _ y _ (R1.below netRd_ok T) T.size s1).mono ?_; rintro e w16 ⟨⟨t17, rfl, p18⟩, b16⟩; have z16 := b16.size; have B0 := B0.below b16 (by omega); have B1 := B1.below b16 (by omega); have X8 := X8.below b16 (by omega); have X12 := X12.below b16 (by omega); have p7 := p7.below netOw_ok b16 (by omega); have p11 := p11.below netOw_ok b16 (by omega); have p16 := p16.below netOw_ok b16 (by omega); have T := T.trans (b16.mono (by omega)); clear gB0; clear gB1; clear gX8; clear gX12; have gB0 := B0.cell; have gB1 := B1.cell; have gX8 := X8.cell; have gX12 := X12.cell)
    | (go_at_call 12; refine (eqNet_v _ _ _ _ _ (p11.reads (netOw_reads (w16).heap.size) (by omega)) (p18.reads (netOw_reads (w16).heap.size) (by omega)) (Nat.le_refl _) (Nat.le_refl _)).mono ?_; rintro e w17 ⟨rfl, b17⟩; have z17 := b17.size; have B0 := B0.below b17 (by omega); have B1 := B1.below b17 (by omega); have X8 := X8.below b17 (by omega); have X12 := X12.below b17 (by omega); have p7 := p7.below netOw_ok b17 (by omega); have p11 := p11.below netOw_ok b17 (by omega); have p16 := p16.below netOw_ok b17 (by omega); have p18 := p18.below netOw_ok b17 (by omega); have T := T.trans (b17.mono (by omega)); clear gB0; clear gB1; clear gX8; clear gX12; have gB0 := B0.cell; have gB1 := B1.cell; have gX8 := X8.cell; have gX12 := X12.cell))
  go_wp2_with fail
  go_ret
  exact ⟨rfl, T⟩
end
section
open Go.RowKit Go.ChangeShapes Go.WideShapes Go.Deep Go.WideMaps
set_option linter.unusedVariables false
def Opens {α : Type} (P : Program) (t : TypeId) (R : Rd α) : Prop := ∀ (H : Type) (enc : TypeId × Value → H) (W : World) (fuel : Nat) (cs : List Value) (x : DataW H × List MemPlace),
  DataW.trod enc P W 0 (fun _ => true) true fuel t cs = some x → ∃ d, R W W.heap.size cs d
theorem opens_int {P : Program} {t : TypeId} (ht : P.underlying t = some (.int .i64)) : Opens P t intRd := fun H enc W fuel cs x h => by
  obtain ⟨n, hc, _, _⟩ := DataW.trod_int ht h
  exact ⟨n, hc⟩
theorem spot_none {w : World} {a : Addr} {v : Value} (h : w.cell? a = some v) : a.spot = none := by
  unfold World.cell? at h
  split at h
  · cases hs : a.spot with
    | none => rfl
    | some s => simp [hs] at h
  · simp at h
theorem opens_slice {α : Type} {P : Program} {t e : TypeId} {R : Rd α} {sz : Nat} (ht : P.underlying t = some (.slice e)) (hsz : P.cellsOf e = sz) (hpos : 0 < sz) (ok : RdOk R sz) (he : Opens P e R) : Opens P t (slRd R sz) := fun H enc W fuel cs x h => by
  rcases open_slice ht h with ⟨rfl, rfl⟩ | ⟨a, len, cap, m, n, D, Pl, rfl, hb, hl, hm, hmm, hx, hel⟩
  · exact ⟨[], none, 0, 0, rfl, SlAt.none_, Nat.le_refl _, Nat.zero_le _⟩
  · have hmc : len ≤ m := by rw [hmm]; simp; omega
    have hel' : ∀ i, i < len → ∃ p : List Value × α, R W W.heap.size p.1 p.2 ∧ ∀ j, j < sz → W.cell? (a.add (i * sz + j)) = p.1[j]? := fun i hi => by
      obtain ⟨cs', hc, htr⟩ := hel i (by omega)
      obtain ⟨d, hd⟩ := he H enc W n cs' (D i, Pl i) htr
      obtain ⟨_, hlen, hat⟩ := World.cells?_some hc
      exact ⟨(cs', d), hd, fun j hj => by
        have := hat j (by rw [hsz]; exact hj)
        rw [hsz, Go.Deep.add_add] at this
        exact this⟩
    rcases Nat.eq_zero_or_pos len with h0 | h0
    · subst h0
      exact ⟨[], some a, 0, cap, rfl, SlAt.none_, Nat.zero_le _, hm⟩
    · have hne : Nonempty (List Value × α) := let ⟨p, _⟩ := hel' 0 h0; ⟨p⟩
      have hf : ∃ f : Nat → List Value × α, ∀ i, i < len → R W W.heap.size (f i).1 (f i).2 ∧ ∀ j, j < sz → W.cell? (a.add (i * sz + j)) = (f i).1[j]? := by
        classical
        refine ⟨fun i => if hi : i < len then Classical.choose (hel' i hi) else Classical.choice hne, fun i hi => ?_⟩
        simp only [dif_pos hi]
        exact Classical.choose_spec (hel' i hi)
      obtain ⟨f, hf⟩ := hf
      have hc0 : ∃ v, W.cell? a = some v := by
        obtain ⟨hR, hc⟩ := hf 0 h0
        have hlR := ok.len hR
        have h1 := hc 0 hpos
        have h2 : a.add (0 * sz + 0) = a := by simp [Addr.add]
        rw [h2, List.getElem?_eq_getElem (by omega)] at h1
        exact ⟨_, h1⟩
      obtain ⟨v0, hv0⟩ := hc0
      have hsp := spot_none hv0
      have hbl := World.block_lt_of_cell? _ _ hv0
      have ea : a = ⟨a.block, a.off, none⟩ := by cases a; simp_all
      refine ⟨(List.range len).map fun i => (f i).2, some a, len, cap, rfl, ⟨by simp, fun _ => ⟨a.block, a.off, by rw [← ea], hbl, fun i x hx => ?_⟩⟩, hl, hm⟩
      have hi : i < len := by simpa using lt_of_some hx
      have hx' : (f i).2 = x := by simpa [hi] using hx
      subst hx'
      obtain ⟨hR, hc⟩ := hf i hi
      refine ⟨_, hR, fun j v hj => ?_⟩
      have hj' : j < sz := by have := lt_of_some hj; rw [ok.len hR] at this; exact this
      have h1 := hc j hj'
      rw [hj] at h1
      have e2 : a.add (i * sz + j) = ⟨a.block, a.off + i * sz + j, none⟩ := by
        rw [ea]; simp only [Addr.add_lit]; congr 1; omega
      rw [← e2]
      exact h1
/-- An argument's value as its cells. -/
theorem opens_arg {α : Type} {P : Program} {t : TypeId} {R : Rd α} (h : Opens P t R) {H : Type} {enc : TypeId × Value → H} {W : World} {v : Value} {d : DataW H} {ps : List MemPlace} (ht : DataW.Trod enc P W 0 (fun _ => true) true t v d ps) : ∃ x, R W W.heap.size v.cells.toList x := by
  obtain ⟨fuel, hf⟩ := ht
  exact h H enc W fuel _ _ hf
end
section
open Go.RowKit
theorem opens_ints : Opens Tryz.prog 26 (slRd intRd 1) := opens_slice Tryz.underlying26 (by kernel_rfl) (by decide) intRd_ok (opens_int Tryz.underlying2)
end
section
open Go.RowKit Go.ChangeShapes Go.WideShapes Go.Deep Go.WideMaps
set_option linter.unusedVariables false
set_option linter.unusedSimpArgs false
theorem trod_fields {P : Program} {t : TypeId} {fs : Array Field} {H : Type} {enc : TypeId × Value → H} {W : World} {fuel : Nat} {cs : List Value} {x : DataW H × List MemPlace} (ht : P.underlying t = some (.struct fs)) (h : DataW.trod enc P W 0 (fun _ => true) true fuel t cs = some x) :
    cs.length = P.cellsOf t ∧ ∃ n, ∀ (i : Nat) (f : Field), fs[i]? = some f → ∃ y, DataW.trod enc P W 0 (fun _ => true) true n f.type ((cs.drop f.offset).take (P.cellsOf f.type)) = some y := by
  obtain ⟨xs, n, _, _, hl, hlen, hf⟩ := DataW.trod_struct ht h
  refine ⟨hl, n, fun i f hi => ?_⟩
  have hlt : i < fs.size := (Array.getElem?_eq_some_iff.1 hi).1
  exact ⟨xs[i], by rw [hf i f hi]; exact List.getElem?_eq_getElem (by omega)⟩
/-- A struct argument. -/
theorem open_st {α : Type} {P : Program} {t : TypeId} {fs : Array Field} {R : Rd α} (h : Opens P t R) (ht : P.underlying t = some (.struct fs)) {r : Reach} {b0 : Nat} {H : Type} {enc : TypeId × Value → H} {W : World} {v : Value} {d : DataW H} {ps : List MemPlace}
    (hv : Value.okWide P W r b0 t v) (hd : DataW.Trod enc P W 0 (fun _ => true) true t v d ps) : ∃ x, RdT R W W.heap.size v x := by
  obtain ⟨cs, rfl, _⟩ := okWide_struct ht hv
  obtain ⟨x, hx⟩ := opens_arg h hd
  exact ⟨x, cs.toList, by simp, by simpa [Value.cells] using hx⟩
theorem len1 {α : Type} {l : List α} (h : l.length = 1) : ∃ a0, l = [a0] := by
  match l, h with
  | [a0], _ => exact ⟨a0, rfl⟩
theorem len2 {α : Type} {l : List α} (h : l.length = 2) : ∃ a0 a1, l = [a0, a1] := by
  match l, h with
  | [a0, a1], _ => exact ⟨a0, a1, rfl⟩
theorem len5 {α : Type} {l : List α} (h : l.length = 5) : ∃ a0 a1 a2 a3 a4, l = [a0, a1, a2, a3, a4] := by
  match l, h with
  | [a0, a1, a2, a3, a4], _ => exact ⟨a0, a1, a2, a3, a4, rfl⟩
theorem opens_Port : Opens Tryz.prog 116 portRd := fun H enc W fuel cs x h => by
  obtain ⟨hl, m, hf⟩ := trod_fields Tryz.underlying116 h
  replace hl : cs.length = 2 := hl.trans (by kernel_rfl)
  obtain ⟨a0, a1, rfl⟩ := len2 hl
  obtain ⟨y0, h0⟩ : ∃ y, DataW.trod enc Tryz.prog W 0 (fun _ => true) true m 2 (([a0, a1].drop 0).take (Tryz.prog.cellsOf 2)) = some y := hf 0 _ rfl
  have k0 : Tryz.prog.cellsOf 2 = 1 := by kernel_rfl
  rw [k0] at h0; simp only [List.drop_zero, List.drop_succ_cons, List.take_succ_cons, List.take_zero] at h0
  obtain ⟨d0, e0⟩ := opens_int Tryz.underlying2 H enc W _ _ _ h0
  unfold intRd at e0; simp only [List.cons.injEq, and_true] at e0
  obtain ⟨y1, h1⟩ : ∃ y, DataW.trod enc Tryz.prog W 0 (fun _ => true) true m 2 (([a0, a1].drop 1).take (Tryz.prog.cellsOf 2)) = some y := hf 1 _ rfl
  have k1 : Tryz.prog.cellsOf 2 = 1 := by kernel_rfl
  rw [k1] at h1; simp only [List.drop_zero, List.drop_succ_cons, List.take_succ_cons, List.take_zero] at h1
  obtain ⟨d1, e1⟩ := opens_int Tryz.underlying2 H enc W _ _ _ h1
  unfold intRd at e1; simp only [List.cons.injEq, and_true] at e1
  subst e0; subst e1
  exact ⟨⟨d0, d1⟩, rfl⟩
theorem opens_PortS : Opens Tryz.prog 56 (slRd portRd 2) := opens_slice Tryz.underlying56 (by kernel_rfl) (by decide) portRd_ok opens_Port
theorem opens_Agent : Opens Tryz.prog 58 agentRd := fun H enc W fuel cs x h => by
  obtain ⟨hl, m, hf⟩ := trod_fields Tryz.underlying58 h
  replace hl : cs.length = 5 := hl.trans (by kernel_rfl)
  obtain ⟨a0, a1, a2, a3, a4, rfl⟩ := len5 hl
  obtain ⟨y0, h0⟩ : ∃ y, DataW.trod enc Tryz.prog W 0 (fun _ => true) true m 2 (([a0, a1, a2, a3, a4].drop 0).take (Tryz.prog.cellsOf 2)) = some y := hf 0 _ rfl
  have k0 : Tryz.prog.cellsOf 2 = 1 := by kernel_rfl
  rw [k0] at h0; simp only [List.drop_zero, List.drop_succ_cons, List.take_succ_cons, List.take_zero] at h0
  obtain ⟨d0, e0⟩ := opens_int Tryz.underlying2 H enc W _ _ _ h0
  unfold intRd at e0; simp only [List.cons.injEq, and_true] at e0
  obtain ⟨y1, h1⟩ : ∃ y, DataW.trod enc Tryz.prog W 0 (fun _ => true) true m 2 (([a0, a1, a2, a3, a4].drop 1).take (Tryz.prog.cellsOf 2)) = some y := hf 1 _ rfl
  have k1 : Tryz.prog.cellsOf 2 = 1 := by kernel_rfl
  rw [k1] at h1; simp only [List.drop_zero, List.drop_succ_cons, List.take_succ_cons, List.take_zero] at h1
  obtain ⟨d1, e1⟩ := opens_int Tryz.underlying2 H enc W _ _ _ h1
  unfold intRd at e1; simp only [List.cons.injEq, and_true] at e1
  obtain ⟨y2, h2⟩ : ∃ y, DataW.trod enc Tryz.prog W 0 (fun _ => true) true m 2 (([a0, a1, a2, a3, a4].drop 2).take (Tryz.prog.cellsOf 2)) = some y := hf 2 _ rfl
  have k2 : Tryz.prog.cellsOf 2 = 1 := by kernel_rfl
  rw [k2] at h2; simp only [List.drop_zero, List.drop_succ_cons, List.take_succ_cons, List.take_zero] at h2
  obtain ⟨d2, e2⟩ := opens_int Tryz.underlying2 H enc W _ _ _ h2
  unfold intRd at e2; simp only [List.cons.injEq, and_true] at e2
  obtain ⟨y3, h3⟩ : ∃ y, DataW.trod enc Tryz.prog W 0 (fun _ => true) true m 26 (([a0, a1, a2, a3, a4].drop 3).take (Tryz.prog.cellsOf 26)) = some y := hf 3 _ rfl
  have k3 : Tryz.prog.cellsOf 26 = 1 := by kernel_rfl
  rw [k3] at h3; simp only [List.drop_zero, List.drop_succ_cons, List.take_succ_cons, List.take_zero] at h3
  obtain ⟨d3, A3, n3, c3, e3, g3, r3⟩ := opens_ints H enc W _ _ _ h3
  simp only [List.cons.injEq, and_true] at e3
  obtain ⟨y4, h4⟩ : ∃ y, DataW.trod enc Tryz.prog W 0 (fun _ => true) true m 56 (([a0, a1, a2, a3, a4].drop 4).take (Tryz.prog.cellsOf 56)) = some y := hf 4 _ rfl
  have k4 : Tryz.prog.cellsOf 56 = 1 := by kernel_rfl
  rw [k4] at h4; simp only [List.drop_zero, List.drop_succ_cons, List.take_succ_cons, List.take_zero] at h4
  obtain ⟨d4, A4, n4, c4, e4, g4, r4⟩ := opens_PortS H enc W _ _ _ h4
  simp only [List.cons.injEq, and_true] at e4
  subst e0; subst e1; subst e2; subst e3; subst e4
  exact ⟨⟨d0, d1, d2, d3, d4⟩, A3, n3, c3, A4, n4, c4, rfl, ⟨g3, r3⟩, ⟨g4, r4⟩⟩
theorem opens_AgentS : Opens Tryz.prog 22 (slRd agentRd 5) := opens_slice Tryz.underlying22 (by kernel_rfl) (by decide) agentRd_ok opens_Agent
theorem opens_Net : Opens Tryz.prog 24 netRd := fun H enc W fuel cs x h => by
  obtain ⟨hl, m, hf⟩ := trod_fields Tryz.underlying24 h
  replace hl : cs.length = 1 := hl.trans (by kernel_rfl)
  obtain ⟨a0, rfl⟩ := len1 hl
  obtain ⟨y0, h0⟩ : ∃ y, DataW.trod enc Tryz.prog W 0 (fun _ => true) true m 22 (([a0].drop 0).take (Tryz.prog.cellsOf 22)) = some y := hf 0 _ rfl
  have k0 : Tryz.prog.cellsOf 22 = 1 := by kernel_rfl
  rw [k0] at h0; simp only [List.drop_zero, List.drop_succ_cons, List.take_succ_cons, List.take_zero] at h0
  obtain ⟨d0, A0, n0, c0, e0, g0, r0⟩ := opens_AgentS H enc W _ _ _ h0
  simp only [List.cons.injEq, and_true] at e0
  subst e0
  exact ⟨⟨d0⟩, A0, n0, c0, rfl, ⟨g0, r0⟩⟩
end
section
open Go.ChangeShapes Go.WideShapes Go.ChangeAt Go.RowKit Go.WideElems
set_option linter.unusedVariables false
theorem own : ownKnob Tryz.prog.godebug = none := by kernel_rfl
theorem laid : laidOutB Tryz.prog = true := by kernel_rfl
section
variable {H : Type} {enc : TypeId × Value → H}
theorem trodAll_stays {W W' : World} {sp : Nat → Bool} (hb : Below W.heap.size W W') : ∀ (ts : List TypeId) (vs : List Value) (ds : List (DataW H)) (ps : List MemPlace),
    (∀ t ∈ ts, Tryz.prog.readableRec t = true ∧ t < Tryz.prog.types.size) → DataW.TrodAll enc Tryz.prog W 0 (fun _ => true) true ts vs ds ps →
    (∀ x ∈ ps, x.block < W.heap.size) → (∀ x ∈ ps, sp x.block = true) → DataW.TrodAll enc Tryz.prog W' 0 sp true ts vs ds ps
  | [], [], [], ps, _, h, _, _ => h
  | t :: ts, v :: vs, d :: ds, ps, hts, h, hlt, hsp => by
    obtain ⟨p, q, h1, h2, rfl⟩ := h
    have ht := hts t (by simp)
    exact ⟨p, q, Trod_stays laid ht.1 ht.2 h1 (fun x hx => hb.same (hlt x (by simp [hx]))) (fun x hx => hsp x (by simp [hx])),
      trodAll_stays hb ts vs ds q (fun t' h' => hts t' (by simp [h'])) h2 (fun x hx => hlt x (by simp [hx])) (fun x hx => hsp x (by simp [hx])), rfl⟩
  | [], _ :: _, _, _, _, h, _, _ => h.elim
  | [], [], _ :: _, _, _, h, _, _ => h.elim
  | _ :: _, [], _, _, _, h, _, _ => h.elim
  | _ :: _, _ :: _, [], _, _, h, _, _ => h.elim
theorem post_law {f : Func} {s : ChangeSpec} {W W' : World} {args : Array Value} {ds : List (DataW H)} {before : List MemPlace}
    (hv : s.vars = []) (hr1 : f.resultTypes = #[4])
    (hp0 : (f.params.toList.all fun t => Tryz.prog.readableRec t && decide (t < Tryz.prog.types.size)) = true)
    (hres : (s.fn H (ds ++ [])).results = [.lit (.bool true)]) (hargs : (s.fn H (ds ++ [])).args = ds) (hvars : (s.fn H (ds ++ [])).vars = [])
    (hW : DataW.Whole enc Tryz.prog f.params.toList s.vars false W args.toList ds [] before)
    (hb : Below W.heap.size W W') :
    s.post enc Tryz.prog f false true false false W args (.bool true) W' := by
  have hp : ∀ t ∈ f.params.toList, Tryz.prog.readableRec t = true ∧ t < Tryz.prog.types.size := fun t ht => by simpa using List.all_eq_true.1 hp0 t ht
  have hlt : ∀ p ∈ before, p.block < W.heap.size := fun p hp => hW.lt p hp
  have hold : ∀ p ∈ before, (fun b => decide (b < W.heap.size)) p.block = true := fun p hp => by simpa using hlt p hp
  have hWh := hW
  obtain ⟨p, q, hA, hV, rfl, hfz, _⟩ := hWh
  rw [hv] at hV
  obtain rfl : q = [] := hV
  rw [List.append_nil] at hlt hold
  have hA' : ∀ sp : Nat → Bool, (∀ x ∈ p, sp x.block = true) → DataW.TrodAll enc Tryz.prog W' 0 sp true f.params.toList args.toList ds p := fun sp hsp =>
    trodAll_stays hb _ _ _ _ hp hA hlt hsp
  rw [List.append_nil] at hW
  refine ⟨ds, [], p, [], p, [], hW, ?_, ?_, ?_, World.keptBut_mono (fun x hx => ⟨hx, ?_⟩) (hb.frame (· ∈ p)), fun h => by cases h⟩
  · rw [hres, hr1]
    exact trodAll_cons_mk (shut_bool Tryz.underlying4 _) trodAll_mk0
  · rw [hargs]
    exact hA' _ hold
  · rw [hvars, hv]
    rfl
  · simp [hx]
end
end
end Go.Proofs.YtebioddcnldjkaaGreat
