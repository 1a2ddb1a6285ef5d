/- Lemmas of the proof of FindIsomorphism, part 7. No condition. -/
import Derived.Test.YtebioddcnldjkaaGreatZFindIsomorphism6
namespace Go.Proofs.YtebioddcnldjkaaGreat
section
open Go.RowKit
set_option linter.unusedVariables false
set_option linter.unusedSimpArgs false
set_option maxRecDepth 100000
def m_spec_l00Same_A1 : Option Bool :=
  some true
def m_spec_l00Same_B1 (d0 : List Int) (d1 : List Int) (rec1 : Int → Option Bool) (K1 : Option Bool) (i3 : Int) : Option Bool :=
  (bif (decide (i3 < (d0.length : Int))) then ((getI d0 i3).bind fun x6 => ((getI d1 i3).bind fun x15 => (bif (x6 != x15) then some false else (rec1 (i3 + 1))))) else (K1))
def m_spec_l00Same_L1 (d0 : List Int) (d1 : List Int) (K1 : Option Bool) : Nat → Int → Option Bool
  | 0, _ => none
  | g + 1, i3 => m_spec_l00Same_B1 d0 d1 (m_spec_l00Same_L1 d0 d1 K1 g) K1 i3
def m_spec_l00Same (d0 : List Int) (d1 : List Int) : Option Bool :=
  (bif ((d0.length : Int) != (d1.length : Int)) then some false else (m_spec_l00Same_L1 d0 d1 m_spec_l00Same_A1 (d0.length + 1) 0))
set_option maxHeartbeats 2000000 in
theorem c_m_spec_l00Same (d0 : List Int) (d1 : List Int) (r : Bool) (hm : m_spec_l00Same d0 d1 = some r) (v0 : Value) (v1 : Value) (w : World) (hv0 : Sl intRd 1 w v0 d0) (hv1 : Sl intRd 1 w v1 d1) :
    Calls Tryz.prog 114 #[v0, v1] w fun e w' => e = .returned (.bool r) ∧ Below w.heap.size w w' := by
  obtain ⟨Aa0, na0, ca0, rfl, ha0, ra0⟩ := hv0
  have ea0 := ha0.len; subst ea0
  have qa0 := len_le ra0
  obtain ⟨Aa1, na1, ca1, rfl, ha1, ra1⟩ := hv1
  have ea1 := ha1.len; subst ea1
  have qa1 := len_le ra1
  have T := Below.refl w.heap.size w
  unfold m_spec_l00Same at hm
  refine enter 26 Tryz.func114 rfl rfl rfl ?_
  intro f hf
  have s0 : f 0 = .slice Aa0 d0.length ca0 := hf 0 _ rfl
  have s1 : f 1 = .slice Aa1 d1.length ca1 := hf 1 _ rfl
  refine wp_seq ?_
  refine wp_rs rfl ?_
  refine RQ.y rfl (Y.assign (v := .bool false) rfl) ?_
  refine RQ.nil ?_
  refine then_n ?_
  refine wp_seq ?_
  refine wp_seq ?_
  refine wp_rs rfl ?_
  refine RQ.y rfl (Y.move (v := .slice Aa0 d0.length ca0) s0) ?_
  refine RQ.y rfl (Y.len (by kernel_rfl) rfl) ?_
  refine RQ.y rfl (Y.move (v := .slice Aa1 d1.length ca1) s1) ?_
  refine RQ.y rfl (Y.len (by kernel_rfl) rfl) ?_
  refine RQ.y rfl (Y.binI (v := .bool ((d0.length : Int) != (d1.length : Int))) rfl rfl rfl) ?_
  refine RQ.nil ?_
  refine then_n ?_
  rcases bcases ((d0.length : Int) != (d1.length : Int)) with c1 | c1
  · replace hm := cF c1 hm
    refine cond_f rfl (vb rfl c1) ?_
    refine wp_skip ?_
    refine then_n ?_
    refine wp_seq ?_
    refine wp_seq ?_
    refine wp_rs rfl ?_
    refine RQ.y rfl (Y.assign (v := .int .i64 0) rfl) ?_
    refine RQ.nil ?_
    refine then_n ?_
    refine wp_block ?_
    obtain ⟨K1, hK1, hm⟩ : ∃ K, K = m_spec_l00Same_A1 ∧ m_spec_l00Same_L1 d0 d1 K (d0.length + 1) 0 = some r := ⟨_, rfl, hm⟩
    refine wp_loopX (fun g f w' => ∃ (i3 : Int), f 0 = .slice Aa0 d0.length ca0 ∧ f 1 = .slice Aa1 d1.length ca1 ∧ f 5 = .int .i64 i3 ∧ 0 ≤ i3 ∧ Below w.heap.size w w' ∧ m_spec_l00Same_L1 d0 d1 K1 g i3 = some r) 0 (fun f w' => Below w.heap.size w w' ∧ m_spec_l00Same_A1  = some r) (d0.length + 1) ⟨0, s0, s1, rfl, (by omega), T, hm⟩ ?_ ?_
    · rintro f w2 ⟨T, hm⟩
      unfold m_spec_l00Same_A1 at hm
      refine blk_hit (then_n ?_)
      refine wp_seq ?_
      refine wp_rs rfl ?_
      refine RQ.y rfl (Y.assign (v := .bool true) rfl) ?_
      refine RQ.nil ?_
      refine then_n ?_
      refine wp_ret ?_
      obtain rfl := Option.some.inj hm
      exact (ret1 rfl rfl rfl ⟨rfl, T⟩)
    · rintro g f w4 ⟨i3, s0_1, s1_1, s5_1, nn5_1, T, hm⟩
      rcases g with _ | g
      · simp only [m_spec_l00Same_L1] at hm; cases hm
      obtain ⟨rec1, hrec1, hm⟩ : ∃ z, z = m_spec_l00Same_L1 d0 d1 K1 g ∧ m_spec_l00Same_B1 d0 d1 z K1 i3 = some r := ⟨_, rfl, hm⟩
      unfold m_spec_l00Same_B1 at hm
      refine wp_seq ?_
      refine wp_seq ?_
      refine wp_rs rfl ?_
      refine RQ.y rfl (Y.move (v := .int .i64 i3) s5_1) ?_
      refine RQ.y rfl (Y.move (v := .slice Aa0 d0.length ca0) s0_1) ?_
      refine RQ.y rfl (Y.len (by kernel_rfl) rfl) ?_
      refine RQ.y rfl (Y.binI (v := .bool (decide (i3 < (d0.length : Int)))) rfl rfl rfl) ?_
      refine RQ.nil ?_
      refine then_n ?_
      rcases bcases (decide (i3 < (d0.length : Int))) with c5 | c5
      · replace hm := cF c5 hm
        have pc5 := of_decide_eq_false c5
        refine cond_f rfl (vb rfl c5) ?_
        refine wp_exit ?_
        exact (then_x (then_x (hit_x ⟨_, rfl, ⟨T, (by rw [hK1] at hm; exact hm)⟩⟩)))
      · replace hm := cT c5 hm
        have pc5 := of_decide_eq_true c5
        refine cond_t rfl (vb rfl c5) ?_
        refine wp_skip ?_
        refine then_n ?_
        refine wp_seq ?_
        refine wp_block ?_
        refine wp_seq ?_
        refine wp_rbd (by kernel_rfl) (by kernel_rfl) ?_
        refine RQ.y rfl (Y.move (v := .slice Aa0 d0.length ca0) s0_1) ?_
        refine RQ.y rfl (Y.move (v := .int .i64 i3) s5_1) ?_
        obtain ⟨x6, hx9, hm⟩ := bnd hm
        obtain ⟨k7, hk10, hl11, hx9⟩ := getI_some hx9
        obtain ⟨b13, o14, rfl, hbb13⟩ := ha0.addr (by omega)
        obtain ⟨cs8, hRcs8, hc12⟩ := ha0.el hx9
        have hScs8 := hRcs8
        obtain rfl := hRcs8
        refine RQ.y rfl (Y.indexAddr (m := k7) (sz := 1) rfl rfl hk10 hl11 (by kernel_rfl)) ?_
        refine RQ.y rfl (Y.load (v := .int .i64 x6) rfl (by kernel_rfl) (beC (cellT T (hc12 0 _ rfl)))) ?_
        refine RQ.y rfl (Y.move (v := .slice Aa1 d1.length ca1) s1_1) ?_
        refine RQ.y rfl (Y.move (v := .int .i64 i3) s5_1) ?_
        obtain ⟨x15, hx18, hm⟩ := bnd hm
        obtain ⟨k16, hk19, hl20, hx18⟩ := getI_some hx18
        obtain ⟨b22, o23, rfl, hbb22⟩ := ha1.addr (by omega)
        obtain ⟨cs17, hRcs17, hc21⟩ := ha1.el hx18
        have hScs17 := hRcs17
        obtain rfl := hRcs17
        refine RQ.y rfl (Y.indexAddr (m := k16) (sz := 1) rfl rfl hk19 hl20 (by kernel_rfl)) ?_
        refine RQ.y rfl (Y.load (v := .int .i64 x15) rfl (by kernel_rfl) (beC (cellT T (hc21 0 _ rfl)))) ?_
        refine RQ.y rfl (Y.binI (v := .bool (x6 != x15)) rfl rfl rfl) ?_
        refine RQ.nil ?_
        intro w24 hb25
        have szw24 := hb25.size
        have T := Tt T hb25
        refine then_n ?_
        rcases bcases (x6 != x15) with c26 | c26
        · replace hm := cF c26 hm
          refine cond_f rfl (vb rfl c26) ?_
          refine wp_skip ?_
          refine blk_n (then_n ?_)
          refine wp_rs rfl ?_
          refine RQ.y rfl (Y.move (v := .int .i64 i3) s5_1) ?_
          refine RQ.y rfl (Y.binI rfl rfl (binI_add (m := i3) (by omega))) ?_
          refine RQ.y rfl (Y.assign (v := .int .i64 (i3 + 1)) rfl) ?_
          refine RQ.nil ?_
          exact (then_n ⟨g, _, Nat.lt_succ_self _, rfl, ⟨(i3 + 1), s0_1, s1_1, rfl, (by omega), T, (by rw [← hrec1]; exact hm)⟩⟩)
        · replace hm := cT c26 hm
          refine cond_t rfl (vb rfl c26) ?_
          refine wp_seq ?_
          refine wp_rs rfl ?_
          refine RQ.y rfl (Y.assign (v := .bool false) rfl) ?_
          refine RQ.nil ?_
          refine then_n ?_
          refine wp_ret ?_
          obtain rfl := Option.some.inj hm
          exact (blk_r (then_r (then_r (hit_r (blk_r (then_r (ret1 rfl rfl rfl ⟨rfl, T⟩)))))))
  · replace hm := cT c1 hm
    refine cond_t rfl (vb rfl c1) ?_
    refine wp_seq ?_
    refine wp_rs rfl ?_
    refine RQ.y rfl (Y.assign (v := .bool false) rfl) ?_
    refine RQ.nil ?_
    refine then_n ?_
    refine wp_ret ?_
    obtain rfl := Option.some.inj hm
    exact (then_r (ret1 rfl rfl rfl ⟨rfl, T⟩))
def m_spec_l11SameAgent_A1 : Option Bool :=
  some true
def m_spec_l11SameAgent_B1 (d0 : DAgent) (d1 : DAgent) (rec1 : Int → Option Bool) (K1 : Option Bool) (i17 : Int) : Option Bool :=
  (bif (decide (i17 < (d0.ports.length : Int))) then ((getI d0.ports i17).bind fun x20 => ((getI d1.ports i17).bind fun x29 => (bif (x20.agent == x29.agent && x20.slot == x29.slot) then (rec1 (i17 + 1)) else some false))) else (K1))
def m_spec_l11SameAgent_L1 (d0 : DAgent) (d1 : DAgent) (K1 : Option Bool) : Nat → Int → Option Bool
  | 0, _ => none
  | g + 1, i17 => m_spec_l11SameAgent_B1 d0 d1 (m_spec_l11SameAgent_L1 d0 d1 K1 g) K1 i17
def m_spec_l11SameAgent (d0 : DAgent) (d1 : DAgent) : Option Bool :=
  (bif (d0.kind != d1.kind) then some false else (bif (d0.level != d1.level) then some false else (bif (d0.value != d1.value) then some false else ((m_spec_l00Same d0.data d1.data).bind fun y8 => (bif y8 then (bif ((d0.ports.length : Int) != (d1.ports.length : Int)) then some false else (m_spec_l11SameAgent_L1 d0 d1 m_spec_l11SameAgent_A1 (d0.ports.length + 1) 0)) else some false)))))
set_option maxHeartbeats 2000000 in
theorem c_m_spec_l11SameAgent (d0 : DAgent) (d1 : DAgent) (r : Bool) (hm : m_spec_l11SameAgent d0 d1 = some r) (v0 : Value) (v1 : Value) (w : World) (hv0 : Pt agentRd w v0 d0) (hv1 : Pt agentRd w v1 d1) :
    Calls Tryz.prog 84 #[v0, v1] w fun e w' => e = .returned (.bool r) ∧ Below w.heap.size w w' := by
  obtain ⟨ba0, oa0, csa0, rfl, hba0, hRa0, hca0⟩ := hv0
  have hSa0 := hRa0
  obtain ⟨A1, n1, c1, A2, n2, c2, rfl, ⟨h1, r1⟩, ⟨h2, r2⟩⟩ := hRa0
  have e1 := h1.len; subst e1
  have q1 := len_le r1
  have e2 := h2.len; subst e2
  have q2 := len_le r2
  obtain ⟨ba1, oa1, csa1, rfl, hba1, hRa1, hca1⟩ := hv1
  have hSa1 := hRa1
  obtain ⟨A3, n3, c3, A4, n4, c4, rfl, ⟨h3, r3⟩, ⟨h4, r4⟩⟩ := hRa1
  have e3 := h3.len; subst e3
  have q3 := len_le r3
  have e4 := h4.len; subst e4
  have q4 := len_le r4
  have T := Below.refl w.heap.size w
  unfold m_spec_l11SameAgent at hm
  refine enter 86 Tryz.func84 rfl rfl rfl ?_
  intro f hf
  have s0 : f 0 = .pointer (some ⟨ba0, oa0, none⟩) := hf 0 _ rfl
  have s1 : f 1 = .pointer (some ⟨ba1, oa1, none⟩) := hf 1 _ rfl
  refine wp_seq ?_
  refine wp_rs rfl ?_
  refine RQ.y rfl (Y.assign (v := .bool false) rfl) ?_
  refine RQ.nil ?_
  refine then_n ?_
  refine wp_seq ?_
  refine wp_seq ?_
  refine wp_rbd (by kernel_rfl) (by kernel_rfl) ?_
  refine RQ.y rfl (Y.move (v := .pointer (some ⟨ba0, oa0, none⟩)) s0) ?_
  refine RQ.y rfl (Y.nilCheck rfl) ?_
  refine RQ.y rfl (Y.fieldAddr (off := 0) rfl (by kernel_rfl)) ?_
  refine RQ.y rfl (Y.load (v := .int .i64 d0.kind) rfl (by kernel_rfl) (beC (cellT T (hca0 0 _ rfl)))) ?_
  refine RQ.y rfl (Y.move (v := .pointer (some ⟨ba1, oa1, none⟩)) s1) ?_
  refine RQ.y rfl (Y.nilCheck rfl) ?_
  refine RQ.y rfl (Y.fieldAddr (off := 0) rfl (by kernel_rfl)) ?_
  refine RQ.y rfl (Y.load (v := .int .i64 d1.kind) rfl (by kernel_rfl) (beC (cellT T (hca1 0 _ rfl)))) ?_
  refine RQ.y rfl (Y.binI (v := .bool (d0.kind != d1.kind)) rfl rfl rfl) ?_
  refine RQ.y rfl (Y.move (v := .bool (d0.kind != d1.kind)) rfl) ?_
  rcases bcases (d0.kind != d1.kind) with c5 | c5
  · replace hm := cF c5 hm
    refine RQ.y (wantT (dj := 15) rfl (vb rfl c5)) (Y.move (v := .pointer (some ⟨ba0, oa0, none⟩)) s0) ?_
    refine RQ.y (wantT (dj := 15) rfl (vb rfl c5)) (Y.nilCheck rfl) ?_
    refine RQ.y (wantT (dj := 15) rfl (vb rfl c5)) (Y.fieldAddr (off := 1) rfl (by kernel_rfl)) ?_
    refine RQ.y (wantT (dj := 15) rfl (vb rfl c5)) (Y.load (v := .int .i64 d0.level) rfl (by kernel_rfl) (beC (cellT T (hca0 1 _ rfl)))) ?_
    refine RQ.y (wantT (dj := 15) rfl (vb rfl c5)) (Y.move (v := .pointer (some ⟨ba1, oa1, none⟩)) s1) ?_
    refine RQ.y (wantT (dj := 15) rfl (vb rfl c5)) (Y.nilCheck rfl) ?_
    refine RQ.y (wantT (dj := 15) rfl (vb rfl c5)) (Y.fieldAddr (off := 1) rfl (by kernel_rfl)) ?_
    refine RQ.y (wantT (dj := 15) rfl (vb rfl c5)) (Y.load (v := .int .i64 d1.level) rfl (by kernel_rfl) (beC (cellT T (hca1 1 _ rfl)))) ?_
    refine RQ.y (wantT (dj := 15) rfl (vb rfl c5)) (Y.binI (v := .bool (d0.level != d1.level)) rfl rfl rfl) ?_
    refine RQ.y rfl (Y.pick (b := false) (v := .bool (d0.level != d1.level)) (vb rfl c5) rfl) ?_
    refine RQ.y rfl (Y.move (v := .bool (d0.level != d1.level)) rfl) ?_
    rcases bcases (d0.level != d1.level) with c6 | c6
    · replace hm := cF c6 hm
      refine RQ.y (wantT (dj := 26) rfl (vb rfl c6)) (Y.move (v := .pointer (some ⟨ba0, oa0, none⟩)) s0) ?_
      refine RQ.y (wantT (dj := 26) rfl (vb rfl c6)) (Y.nilCheck rfl) ?_
      refine RQ.y (wantT (dj := 26) rfl (vb rfl c6)) (Y.fieldAddr (off := 2) rfl (by kernel_rfl)) ?_
      refine RQ.y (wantT (dj := 26) rfl (vb rfl c6)) (Y.load (v := .int .i64 d0.value) rfl (by kernel_rfl) (beC (cellT T (hca0 2 _ rfl)))) ?_
      refine RQ.y (wantT (dj := 26) rfl (vb rfl c6)) (Y.move (v := .pointer (some ⟨ba1, oa1, none⟩)) s1) ?_
      refine RQ.y (wantT (dj := 26) rfl (vb rfl c6)) (Y.nilCheck rfl) ?_
      refine RQ.y (wantT (dj := 26) rfl (vb rfl c6)) (Y.fieldAddr (off := 2) rfl (by kernel_rfl)) ?_
      refine RQ.y (wantT (dj := 26) rfl (vb rfl c6)) (Y.load (v := .int .i64 d1.value) rfl (by kernel_rfl) (beC (cellT T (hca1 2 _ rfl)))) ?_
      refine RQ.y (wantT (dj := 26) rfl (vb rfl c6)) (Y.binI (v := .bool (d0.value != d1.value)) rfl rfl rfl) ?_
      refine RQ.y rfl (Y.pick (b := false) (v := .bool (d0.value != d1.value)) (vb rfl c6) rfl) ?_
      refine RQ.y rfl (Y.move (v := .bool (d0.value != d1.value)) rfl) ?_
      rcases bcases (d0.value != d1.value) with c7 | c7
      · replace hm := cF c7 hm
        refine RQ.y (wantT (dj := 37) rfl (vb rfl c7)) (Y.move (v := .pointer (some ⟨ba0, oa0, none⟩)) s0) ?_
        refine RQ.y (wantT (dj := 37) rfl (vb rfl c7)) (Y.nilCheck rfl) ?_
        refine RQ.y (wantT (dj := 37) rfl (vb rfl c7)) (Y.fieldAddr (off := 3) rfl (by kernel_rfl)) ?_
        refine RQ.y (wantT (dj := 37) rfl (vb rfl c7)) (Y.load (v := .slice A1 d0.data.length c1) rfl (by kernel_rfl) (beC (cellT T (hca0 3 _ rfl)))) ?_
        refine RQ.y (wantT (dj := 37) rfl (vb rfl c7)) (Y.move (v := .pointer (some ⟨ba1, oa1, none⟩)) s1) ?_
        refine RQ.y (wantT (dj := 37) rfl (vb rfl c7)) (Y.nilCheck rfl) ?_
        refine RQ.y (wantT (dj := 37) rfl (vb rfl c7)) (Y.fieldAddr (off := 3) rfl (by kernel_rfl)) ?_
        refine RQ.y (wantT (dj := 37) rfl (vb rfl c7)) (Y.load (v := .slice A3 d1.data.length c3) rfl (by kernel_rfl) (beC (cellT T (hca1 3 _ rfl)))) ?_
        obtain ⟨y8, e9, hm⟩ := bnd hm
        refine RQ.call (wantT (dj := 37) rfl (vb rfl c7)) (am2 rfl rfl) (by kernel_rfl) (v := .bool y8) (bel (K := fun _ => True) fun w' hb' => (c_m_spec_l00Same d0.data d1.data _ e9 _ _ w' (slArg intRd_ok h1 r1 (Tt T hb')) (slArg intRd_ok h3 r3 (Tt T hb')))) ?_
        refine RQ.y (wantT (dj := 37) rfl (vb rfl c7)) (Y.not (b' := (!y8)) rfl rfl) ?_
        refine RQ.y rfl (Y.pick (b := false) (v := .bool (!y8)) (vb rfl c7) rfl) ?_
        refine RQ.y rfl (Y.move (v := .bool (!y8)) rfl) ?_
        rcases bcases y8 with c10 | c10
        · replace hm := cF c10 hm
          refine RQ.skip (wantN (dj := 49) rfl (vbn rfl c10 rfl) rfl) ?_
          refine RQ.skip (wantN (dj := 49) rfl (vbn rfl c10 rfl) rfl) ?_
          refine RQ.skip (wantN (dj := 49) rfl (vbn rfl c10 rfl) rfl) ?_
          refine RQ.skip (wantN (dj := 49) rfl (vbn rfl c10 rfl) rfl) ?_
          refine RQ.skip (wantN (dj := 49) rfl (vbn rfl c10 rfl) rfl) ?_
          refine RQ.skip (wantN (dj := 49) rfl (vbn rfl c10 rfl) rfl) ?_
          refine RQ.skip (wantN (dj := 49) rfl (vbn rfl c10 rfl) rfl) ?_
          refine RQ.skip (wantN (dj := 49) rfl (vbn rfl c10 rfl) rfl) ?_
          refine RQ.skip (wantN (dj := 49) rfl (vbn rfl c10 rfl) rfl) ?_
          refine RQ.skip (wantN (dj := 49) rfl (vbn rfl c10 rfl) rfl) ?_
          refine RQ.skip (wantN (dj := 49) rfl (vbn rfl c10 rfl) rfl) ?_
          refine RQ.y rfl (Y.pick (b := true) (v := .bool true) (vbn rfl c10 rfl) rfl) ?_
          refine RQ.nil ?_
          intro w11 hb12
          have szw11 := hb12.size
          have T := Tt T hb12
          refine then_n ?_
          refine cond_t rfl rfl ?_
          refine wp_seq ?_
          refine wp_rs rfl ?_
          refine RQ.y rfl (Y.assign (v := .bool false) rfl) ?_
          refine RQ.nil ?_
          refine then_n ?_
          refine wp_ret ?_
          obtain rfl := Option.some.inj hm
          exact (then_r (ret1 rfl rfl rfl ⟨rfl, T⟩))
        · replace hm := cT c10 hm
          refine RQ.y (wantT (dj := 49) rfl (vbn rfl c10 rfl)) (Y.move (v := .pointer (some ⟨ba0, oa0, none⟩)) s0) ?_
          refine RQ.y (wantT (dj := 49) rfl (vbn rfl c10 rfl)) (Y.nilCheck rfl) ?_
          refine RQ.y (wantT (dj := 49) rfl (vbn rfl c10 rfl)) (Y.fieldAddr (off := 4) rfl (by kernel_rfl)) ?_
          refine RQ.y (wantT (dj := 49) rfl (vbn rfl c10 rfl)) (Y.load (v := .slice A2 d0.ports.length c2) rfl (by kernel_rfl) (beC (cellT T (hca0 4 _ rfl)))) ?_
          refine RQ.y (wantT (dj := 49) rfl (vbn rfl c10 rfl)) (Y.len (by kernel_rfl) rfl) ?_
          refine RQ.y (wantT (dj := 49) rfl (vbn rfl c10 rfl)) (Y.move (v := .pointer (some ⟨ba1, oa1, none⟩)) s1) ?_
          refine RQ.y (wantT (dj := 49) rfl (vbn rfl c10 rfl)) (Y.nilCheck rfl) ?_
          refine RQ.y (wantT (dj := 49) rfl (vbn rfl c10 rfl)) (Y.fieldAddr (off := 4) rfl (by kernel_rfl)) ?_
          refine RQ.y (wantT (dj := 49) rfl (vbn rfl c10 rfl)) (Y.load (v := .slice A4 d1.ports.length c4) rfl (by kernel_rfl) (beC (cellT T (hca1 4 _ rfl)))) ?_
          refine RQ.y (wantT (dj := 49) rfl (vbn rfl c10 rfl)) (Y.len (by kernel_rfl) rfl) ?_
          refine RQ.y (wantT (dj := 49) rfl (vbn rfl c10 rfl)) (Y.binI (v := .bool ((d0.ports.length : Int) != (d1.ports.length : Int))) rfl rfl rfl) ?_
          refine RQ.y rfl (Y.pick (b := false) (v := .bool ((d0.ports.length : Int) != (d1.ports.length : Int))) (vbn rfl c10 rfl) rfl) ?_
          refine RQ.nil ?_
          intro w13 hb14
          have szw13 := hb14.size
          have T := Tt T hb14
          refine then_n ?_
          rcases bcases ((d0.ports.length : Int) != (d1.ports.length : Int)) with c15 | c15
          · replace hm := cF c15 hm
            refine cond_f rfl (vb rfl c15) ?_
            refine wp_skip ?_
            refine then_n ?_
            refine wp_seq ?_
            refine wp_seq ?_
            refine wp_rs rfl ?_
            refine RQ.y rfl (Y.assign (v := .int .i64 0) rfl) ?_
            refine RQ.nil ?_
            refine then_n ?_
            refine wp_block ?_
            obtain ⟨K1, hK1, hm⟩ : ∃ K, K = m_spec_l11SameAgent_A1 ∧ m_spec_l11SameAgent_L1 d0 d1 K (d0.ports.length + 1) 0 = some r := ⟨_, rfl, hm⟩
            refine wp_loopX (fun g f w' => ∃ (i17 : Int), f 0 = .pointer (some ⟨ba0, oa0, none⟩) ∧ f 1 = .pointer (some ⟨ba1, oa1, none⟩) ∧ f 5 = .int .i64 i17 ∧ 0 ≤ i17 ∧ Below w.heap.size w w' ∧ m_spec_l11SameAgent_L1 d0 d1 K1 g i17 = some r) 0 (fun f w' => Below w.heap.size w w' ∧ m_spec_l11SameAgent_A1  = some r) (d0.ports.length + 1) ⟨0, s0, s1, rfl, (by omega), T, hm⟩ ?_ ?_
            · rintro f w16 ⟨T, hm⟩
              unfold m_spec_l11SameAgent_A1 at hm
              refine blk_hit (then_n ?_)
              refine wp_seq ?_
              refine wp_rs rfl ?_
              refine RQ.y rfl (Y.assign (v := .bool true) rfl) ?_
              refine RQ.nil ?_
              refine then_n ?_
              refine wp_ret ?_
              obtain rfl := Option.some.inj hm
              exact (ret1 rfl rfl rfl ⟨rfl, T⟩)
            · rintro g f w18 ⟨i17, s0_1, s1_1, s5_1, nn5_1, T, hm⟩
              rcases g with _ | g
              · simp only [m_spec_l11SameAgent_L1] at hm; cases hm
              obtain ⟨rec1, hrec1, hm⟩ : ∃ z, z = m_spec_l11SameAgent_L1 d0 d1 K1 g ∧ m_spec_l11SameAgent_B1 d0 d1 z K1 i17 = some r := ⟨_, rfl, hm⟩
              unfold m_spec_l11SameAgent_B1 at hm
              refine wp_seq ?_
              refine wp_seq ?_
              refine wp_rs rfl ?_
              refine RQ.y rfl (Y.move (v := .int .i64 i17) s5_1) ?_
              refine RQ.y rfl (Y.move (v := .pointer (some ⟨ba0, oa0, none⟩)) s0_1) ?_
              refine RQ.y rfl (Y.nilCheck rfl) ?_
              refine RQ.y rfl (Y.fieldAddr (off := 4) rfl (by kernel_rfl)) ?_
              refine RQ.y rfl (Y.load (v := .slice A2 d0.ports.length c2) rfl (by kernel_rfl) (eqC (cellT T (hca0 4 _ rfl)))) ?_
              refine RQ.y rfl (Y.len (by kernel_rfl) rfl) ?_
              refine RQ.y rfl (Y.binI (v := .bool (decide (i17 < (d0.ports.length : Int)))) rfl rfl rfl) ?_
              refine RQ.nil ?_
              refine then_n ?_
              rcases bcases (decide (i17 < (d0.ports.length : Int))) with c19 | c19
              · replace hm := cF c19 hm
                have pc19 := of_decide_eq_false c19
                refine cond_f rfl (vb rfl c19) ?_
                refine wp_exit ?_
                exact (then_x (then_x (hit_x ⟨_, rfl, ⟨T, (by rw [hK1] at hm; exact hm)⟩⟩)))
              · replace hm := cT c19 hm
                have pc19 := of_decide_eq_true c19
                refine cond_t rfl (vb rfl c19) ?_
                refine wp_skip ?_
                refine then_n ?_
                refine wp_seq ?_
                refine wp_block ?_
                refine wp_seq ?_
                refine wp_rbd (by kernel_rfl) (by kernel_rfl) ?_
                refine RQ.y rfl (Y.move (v := .pointer (some ⟨ba0, oa0, none⟩)) s0_1) ?_
                refine RQ.y rfl (Y.nilCheck rfl) ?_
                refine RQ.y rfl (Y.fieldAddr (off := 4) rfl (by kernel_rfl)) ?_
                refine RQ.y rfl (Y.load (v := .slice A2 d0.ports.length c2) rfl (by kernel_rfl) (beC (cellT T (hca0 4 _ rfl)))) ?_
                refine RQ.y rfl (Y.move (v := .int .i64 i17) s5_1) ?_
                obtain ⟨x20, hx23, hm⟩ := bnd hm
                obtain ⟨k21, hk24, hl25, hx23⟩ := getI_some hx23
                obtain ⟨b27, o28, rfl, hbb27⟩ := h2.addr (by omega)
                obtain ⟨cs22, hRcs22, hc26⟩ := h2.el hx23
                have hScs22 := hRcs22
                obtain rfl := hRcs22
                refine RQ.y rfl (Y.indexAddr (m := k21) (sz := 2) rfl rfl hk24 hl25 (by kernel_rfl)) ?_
                refine RQ.y rfl (Y.loadN (cs := [.int .i64 x20.agent, .int .i64 x20.slot]) rfl (by kernel_rfl) (cells2 (beC (cellT T (hc26 0 _ rfl))) (beC (cellT T (hc26 1 _ rfl))))) ?_
                refine RQ.y rfl (Y.move (v := .pointer (some ⟨ba1, oa1, none⟩)) s1_1) ?_
                refine RQ.y rfl (Y.nilCheck rfl) ?_
                refine RQ.y rfl (Y.fieldAddr (off := 4) rfl (by kernel_rfl)) ?_
                refine RQ.y rfl (Y.load (v := .slice A4 d1.ports.length c4) rfl (by kernel_rfl) (beC (cellT T (hca1 4 _ rfl)))) ?_
                refine RQ.y rfl (Y.move (v := .int .i64 i17) s5_1) ?_
                obtain ⟨x29, hx32, hm⟩ := bnd hm
                obtain ⟨k30, hk33, hl34, hx32⟩ := getI_some hx32
                obtain ⟨b36, o37, rfl, hbb36⟩ := h4.addr (by omega)
                obtain ⟨cs31, hRcs31, hc35⟩ := h4.el hx32
                have hScs31 := hRcs31
                obtain rfl := hRcs31
                refine RQ.y rfl (Y.indexAddr (m := k30) (sz := 2) rfl rfl hk33 hl34 (by kernel_rfl)) ?_
                refine RQ.y rfl (Y.loadN (cs := [.int .i64 x29.agent, .int .i64 x29.slot]) rfl (by kernel_rfl) (cells2 (beC (cellT T (hc35 0 _ rfl))) (beC (cellT T (hc35 1 _ rfl))))) ?_
                refine RQ.y rfl (Y.neS (b := (x20.agent == x29.agent && x20.slot == x29.slot)) rfl rfl (eqPort_run _ _ _ _) (eqGuardPort_run _ _ _ _ _)) ?_
                refine RQ.nil ?_
                intro w38 hb39
                have szw38 := hb39.size
                have T := Tt T hb39
                refine then_n ?_
                rcases bcases (x20.agent == x29.agent && x20.slot == x29.slot) with c40 | c40
                · replace hm := cF c40 hm
                  refine cond_t rfl (vbn rfl c40 rfl) ?_
                  refine wp_seq ?_
                  refine wp_rs rfl ?_
                  refine RQ.y rfl (Y.assign (v := .bool false) rfl) ?_
                  refine RQ.nil ?_
                  refine then_n ?_
                  refine wp_ret ?_
                  obtain rfl := Option.some.inj hm
                  exact (blk_r (then_r (then_r (hit_r (blk_r (then_r (ret1 rfl rfl rfl ⟨rfl, T⟩)))))))
                · replace hm := cT c40 hm
                  refine cond_f rfl (vbn rfl c40 rfl) ?_
                  refine wp_skip ?_
                  refine blk_n (then_n ?_)
                  refine wp_rs rfl ?_
                  refine RQ.y rfl (Y.move (v := .int .i64 i17) s5_1) ?_
                  refine RQ.y rfl (Y.binI rfl rfl (binI_add (m := i17) (by omega))) ?_
                  refine RQ.y rfl (Y.assign (v := .int .i64 (i17 + 1)) rfl) ?_
                  refine RQ.nil ?_
                  exact (then_n ⟨g, _, Nat.lt_succ_self _, rfl, ⟨(i17 + 1), s0_1, s1_1, rfl, (by omega), T, (by rw [← hrec1]; exact hm)⟩⟩)
          · replace hm := cT c15 hm
            refine cond_t rfl (vb rfl c15) ?_
            refine wp_seq ?_
            refine wp_rs rfl ?_
            refine RQ.y rfl (Y.assign (v := .bool false) rfl) ?_
            refine RQ.nil ?_
            refine then_n ?_
            refine wp_ret ?_
            obtain rfl := Option.some.inj hm
            exact (then_r (ret1 rfl rfl rfl ⟨rfl, T⟩))
      · replace hm := cT c7 hm
        refine RQ.skip (wantN (dj := 37) rfl (vb rfl c7) rfl) ?_
        refine RQ.skip (wantN (dj := 37) rfl (vb rfl c7) rfl) ?_
        refine RQ.skip (wantN (dj := 37) rfl (vb rfl c7) rfl) ?_
        refine RQ.skip (wantN (dj := 37) rfl (vb rfl c7) rfl) ?_
        refine RQ.skip (wantN (dj := 37) rfl (vb rfl c7) rfl) ?_
        refine RQ.skip (wantN (dj := 37) rfl (vb rfl c7) rfl) ?_
        refine RQ.skip (wantN (dj := 37) rfl (vb rfl c7) rfl) ?_
        refine RQ.skip (wantN (dj := 37) rfl (vb rfl c7) rfl) ?_
        refine RQ.skip (wantN (dj := 37) rfl (vb rfl c7) rfl) ?_
        refine RQ.skip (wantN (dj := 37) rfl (vb rfl c7) rfl) ?_
        refine RQ.y rfl (Y.pick (b := true) (v := .bool true) (vb rfl c7) rfl) ?_
        refine RQ.y rfl (Y.move (v := .bool true) rfl) ?_
        refine RQ.skip (wantN (dj := 49) rfl rfl rfl) ?_
        refine RQ.skip (wantN (dj := 49) rfl rfl rfl) ?_
        refine RQ.skip (wantN (dj := 49) rfl rfl rfl) ?_
        refine RQ.skip (wantN (dj := 49) rfl rfl rfl) ?_
        refine RQ.skip (wantN (dj := 49) rfl rfl rfl) ?_
        refine RQ.skip (wantN (dj := 49) rfl rfl rfl) ?_
        refine RQ.skip (wantN (dj := 49) rfl rfl rfl) ?_
        refine RQ.skip (wantN (dj := 49) rfl rfl rfl) ?_
        refine RQ.skip (wantN (dj := 49) rfl rfl rfl) ?_
        refine RQ.skip (wantN (dj := 49) rfl rfl rfl) ?_
        refine RQ.skip (wantN (dj := 49) rfl rfl rfl) ?_
        refine RQ.y rfl (Y.pick (b := true) (v := .bool true) rfl rfl) ?_
        refine RQ.nil ?_
        intro w42 hb43
        have szw42 := hb43.size
        have T := Tt T hb43
        refine then_n ?_
        refine cond_t rfl rfl ?_
        refine wp_seq ?_
        refine wp_rs rfl ?_
        refine RQ.y rfl (Y.assign (v := .bool false) rfl) ?_
        refine RQ.nil ?_
        refine then_n ?_
        refine wp_ret ?_
        obtain rfl := Option.some.inj hm
        exact (then_r (ret1 rfl rfl rfl ⟨rfl, T⟩))
    · replace hm := cT c6 hm
      refine RQ.skip (wantN (dj := 26) rfl (vb rfl c6) rfl) ?_
      refine RQ.skip (wantN (dj := 26) rfl (vb rfl c6) rfl) ?_
      refine RQ.skip (wantN (dj := 26) rfl (vb rfl c6) rfl) ?_
      refine RQ.skip (wantN (dj := 26) rfl (vb rfl c6) rfl) ?_
      refine RQ.skip (wantN (dj := 26) rfl (vb rfl c6) rfl) ?_
      refine RQ.skip (wantN (dj := 26) rfl (vb rfl c6) rfl) ?_
      refine RQ.skip (wantN (dj := 26) rfl (vb rfl c6) rfl) ?_
      refine RQ.skip (wantN (dj := 26) rfl (vb rfl c6) rfl) ?_
      refine RQ.skip (wantN (dj := 26) rfl (vb rfl c6) rfl) ?_
      refine RQ.y rfl (Y.pick (b := true) (v := .bool true) (vb rfl c6) rfl) ?_
      refine RQ.y rfl (Y.move (v := .bool true) rfl) ?_
      refine RQ.skip (wantN (dj := 37) rfl rfl rfl) ?_
      refine RQ.skip (wantN (dj := 37) rfl rfl rfl) ?_
      refine RQ.skip (wantN (dj := 37) rfl rfl rfl) ?_
      refine RQ.skip (wantN (dj := 37) rfl rfl rfl) ?_
      refine RQ.skip (wantN (dj := 37) rfl rfl rfl) ?_
      refine RQ.skip (wantN (dj := 37) rfl rfl rfl) ?_
      refine RQ.skip (wantN (dj := 37) rfl rfl rfl) ?_
      refine RQ.skip (wantN (dj := 37) rfl rfl rfl) ?_
      refine RQ.skip (wantN (dj := 37) rfl rfl rfl) ?_
      refine RQ.skip (wantN (dj := 37) rfl rfl rfl) ?_
      refine RQ.y rfl (Y.pick (b := true) (v := .bool true) rfl rfl) ?_
      refine RQ.y rfl (Y.move (v := .bool true) rfl) ?_
      refine RQ.skip (wantN (dj := 49) rfl rfl rfl) ?_
      refine RQ.skip (wantN (dj := 49) rfl rfl rfl) ?_
      refine RQ.skip (wantN (dj := 49) rfl rfl rfl) ?_
      refine RQ.skip (wantN (dj := 49) rfl rfl rfl) ?_
      refine RQ.skip (wantN (dj := 49) rfl rfl rfl) ?_
      refine RQ.skip (wantN (dj := 49) rfl rfl rfl) ?_
      refine RQ.skip (wantN (dj := 49) rfl rfl rfl) ?_
      refine RQ.skip (wantN (dj := 49) rfl rfl rfl) ?_
      refine RQ.skip (wantN (dj := 49) rfl rfl rfl) ?_
      refine RQ.skip (wantN (dj := 49) rfl rfl rfl) ?_
      refine RQ.skip (wantN (dj := 49) rfl rfl rfl) ?_
      refine RQ.y rfl (Y.pick (b := true) (v := .bool true) rfl rfl) ?_
      refine RQ.nil ?_
      intro w44 hb45
      have szw44 := hb45.size
      have T := Tt T hb45
      refine then_n ?_
      refine cond_t rfl rfl ?_
      refine wp_seq ?_
      refine wp_rs rfl ?_
      refine RQ.y rfl (Y.assign (v := .bool false) rfl) ?_
      refine RQ.nil ?_
      refine then_n ?_
      refine wp_ret ?_
      obtain rfl := Option.some.inj hm
      exact (then_r (ret1 rfl rfl rfl ⟨rfl, T⟩))
  · replace hm := cT c5 hm
    refine RQ.skip (wantN (dj := 15) rfl (vb rfl c5) rfl) ?_
    refine RQ.skip (wantN (dj := 15) rfl (vb rfl c5) rfl) ?_
    refine RQ.skip (wantN (dj := 15) rfl (vb rfl c5) rfl) ?_
    refine RQ.skip (wantN (dj := 15) rfl (vb rfl c5) rfl) ?_
    refine RQ.skip (wantN (dj := 15) rfl (vb rfl c5) rfl) ?_
    refine RQ.skip (wantN (dj := 15) rfl (vb rfl c5) rfl) ?_
    refine RQ.skip (wantN (dj := 15) rfl (vb rfl c5) rfl) ?_
    refine RQ.skip (wantN (dj := 15) rfl (vb rfl c5) rfl) ?_
    refine RQ.skip (wantN (dj := 15) rfl (vb rfl c5) rfl) ?_
    refine RQ.y rfl (Y.pick (b := true) (v := .bool true) (vb rfl c5) rfl) ?_
    refine RQ.y rfl (Y.move (v := .bool true) rfl) ?_
    refine RQ.skip (wantN (dj := 26) rfl rfl rfl) ?_
    refine RQ.skip (wantN (dj := 26) rfl rfl rfl) ?_
    refine RQ.skip (wantN (dj := 26) rfl rfl rfl) ?_
    refine RQ.skip (wantN (dj := 26) rfl rfl rfl) ?_
    refine RQ.skip (wantN (dj := 26) rfl rfl rfl) ?_
    refine RQ.skip (wantN (dj := 26) rfl rfl rfl) ?_
    refine RQ.skip (wantN (dj := 26) rfl rfl rfl) ?_
    refine RQ.skip (wantN (dj := 26) rfl rfl rfl) ?_
    refine RQ.skip (wantN (dj := 26) rfl rfl rfl) ?_
    refine RQ.y rfl (Y.pick (b := true) (v := .bool true) rfl rfl) ?_
    refine RQ.y rfl (Y.move (v := .bool true) rfl) ?_
    refine RQ.skip (wantN (dj := 37) rfl rfl rfl) ?_
    refine RQ.skip (wantN (dj := 37) rfl rfl rfl) ?_
    refine RQ.skip (wantN (dj := 37) rfl rfl rfl) ?_
    refine RQ.skip (wantN (dj := 37) rfl rfl rfl) ?_
    refine RQ.skip (wantN (dj := 37) rfl rfl rfl) ?_
    refine RQ.skip (wantN (dj := 37) rfl rfl rfl) ?_
    refine RQ.skip (wantN (dj := 37) rfl rfl rfl) ?_
    refine RQ.skip (wantN (dj := 37) rfl rfl rfl) ?_
    refine RQ.skip (wantN (dj := 37) rfl rfl rfl) ?_
    refine RQ.skip (wantN (dj := 37) rfl rfl rfl) ?_
    refine RQ.y rfl (Y.pick (b := true) (v := .bool true) rfl rfl) ?_
    refine RQ.y rfl (Y.move (v := .bool true) rfl) ?_
    refine RQ.skip (wantN (dj := 49) rfl rfl rfl) ?_
    refine RQ.skip (wantN (dj := 49) rfl rfl rfl) ?_
    refine RQ.skip (wantN (dj := 49) rfl rfl rfl) ?_
    refine RQ.skip (wantN (dj := 49) rfl rfl rfl) ?_
    refine RQ.skip (wantN (dj := 49) rfl rfl rfl) ?_
    refine RQ.skip (wantN (dj := 49) rfl rfl rfl) ?_
    refine RQ.skip (wantN (dj := 49) rfl rfl rfl) ?_
    refine RQ.skip (wantN (dj := 49) rfl rfl rfl) ?_
    refine RQ.skip (wantN (dj := 49) rfl rfl rfl) ?_
    refine RQ.skip (wantN (dj := 49) rfl rfl rfl) ?_
    refine RQ.skip (wantN (dj := 49) rfl rfl rfl) ?_
    refine RQ.y rfl (Y.pick (b := true) (v := .bool true) rfl rfl) ?_
    refine RQ.nil ?_
    intro w46 hb47
    have szw46 := hb47.size
    have T := Tt T hb47
    refine then_n ?_
    refine cond_t rfl rfl ?_
    refine wp_seq ?_
    refine wp_rs rfl ?_
    refine RQ.y rfl (Y.assign (v := .bool false) rfl) ?_
    refine RQ.nil ?_
    refine then_n ?_
    refine wp_ret ?_
    obtain rfl := Option.some.inj hm
    exact (then_r (ret1 rfl rfl rfl ⟨rfl, T⟩))
def m_spec_l11Same_A1 : Option Bool :=
  some true
def m_spec_l11Same_B1 (d0 : DNet) (d1 : DNet) (rec1 : Int → Option Bool) (K1 : Option Bool) (i7 : Int) : Option Bool :=
  (bif (decide (i7 < (d0.agents.length : Int))) then ((getI d0.agents i7).bind fun x10 => ((getI d1.agents i7).bind fun x21 => ((m_spec_l11SameAgent x10 x21).bind fun y32 => (bif y32 then (rec1 (i7 + 1)) else some false)))) else (K1))
def m_spec_l11Same_L1 (d0 : DNet) (d1 : DNet) (K1 : Option Bool) : Nat → Int → Option Bool
  | 0, _ => none
  | g + 1, i7 => m_spec_l11Same_B1 d0 d1 (m_spec_l11Same_L1 d0 d1 K1 g) K1 i7
def m_spec_l11Same (d0 : DNet) (d1 : DNet) : Option Bool :=
  (bif ((d0.agents.length : Int) != (d1.agents.length : Int)) then some false else (m_spec_l11Same_L1 d0 d1 m_spec_l11Same_A1 (d0.agents.length + 1) 0))
set_option maxHeartbeats 2000000 in
theorem c_m_spec_l11Same (d0 : DNet) (d1 : DNet) (r : Bool) (hm : m_spec_l11Same d0 d1 = some r) (v0 : Value) (v1 : Value) (w : World) (hv0 : Pt netRd w v0 d0) (hv1 : Pt netRd w v1 d1) :
    Calls Tryz.prog 64 #[v0, v1] w fun e w' => e = .returned (.bool r) ∧ Below w.heap.size w w' := by
  obtain ⟨ba0, oa0, csa0, rfl, hba0, hRa0, hca0⟩ := hv0
  have hSa0 := hRa0
  obtain ⟨A1, n1, c1, rfl, ⟨h1, r1⟩⟩ := hRa0
  have e1 := h1.len; subst e1
  have q1 := len_le r1
  obtain ⟨ba1, oa1, csa1, rfl, hba1, hRa1, hca1⟩ := hv1
  have hSa1 := hRa1
  obtain ⟨A2, n2, c2, rfl, ⟨h2, r2⟩⟩ := hRa1
  have e2 := h2.len; subst e2
  have q2 := len_le r2
  have T := Below.refl w.heap.size w
  unfold m_spec_l11Same at hm
  refine enter 40 Tryz.func64 rfl rfl rfl ?_
  intro f hf
  have s0 : f 0 = .pointer (some ⟨ba0, oa0, none⟩) := hf 0 _ rfl
  have s1 : f 1 = .pointer (some ⟨ba1, oa1, none⟩) := hf 1 _ rfl
  refine wp_seq ?_
  refine wp_rs rfl ?_
  refine RQ.y rfl (Y.assign (v := .bool false) rfl) ?_
  refine RQ.nil ?_
  refine then_n ?_
  refine wp_seq ?_
  refine wp_seq ?_
  refine wp_rbd (by kernel_rfl) (by kernel_rfl) ?_
  refine RQ.y rfl (Y.move (v := .pointer (some ⟨ba0, oa0, none⟩)) s0) ?_
  refine RQ.y rfl (Y.nilCheck rfl) ?_
  refine RQ.y rfl (Y.fieldAddr (off := 0) rfl (by kernel_rfl)) ?_
  refine RQ.y rfl (Y.load (v := .slice A1 d0.agents.length c1) rfl (by kernel_rfl) (beC (cellT T (hca0 0 _ rfl)))) ?_
  refine RQ.y rfl (Y.len (by kernel_rfl) rfl) ?_
  refine RQ.y rfl (Y.move (v := .pointer (some ⟨ba1, oa1, none⟩)) s1) ?_
  refine RQ.y rfl (Y.nilCheck rfl) ?_
  refine RQ.y rfl (Y.fieldAddr (off := 0) rfl (by kernel_rfl)) ?_
  refine RQ.y rfl (Y.load (v := .slice A2 d1.agents.length c2) rfl (by kernel_rfl) (beC (cellT T (hca1 0 _ rfl)))) ?_
  refine RQ.y rfl (Y.len (by kernel_rfl) rfl) ?_
  refine RQ.y rfl (Y.binI (v := .bool ((d0.agents.length : Int) != (d1.agents.length : Int))) rfl rfl rfl) ?_
  refine RQ.nil ?_
  intro w3 hb4
  have szw3 := hb4.size
  have T := Tt T hb4
  refine then_n ?_
  rcases bcases ((d0.agents.length : Int) != (d1.agents.length : Int)) with c5 | c5
  · replace hm := cF c5 hm
    refine cond_f rfl (vb rfl c5) ?_
    refine wp_skip ?_
    refine then_n ?_
    refine wp_seq ?_
    refine wp_seq ?_
    refine wp_rs rfl ?_
    refine RQ.y rfl (Y.assign (v := .int .i64 0) rfl) ?_
    refine RQ.nil ?_
    refine then_n ?_
    refine wp_block ?_
    obtain ⟨K1, hK1, hm⟩ : ∃ K, K = m_spec_l11Same_A1 ∧ m_spec_l11Same_L1 d0 d1 K (d0.agents.length + 1) 0 = some r := ⟨_, rfl, hm⟩
    refine wp_loopX (fun g f w' => ∃ (i7 : Int), f 0 = .pointer (some ⟨ba0, oa0, none⟩) ∧ f 1 = .pointer (some ⟨ba1, oa1, none⟩) ∧ f 5 = .int .i64 i7 ∧ 0 ≤ i7 ∧ Below w.heap.size w w' ∧ m_spec_l11Same_L1 d0 d1 K1 g i7 = some r) 0 (fun f w' => Below w.heap.size w w' ∧ m_spec_l11Same_A1  = some r) (d0.agents.length + 1) ⟨0, s0, s1, rfl, (by omega), T, hm⟩ ?_ ?_
    · rintro f w6 ⟨T, hm⟩
      unfold m_spec_l11Same_A1 at hm
      refine blk_hit (then_n ?_)
      refine wp_seq ?_
      refine wp_rs rfl ?_
      refine RQ.y rfl (Y.assign (v := .bool true) rfl) ?_
      refine RQ.nil ?_
      refine then_n ?_
      refine wp_ret ?_
      obtain rfl := Option.some.inj hm
      exact (ret1 rfl rfl rfl ⟨rfl, T⟩)
    · rintro g f w8 ⟨i7, s0_1, s1_1, s5_1, nn5_1, T, hm⟩
      rcases g with _ | g
      · simp only [m_spec_l11Same_L1] at hm; cases hm
      obtain ⟨rec1, hrec1, hm⟩ : ∃ z, z = m_spec_l11Same_L1 d0 d1 K1 g ∧ m_spec_l11Same_B1 d0 d1 z K1 i7 = some r := ⟨_, rfl, hm⟩
      unfold m_spec_l11Same_B1 at hm
      refine wp_seq ?_
      refine wp_seq ?_
      refine wp_rs rfl ?_
      refine RQ.y rfl (Y.move (v := .int .i64 i7) s5_1) ?_
      refine RQ.y rfl (Y.move (v := .pointer (some ⟨ba0, oa0, none⟩)) s0_1) ?_
      refine RQ.y rfl (Y.nilCheck rfl) ?_
      refine RQ.y rfl (Y.fieldAddr (off := 0) rfl (by kernel_rfl)) ?_
      refine RQ.y rfl (Y.load (v := .slice A1 d0.agents.length c1) rfl (by kernel_rfl) (eqC (cellT T (hca0 0 _ rfl)))) ?_
      refine RQ.y rfl (Y.len (by kernel_rfl) rfl) ?_
      refine RQ.y rfl (Y.binI (v := .bool (decide (i7 < (d0.agents.length : Int)))) rfl rfl rfl) ?_
      refine RQ.nil ?_
      refine then_n ?_
      rcases bcases (decide (i7 < (d0.agents.length : Int))) with c9 | c9
      · replace hm := cF c9 hm
        have pc9 := of_decide_eq_false c9
        refine cond_f rfl (vb rfl c9) ?_
        refine wp_exit ?_
        exact (then_x (then_x (hit_x ⟨_, rfl, ⟨T, (by rw [hK1] at hm; exact hm)⟩⟩)))
      · replace hm := cT c9 hm
        have pc9 := of_decide_eq_true c9
        refine cond_t rfl (vb rfl c9) ?_
        refine wp_skip ?_
        refine then_n ?_
        refine wp_seq ?_
        refine wp_block ?_
        refine wp_seq ?_
        refine wp_rbd (by kernel_rfl) (by kernel_rfl) ?_
        refine RQ.y rfl (Y.move (v := .pointer (some ⟨ba0, oa0, none⟩)) s0_1) ?_
        refine RQ.y rfl (Y.nilCheck rfl) ?_
        refine RQ.y rfl (Y.fieldAddr (off := 0) rfl (by kernel_rfl)) ?_
        refine RQ.y rfl (Y.load (v := .slice A1 d0.agents.length c1) rfl (by kernel_rfl) (beC (cellT T (hca0 0 _ rfl)))) ?_
        refine RQ.y rfl (Y.move (v := .int .i64 i7) s5_1) ?_
        obtain ⟨x10, hx13, hm⟩ := bnd hm
        obtain ⟨k11, hk14, hl15, hx13⟩ := getI_some hx13
        obtain ⟨b17, o18, rfl, hbb17⟩ := h1.addr (by omega)
        obtain ⟨cs12, hRcs12, hc16⟩ := h1.el hx13
        have hScs12 := hRcs12
        obtain ⟨A19, n19, c19, A20, n20, c20, rfl, ⟨h19, r19⟩, ⟨h20, r20⟩⟩ := hRcs12
        have e19 := h19.len; subst e19
        have q19 := len_le r19
        have e20 := h20.len; subst e20
        have q20 := len_le r20
        refine RQ.y rfl (Y.indexAddr (m := k11) (sz := 5) rfl rfl hk14 hl15 (by kernel_rfl)) ?_
        refine RQ.y rfl (Y.move (v := .pointer (some ⟨ba1, oa1, none⟩)) s1_1) ?_
        refine RQ.y rfl (Y.nilCheck rfl) ?_
        refine RQ.y rfl (Y.fieldAddr (off := 0) rfl (by kernel_rfl)) ?_
        refine RQ.y rfl (Y.load (v := .slice A2 d1.agents.length c2) rfl (by kernel_rfl) (beC (cellT T (hca1 0 _ rfl)))) ?_
        refine RQ.y rfl (Y.move (v := .int .i64 i7) s5_1) ?_
        obtain ⟨x21, hx24, hm⟩ := bnd hm
        obtain ⟨k22, hk25, hl26, hx24⟩ := getI_some hx24
        obtain ⟨b28, o29, rfl, hbb28⟩ := h2.addr (by omega)
        obtain ⟨cs23, hRcs23, hc27⟩ := h2.el hx24
        have hScs23 := hRcs23
        obtain ⟨A30, n30, c30, A31, n31, c31, rfl, ⟨h30, r30⟩, ⟨h31, r31⟩⟩ := hRcs23
        have e30 := h30.len; subst e30
        have q30 := len_le r30
        have e31 := h31.len; subst e31
        have q31 := len_le r31
        refine RQ.y rfl (Y.indexAddr (m := k22) (sz := 5) rfl rfl hk25 hl26 (by kernel_rfl)) ?_
        obtain ⟨y32, e33, hm⟩ := bnd hm
        refine RQ.call rfl (am2 rfl rfl) (by kernel_rfl) (v := .bool y32) (bel (K := fun _ => True) fun w' hb' => (c_m_spec_l11SameAgent x10 x21 _ e33 _ _ w' (ptArg agentRd_ok hbb17 hScs12 hc16 (Tt T hb')) (ptArg agentRd_ok hbb28 hScs23 hc27 (Tt T hb')))) ?_
        refine RQ.y rfl (Y.not (b' := (!y32)) rfl rfl) ?_
        refine RQ.nil ?_
        intro w34 hb35
        have szw34 := hb35.size
        have T := Tt T hb35
        refine then_n ?_
        rcases bcases y32 with c36 | c36
        · replace hm := cF c36 hm
          refine cond_t rfl (vbn rfl c36 rfl) ?_
          refine wp_seq ?_
          refine wp_rs rfl ?_
          refine RQ.y rfl (Y.assign (v := .bool false) rfl) ?_
          refine RQ.nil ?_
          refine then_n ?_
          refine wp_ret ?_
          obtain rfl := Option.some.inj hm
          exact (blk_r (then_r (then_r (hit_r (blk_r (then_r (ret1 rfl rfl rfl ⟨rfl, T⟩)))))))
        · replace hm := cT c36 hm
          refine cond_f rfl (vbn rfl c36 rfl) ?_
          refine wp_skip ?_
          refine blk_n (then_n ?_)
          refine wp_rs rfl ?_
          refine RQ.y rfl (Y.move (v := .int .i64 i7) s5_1) ?_
          refine RQ.y rfl (Y.binI rfl rfl (binI_add (m := i7) (by omega))) ?_
          refine RQ.y rfl (Y.assign (v := .int .i64 (i7 + 1)) rfl) ?_
          refine RQ.nil ?_
          exact (then_n ⟨g, _, Nat.lt_succ_self _, rfl, ⟨(i7 + 1), s0_1, s1_1, rfl, (by omega), T, (by rw [← hrec1]; exact hm)⟩⟩)
  · replace hm := cT c5 hm
    refine cond_t rfl (vb rfl c5) ?_
    refine wp_seq ?_
    refine wp_rs rfl ?_
    refine RQ.y rfl (Y.assign (v := .bool false) rfl) ?_
    refine RQ.nil ?_
    refine then_n ?_
    refine wp_ret ?_
    obtain rfl := Option.some.inj hm
    exact (then_r (ret1 rfl rfl rfl ⟨rfl, T⟩))
def m_slices_Equal_int64_int64_A1 : Option Bool :=
  some true
def m_slices_Equal_int64_int64_B1 (d0 : List Int) (d1 : List Int) (rec1 : Int → Option Bool) (K1 : Option Bool) (i3 : Int) : Option Bool :=
  (bif (decide (i3 < (d0.length : Int))) then ((getI d0 i3).bind fun x6 => ((getI d1 i3).bind fun x15 => (bif (x6 != x15) then some false else (rec1 (i3 + 1))))) else (K1))
def m_slices_Equal_int64_int64_L1 (d0 : List Int) (d1 : List Int) (K1 : Option Bool) : Nat → Int → Option Bool
  | 0, _ => none
  | g + 1, i3 => m_slices_Equal_int64_int64_B1 d0 d1 (m_slices_Equal_int64_int64_L1 d0 d1 K1 g) K1 i3
def m_slices_Equal_int64_int64 (d0 : List Int) (d1 : List Int) : Option Bool :=
  (bif ((d0.length : Int) != (d1.length : Int)) then some false else (m_slices_Equal_int64_int64_L1 d0 d1 m_slices_Equal_int64_int64_A1 (d0.length + 1) 0))
set_option maxHeartbeats 2000000 in
theorem c_m_slices_Equal_int64_int64 (d0 : List Int) (d1 : List Int) (r : Bool) (hm : m_slices_Equal_int64_int64 d0 d1 = some r) (v0 : Value) (v1 : Value) (w : World) (hv0 : Sl intRd 1 w v0 d0) (hv1 : Sl intRd 1 w v1 d1) :
    Calls Tryz.prog 85 #[v0, v1] w fun e w' => e = .returned (.bool r) ∧ Below w.heap.size w w' := by
  obtain ⟨Aa0, na0, ca0, rfl, ha0, ra0⟩ := hv0
  have ea0 := ha0.len; subst ea0
  have qa0 := len_le ra0
  obtain ⟨Aa1, na1, ca1, rfl, ha1, ra1⟩ := hv1
  have ea1 := ha1.len; subst ea1
  have qa1 := len_le ra1
  have T := Below.refl w.heap.size w
  unfold m_slices_Equal_int64_int64 at hm
  refine enter 26 Tryz.func85 rfl rfl rfl ?_
  intro f hf
  have s0 : f 0 = .slice Aa0 d0.length ca0 := hf 0 _ rfl
  have s1 : f 1 = .slice Aa1 d1.length ca1 := hf 1 _ rfl
  refine wp_seq ?_
  refine wp_rs rfl ?_
  refine RQ.y rfl (Y.assign (v := .bool false) rfl) ?_
  refine RQ.nil ?_
  refine then_n ?_
  refine wp_seq ?_
  refine wp_seq ?_
  refine wp_rs rfl ?_
  refine RQ.y rfl (Y.move (v := .slice Aa0 d0.length ca0) s0) ?_
  refine RQ.y rfl (Y.len (by kernel_rfl) rfl) ?_
  refine RQ.y rfl (Y.move (v := .slice Aa1 d1.length ca1) s1) ?_
  refine RQ.y rfl (Y.len (by kernel_rfl) rfl) ?_
  refine RQ.y rfl (Y.binI (v := .bool ((d0.length : Int) != (d1.length : Int))) rfl rfl rfl) ?_
  refine RQ.nil ?_
  refine then_n ?_
  rcases bcases ((d0.length : Int) != (d1.length : Int)) with c1 | c1
  · replace hm := cF c1 hm
    refine cond_f rfl (vb rfl c1) ?_
    refine wp_skip ?_
    refine then_n ?_
    refine wp_seq ?_
    refine wp_seq ?_
    refine wp_rs rfl ?_
    refine RQ.y rfl (Y.move (v := .slice Aa0 d0.length ca0) s0) ?_
    refine RQ.y rfl (Y.len (by kernel_rfl) rfl) ?_
    refine RQ.y rfl (Y.move (v := .int .i64 0) rfl) ?_
    refine RQ.nil ?_
    refine then_n ?_
    refine wp_block ?_
    obtain ⟨K1, hK1, hm⟩ : ∃ K, K = m_slices_Equal_int64_int64_A1 ∧ m_slices_Equal_int64_int64_L1 d0 d1 K (d0.length + 1) 0 = some r := ⟨_, rfl, hm⟩
    refine wp_loopX (fun g f w' => ∃ (i3 : Int), f 0 = .slice Aa0 d0.length ca0 ∧ f 1 = .slice Aa1 d1.length ca1 ∧ f 12 = .int .i64 (d0.length : Int) ∧ f 13 = .int .i64 i3 ∧ 0 ≤ i3 ∧ Below w.heap.size w w' ∧ m_slices_Equal_int64_int64_L1 d0 d1 K1 g i3 = some r) 0 (fun f w' => Below w.heap.size w w' ∧ m_slices_Equal_int64_int64_A1  = some r) (d0.length + 1) ⟨0, s0, s1, rfl, rfl, (by omega), T, hm⟩ ?_ ?_
    · rintro f w2 ⟨T, hm⟩
      unfold m_slices_Equal_int64_int64_A1 at hm
      refine blk_hit (then_n ?_)
      refine wp_seq ?_
      refine wp_rs rfl ?_
      refine RQ.y rfl (Y.assign (v := .bool true) rfl) ?_
      refine RQ.nil ?_
      refine then_n ?_
      refine wp_ret ?_
      obtain rfl := Option.some.inj hm
      exact (ret1 rfl rfl rfl ⟨rfl, T⟩)
    · rintro g f w4 ⟨i3, s0_1, s1_1, s12_1, s13_1, nn13_1, T, hm⟩
      rcases g with _ | g
      · simp only [m_slices_Equal_int64_int64_L1] at hm; cases hm
      obtain ⟨rec1, hrec1, hm⟩ : ∃ z, z = m_slices_Equal_int64_int64_L1 d0 d1 K1 g ∧ m_slices_Equal_int64_int64_B1 d0 d1 z K1 i3 = some r := ⟨_, rfl, hm⟩
      unfold m_slices_Equal_int64_int64_B1 at hm
      refine wp_seq ?_
      refine wp_rs rfl ?_
      refine RQ.y rfl (Y.binI (v := .bool (decide (i3 < (d0.length : Int)))) s13_1 s12_1 rfl) ?_
      refine RQ.nil ?_
      refine then_n ?_
      refine wp_seq ?_
      rcases bcases (decide (i3 < (d0.length : Int))) with c5 | c5
      · replace hm := cF c5 hm
        have pc5 := of_decide_eq_false c5
        refine cond_f rfl (vb rfl c5) ?_
        refine wp_exit ?_
        exact (then_x (then_x (hit_x ⟨_, rfl, ⟨T, (by rw [hK1] at hm; exact hm)⟩⟩)))
      · replace hm := cT c5 hm
        have pc5 := of_decide_eq_true c5
        refine cond_t rfl (vb rfl c5) ?_
        refine wp_skip ?_
        refine then_n ?_
        refine wp_seq ?_
        refine wp_block ?_
        refine wp_seq ?_
        refine wp_rs rfl ?_
        refine RQ.y rfl (Y.move (v := .int .i64 i3) s13_1) ?_
        refine RQ.y rfl (Y.assign (v := .int .i64 i3) rfl) ?_
        refine RQ.nil ?_
        refine then_n ?_
        refine wp_seq ?_
        refine wp_rbd (by kernel_rfl) (by kernel_rfl) ?_
        refine RQ.y rfl (Y.move (v := .slice Aa0 d0.length ca0) s0_1) ?_
        refine RQ.y rfl (Y.move (v := .int .i64 i3) rfl) ?_
        obtain ⟨x6, hx9, hm⟩ := bnd hm
        obtain ⟨k7, hk10, hl11, hx9⟩ := getI_some hx9
        obtain ⟨b13, o14, rfl, hbb13⟩ := ha0.addr (by omega)
        obtain ⟨cs8, hRcs8, hc12⟩ := ha0.el hx9
        have hScs8 := hRcs8
        obtain rfl := hRcs8
        refine RQ.y rfl (Y.indexAddr (m := k7) (sz := 1) rfl rfl hk10 hl11 (by kernel_rfl)) ?_
        refine RQ.y rfl (Y.load (v := .int .i64 x6) rfl (by kernel_rfl) (beC (cellT T (hc12 0 _ rfl)))) ?_
        refine RQ.y rfl (Y.move (v := .slice Aa1 d1.length ca1) s1_1) ?_
        refine RQ.y rfl (Y.move (v := .int .i64 i3) rfl) ?_
        obtain ⟨x15, hx18, hm⟩ := bnd hm
        obtain ⟨k16, hk19, hl20, hx18⟩ := getI_some hx18
        obtain ⟨b22, o23, rfl, hbb22⟩ := ha1.addr (by omega)
        obtain ⟨cs17, hRcs17, hc21⟩ := ha1.el hx18
        have hScs17 := hRcs17
        obtain rfl := hRcs17
        refine RQ.y rfl (Y.indexAddr (m := k16) (sz := 1) rfl rfl hk19 hl20 (by kernel_rfl)) ?_
        refine RQ.y rfl (Y.load (v := .int .i64 x15) rfl (by kernel_rfl) (beC (cellT T (hc21 0 _ rfl)))) ?_
        refine RQ.y rfl (Y.binI (v := .bool (x6 != x15)) rfl rfl rfl) ?_
        refine RQ.nil ?_
        intro w24 hb25
        have szw24 := hb25.size
        have T := Tt T hb25
        refine then_n ?_
        rcases bcases (x6 != x15) with c26 | c26
        · replace hm := cF c26 hm
          refine cond_f rfl (vb rfl c26) ?_
          refine wp_skip ?_
          refine blk_n (then_n ?_)
          refine wp_rs rfl ?_
          refine RQ.y rfl (Y.binI s13_1 rfl (binI_add (m := i3) (by omega))) ?_
          refine RQ.y rfl (Y.move (v := .int .i64 (i3 + 1)) rfl) ?_
          refine RQ.nil ?_
          exact (then_n ⟨g, _, Nat.lt_succ_self _, rfl, ⟨(i3 + 1), s0_1, s1_1, s12_1, rfl, (by omega), T, (by rw [← hrec1]; exact hm)⟩⟩)
        · replace hm := cT c26 hm
          refine cond_t rfl (vb rfl c26) ?_
          refine wp_seq ?_
          refine wp_rs rfl ?_
          refine RQ.y rfl (Y.assign (v := .bool false) rfl) ?_
          refine RQ.nil ?_
          refine then_n ?_
          refine wp_ret ?_
          obtain rfl := Option.some.inj hm
          exact (blk_r (then_r (then_r (hit_r (blk_r (then_r (ret1 rfl rfl rfl ⟨rfl, T⟩)))))))
  · replace hm := cT c1 hm
    refine cond_t rfl (vb rfl c1) ?_
    refine wp_seq ?_
    refine wp_rs rfl ?_
    refine RQ.y rfl (Y.assign (v := .bool false) rfl) ?_
    refine RQ.nil ?_
    refine then_n ?_
    refine wp_ret ?_
    obtain rfl := Option.some.inj hm
    exact (then_r (ret1 rfl rfl rfl ⟨rfl, T⟩))
def m_slices_Equal_impl_Port_impl_Port_A1 : Option Bool :=
  some true
def m_slices_Equal_impl_Port_impl_Port_B1 (d0 : List DPort) (d1 : List DPort) (rec1 : Int → Option Bool) (K1 : Option Bool) (i3 : Int) : Option Bool :=
  (bif (decide (i3 < (d0.length : Int))) then ((getI d0 i3).bind fun x6 => ((getI d1 i3).bind fun x15 => (bif (x6.agent == x15.agent && x6.slot == x15.slot) then (rec1 (i3 + 1)) else some false))) else (K1))
def m_slices_Equal_impl_Port_impl_Port_L1 (d0 : List DPort) (d1 : List DPort) (K1 : Option Bool) : Nat → Int → Option Bool
  | 0, _ => none
  | g + 1, i3 => m_slices_Equal_impl_Port_impl_Port_B1 d0 d1 (m_slices_Equal_impl_Port_impl_Port_L1 d0 d1 K1 g) K1 i3
def m_slices_Equal_impl_Port_impl_Port (d0 : List DPort) (d1 : List DPort) : Option Bool :=
  (bif ((d0.length : Int) != (d1.length : Int)) then some false else (m_slices_Equal_impl_Port_impl_Port_L1 d0 d1 m_slices_Equal_impl_Port_impl_Port_A1 (d0.length + 1) 0))
set_option maxHeartbeats 2000000 in
theorem c_m_slices_Equal_impl_Port_impl_Port (d0 : List DPort) (d1 : List DPort) (r : Bool) (hm : m_slices_Equal_impl_Port_impl_Port d0 d1 = some r) (v0 : Value) (v1 : Value) (w : World) (hv0 : Sl portRd 2 w v0 d0) (hv1 : Sl portRd 2 w v1 d1) :
    Calls Tryz.prog 86 #[v0, v1] w fun e w' => e = .returned (.bool r) ∧ Below w.heap.size w w' := by
  obtain ⟨Aa0, na0, ca0, rfl, ha0, ra0⟩ := hv0
  have ea0 := ha0.len; subst ea0
  have qa0 := len_le ra0
  obtain ⟨Aa1, na1, ca1, rfl, ha1, ra1⟩ := hv1
  have ea1 := ha1.len; subst ea1
  have qa1 := len_le ra1
  have T := Below.refl w.heap.size w
  unfold m_slices_Equal_impl_Port_impl_Port at hm
  refine enter 26 Tryz.func86 rfl rfl rfl ?_
  intro f hf
  have s0 : f 0 = .slice Aa0 d0.length ca0 := hf 0 _ rfl
  have s1 : f 1 = .slice Aa1 d1.length ca1 := hf 1 _ rfl
  refine wp_seq ?_
  refine wp_rs rfl ?_
  refine RQ.y rfl (Y.assign (v := .bool false) rfl) ?_
  refine RQ.nil ?_
  refine then_n ?_
  refine wp_seq ?_
  refine wp_seq ?_
  refine wp_rs rfl ?_
  refine RQ.y rfl (Y.move (v := .slice Aa0 d0.length ca0) s0) ?_
  refine RQ.y rfl (Y.len (by kernel_rfl) rfl) ?_
  refine RQ.y rfl (Y.move (v := .slice Aa1 d1.length ca1) s1) ?_
  refine RQ.y rfl (Y.len (by kernel_rfl) rfl) ?_
  refine RQ.y rfl (Y.binI (v := .bool ((d0.length : Int) != (d1.length : Int))) rfl rfl rfl) ?_
  refine RQ.nil ?_
  refine then_n ?_
  rcases bcases ((d0.length : Int) != (d1.length : Int)) with c1 | c1
  · replace hm := cF c1 hm
    refine cond_f rfl (vb rfl c1) ?_
    refine wp_skip ?_
    refine then_n ?_
    refine wp_seq ?_
    refine wp_seq ?_
    refine wp_rs rfl ?_
    refine RQ.y rfl (Y.move (v := .slice Aa0 d0.length ca0) s0) ?_
    refine RQ.y rfl (Y.len (by kernel_rfl) rfl) ?_
    refine RQ.y rfl (Y.move (v := .int .i64 0) rfl) ?_
    refine RQ.nil ?_
    refine then_n ?_
    refine wp_block ?_
    obtain ⟨K1, hK1, hm⟩ : ∃ K, K = m_slices_Equal_impl_Port_impl_Port_A1 ∧ m_slices_Equal_impl_Port_impl_Port_L1 d0 d1 K (d0.length + 1) 0 = some r := ⟨_, rfl, hm⟩
    refine wp_loopX (fun g f w' => ∃ (i3 : Int), f 0 = .slice Aa0 d0.length ca0 ∧ f 1 = .slice Aa1 d1.length ca1 ∧ f 12 = .int .i64 (d0.length : Int) ∧ f 13 = .int .i64 i3 ∧ 0 ≤ i3 ∧ Below w.heap.size w w' ∧ m_slices_Equal_impl_Port_impl_Port_L1 d0 d1 K1 g i3 = some r) 0 (fun f w' => Below w.heap.size w w' ∧ m_slices_Equal_impl_Port_impl_Port_A1  = some r) (d0.length + 1) ⟨0, s0, s1, rfl, rfl, (by omega), T, hm⟩ ?_ ?_
    · rintro f w2 ⟨T, hm⟩
      unfold m_slices_Equal_impl_Port_impl_Port_A1 at hm
      refine blk_hit (then_n ?_)
      refine wp_seq ?_
      refine wp_rs rfl ?_
      refine RQ.y rfl (Y.assign (v := .bool true) rfl) ?_
      refine RQ.nil ?_
      refine then_n ?_
      refine wp_ret ?_
      obtain rfl := Option.some.inj hm
      exact (ret1 rfl rfl rfl ⟨rfl, T⟩)
    · rintro g f w4 ⟨i3, s0_1, s1_1, s12_1, s13_1, nn13_1, T, hm⟩
      rcases g with _ | g
      · simp only [m_slices_Equal_impl_Port_impl_Port_L1] at hm; cases hm
      obtain ⟨rec1, hrec1, hm⟩ : ∃ z, z = m_slices_Equal_impl_Port_impl_Port_L1 d0 d1 K1 g ∧ m_slices_Equal_impl_Port_impl_Port_B1 d0 d1 z K1 i3 = some r := ⟨_, rfl, hm⟩
      unfold m_slices_Equal_impl_Port_impl_Port_B1 at hm
      refine wp_seq ?_
      refine wp_rs rfl ?_
      refine RQ.y rfl (Y.binI (v := .bool (decide (i3 < (d0.length : Int)))) s13_1 s12_1 rfl) ?_
      refine RQ.nil ?_
      refine then_n ?_
      refine wp_seq ?_
      rcases bcases (decide (i3 < (d0.length : Int))) with c5 | c5
      · replace hm := cF c5 hm
        have pc5 := of_decide_eq_false c5
        refine cond_f rfl (vb rfl c5) ?_
        refine wp_exit ?_
        exact (then_x (then_x (hit_x ⟨_, rfl, ⟨T, (by rw [hK1] at hm; exact hm)⟩⟩)))
      · replace hm := cT c5 hm
        have pc5 := of_decide_eq_true c5
        refine cond_t rfl (vb rfl c5) ?_
        refine wp_skip ?_
        refine then_n ?_
        refine wp_seq ?_
        refine wp_block ?_
        refine wp_seq ?_
        refine wp_rs rfl ?_
        refine RQ.y rfl (Y.move (v := .int .i64 i3) s13_1) ?_
        refine RQ.y rfl (Y.assign (v := .int .i64 i3) rfl) ?_
        refine RQ.nil ?_
        refine then_n ?_
        refine wp_seq ?_
        refine wp_rbd (by kernel_rfl) (by kernel_rfl) ?_
        refine RQ.y rfl (Y.move (v := .slice Aa0 d0.length ca0) s0_1) ?_
        refine RQ.y rfl (Y.move (v := .int .i64 i3) rfl) ?_
        obtain ⟨x6, hx9, hm⟩ := bnd hm
        obtain ⟨k7, hk10, hl11, hx9⟩ := getI_some hx9
        obtain ⟨b13, o14, rfl, hbb13⟩ := ha0.addr (by omega)
        obtain ⟨cs8, hRcs8, hc12⟩ := ha0.el hx9
        have hScs8 := hRcs8
        obtain rfl := hRcs8
        refine RQ.y rfl (Y.indexAddr (m := k7) (sz := 2) rfl rfl hk10 hl11 (by kernel_rfl)) ?_
        refine RQ.y rfl (Y.loadN (cs := [.int .i64 x6.agent, .int .i64 x6.slot]) rfl (by kernel_rfl) (cells2 (beC (cellT T (hc12 0 _ rfl))) (beC (cellT T (hc12 1 _ rfl))))) ?_
        refine RQ.y rfl (Y.move (v := .slice Aa1 d1.length ca1) s1_1) ?_
        refine RQ.y rfl (Y.move (v := .int .i64 i3) rfl) ?_
        obtain ⟨x15, hx18, hm⟩ := bnd hm
        obtain ⟨k16, hk19, hl20, hx18⟩ := getI_some hx18
        obtain ⟨b22, o23, rfl, hbb22⟩ := ha1.addr (by omega)
        obtain ⟨cs17, hRcs17, hc21⟩ := ha1.el hx18
        have hScs17 := hRcs17
        obtain rfl := hRcs17
        refine RQ.y rfl (Y.indexAddr (m := k16) (sz := 2) rfl rfl hk19 hl20 (by kernel_rfl)) ?_
        refine RQ.y rfl (Y.loadN (cs := [.int .i64 x15.agent, .int .i64 x15.slot]) rfl (by kernel_rfl) (cells2 (beC (cellT T (hc21 0 _ rfl))) (beC (cellT T (hc21 1 _ rfl))))) ?_
        refine RQ.y rfl (Y.neS (b := (x6.agent == x15.agent && x6.slot == x15.slot)) rfl rfl (eqPort_run _ _ _ _) (eqGuardPort_run _ _ _ _ _)) ?_
        refine RQ.nil ?_
        intro w24 hb25
        have szw24 := hb25.size
        have T := Tt T hb25
        refine then_n ?_
        rcases bcases (x6.agent == x15.agent && x6.slot == x15.slot) with c26 | c26
        · replace hm := cF c26 hm
          refine cond_t rfl (vbn rfl c26 rfl) ?_
          refine wp_seq ?_
          refine wp_rs rfl ?_
          refine RQ.y rfl (Y.assign (v := .bool false) rfl) ?_
          refine RQ.nil ?_
          refine then_n ?_
          refine wp_ret ?_
          obtain rfl := Option.some.inj hm
          exact (blk_r (then_r (then_r (hit_r (blk_r (then_r (ret1 rfl rfl rfl ⟨rfl, T⟩)))))))
        · replace hm := cT c26 hm
          refine cond_f rfl (vbn rfl c26 rfl) ?_
          refine wp_skip ?_
          refine blk_n (then_n ?_)
          refine wp_rs rfl ?_
          refine RQ.y rfl (Y.binI s13_1 rfl (binI_add (m := i3) (by omega))) ?_
          refine RQ.y rfl (Y.move (v := .int .i64 (i3 + 1)) rfl) ?_
          refine RQ.nil ?_
          exact (then_n ⟨g, _, Nat.lt_succ_self _, rfl, ⟨(i3 + 1), s0_1, s1_1, s12_1, rfl, (by omega), T, (by rw [← hrec1]; exact hm)⟩⟩)
  · replace hm := cT c1 hm
    refine cond_t rfl (vb rfl c1) ?_
    refine wp_seq ?_
    refine wp_rs rfl ?_
    refine RQ.y rfl (Y.assign (v := .bool false) rfl) ?_
    refine RQ.nil ?_
    refine then_n ?_
    refine wp_ret ?_
    obtain rfl := Option.some.inj hm
    exact (then_r (ret1 rfl rfl rfl ⟨rfl, T⟩))
def m_impl_sameAgent (d0 : DAgent) (d1 : DAgent) : Option Bool :=
  (bif (d0.kind == d1.kind) then (bif (d0.level == d1.level) then (bif (d0.value == d1.value) then ((m_slices_Equal_int64_int64 d0.data d1.data).bind fun y22 => (bif y22 then ((m_slices_Equal_impl_Port_impl_Port d0.ports d1.ports).bind fun y27 => some y27) else some false)) else some false) else some false) else some false)
set_option maxHeartbeats 2000000 in
theorem c_m_impl_sameAgent (d0 : DAgent) (d1 : DAgent) (r : Bool) (hm : m_impl_sameAgent d0 d1 = some r) (v0 : Value) (v1 : Value) (w : World) (hv0 : St agentRd w v0 d0) (hv1 : St agentRd w v1 d1) :
    Calls Tryz.prog 66 #[v0, v1] w fun e w' => e = .returned (.bool r) ∧ Below w.heap.size w w' := by
  obtain ⟨csa0, rfl, ⟨A1, n1, c1, A2, n2, c2, rfl, ⟨h1, r1⟩, ⟨h2, r2⟩⟩⟩ := hv0
  have e1 := h1.len; subst e1
  have q1 := len_le r1
  have e2 := h2.len; subst e2
  have q2 := len_le r2
  obtain ⟨csa1, rfl, ⟨A3, n3, c3, A4, n4, c4, rfl, ⟨h3, r3⟩, ⟨h4, r4⟩⟩⟩ := hv1
  have e3 := h3.len; subst e3
  have q3 := len_le r3
  have e4 := h4.len; subst e4
  have q4 := len_le r4
  have T := Below.refl w.heap.size w
  unfold m_impl_sameAgent at hm
  refine enter 38 Tryz.func66 rfl rfl rfl ?_
  intro f hf
  have s0 : f 0 = .agg #[.int .i64 d0.kind, .int .i64 d0.level, .int .i64 d0.value, .slice A1 d0.data.length c1, .slice A2 d0.ports.length c2] := hf 0 _ rfl
  have s1 : f 1 = .agg #[.int .i64 d1.kind, .int .i64 d1.level, .int .i64 d1.value, .slice A3 d1.data.length c3, .slice A4 d1.ports.length c4] := hf 1 _ rfl
  refine wp_seq ?_
  refine wp_rl rfl ?_
  refine RL.box rfl s0 (fun w5 B6 hb7 szw5 => ?_)
  replace B6 : Blk w5 w.heap.size 63 #[.int .i64 d0.kind, .int .i64 d0.level, .int .i64 d0.value, .slice A1 d0.data.length c1, .slice A2 d0.ports.length c2] := B6
  have GB6 : w.heap.size ≤ w.heap.size := T.size
  have T := Tt T hb7
  refine RL.box rfl s1 (fun w9 B10 hb11 szw9 => ?_)
  replace B10 : Blk w9 w5.heap.size 63 #[.int .i64 d1.kind, .int .i64 d1.level, .int .i64 d1.value, .slice A3 d1.data.length c3, .slice A4 d1.ports.length c4] := B10
  have GB10 : w.heap.size ≤ w5.heap.size := T.size
  have Eob12_ob8 := Nat.ne_of_lt B6.lt
  have B6 := blkT B6 hb11
  have T := Tt T hb11
  refine RL.y rfl (Y.assign (v := .bool false) rfl) ?_
  refine RL.nil ?_
  refine then_n ?_
  refine wp_seq ?_
  refine wp_rb rfl ?_
  refine RQ.y rfl (Y.fieldAddr (off := 0) rfl (by kernel_rfl)) ?_
  refine RQ.y rfl (Y.load (v := .int .i64 d0.kind) rfl (by kernel_rfl) (beC (blkCell B6 (i := 0) rfl))) ?_
  refine RQ.y rfl (Y.fieldAddr (off := 0) rfl (by kernel_rfl)) ?_
  refine RQ.y rfl (Y.load (v := .int .i64 d1.kind) rfl (by kernel_rfl) (beC (blkCell B10 (i := 0) rfl))) ?_
  refine RQ.y rfl (Y.binI (v := .bool (d0.kind == d1.kind)) rfl rfl rfl) ?_
  refine RQ.y rfl (Y.move (v := .bool (d0.kind == d1.kind)) rfl) ?_
  rcases bcases (d0.kind == d1.kind) with c13 | c13
  · replace hm := cF c13 hm
    refine RQ.skip (wantN (dj := 10) rfl (vb rfl c13) rfl) ?_
    refine RQ.skip (wantN (dj := 10) rfl (vb rfl c13) rfl) ?_
    refine RQ.skip (wantN (dj := 10) rfl (vb rfl c13) rfl) ?_
    refine RQ.skip (wantN (dj := 10) rfl (vb rfl c13) rfl) ?_
    refine RQ.skip (wantN (dj := 10) rfl (vb rfl c13) rfl) ?_
    refine RQ.y rfl (Y.pick (b := false) (v := .bool false) (vb rfl c13) rfl) ?_
    refine RQ.y rfl (Y.move (v := .bool false) rfl) ?_
    refine RQ.skip (wantN (dj := 17) rfl rfl rfl) ?_
    refine RQ.skip (wantN (dj := 17) rfl rfl rfl) ?_
    refine RQ.skip (wantN (dj := 17) rfl rfl rfl) ?_
    refine RQ.skip (wantN (dj := 17) rfl rfl rfl) ?_
    refine RQ.skip (wantN (dj := 17) rfl rfl rfl) ?_
    refine RQ.y rfl (Y.pick (b := false) (v := .bool false) rfl rfl) ?_
    refine RQ.y rfl (Y.move (v := .bool false) rfl) ?_
    refine RQ.skip (wantN (dj := 24) rfl rfl rfl) ?_
    refine RQ.skip (wantN (dj := 24) rfl rfl rfl) ?_
    refine RQ.skip (wantN (dj := 24) rfl rfl rfl) ?_
    refine RQ.skip (wantN (dj := 24) rfl rfl rfl) ?_
    refine RQ.skip (wantN (dj := 24) rfl rfl rfl) ?_
    refine RQ.y rfl (Y.pick (b := false) (v := .bool false) rfl rfl) ?_
    refine RQ.y rfl (Y.move (v := .bool false) rfl) ?_
    refine RQ.skip (wantN (dj := 31) rfl rfl rfl) ?_
    refine RQ.skip (wantN (dj := 31) rfl rfl rfl) ?_
    refine RQ.skip (wantN (dj := 31) rfl rfl rfl) ?_
    refine RQ.skip (wantN (dj := 31) rfl rfl rfl) ?_
    refine RQ.skip (wantN (dj := 31) rfl rfl rfl) ?_
    refine RQ.y rfl (Y.pick (b := false) (v := .bool false) rfl rfl) ?_
    refine RQ.y rfl (Y.assign (v := .bool false) rfl) ?_
    refine RQ.nil ?_
    intro w14 hb15
    have szw14 := hb15.size
    have T := Tt T hb15
    refine then_n ?_
    refine wp_ret ?_
    obtain rfl := Option.some.inj hm
    exact (ret1 rfl rfl rfl ⟨rfl, T⟩)
  · replace hm := cT c13 hm
    refine RQ.y (wantT (dj := 10) rfl (vb rfl c13)) (Y.fieldAddr (off := 1) rfl (by kernel_rfl)) ?_
    refine RQ.y (wantT (dj := 10) rfl (vb rfl c13)) (Y.load (v := .int .i64 d0.level) rfl (by kernel_rfl) (beC (blkCell B6 (i := 1) rfl))) ?_
    refine RQ.y (wantT (dj := 10) rfl (vb rfl c13)) (Y.fieldAddr (off := 1) rfl (by kernel_rfl)) ?_
    refine RQ.y (wantT (dj := 10) rfl (vb rfl c13)) (Y.load (v := .int .i64 d1.level) rfl (by kernel_rfl) (beC (blkCell B10 (i := 1) rfl))) ?_
    refine RQ.y (wantT (dj := 10) rfl (vb rfl c13)) (Y.binI (v := .bool (d0.level == d1.level)) rfl rfl rfl) ?_
    refine RQ.y rfl (Y.pick (b := true) (v := .bool (d0.level == d1.level)) (vb rfl c13) rfl) ?_
    refine RQ.y rfl (Y.move (v := .bool (d0.level == d1.level)) rfl) ?_
    rcases bcases (d0.level == d1.level) with c16 | c16
    · replace hm := cF c16 hm
      refine RQ.skip (wantN (dj := 17) rfl (vb rfl c16) rfl) ?_
      refine RQ.skip (wantN (dj := 17) rfl (vb rfl c16) rfl) ?_
      refine RQ.skip (wantN (dj := 17) rfl (vb rfl c16) rfl) ?_
      refine RQ.skip (wantN (dj := 17) rfl (vb rfl c16) rfl) ?_
      refine RQ.skip (wantN (dj := 17) rfl (vb rfl c16) rfl) ?_
      refine RQ.y rfl (Y.pick (b := false) (v := .bool false) (vb rfl c16) rfl) ?_
      refine RQ.y rfl (Y.move (v := .bool false) rfl) ?_
      refine RQ.skip (wantN (dj := 24) rfl rfl rfl) ?_
      refine RQ.skip (wantN (dj := 24) rfl rfl rfl) ?_
      refine RQ.skip (wantN (dj := 24) rfl rfl rfl) ?_
      refine RQ.skip (wantN (dj := 24) rfl rfl rfl) ?_
      refine RQ.skip (wantN (dj := 24) rfl rfl rfl) ?_
      refine RQ.y rfl (Y.pick (b := false) (v := .bool false) rfl rfl) ?_
      refine RQ.y rfl (Y.move (v := .bool false) rfl) ?_
      refine RQ.skip (wantN (dj := 31) rfl rfl rfl) ?_
      refine RQ.skip (wantN (dj := 31) rfl rfl rfl) ?_
      refine RQ.skip (wantN (dj := 31) rfl rfl rfl) ?_
      refine RQ.skip (wantN (dj := 31) rfl rfl rfl) ?_
      refine RQ.skip (wantN (dj := 31) rfl rfl rfl) ?_
      refine RQ.y rfl (Y.pick (b := false) (v := .bool false) rfl rfl) ?_
      refine RQ.y rfl (Y.assign (v := .bool false) rfl) ?_
      refine RQ.nil ?_
      intro w17 hb18
      have szw17 := hb18.size
      have T := Tt T hb18
      refine then_n ?_
      refine wp_ret ?_
      obtain rfl := Option.some.inj hm
      exact (ret1 rfl rfl rfl ⟨rfl, T⟩)
    · replace hm := cT c16 hm
      refine RQ.y (wantT (dj := 17) rfl (vb rfl c16)) (Y.fieldAddr (off := 2) rfl (by kernel_rfl)) ?_
      refine RQ.y (wantT (dj := 17) rfl (vb rfl c16)) (Y.load (v := .int .i64 d0.value) rfl (by kernel_rfl) (beC (blkCell B6 (i := 2) rfl))) ?_
      refine RQ.y (wantT (dj := 17) rfl (vb rfl c16)) (Y.fieldAddr (off := 2) rfl (by kernel_rfl)) ?_
      refine RQ.y (wantT (dj := 17) rfl (vb rfl c16)) (Y.load (v := .int .i64 d1.value) rfl (by kernel_rfl) (beC (blkCell B10 (i := 2) rfl))) ?_
      refine RQ.y (wantT (dj := 17) rfl (vb rfl c16)) (Y.binI (v := .bool (d0.value == d1.value)) rfl rfl rfl) ?_
      refine RQ.y rfl (Y.pick (b := true) (v := .bool (d0.value == d1.value)) (vb rfl c16) rfl) ?_
      refine RQ.y rfl (Y.move (v := .bool (d0.value == d1.value)) rfl) ?_
      rcases bcases (d0.value == d1.value) with c19 | c19
      · replace hm := cF c19 hm
        refine RQ.skip (wantN (dj := 24) rfl (vb rfl c19) rfl) ?_
        refine RQ.skip (wantN (dj := 24) rfl (vb rfl c19) rfl) ?_
        refine RQ.skip (wantN (dj := 24) rfl (vb rfl c19) rfl) ?_
        refine RQ.skip (wantN (dj := 24) rfl (vb rfl c19) rfl) ?_
        refine RQ.skip (wantN (dj := 24) rfl (vb rfl c19) rfl) ?_
        refine RQ.y rfl (Y.pick (b := false) (v := .bool false) (vb rfl c19) rfl) ?_
        refine RQ.y rfl (Y.move (v := .bool false) rfl) ?_
        refine RQ.skip (wantN (dj := 31) rfl rfl rfl) ?_
        refine RQ.skip (wantN (dj := 31) rfl rfl rfl) ?_
        refine RQ.skip (wantN (dj := 31) rfl rfl rfl) ?_
        refine RQ.skip (wantN (dj := 31) rfl rfl rfl) ?_
        refine RQ.skip (wantN (dj := 31) rfl rfl rfl) ?_
        refine RQ.y rfl (Y.pick (b := false) (v := .bool false) rfl rfl) ?_
        refine RQ.y rfl (Y.assign (v := .bool false) rfl) ?_
        refine RQ.nil ?_
        intro w20 hb21
        have szw20 := hb21.size
        have T := Tt T hb21
        refine then_n ?_
        refine wp_ret ?_
        obtain rfl := Option.some.inj hm
        exact (ret1 rfl rfl rfl ⟨rfl, T⟩)
      · replace hm := cT c19 hm
        refine RQ.y (wantT (dj := 24) rfl (vb rfl c19)) (Y.fieldAddr (off := 3) rfl (by kernel_rfl)) ?_
        refine RQ.y (wantT (dj := 24) rfl (vb rfl c19)) (Y.load (v := .slice A1 d0.data.length c1) rfl (by kernel_rfl) (beC (blkCell B6 (i := 3) rfl))) ?_
        refine RQ.y (wantT (dj := 24) rfl (vb rfl c19)) (Y.fieldAddr (off := 3) rfl (by kernel_rfl)) ?_
        refine RQ.y (wantT (dj := 24) rfl (vb rfl c19)) (Y.load (v := .slice A3 d1.data.length c3) rfl (by kernel_rfl) (beC (blkCell B10 (i := 3) rfl))) ?_
        obtain ⟨y22, e23, hm⟩ := bnd hm
        refine RQ.call (wantT (dj := 24) rfl (vb rfl c19)) (am2 rfl rfl) (by kernel_rfl) (v := .bool y22) (bel (K := fun _ => True) fun w' hb' => (c_m_slices_Equal_int64_int64 d0.data d1.data _ e23 _ _ w' (slArg intRd_ok h1 r1 (Tt T hb')) (slArg intRd_ok h3 r3 (Tt T hb')))) ?_
        refine RQ.y rfl (Y.pick (b := true) (v := .bool y22) (vb rfl c19) rfl) ?_
        refine RQ.y rfl (Y.move (v := .bool y22) rfl) ?_
        rcases bcases y22 with c24 | c24
        · replace hm := cF c24 hm
          refine RQ.skip (wantN (dj := 31) rfl (vb rfl c24) rfl) ?_
          refine RQ.skip (wantN (dj := 31) rfl (vb rfl c24) rfl) ?_
          refine RQ.skip (wantN (dj := 31) rfl (vb rfl c24) rfl) ?_
          refine RQ.skip (wantN (dj := 31) rfl (vb rfl c24) rfl) ?_
          refine RQ.skip (wantN (dj := 31) rfl (vb rfl c24) rfl) ?_
          refine RQ.y rfl (Y.pick (b := false) (v := .bool false) (vb rfl c24) rfl) ?_
          refine RQ.y rfl (Y.assign (v := .bool false) rfl) ?_
          refine RQ.nil ?_
          intro w25 hb26
          have szw25 := hb26.size
          have T := Tt T hb26
          refine then_n ?_
          refine wp_ret ?_
          obtain rfl := Option.some.inj hm
          exact (ret1 rfl rfl rfl ⟨rfl, T⟩)
        · replace hm := cT c24 hm
          refine RQ.y (wantT (dj := 31) rfl (vb rfl c24)) (Y.fieldAddr (off := 4) rfl (by kernel_rfl)) ?_
          refine RQ.y (wantT (dj := 31) rfl (vb rfl c24)) (Y.load (v := .slice A2 d0.ports.length c2) rfl (by kernel_rfl) (beC (blkCell B6 (i := 4) rfl))) ?_
          refine RQ.y (wantT (dj := 31) rfl (vb rfl c24)) (Y.fieldAddr (off := 4) rfl (by kernel_rfl)) ?_
          refine RQ.y (wantT (dj := 31) rfl (vb rfl c24)) (Y.load (v := .slice A4 d1.ports.length c4) rfl (by kernel_rfl) (beC (blkCell B10 (i := 4) rfl))) ?_
          obtain ⟨y27, e28, hm⟩ := bnd hm
          refine RQ.call (wantT (dj := 31) rfl (vb rfl c24)) (am2 rfl rfl) (by kernel_rfl) (v := .bool y27) (bel (K := fun _ => True) fun w' hb' => (c_m_slices_Equal_impl_Port_impl_Port d0.ports d1.ports _ e28 _ _ w' (slArg portRd_ok h2 r2 (Tt T hb')) (slArg portRd_ok h4 r4 (Tt T hb')))) ?_
          refine RQ.y rfl (Y.pick (b := true) (v := .bool y27) (vb rfl c24) rfl) ?_
          refine RQ.y rfl (Y.assign (v := .bool y27) rfl) ?_
          refine RQ.nil ?_
          intro w29 hb30
          have szw29 := hb30.size
          have T := Tt T hb30
          refine then_n ?_
          refine wp_ret ?_
          obtain rfl := Option.some.inj hm
          exact (ret1 rfl rfl rfl ⟨rfl, T⟩)
def m_slices_EqualFunc_impl_Agent_impl_Agent_impl_Agent_impl_Agent_A1 : Option Bool :=
  some true
def m_slices_EqualFunc_impl_Agent_impl_Agent_impl_Agent_impl_Agent_B1 (d0 : List DAgent) (d1 : List DAgent) (d2 : DAgent → DAgent → Option Bool) (rec1 : Int → Option Bool) (K1 : Option Bool) (i3 : Int) : Option Bool :=
  (bif (decide (i3 < (d0.length : Int))) then ((getI d0 i3).bind fun x6 => ((getI d1 i3).bind fun x24 => ((d2 x6 x24).bind fun y42 => (bif y42 then (rec1 (i3 + 1)) else some false)))) else (K1))
def m_slices_EqualFunc_impl_Agent_impl_Agent_impl_Agent_impl_Agent_L1 (d0 : List DAgent) (d1 : List DAgent) (d2 : DAgent → DAgent → Option Bool) (K1 : Option Bool) : Nat → Int → Option Bool
  | 0, _ => none
  | g + 1, i3 => m_slices_EqualFunc_impl_Agent_impl_Agent_impl_Agent_impl_Agent_B1 d0 d1 d2 (m_slices_EqualFunc_impl_Agent_impl_Agent_impl_Agent_impl_Agent_L1 d0 d1 d2 K1 g) K1 i3
def m_slices_EqualFunc_impl_Agent_impl_Agent_impl_Agent_impl_Agent (d0 : List DAgent) (d1 : List DAgent) (d2 : DAgent → DAgent → Option Bool) : Option Bool :=
  (bif ((d0.length : Int) != (d1.length : Int)) then some false else (m_slices_EqualFunc_impl_Agent_impl_Agent_impl_Agent_impl_Agent_L1 d0 d1 d2 m_slices_EqualFunc_impl_Agent_impl_Agent_impl_Agent_impl_Agent_A1 (d0.length + 1) 0))
set_option maxHeartbeats 2000000 in
theorem c_m_slices_EqualFunc_impl_Agent_impl_Agent_impl_Agent_impl_Agent (d0 : List DAgent) (d1 : List DAgent) (d2 : DAgent → DAgent → Option Bool) (r : Bool) (hm : m_slices_EqualFunc_impl_Agent_impl_Agent_impl_Agent_impl_Agent d0 d1 d2 = some r) (v0 : Value) (v1 : Value) (gf2 : FuncId) (caps2 : Array Value) (w : World) (hv0 : Sl agentRd 5 w v0 d0) (hv1 : Sl agentRd 5 w v1 d1) (hgo2 : isGo Tryz.prog gf2 = true) (hf2 : ∀ (x0 : DAgent) (x1 : DAgent) (b : Bool), d2 x0 x1 = some b → ∀ w1, Below w.heap.size w w1 → ∀ y0, St agentRd w1 y0 x0 → ∀ y1, St agentRd w1 y1 x1 → Calls Tryz.prog gf2 (#[y0, y1] ++ caps2) w1 fun e w2 => e = .returned (.bool b) ∧ Below w1.heap.size w1 w2) :
    Calls Tryz.prog 65 #[v0, v1, .func (.func gf2) #[] caps2] w fun e w' => e = .returned (.bool r) ∧ Below w.heap.size w w' := by
  obtain ⟨Aa0, na0, ca0, rfl, ha0, ra0⟩ := hv0
  have ea0 := ha0.len; subst ea0
  have qa0 := len_le ra0
  obtain ⟨Aa1, na1, ca1, rfl, ha1, ra1⟩ := hv1
  have ea1 := ha1.len; subst ea1
  have qa1 := len_le ra1
  have T := Below.refl w.heap.size w
  unfold m_slices_EqualFunc_impl_Agent_impl_Agent_impl_Agent_impl_Agent at hm
  refine enter 32 Tryz.func65 rfl rfl rfl ?_
  intro f hf
  have s0 : f 0 = .slice Aa0 d0.length ca0 := hf 0 _ rfl
  have s1 : f 1 = .slice Aa1 d1.length ca1 := hf 1 _ rfl
  have s2 : f 2 = .func (.func gf2) #[] caps2 := hf 2 _ rfl
  refine wp_seq ?_
  refine wp_rs rfl ?_
  refine RQ.y rfl (Y.assign (v := .bool false) rfl) ?_
  refine RQ.nil ?_
  refine then_n ?_
  refine wp_seq ?_
  refine wp_seq ?_
  refine wp_rs rfl ?_
  refine RQ.y rfl (Y.move (v := .slice Aa0 d0.length ca0) s0) ?_
  refine RQ.y rfl (Y.len (by kernel_rfl) rfl) ?_
  refine RQ.y rfl (Y.move (v := .slice Aa1 d1.length ca1) s1) ?_
  refine RQ.y rfl (Y.len (by kernel_rfl) rfl) ?_
  refine RQ.y rfl (Y.binI (v := .bool ((d0.length : Int) != (d1.length : Int))) rfl rfl rfl) ?_
  refine RQ.nil ?_
  refine then_n ?_
  rcases bcases ((d0.length : Int) != (d1.length : Int)) with c1 | c1
  · replace hm := cF c1 hm
    refine cond_f rfl (vb rfl c1) ?_
    refine wp_skip ?_
    refine then_n ?_
    refine wp_seq ?_
    refine wp_seq ?_
    refine wp_rs rfl ?_
    refine RQ.y rfl (Y.move (v := .slice Aa0 d0.length ca0) s0) ?_
    refine RQ.y rfl (Y.len (by kernel_rfl) rfl) ?_
    refine RQ.y rfl (Y.move (v := .int .i64 0) rfl) ?_
    refine RQ.nil ?_
    refine then_n ?_
    refine wp_block ?_
    obtain ⟨K1, hK1, hm⟩ : ∃ K, K = m_slices_EqualFunc_impl_Agent_impl_Agent_impl_Agent_impl_Agent_A1 ∧ m_slices_EqualFunc_impl_Agent_impl_Agent_impl_Agent_impl_Agent_L1 d0 d1 d2 K (d0.length + 1) 0 = some r := ⟨_, rfl, hm⟩
    refine wp_loopX (fun g f w' => ∃ (i3 : Int), f 1 = .slice Aa1 d1.length ca1 ∧ f 2 = .func (.func gf2) #[] caps2 ∧ f 15 = .slice Aa0 d0.length ca0 ∧ f 16 = .int .i64 (d0.length : Int) ∧ f 17 = .int .i64 i3 ∧ 0 ≤ i3 ∧ Below w.heap.size w w' ∧ m_slices_EqualFunc_impl_Agent_impl_Agent_impl_Agent_impl_Agent_L1 d0 d1 d2 K1 g i3 = some r) 0 (fun f w' => Below w.heap.size w w' ∧ m_slices_EqualFunc_impl_Agent_impl_Agent_impl_Agent_impl_Agent_A1  = some r) (d0.length + 1) ⟨0, s1, s2, rfl, rfl, rfl, (by omega), T, hm⟩ ?_ ?_
    · rintro f w2 ⟨T, hm⟩
      unfold m_slices_EqualFunc_impl_Agent_impl_Agent_impl_Agent_impl_Agent_A1 at hm
      refine blk_hit (then_n ?_)
      refine wp_seq ?_
      refine wp_rs rfl ?_
      refine RQ.y rfl (Y.assign (v := .bool true) rfl) ?_
      refine RQ.nil ?_
      refine then_n ?_
      refine wp_ret ?_
      obtain rfl := Option.some.inj hm
      exact (ret1 rfl rfl rfl ⟨rfl, T⟩)
    · rintro g f w4 ⟨i3, s1_1, s2_1, s15_1, s16_1, s17_1, nn17_1, T, hm⟩
      rcases g with _ | g
      · simp only [m_slices_EqualFunc_impl_Agent_impl_Agent_impl_Agent_impl_Agent_L1] at hm; cases hm
      obtain ⟨rec1, hrec1, hm⟩ : ∃ z, z = m_slices_EqualFunc_impl_Agent_impl_Agent_impl_Agent_impl_Agent_L1 d0 d1 d2 K1 g ∧ m_slices_EqualFunc_impl_Agent_impl_Agent_impl_Agent_impl_Agent_B1 d0 d1 d2 z K1 i3 = some r := ⟨_, rfl, hm⟩
      unfold m_slices_EqualFunc_impl_Agent_impl_Agent_impl_Agent_impl_Agent_B1 at hm
      refine wp_seq ?_
      refine wp_rs rfl ?_
      refine RQ.y rfl (Y.binI (v := .bool (decide (i3 < (d0.length : Int)))) s17_1 s16_1 rfl) ?_
      refine RQ.nil ?_
      refine then_n ?_
      refine wp_seq ?_
      rcases bcases (decide (i3 < (d0.length : Int))) with c5 | c5
      · replace hm := cF c5 hm
        have pc5 := of_decide_eq_false c5
        refine cond_f rfl (vb rfl c5) ?_
        refine wp_exit ?_
        exact (then_x (then_x (hit_x ⟨_, rfl, ⟨T, (by rw [hK1] at hm; exact hm)⟩⟩)))
      · replace hm := cT c5 hm
        have pc5 := of_decide_eq_true c5
        refine cond_t rfl (vb rfl c5) ?_
        refine wp_skip ?_
        refine then_n ?_
        refine wp_seq ?_
        refine wp_block ?_
        refine wp_seq ?_
        refine wp_rl rfl ?_
        refine RL.y rfl (Y.move (v := .int .i64 i3) s17_1) ?_
        obtain ⟨x6, hx9, hm⟩ := bnd hm
        obtain ⟨k7, hk10, hl11, hx9⟩ := getI_some hx9
        obtain ⟨b13, o14, rfl, hbb13⟩ := ha0.addr (by omega)
        obtain ⟨cs8, hRcs8, hc12⟩ := ha0.el hx9
        have hScs8 := hRcs8
        obtain ⟨A15, n15, c15, A16, n16, c16, rfl, ⟨h15, r15⟩, ⟨h16, r16⟩⟩ := hRcs8
        have e15 := h15.len; subst e15
        have q15 := len_le r15
        have e16 := h16.len; subst e16
        have q16 := len_le r16
        refine RL.y rfl (Y.indexAddr (m := k7) (sz := 5) s15_1 s17_1 hk10 hl11 (by kernel_rfl)) ?_
        refine RL.y rfl (Y.loadN (cs := [.int .i64 x6.kind, .int .i64 x6.level, .int .i64 x6.value, .slice A15 x6.data.length c15, .slice A16 x6.ports.length c16]) rfl (by kernel_rfl) (cells5 (eqC (cellT T (hc12 0 _ rfl))) (eqC (cellT T (hc12 1 _ rfl))) (eqC (cellT T (hc12 2 _ rfl))) (eqC (cellT T (hc12 3 _ rfl))) (eqC (cellT T (hc12 4 _ rfl))))) ?_
        refine RL.alloc (z := .agg #[.int .i64 0, .int .i64 0, .int .i64 0, .slice none 0 0, .slice none 0 0]) rfl (by kernel_rfl) (fun w17 B18 hb19 szw17 => ?_)
        replace B18 : Blk w17 w4.heap.size 63 #[.int .i64 0, .int .i64 0, .int .i64 0, .slice none 0 0, .slice none 0 0] := B18
        have GB18 : w.heap.size ≤ w4.heap.size := T.size
        have T := Tt T hb19
        refine RL.y rfl (Y.assign (v := .int .i64 i3) rfl) ?_
        refine RL.store (v := .agg #[.int .i64 x6.kind, .int .i64 x6.level, .int .i64 x6.value, .slice A15 x6.data.length c15, .slice A16 x6.ports.length c16]) (cs' := #[.int .i64 x6.kind, .int .i64 x6.level, .int .i64 x6.value, .slice A15 x6.data.length c15, .slice A16 x6.ports.length c16]) rfl rfl rfl B18 (by kernel_rfl) (by rfl) (by rfl) (by rfl) (fun w21 B22 ho23 => ?_)
        have szw21 := ho23.size
        have T := T.trans (ho23.below (by first | (simp; done) | (simp; omega)))
        refine RL.nil ?_
        refine then_n ?_
        refine wp_seq ?_
        refine wp_rl rfl ?_
        refine RL.y rfl (Y.move (v := .slice Aa1 d1.length ca1) s1_1) ?_
        refine RL.y rfl (Y.move (v := .int .i64 i3) rfl) ?_
        obtain ⟨x24, hx27, hm⟩ := bnd hm
        obtain ⟨k25, hk28, hl29, hx27⟩ := getI_some hx27
        obtain ⟨b31, o32, rfl, hbb31⟩ := ha1.addr (by omega)
        obtain ⟨cs26, hRcs26, hc30⟩ := ha1.el hx27
        have hScs26 := hRcs26
        obtain ⟨A33, n33, c33, A34, n34, c34, rfl, ⟨h33, r33⟩, ⟨h34, r34⟩⟩ := hRcs26
        have e33 := h33.len; subst e33
        have q33 := len_le r33
        have e34 := h34.len; subst e34
        have q34 := len_le r34
        refine RL.y rfl (Y.indexAddr (m := k25) (sz := 5) rfl rfl hk28 hl29 (by kernel_rfl)) ?_
        refine RL.y rfl (Y.loadN (cs := [.int .i64 x24.kind, .int .i64 x24.level, .int .i64 x24.value, .slice A33 x24.data.length c33, .slice A34 x24.ports.length c34]) rfl (by kernel_rfl) (cells5 (eqC (cellT T (hc30 0 _ rfl))) (eqC (cellT T (hc30 1 _ rfl))) (eqC (cellT T (hc30 2 _ rfl))) (eqC (cellT T (hc30 3 _ rfl))) (eqC (cellT T (hc30 4 _ rfl))))) ?_
        refine RL.alloc (z := .agg #[.int .i64 0, .int .i64 0, .int .i64 0, .slice none 0 0, .slice none 0 0]) rfl (by kernel_rfl) (fun w35 B36 hb37 szw35 => ?_)
        replace B36 : Blk w35 w21.heap.size 63 #[.int .i64 0, .int .i64 0, .int .i64 0, .slice none 0 0, .slice none 0 0] := B36
        have GB36 : w.heap.size ≤ w21.heap.size := T.size
        have Eob38_ob20 := Nat.ne_of_lt B22.lt
        have B22 := blkT B22 hb37
        have T := Tt T hb37
        refine RL.store (v := .agg #[.int .i64 x24.kind, .int .i64 x24.level, .int .i64 x24.value, .slice A33 x24.data.length c33, .slice A34 x24.ports.length c34]) (cs' := #[.int .i64 x24.kind, .int .i64 x24.level, .int .i64 x24.value, .slice A33 x24.data.length c33, .slice A34 x24.ports.length c34]) rfl rfl rfl B36 (by kernel_rfl) (by rfl) (by rfl) (by rfl) (fun w39 B40 ho41 => ?_)
        have szw39 := ho41.size
        have B22 := B22.only_ ho41 (by intro hin; simp at hin; exact Eob38_ob20 hin)
        have T := T.trans (ho41.below (by first | (simp; done) | (simp; omega)))
        refine RL.nil ?_
        refine then_n ?_
        refine wp_seq ?_
        refine wp_rb rfl ?_
        refine RQ.y rfl (Y.move (v := .func (.func gf2) #[] caps2) s2_1) ?_
        refine RQ.y rfl (Y.loadN (cs := [.int .i64 x6.kind, .int .i64 x6.level, .int .i64 x6.value, .slice A15 x6.data.length c15, .slice A16 x6.ports.length c16]) rfl (by kernel_rfl) (cells5 (beC (blkCell B22 (i := 0) rfl)) (beC (blkCell B22 (i := 1) rfl)) (beC (blkCell B22 (i := 2) rfl)) (beC (blkCell B22 (i := 3) rfl)) (beC (blkCell B22 (i := 4) rfl)))) ?_
        refine RQ.y rfl (Y.loadN (cs := [.int .i64 x24.kind, .int .i64 x24.level, .int .i64 x24.value, .slice A33 x24.data.length c33, .slice A34 x24.ports.length c34]) rfl (by kernel_rfl) (cells5 (beC (blkCell B40 (i := 0) rfl)) (beC (blkCell B40 (i := 1) rfl)) (beC (blkCell B40 (i := 2) rfl)) (beC (blkCell B40 (i := 3) rfl)) (beC (blkCell B40 (i := 4) rfl)))) ?_
        obtain ⟨y42, e43, hm⟩ := bnd hm
        refine RQ.callV rfl rfl (am2 rfl rfl) hgo2 (v := .bool y42) (bel (K := fun _ => True) fun w' hb' => hf2 x6 x24 y42 e43 w' (Tt T hb') _ (stArg (R := agentRd) ⟨_, _, _, _, _, _, rfl, ⟨SlAt.now intRd_ok h15 (Nat.le_refl _) (Tt T hb'), r15⟩, ⟨SlAt.now portRd_ok h16 (Nat.le_refl _) (Tt T hb'), r16⟩⟩) _ (stArg (R := agentRd) ⟨_, _, _, _, _, _, rfl, ⟨SlAt.now intRd_ok h33 (Nat.le_refl _) (Tt T hb'), r33⟩, ⟨SlAt.now portRd_ok h34 (Nat.le_refl _) (Tt T hb'), r34⟩⟩)) ?_
        refine RQ.y rfl (Y.not (b' := (!y42)) rfl rfl) ?_
        refine RQ.nil ?_
        intro w44 hb45
        have szw44 := hb45.size
        have T := Tt T hb45
        refine then_n ?_
        rcases bcases y42 with c46 | c46
        · replace hm := cF c46 hm
          refine cond_t rfl (vbn rfl c46 rfl) ?_
          refine wp_seq ?_
          refine wp_rs rfl ?_
          refine RQ.y rfl (Y.assign (v := .bool false) rfl) ?_
          refine RQ.nil ?_
          refine then_n ?_
          refine wp_ret ?_
          obtain rfl := Option.some.inj hm
          exact (blk_r (then_r (then_r (hit_r (blk_r (then_r (ret1 rfl rfl rfl ⟨rfl, T⟩)))))))
        · replace hm := cT c46 hm
          refine cond_f rfl (vbn rfl c46 rfl) ?_
          refine wp_skip ?_
          refine blk_n (then_n ?_)
          refine wp_rs rfl ?_
          refine RQ.y rfl (Y.binI s17_1 rfl (binI_add (m := i3) (by omega))) ?_
          refine RQ.y rfl (Y.move (v := .int .i64 (i3 + 1)) rfl) ?_
          refine RQ.nil ?_
          exact (then_n ⟨g, _, Nat.lt_succ_self _, rfl, ⟨(i3 + 1), s1_1, s2_1, s15_1, s16_1, rfl, (by omega), T, (by rw [← hrec1]; exact hm)⟩⟩)
  · replace hm := cT c1 hm
    refine cond_t rfl (vb rfl c1) ?_
    refine wp_seq ?_
    refine wp_rs rfl ?_
    refine RQ.y rfl (Y.assign (v := .bool false) rfl) ?_
    refine RQ.nil ?_
    refine then_n ?_
    refine wp_ret ?_
    obtain rfl := Option.some.inj hm
    exact (then_r (ret1 rfl rfl rfl ⟨rfl, T⟩))
def m_impl_SameNet (d0 : DNet) (d1 : DNet) : Option Bool :=
  ((m_slices_EqualFunc_impl_Agent_impl_Agent_impl_Agent_impl_Agent d0.agents d1.agents (fun x0 x1 => m_impl_sameAgent x0 x1)).bind fun y11 => some y11)
set_option maxHeartbeats 2000000 in
theorem c_m_impl_SameNet (d0 : DNet) (d1 : DNet) (r : Bool) (hm : m_impl_SameNet d0 d1 = some r) (v0 : Value) (v1 : Value) (w : World) (hv0 : St netRd w v0 d0) (hv1 : St netRd w v1 d1) :
    Calls Tryz.prog 35 #[v0, v1] w fun e w' => e = .returned (.bool r) ∧ Below w.heap.size w w' := by
  obtain ⟨csa0, rfl, ⟨A1, n1, c1, rfl, ⟨h1, r1⟩⟩⟩ := hv0
  have e1 := h1.len; subst e1
  have q1 := len_le r1
  obtain ⟨csa1, rfl, ⟨A2, n2, c2, rfl, ⟨h2, r2⟩⟩⟩ := hv1
  have e2 := h2.len; subst e2
  have q2 := len_le r2
  have T := Below.refl w.heap.size w
  unfold m_impl_SameNet at hm
  refine enter 10 Tryz.func35 rfl rfl rfl ?_
  intro f hf
  have s0 : f 0 = .agg #[.slice A1 d0.agents.length c1] := hf 0 _ rfl
  have s1 : f 1 = .agg #[.slice A2 d1.agents.length c2] := hf 1 _ rfl
  refine wp_seq ?_
  refine wp_rl rfl ?_
  refine RL.box rfl s0 (fun w3 B4 hb5 szw3 => ?_)
  replace B4 : Blk w3 w.heap.size 31 #[.slice A1 d0.agents.length c1] := B4
  have GB4 : w.heap.size ≤ w.heap.size := T.size
  have T := Tt T hb5
  refine RL.box rfl s1 (fun w7 B8 hb9 szw7 => ?_)
  replace B8 : Blk w7 w3.heap.size 31 #[.slice A2 d1.agents.length c2] := B8
  have GB8 : w.heap.size ≤ w3.heap.size := T.size
  have Eob10_ob6 := Nat.ne_of_lt B4.lt
  have B4 := blkT B4 hb9
  have T := Tt T hb9
  refine RL.y rfl (Y.assign (v := .bool false) rfl) ?_
  refine RL.nil ?_
  refine then_n ?_
  refine wp_seq ?_
  refine wp_rb rfl ?_
  refine RQ.y rfl (Y.fieldAddr (off := 0) rfl (by kernel_rfl)) ?_
  refine RQ.y rfl (Y.load (v := .slice A1 d0.agents.length c1) rfl (by kernel_rfl) (beC (blkCell B4 (i := 0) rfl))) ?_
  refine RQ.y rfl (Y.fieldAddr (off := 0) rfl (by kernel_rfl)) ?_
  refine RQ.y rfl (Y.load (v := .slice A2 d1.agents.length c2) rfl (by kernel_rfl) (beC (blkCell B8 (i := 0) rfl))) ?_
  obtain ⟨y11, e12, hm⟩ := bnd hm
  refine RQ.call rfl (am3 rfl rfl rfl) (by kernel_rfl) (v := .bool y11) (bel (K := fun _ => True) fun w' hb' => (c_m_slices_EqualFunc_impl_Agent_impl_Agent_impl_Agent_impl_Agent d0.agents d1.agents (fun x0 x1 => m_impl_sameAgent x0 x1) _ e12 _ _ _ _ w' (slArg agentRd_ok h1 r1 (Tt T hb')) (slArg agentRd_ok h2 r2 (Tt T hb')) (by kernel_rfl) (fun x0 x1 b hx w1 hb1 y0 hy0 y1 hy1 => Calls.arr (by simp) (c_m_impl_sameAgent x0 x1 _ hx _ _  w1 hy0 hy1 )))) ?_
  refine RQ.y rfl (Y.assign (v := .bool y11) rfl) ?_
  refine RQ.nil ?_
  intro w13 hb14
  have szw13 := hb14.size
  have T := Tt T hb14
  refine then_n ?_
  refine wp_ret ?_
  obtain rfl := Option.some.inj hm
  exact (ret1 rfl rfl rfl ⟨rfl, T⟩)
def m_spec_l12Shape (d0 : DNet) (d1 : DNet) : Option Bool :=
  ((m_spec_l12Net d0).bind fun y3 => ((m_spec_l12Net d1).bind fun y20 => ((m_spec_l11Same y3 y20).bind fun y37 => some y37)))
set_option maxHeartbeats 2000000 in
theorem c_m_spec_l12Shape (d0 : DNet) (d1 : DNet) (r : Bool) (hm : m_spec_l12Shape d0 d1 = some r) (v0 : Value) (v1 : Value) (w : World) (hv0 : Pt netRd w v0 d0) (hv1 : Pt netRd w v1 d1) :
    Calls Tryz.prog 34 #[v0, v1] w fun e w' => e = .returned (.bool r) ∧ Below w.heap.size w w' := by
  obtain ⟨ba0, oa0, csa0, rfl, hba0, hRa0, hca0⟩ := hv0
  have hSa0 := hRa0
  obtain ⟨A1, n1, c1, rfl, ⟨h1, r1⟩⟩ := hRa0
  have e1 := h1.len; subst e1
  have q1 := len_le r1
  obtain ⟨ba1, oa1, csa1, rfl, hba1, hRa1, hca1⟩ := hv1
  have hSa1 := hRa1
  obtain ⟨A2, n2, c2, rfl, ⟨h2, r2⟩⟩ := hRa1
  have e2 := h2.len; subst e2
  have q2 := len_le r2
  have T := Below.refl w.heap.size w
  unfold m_spec_l12Shape at hm
  refine enter 12 Tryz.func34 rfl rfl rfl ?_
  intro f hf
  have s0 : f 0 = .pointer (some ⟨ba0, oa0, none⟩) := hf 0 _ rfl
  have s1 : f 1 = .pointer (some ⟨ba1, oa1, none⟩) := hf 1 _ rfl
  refine wp_seq ?_
  refine wp_rs rfl ?_
  refine RQ.y rfl (Y.assign (v := .bool false) rfl) ?_
  refine RQ.nil ?_
  refine then_n ?_
  refine wp_seq ?_
  refine wp_rl rfl ?_
  refine RL.y rfl (Y.move (v := .pointer (some ⟨ba0, oa0, none⟩)) s0) ?_
  obtain ⟨y3, e4, hm⟩ := bnd hm
  refine RL.call rfl (am1 rfl) (by kernel_rfl) ((c_m_spec_l12Net d0 _ e4 _ _ (ptArg netRd_ok hba0 hSa0 hca0 T)).mono ?_)
  rintro _ w9 ⟨⟨v5, bs8, rfl, G6⟩, hb10⟩
  refine ⟨_, rfl, ?_⟩
  have szw9 := hb10.size
  have T0w9 := T.size
  have T := Tt T hb10
  replace G6 := OwN.mono G6 T0w9
  refine RL.alloc (z := .agg #[.slice none 0 0]) rfl (by kernel_rfl) (fun w11 B12 hb13 szw11 => ?_)
  replace B12 : Blk w11 w9.heap.size 31 #[.slice none 0 0] := B12
  have GB12 : w.heap.size ≤ w9.heap.size := T.size
  have No7_ob14 := Ap.far (OwN.hi G6)
  have G6 := OwN.below agentOw_ok G6 hb13
  have T := Tt T hb13
  obtain ⟨A15, c16, rfl⟩ := OwN.form G6
  have qbA15 := OwN.bound G6
  refine RL.store (v := .agg #[.slice A15 y3.agents.length c16]) (cs' := #[.slice A15 y3.agents.length c16]) rfl rfl rfl B12 (by kernel_rfl) (by rfl) (by rfl) (by rfl) (fun w17 B18 ho19 => ?_)
  have szw17 := ho19.size
  have G6 := OwN.only agentOw_ok G6 ho19 (Ap.one No7_ob14)
  have T := T.trans (ho19.below (by first | (simp; done) | (simp; omega)))
  refine RL.nil ?_
  refine then_n ?_
  refine wp_seq ?_
  refine wp_rl rfl ?_
  refine RL.y rfl (Y.move (v := .pointer (some ⟨ba1, oa1, none⟩)) s1) ?_
  obtain ⟨y20, e21, hm⟩ := bnd hm
  refine RL.call rfl (am1 rfl) (by kernel_rfl) ((c_m_spec_l12Net d1 _ e21 _ _ (ptArg netRd_ok hba1 hSa1 hca1 T)).mono ?_)
  rintro _ w26 ⟨⟨v22, bs25, rfl, G23⟩, hb27⟩
  refine ⟨_, rfl, ?_⟩
  have szw26 := hb27.size
  have T0w26 := T.size
  have Zo24_ob14 : Ap bs25 [w9.heap.size] := (Ap.new (OwN.lo_ G23) (one_hi B18.lt))
  have Zo24_o7 : Ap bs25 bs8 := (Ap.new (OwN.lo_ G23) (OwN.hi G6))
  have B18 := blkT B18 hb27
  have G6 := OwN.below agentOw_ok G6 hb27
  have T := Tt T hb27
  replace G23 := OwN.mono G23 T0w26
  refine RL.alloc (z := .agg #[.slice none 0 0]) rfl (by kernel_rfl) (fun w28 B29 hb30 szw28 => ?_)
  replace B29 : Blk w28 w26.heap.size 31 #[.slice none 0 0] := B29
  have GB29 : w.heap.size ≤ w26.heap.size := T.size
  have Eob31_ob14 := Nat.ne_of_lt B18.lt
  have No7_ob31 := Ap.far (OwN.hi G6)
  have No24_ob31 := Ap.far (OwN.hi G23)
  have B18 := blkT B18 hb30
  have G6 := OwN.below agentOw_ok G6 hb30
  have G23 := OwN.below agentOw_ok G23 hb30
  have T := Tt T hb30
  obtain ⟨A32, c33, rfl⟩ := OwN.form G23
  have qbA32 := OwN.bound G23
  refine RL.store (v := .agg #[.slice A32 y20.agents.length c33]) (cs' := #[.slice A32 y20.agents.length c33]) rfl rfl rfl B29 (by kernel_rfl) (by rfl) (by rfl) (by rfl) (fun w34 B35 ho36 => ?_)
  have szw34 := ho36.size
  have B18 := B18.only_ ho36 (by intro hin; simp at hin; exact Eob31_ob14 hin)
  have G6 := OwN.only agentOw_ok G6 ho36 (Ap.one No7_ob31)
  have G23 := OwN.only agentOw_ok G23 ho36 (Ap.one No24_ob31)
  have T := T.trans (ho36.below (by first | (simp; done) | (simp; omega)))
  refine RL.nil ?_
  refine then_n ?_
  refine wp_seq ?_
  refine wp_rb rfl ?_
  obtain ⟨y37, e38, hm⟩ := bnd hm
  refine RQ.call rfl (am2 rfl rfl) (by kernel_rfl) (v := .bool y37) (bel (K := fun _ => True) fun w' hb' => (c_m_spec_l11Same y3 y20 _ e38 _ _ w' (ptBox (R := netRd) (blkT B18 hb') ⟨_, _, _, rfl, (OwN.sl agentOw_ok (agentOw_reads _) (OwN.below agentOw_ok G6 hb'))⟩) (ptBox (R := netRd) (blkT B35 hb') ⟨_, _, _, rfl, (OwN.sl agentOw_ok (agentOw_reads _) (OwN.below agentOw_ok G23 hb'))⟩))) ?_
  refine RQ.y rfl (Y.assign (v := .bool y37) rfl) ?_
  refine RQ.nil ?_
  intro w39 hb40
  have szw39 := hb40.size
  have T := Tt T hb40
  refine then_n ?_
  refine wp_ret ?_
  obtain rfl := Option.some.inj hm
  exact (ret1 rfl rfl rfl ⟨rfl, T⟩)
def m_impl_SameShape (d0 : DNet) (d1 : DNet) : Option Bool :=
  ((m_impl_ValidNet d0).bind fun y13 => (bif y13 then ((m_impl_ValidNet d1).bind fun y18 => (bif y18 then (bif ((d0.agents.length : Int) == (d1.agents.length : Int)) then ((m_impl_canonical d0).bind fun y24 => ((m_impl_canonical d1).bind fun y32 => ((m_impl_SameNet y24 y32).bind fun y44 => some y44))) else some false) else some false)) else some false))
set_option maxHeartbeats 2000000 in
theorem c_m_impl_SameShape (d0 : DNet) (d1 : DNet) (r : Bool) (hm : m_impl_SameShape d0 d1 = some r) (v0 : Value) (v1 : Value) (w : World) (hv0 : St netRd w v0 d0) (hv1 : St netRd w v1 d1) :
    Calls Tryz.prog 20 #[v0, v1] w fun e w' => e = .returned (.bool r) ∧ Below w.heap.size w w' := by
  obtain ⟨csa0, rfl, ⟨A1, n1, c1, rfl, ⟨h1, r1⟩⟩⟩ := hv0
  have e1 := h1.len; subst e1
  have q1 := len_le r1
  obtain ⟨csa1, rfl, ⟨A2, n2, c2, rfl, ⟨h2, r2⟩⟩⟩ := hv1
  have e2 := h2.len; subst e2
  have q2 := len_le r2
  have T := Below.refl w.heap.size w
  unfold m_impl_SameShape at hm
  refine enter 27 Tryz.func20 rfl rfl rfl ?_
  intro f hf
  have s0 : f 0 = .agg #[.slice A1 d0.agents.length c1] := hf 0 _ rfl
  have s1 : f 1 = .agg #[.slice A2 d1.agents.length c2] := hf 1 _ rfl
  refine wp_seq ?_
  refine wp_rl rfl ?_
  refine RL.box rfl s0 (fun w3 B4 hb5 szw3 => ?_)
  replace B4 : Blk w3 w.heap.size 31 #[.slice A1 d0.agents.length c1] := B4
  have GB4 : w.heap.size ≤ w.heap.size := T.size
  have T := Tt T hb5
  refine RL.box rfl s1 (fun w7 B8 hb9 szw7 => ?_)
  replace B8 : Blk w7 w3.heap.size 31 #[.slice A2 d1.agents.length c2] := B8
  have GB8 : w.heap.size ≤ w3.heap.size := T.size
  have Eob10_ob6 := Nat.ne_of_lt B4.lt
  have B4 := blkT B4 hb9
  have T := Tt T hb9
  refine RL.y rfl (Y.assign (v := .bool false) rfl) ?_
  refine RL.nil ?_
  refine then_n ?_
  refine wp_seq ?_
  refine wp_rg (fun w' => Below w.heap.size w w' ∧ Blk w' w.heap.size 31 #[.slice A1 d0.agents.length c1] ∧ Blk w' w3.heap.size 31 #[.slice A2 d1.agents.length c2]) [(0, true), (1, false), (2, true), (3, true), (4, false), (5, true), (6, true), (7, true), (8, true), (9, true), (10, true), (11, true), (12, true), (13, true), (14, true), (15, true), (16, true), (18, true), (17, false), (19, false), (20, false), (21, true), (22, true)] (by kernel_rfl) (by kernel_rfl) (fun w11 hb12 szw11 => ?_)
  have B4 := blkT B4 hb12
  have B8 := blkT B8 hb12
  have T := Tt T hb12
  refine ⟨⟨T, B4, B8⟩, ?_⟩
  refine RG.y rfl rfl (Y.loadN (cs := [.slice A1 d0.agents.length c1]) rfl (by kernel_rfl) (cells1 (fun w' hS => (blkCell hS.2.1 (i := 0) rfl)))) ?_
  refine RG.act rfl ?_
  obtain ⟨y13, e14, hm⟩ := bnd hm
  refine RL.call rfl (am1 rfl) (by kernel_rfl) ((c_m_impl_ValidNet d0 _ e14 _ _ (stArg (R := netRd) ⟨_, _, _, rfl, ⟨SlAt.now agentRd_ok h1 (Nat.le_refl _) T, r1⟩⟩)).mono ?_)
  rintro _ w15 ⟨rfl, hb16⟩
  refine ⟨_, rfl, ?_⟩
  have szw15 := hb16.size
  have B4 := blkT B4 hb16
  have B8 := blkT B8 hb16
  have T := Tt T hb16
  refine RL.nil ⟨⟨T, B4, B8⟩, ?_⟩
  refine RG.y rfl rfl (Y.move (v := .bool y13) rfl) ?_
  rcases bcases y13 with c17 | c17
  · replace hm := cF c17 hm
    refine RG.skip rfl (wantN (dj := 7) rfl (vb rfl c17) rfl) ?_
    refine RG.act rfl ?_
    refine RL.skip (wantN (dj := 7) rfl (vb rfl c17) rfl) ?_
    refine RL.nil ⟨⟨T, B4, B8⟩, ?_⟩
    refine RG.y rfl rfl (Y.pick (b := false) (v := .bool false) (vb rfl c17) rfl) ?_
    refine RG.y rfl rfl (Y.move (v := .bool false) rfl) ?_
    refine RG.skip rfl (wantN (dj := 11) rfl rfl rfl) ?_
    refine RG.skip rfl (wantN (dj := 11) rfl rfl rfl) ?_
    refine RG.skip rfl (wantN (dj := 11) rfl rfl rfl) ?_
    refine RG.skip rfl (wantN (dj := 11) rfl rfl rfl) ?_
    refine RG.skip rfl (wantN (dj := 11) rfl rfl rfl) ?_
    refine RG.skip rfl (wantN (dj := 11) rfl rfl rfl) ?_
    refine RG.skip rfl (wantN (dj := 11) rfl rfl rfl) ?_
    refine RG.y rfl rfl (Y.pick (b := false) (v := .bool false) rfl rfl) ?_
    refine RG.y rfl rfl (Y.move (v := .bool false) rfl) ?_
    refine RG.skip rfl (wantN (dj := 20) rfl rfl rfl) ?_
    refine RG.skip rfl (wantN (dj := 20) rfl rfl rfl) ?_
    refine RG.act rfl ?_
    refine RL.skip (wantN (dj := 20) rfl rfl rfl) ?_
    refine RL.nil ⟨⟨T, B4, B8⟩, ?_⟩
    refine RG.act rfl ?_
    refine RL.skip (wantN (dj := 20) rfl rfl rfl) ?_
    refine RL.nil ⟨⟨T, B4, B8⟩, ?_⟩
    refine RG.act rfl ?_
    refine RL.skip (wantN (dj := 20) rfl rfl rfl) ?_
    refine RL.nil ⟨⟨T, B4, B8⟩, ?_⟩
    refine RG.y rfl rfl (Y.pick (b := false) (v := .bool false) rfl rfl) ?_
    refine RG.y rfl rfl (Y.assign (v := .bool false) rfl) ?_
    refine RG.nil ?_
    refine then_n ?_
    refine wp_ret ?_
    obtain rfl := Option.some.inj hm
    exact (ret1 rfl rfl rfl ⟨rfl, T⟩)
  · replace hm := cT c17 hm
    refine RG.y rfl (wantT (dj := 7) rfl (vb rfl c17)) (Y.loadN (cs := [.slice A2 d1.agents.length c2]) rfl (by kernel_rfl) (cells1 (fun w' hS => (blkCell hS.2.2 (i := 0) rfl)))) ?_
    refine RG.act rfl ?_
    obtain ⟨y18, e19, hm⟩ := bnd hm
    refine RL.call (wantT (dj := 7) rfl (vb rfl c17)) (am1 rfl) (by kernel_rfl) ((c_m_impl_ValidNet d1 _ e19 _ _ (stArg (R := netRd) ⟨_, _, _, rfl, ⟨SlAt.now agentRd_ok h2 (Nat.le_refl _) T, r2⟩⟩)).mono ?_)
    rintro _ w20 ⟨rfl, hb21⟩
    refine ⟨_, rfl, ?_⟩
    have szw20 := hb21.size
    have B4 := blkT B4 hb21
    have B8 := blkT B8 hb21
    have T := Tt T hb21
    refine RL.nil ⟨⟨T, B4, B8⟩, ?_⟩
    refine RG.y rfl rfl (Y.pick (b := true) (v := .bool y18) (vb rfl c17) rfl) ?_
    refine RG.y rfl rfl (Y.move (v := .bool y18) rfl) ?_
    rcases bcases y18 with c22 | c22
    · replace hm := cF c22 hm
      refine RG.skip rfl (wantN (dj := 11) rfl (vb rfl c22) rfl) ?_
      refine RG.skip rfl (wantN (dj := 11) rfl (vb rfl c22) rfl) ?_
      refine RG.skip rfl (wantN (dj := 11) rfl (vb rfl c22) rfl) ?_
      refine RG.skip rfl (wantN (dj := 11) rfl (vb rfl c22) rfl) ?_
      refine RG.skip rfl (wantN (dj := 11) rfl (vb rfl c22) rfl) ?_
      refine RG.skip rfl (wantN (dj := 11) rfl (vb rfl c22) rfl) ?_
      refine RG.skip rfl (wantN (dj := 11) rfl (vb rfl c22) rfl) ?_
      refine RG.y rfl rfl (Y.pick (b := false) (v := .bool false) (vb rfl c22) rfl) ?_
      refine RG.y rfl rfl (Y.move (v := .bool false) rfl) ?_
      refine RG.skip rfl (wantN (dj := 20) rfl rfl rfl) ?_
      refine RG.skip rfl (wantN (dj := 20) rfl rfl rfl) ?_
      refine RG.act rfl ?_
      refine RL.skip (wantN (dj := 20) rfl rfl rfl) ?_
      refine RL.nil ⟨⟨T, B4, B8⟩, ?_⟩
      refine RG.act rfl ?_
      refine RL.skip (wantN (dj := 20) rfl rfl rfl) ?_
      refine RL.nil ⟨⟨T, B4, B8⟩, ?_⟩
      refine RG.act rfl ?_
      refine RL.skip (wantN (dj := 20) rfl rfl rfl) ?_
      refine RL.nil ⟨⟨T, B4, B8⟩, ?_⟩
      refine RG.y rfl rfl (Y.pick (b := false) (v := .bool false) rfl rfl) ?_
      refine RG.y rfl rfl (Y.assign (v := .bool false) rfl) ?_
      refine RG.nil ?_
      refine then_n ?_
      refine wp_ret ?_
      obtain rfl := Option.some.inj hm
      exact (ret1 rfl rfl rfl ⟨rfl, T⟩)
    · replace hm := cT c22 hm
      refine RG.y rfl (wantT (dj := 11) rfl (vb rfl c22)) (Y.fieldAddr (off := 0) rfl (by kernel_rfl)) ?_
      refine RG.y rfl (wantT (dj := 11) rfl (vb rfl c22)) (Y.load (v := .slice A1 d0.agents.length c1) rfl (by kernel_rfl) (fun w' hS => (blkCell hS.2.1 (i := 0) rfl))) ?_
      refine RG.y rfl (wantT (dj := 11) rfl (vb rfl c22)) (Y.len (by kernel_rfl) rfl) ?_
      refine RG.y rfl (wantT (dj := 11) rfl (vb rfl c22)) (Y.fieldAddr (off := 0) rfl (by kernel_rfl)) ?_
      refine RG.y rfl (wantT (dj := 11) rfl (vb rfl c22)) (Y.load (v := .slice A2 d1.agents.length c2) rfl (by kernel_rfl) (fun w' hS => (blkCell hS.2.2 (i := 0) rfl))) ?_
      refine RG.y rfl (wantT (dj := 11) rfl (vb rfl c22)) (Y.len (by kernel_rfl) rfl) ?_
      refine RG.y rfl (wantT (dj := 11) rfl (vb rfl c22)) (Y.binI (v := .bool ((d0.agents.length : Int) == (d1.agents.length : Int))) rfl rfl rfl) ?_
      refine RG.y rfl rfl (Y.pick (b := true) (v := .bool ((d0.agents.length : Int) == (d1.agents.length : Int))) (vb rfl c22) rfl) ?_
      refine RG.y rfl rfl (Y.move (v := .bool ((d0.agents.length : Int) == (d1.agents.length : Int))) rfl) ?_
      rcases bcases ((d0.agents.length : Int) == (d1.agents.length : Int)) with c23 | c23
      · replace hm := cF c23 hm
        refine RG.skip rfl (wantN (dj := 20) rfl (vb rfl c23) rfl) ?_
        refine RG.skip rfl (wantN (dj := 20) rfl (vb rfl c23) rfl) ?_
        refine RG.act rfl ?_
        refine RL.skip (wantN (dj := 20) rfl (vb rfl c23) rfl) ?_
        refine RL.nil ⟨⟨T, B4, B8⟩, ?_⟩
        refine RG.act rfl ?_
        refine RL.skip (wantN (dj := 20) rfl (vb rfl c23) rfl) ?_
        refine RL.nil ⟨⟨T, B4, B8⟩, ?_⟩
        refine RG.act rfl ?_
        refine RL.skip (wantN (dj := 20) rfl (vb rfl c23) rfl) ?_
        refine RL.nil ⟨⟨T, B4, B8⟩, ?_⟩
        refine RG.y rfl rfl (Y.pick (b := false) (v := .bool false) (vb rfl c23) rfl) ?_
        refine RG.y rfl rfl (Y.assign (v := .bool false) rfl) ?_
        refine RG.nil ?_
        refine then_n ?_
        refine wp_ret ?_
        obtain rfl := Option.some.inj hm
        exact (ret1 rfl rfl rfl ⟨rfl, T⟩)
      · replace hm := cT c23 hm
        refine RG.y rfl (wantT (dj := 20) rfl (vb rfl c23)) (Y.loadN (cs := [.slice A1 d0.agents.length c1]) rfl (by kernel_rfl) (cells1 (fun w' hS => (blkCell hS.2.1 (i := 0) rfl)))) ?_
        refine RG.y rfl (wantT (dj := 20) rfl (vb rfl c23)) (Y.loadN (cs := [.slice A2 d1.agents.length c2]) rfl (by kernel_rfl) (cells1 (fun w' hS => (blkCell hS.2.2 (i := 0) rfl)))) ?_
        refine RG.act rfl ?_
        obtain ⟨y24, e25, hm⟩ := bnd hm
        refine RL.call (wantT (dj := 20) rfl (vb rfl c23)) (am1 rfl) (by kernel_rfl) ((c_m_impl_canonical d0 _ e25 _ _ (stArg (R := netRd) ⟨_, _, _, rfl, ⟨SlAt.now agentRd_ok h1 (Nat.le_refl _) T, r1⟩⟩)).mono ?_)
        rintro _ w30 ⟨⟨v26, bs29, rfl, G27⟩, hb31⟩
        refine ⟨_, rfl, ?_⟩
        have szw30 := hb31.size
        have T0w30 := T.size
        have Zo28_ob6 : Ap bs29 [w.heap.size] := (Ap.new (OwN.lo_ G27) (one_hi B4.lt))
        have Zo28_ob10 : Ap bs29 [w3.heap.size] := (Ap.new (OwN.lo_ G27) (one_hi B8.lt))
        have B4 := blkT B4 hb31
        have B8 := blkT B8 hb31
        have T := Tt T hb31
        replace G27 := OwN.mono G27 T0w30
        refine RL.nil ⟨⟨T, B4, B8⟩, ?_⟩
        refine RG.act rfl ?_
        obtain ⟨y32, e33, hm⟩ := bnd hm
        refine RL.call (wantT (dj := 20) rfl (vb rfl c23)) (am1 rfl) (by kernel_rfl) ((c_m_impl_canonical d1 _ e33 _ _ (stArg (R := netRd) ⟨_, _, _, rfl, ⟨SlAt.now agentRd_ok h2 (Nat.le_refl _) T, r2⟩⟩)).mono ?_)
        rintro _ w38 ⟨⟨v34, bs37, rfl, G35⟩, hb39⟩
        refine ⟨_, rfl, ?_⟩
        have szw38 := hb39.size
        have T0w38 := T.size
        have Zo36_ob6 : Ap bs37 [w.heap.size] := (Ap.new (OwN.lo_ G35) (one_hi B4.lt))
        have Zo36_ob10 : Ap bs37 [w3.heap.size] := (Ap.new (OwN.lo_ G35) (one_hi B8.lt))
        have Zo36_o28 : Ap bs37 bs29 := (Ap.new (OwN.lo_ G35) (OwN.hi G27))
        have B4 := blkT B4 hb39
        have B8 := blkT B8 hb39
        have G27 := OwN.below agentOw_ok G27 hb39
        have T := Tt T hb39
        replace G35 := OwN.mono G35 T0w38
        refine RL.nil ⟨⟨T, B4, B8⟩, ?_⟩
        refine RG.act rfl ?_
        obtain ⟨A40, c41, rfl⟩ := OwN.form G27
        have qbA40 := OwN.bound G27
        obtain ⟨A42, c43, rfl⟩ := OwN.form G35
        have qbA42 := OwN.bound G35
        obtain ⟨y44, e45, hm⟩ := bnd hm
        refine RL.call (wantT (dj := 20) rfl (vb rfl c23)) (am2 rfl rfl) (by kernel_rfl) ((c_m_impl_SameNet y24 y32 _ e45 _ _ _ (stArg (R := netRd) ⟨_, _, _, rfl, (OwN.sl agentOw_ok (agentOw_reads _) G27)⟩) (stArg (R := netRd) ⟨_, _, _, rfl, (OwN.sl agentOw_ok (agentOw_reads _) G35)⟩)).mono ?_)
        rintro _ w46 ⟨rfl, hb47⟩
        refine ⟨_, rfl, ?_⟩
        have szw46 := hb47.size
        have B4 := blkT B4 hb47
        have B8 := blkT B8 hb47
        have G27 := OwN.below agentOw_ok G27 hb47
        have G35 := OwN.below agentOw_ok G35 hb47
        have T := Tt T hb47
        refine RL.nil ⟨⟨T, B4, B8⟩, ?_⟩
        refine RG.y rfl rfl (Y.pick (b := true) (v := .bool y44) (vb rfl c23) rfl) ?_
        refine RG.y rfl rfl (Y.assign (v := .bool y44) rfl) ?_
        refine RG.nil ?_
        refine then_n ?_
        refine wp_ret ?_
        obtain rfl := Option.some.inj hm
        exact (ret1 rfl rfl rfl ⟨rfl, T⟩)
def m_spec_FindIsomorphism_A1 (xs65 : List Int) : Option ((List Int) × Int) :=
  some (xs65, 0)
def m_spec_FindIsomorphism_B1 (y44 : List Int) (y51 : List Int) (rec1 : List Int → Int → Option ((List Int) × Int)) (K1 : List Int → Option ((List Int) × Int)) (xs67 : List Int) (i68 : Int) : Option ((List Int) × Int) :=
  (bif (decide (i68 < (y44.length : Int))) then ((getI y44 i68).bind fun x75 => ((getI y51 i68).bind fun x83 => ((getI xs67 x75).bind fun x91 => (rec1 (setI xs67 x75 x83) (i68 + 1))))) else (K1 xs67))
def m_spec_FindIsomorphism_L1 (y44 : List Int) (y51 : List Int) (K1 : List Int → Option ((List Int) × Int)) : Nat → List Int → Int → Option ((List Int) × Int)
  | 0, _, _ => none
  | g + 1, xs67, i68 => m_spec_FindIsomorphism_B1 y44 y51 (m_spec_FindIsomorphism_L1 y44 y51 K1 g) K1 xs67 i68
def m_spec_FindIsomorphism (d0 : DNet) (d1 : DNet) : Option ((List Int) × Int) :=
  ((m_spec_l11Ok d0).bind fun y11 => (bif y11 then ((m_spec_l11Ok d1).bind fun y22 => (bif y22 then ((m_spec_l12Shape d0 d1).bind fun y33 => (bif y33 then ((m_spec_l12Order d0).bind fun y44 => ((m_spec_l12Order d1).bind fun y51 => ((m_spec_l00Own y44).bind fun y58 => (m_spec_FindIsomorphism_L1 y44 y51 m_spec_FindIsomorphism_A1 (y44.length + 1) y58 0)))) else some (([] : List Int), 3))) else some (([] : List Int), 1))) else some (([] : List Int), 1)))
set_option maxHeartbeats 2000000 in
theorem c_m_spec_FindIsomorphism (d0 : DNet) (d1 : DNet) (r : (List Int) × Int) (hm : m_spec_FindIsomorphism d0 d1 = some r) (v0 : Value) (v1 : Value) (w : World) (hv0 : St netRd w v0 d0) (hv1 : St netRd w v1 d1) :
    Calls Tryz.prog 21 #[v0, v1] w fun e w' => (∃ (v0 : Value), e = .returned (.tuple #[v0, .int .i64 r.2]) ∧ OwF 2 encI 1 w' w.heap.size v0 r.1) ∧ Below w.heap.size w w' := by
  obtain ⟨csa0, rfl, ⟨A1, n1, c1, rfl, ⟨h1, r1⟩⟩⟩ := hv0
  have e1 := h1.len; subst e1
  have q1 := len_le r1
  obtain ⟨csa1, rfl, ⟨A2, n2, c2, rfl, ⟨h2, r2⟩⟩⟩ := hv1
  have e2 := h2.len; subst e2
  have q2 := len_le r2
  have T := Below.refl w.heap.size w
  unfold m_spec_FindIsomorphism at hm
  refine enter 41 Tryz.func21 rfl rfl rfl ?_
  intro f hf
  have s0 : f 0 = .agg #[.slice A1 d0.agents.length c1] := hf 0 _ rfl
  have s1 : f 1 = .agg #[.slice A2 d1.agents.length c2] := hf 1 _ rfl
  refine wp_seq ?_
  refine wp_rl rfl ?_
  refine RL.box rfl s0 (fun w3 B4 hb5 szw3 => ?_)
  replace B4 : Blk w3 w.heap.size 31 #[.slice A1 d0.agents.length c1] := B4
  have GB4 : w.heap.size ≤ w.heap.size := T.size
  have T := Tt T hb5
  refine RL.box rfl s1 (fun w7 B8 hb9 szw7 => ?_)
  replace B8 : Blk w7 w3.heap.size 31 #[.slice A2 d1.agents.length c2] := B8
  have GB8 : w.heap.size ≤ w3.heap.size := T.size
  have Eob10_ob6 := Nat.ne_of_lt B4.lt
  have B4 := blkT B4 hb9
  have T := Tt T hb9
  refine RL.y rfl (Y.assign (v := .slice none 0 0) rfl) ?_
  refine RL.y rfl (Y.assign (v := .int .i64 0) rfl) ?_
  refine RL.nil ?_
  refine then_n ?_
  refine wp_seq ?_
  refine wp_seq ?_
  refine wp_rb rfl ?_
  obtain ⟨y11, e12, hm⟩ := bnd hm
  refine RQ.call rfl (am1 rfl) (by kernel_rfl) (v := .bool y11) (bel (K := fun _ => True) fun w' hb' => (c_m_spec_l11Ok d0 _ e12 _ w' (ptBox (R := netRd) (blkT B4 hb') ⟨_, _, _, rfl, ⟨SlAt.now agentRd_ok h1 (Nat.le_refl _) (Tt T hb'), r1⟩⟩))) ?_
  refine RQ.y rfl (Y.not (b' := (!y11)) rfl rfl) ?_
  refine RQ.y rfl (Y.move (v := .bool (!y11)) rfl) ?_
  rcases bcases y11 with c13 | c13
  · replace hm := cF c13 hm
    refine RQ.skip (wantN (dj := 12) rfl (vbn rfl c13 rfl) rfl) ?_
    refine RQ.skip (wantN (dj := 12) rfl (vbn rfl c13 rfl) rfl) ?_
    refine RQ.y rfl (Y.pick (b := true) (v := .bool true) (vbn rfl c13 rfl) rfl) ?_
    refine RQ.nil ?_
    intro w14 hb15
    have szw14 := hb15.size
    have B4 := blkT B4 hb15
    have B8 := blkT B8 hb15
    have T := Tt T hb15
    refine then_n ?_
    refine cond_t rfl rfl ?_
    refine wp_seq ?_
    refine wp_rl rfl ?_
    refine RL.bslice (e := 2) (cells := #[]) rfl pm0 (by kernel_rfl) (fun w16 B17 hb18 szw16 => ?_)
    have ZB17 : w.heap.size ≤ w14.heap.size := T.size
    have No19_ob6 := litNe (n := 0) (c := 0) B4.lt
    have No19_ob10 := litNe (n := 0) (c := 0) B8.lt
    have B4 := blkT B4 hb18
    have B8 := blkT B8 hb18
    have T := Tt T hb18
    have G20 := OwF.lit (enc := encI) (sz := 1) (xs := ([] : List Int)) B17 ZB17 rfl rfl rfl rfl
    refine RL.y rfl (Y.assign (v := .slice (some ⟨w14.heap.size, 0, none⟩) 0 0) rfl) ?_
    refine RL.y rfl (Y.assign (v := .int .i64 1) rfl) ?_
    refine RL.nil ?_
    refine then_n ?_
    refine wp_ret ?_
    obtain rfl := Option.some.inj hm
    exact (then_r (ret2 rfl rfl rfl rfl ⟨⟨_, rfl, G20⟩, T⟩))
  · replace hm := cT c13 hm
    obtain ⟨y22, e23, hm⟩ := bnd hm
    refine RQ.call (wantT (dj := 12) rfl (vbn rfl c13 rfl)) (am1 rfl) (by kernel_rfl) (v := .bool y22) (bel (K := fun _ => True) fun w' hb' => (c_m_spec_l11Ok d1 _ e23 _ w' (ptBox (R := netRd) (blkT B8 hb') ⟨_, _, _, rfl, ⟨SlAt.now agentRd_ok h2 (Nat.le_refl _) (Tt T hb'), r2⟩⟩))) ?_
    refine RQ.y (wantT (dj := 12) rfl (vbn rfl c13 rfl)) (Y.not (b' := (!y22)) rfl rfl) ?_
    refine RQ.y rfl (Y.pick (b := false) (v := .bool (!y22)) (vbn rfl c13 rfl) rfl) ?_
    refine RQ.nil ?_
    intro w24 hb25
    have szw24 := hb25.size
    have B4 := blkT B4 hb25
    have B8 := blkT B8 hb25
    have T := Tt T hb25
    refine then_n ?_
    rcases bcases y22 with c26 | c26
    · replace hm := cF c26 hm
      refine cond_t rfl (vbn rfl c26 rfl) ?_
      refine wp_seq ?_
      refine wp_rl rfl ?_
      refine RL.bslice (e := 2) (cells := #[]) rfl pm0 (by kernel_rfl) (fun w27 B28 hb29 szw27 => ?_)
      have ZB28 : w.heap.size ≤ w24.heap.size := T.size
      have No30_ob6 := litNe (n := 0) (c := 0) B4.lt
      have No30_ob10 := litNe (n := 0) (c := 0) B8.lt
      have B4 := blkT B4 hb29
      have B8 := blkT B8 hb29
      have T := Tt T hb29
      have G31 := OwF.lit (enc := encI) (sz := 1) (xs := ([] : List Int)) B28 ZB28 rfl rfl rfl rfl
      refine RL.y rfl (Y.assign (v := .slice (some ⟨w24.heap.size, 0, none⟩) 0 0) rfl) ?_
      refine RL.y rfl (Y.assign (v := .int .i64 1) rfl) ?_
      refine RL.nil ?_
      refine then_n ?_
      refine wp_ret ?_
      obtain rfl := Option.some.inj hm
      exact (then_r (ret2 rfl rfl rfl rfl ⟨⟨_, rfl, G31⟩, T⟩))
    · replace hm := cT c26 hm
      refine cond_f rfl (vbn rfl c26 rfl) ?_
      refine wp_skip ?_
      refine then_n ?_
      refine wp_seq ?_
      refine wp_seq ?_
      refine wp_rb rfl ?_
      obtain ⟨y33, e34, hm⟩ := bnd hm
      refine RQ.call rfl (am2 rfl rfl) (by kernel_rfl) (v := .bool y33) (bel (K := fun _ => True) fun w' hb' => (c_m_spec_l12Shape d0 d1 _ e34 _ _ w' (ptBox (R := netRd) (blkT B4 hb') ⟨_, _, _, rfl, ⟨SlAt.now agentRd_ok h1 (Nat.le_refl _) (Tt T hb'), r1⟩⟩) (ptBox (R := netRd) (blkT B8 hb') ⟨_, _, _, rfl, ⟨SlAt.now agentRd_ok h2 (Nat.le_refl _) (Tt T hb'), r2⟩⟩))) ?_
      refine RQ.y rfl (Y.not (b' := (!y33)) rfl rfl) ?_
      refine RQ.nil ?_
      intro w35 hb36
      have szw35 := hb36.size
      have B4 := blkT B4 hb36
      have B8 := blkT B8 hb36
      have T := Tt T hb36
      refine then_n ?_
      rcases bcases y33 with c37 | c37
      · replace hm := cF c37 hm
        refine cond_t rfl (vbn rfl c37 rfl) ?_
        refine wp_seq ?_
        refine wp_rl rfl ?_
        refine RL.bslice (e := 2) (cells := #[]) rfl pm0 (by kernel_rfl) (fun w38 B39 hb40 szw38 => ?_)
        have ZB39 : w.heap.size ≤ w35.heap.size := T.size
        have No41_ob6 := litNe (n := 0) (c := 0) B4.lt
        have No41_ob10 := litNe (n := 0) (c := 0) B8.lt
        have B4 := blkT B4 hb40
        have B8 := blkT B8 hb40
        have T := Tt T hb40
        have G42 := OwF.lit (enc := encI) (sz := 1) (xs := ([] : List Int)) B39 ZB39 rfl rfl rfl rfl
        refine RL.y rfl (Y.assign (v := .slice (some ⟨w35.heap.size, 0, none⟩) 0 0) rfl) ?_
        refine RL.y rfl (Y.assign (v := .int .i64 3) rfl) ?_
        refine RL.nil ?_
        refine then_n ?_
        refine wp_ret ?_
        obtain rfl := Option.some.inj hm
        exact (then_r (ret2 rfl rfl rfl rfl ⟨⟨_, rfl, G42⟩, T⟩))
      · replace hm := cT c37 hm
        refine cond_f rfl (vbn rfl c37 rfl) ?_
        refine wp_skip ?_
        refine then_n ?_
        refine wp_seq ?_
        refine wp_rl rfl ?_
        obtain ⟨y44, e45, hm⟩ := bnd hm
        refine RL.call rfl (am1 rfl) (by kernel_rfl) ((c_m_spec_l12Order d0 _ e45 _ _ (ptBox (R := netRd) B4 ⟨_, _, _, rfl, ⟨SlAt.now agentRd_ok h1 (Nat.le_refl _) T, r1⟩⟩)).mono ?_)
        rintro _ w49 ⟨⟨v46, rfl, G47⟩, hb50⟩
        refine ⟨_, rfl, ?_⟩
        have szw49 := hb50.size
        have T0w49 := T.size
        have Zo48_ob6 := ap_ne (Ap.new (OwF.flo G47) (one_hi B4.lt))
        have Zo48_ob10 := ap_ne (Ap.new (OwF.flo G47) (one_hi B8.lt))
        have B4 := blkT B4 hb50
        have B8 := blkT B8 hb50
        have T := Tt T hb50
        replace G47 := OwF.mono G47 T0w49
        refine RL.y rfl (Y.assign (v := v46) rfl) ?_
        refine RL.nil ?_
        refine then_n ?_
        refine wp_seq ?_
        refine wp_rl rfl ?_
        obtain ⟨y51, e52, hm⟩ := bnd hm
        refine RL.call rfl (am1 rfl) (by kernel_rfl) ((c_m_spec_l12Order d1 _ e52 _ _ (ptBox (R := netRd) B8 ⟨_, _, _, rfl, ⟨SlAt.now agentRd_ok h2 (Nat.le_refl _) T, r2⟩⟩)).mono ?_)
        rintro _ w56 ⟨⟨v53, rfl, G54⟩, hb57⟩
        refine ⟨_, rfl, ?_⟩
        have szw56 := hb57.size
        have T0w56 := T.size
        have Zo55_ob10 := ap_ne (Ap.new (OwF.flo G54) (one_hi B8.lt))
        have Zo55_o48 := Ap.dj (Ap.new (OwF.flo G54) (OwF.fhi G47))
        have B8 := blkT B8 hb57
        have G47 := OwF.below G47 hb57
        have T := Tt T hb57
        replace G54 := OwF.mono G54 T0w56
        refine RL.y rfl (Y.assign (v := v53) rfl) ?_
        refine RL.nil ?_
        refine then_n ?_
        refine wp_seq ?_
        refine wp_rl rfl ?_
        refine RL.y rfl (Y.move (v := v46) rfl) ?_
        obtain ⟨y58, e59, hm⟩ := bnd hm
        refine RL.call rfl (am1 rfl) (by kernel_rfl) ((c_m_spec_l00Own y44 _ e59 _ _ (OwF.arg fI G47)).mono ?_)
        rintro _ w63 ⟨⟨v60, rfl, G61⟩, hb64⟩
        refine ⟨_, rfl, ?_⟩
        have szw63 := hb64.size
        have T0w63 := T.size
        have Zo62_o48 := Ap.dj (Ap.new (OwF.flo G61) (OwF.fhi G47))
        have Zo62_o55 := Ap.dj (Ap.new (OwF.flo G61) (OwF.fhi G54))
        have G47 := OwF.below G47 hb64
        have G54 := OwF.below G54 hb64
        have T := Tt T hb64
        replace G61 := OwF.mono G61 T0w63
        refine RL.y rfl (Y.assign (v := v60) rfl) ?_
        refine RL.nil ?_
        refine then_n ?_
        refine wp_seq ?_
        refine wp_seq ?_
        refine wp_rs rfl ?_
        refine RQ.y rfl (Y.assign (v := .int .i64 0) rfl) ?_
        refine RQ.nil ?_
        refine then_n ?_
        refine wp_block ?_
        obtain ⟨K1, hK1, hm⟩ : ∃ K, K = m_spec_FindIsomorphism_A1 ∧ m_spec_FindIsomorphism_L1 y44 y51 K (y44.length + 1) y58 0 = some r := ⟨_, rfl, hm⟩
        refine wp_loopX (fun g f w' => ∃ (xs67 : List Int) (i68 : Int) (uxs67 : Value), f 6 = v46 ∧ f 7 = v53 ∧ f 8 = uxs67 ∧ OwF 2 encI 1 w' w.heap.size uxs67 xs67 ∧ f 9 = .int .i64 i68 ∧ 0 ≤ i68 ∧ Dj uxs67 v46 ∧ Dj uxs67 v53 ∧ OwF 2 encI 1 w' w.heap.size v46 y44 ∧ OwF 2 encI 1 w' w.heap.size v53 y51 ∧ Below w.heap.size w w' ∧ m_spec_FindIsomorphism_L1 y44 y51 K1 g xs67 i68 = some r) 0 (fun f w' => ∃ (xs65 : List Int) (uxs65 : Value), f 8 = uxs65 ∧ OwF 2 encI 1 w' w.heap.size uxs65 xs65 ∧ Below w.heap.size w w' ∧ m_spec_FindIsomorphism_A1 xs65 = some r) (y44.length + 1) ⟨y58, 0, (v60), rfl, rfl, rfl, G61, rfl, (by omega), (Ap.dj (Dj.ap Zo62_o48)), (Ap.dj (Dj.ap Zo62_o55)), G47, G54, T, hm⟩ ?_ ?_
        · rintro f w66 ⟨xs65, uxs65, s8_1x, Guxs65, T, hm⟩
          unfold m_spec_FindIsomorphism_A1 at hm
          refine blk_hit (then_n ?_)
          refine wp_seq ?_
          refine wp_rs rfl ?_
          refine RQ.y rfl (Y.move (v := uxs65) s8_1x) ?_
          refine RQ.y rfl (Y.assign (v := uxs65) rfl) ?_
          refine RQ.y rfl (Y.assign (v := .int .i64 0) rfl) ?_
          refine RQ.nil ?_
          refine then_n ?_
          refine wp_ret ?_
          obtain rfl := Option.some.inj hm
          exact (ret2 rfl rfl rfl rfl ⟨⟨_, rfl, Guxs65⟩, T⟩)
        · rintro g f w69 ⟨xs67, i68, uxs67, s6_1, s7_1, s8_1, Guxs67, s9_1, nn9_1, Doxs67_o48, Doxs67_o55, G47, G54, T, hm⟩
          rcases g with _ | g
          · simp only [m_spec_FindIsomorphism_L1] at hm; cases hm
          obtain ⟨rec1, hrec1, hm⟩ : ∃ z, z = m_spec_FindIsomorphism_L1 y44 y51 K1 g ∧ m_spec_FindIsomorphism_B1 y44 y51 z K1 xs67 i68 = some r := ⟨_, rfl, hm⟩
          unfold m_spec_FindIsomorphism_B1 at hm
          refine wp_seq ?_
          refine wp_seq ?_
          refine wp_rs rfl ?_
          refine RQ.y rfl (Y.move (v := .int .i64 i68) s9_1) ?_
          refine RQ.y rfl (Y.move (v := v46) s6_1) ?_
          obtain ⟨A70, c71, rfl⟩ := OwF.form G47
          have qbA70 := OwF.bound G47
          refine RQ.y rfl (Y.len (by kernel_rfl) rfl) ?_
          refine RQ.y rfl (Y.binI (v := .bool (decide (i68 < (y44.length : Int)))) rfl rfl rfl) ?_
          refine RQ.nil ?_
          refine then_n ?_
          rcases bcases (decide (i68 < (y44.length : Int))) with c72 | c72
          · replace hm := cF c72 hm
            have pc72 := of_decide_eq_false c72
            refine cond_f rfl (vb rfl c72) ?_
            refine wp_exit ?_
            exact (then_x (then_x (hit_x ⟨_, rfl, ⟨xs67, (uxs67), s8_1, Guxs67, T, (by rw [hK1] at hm; exact hm)⟩⟩)))
          · replace hm := cT c72 hm
            have pc72 := of_decide_eq_true c72
            refine cond_t rfl (vb rfl c72) ?_
            refine wp_skip ?_
            refine then_n ?_
            refine wp_seq ?_
            refine wp_block ?_
            refine wp_rg (fun w' => Below w.heap.size w w' ∧ OwF 2 encI 1 w' w.heap.size (.slice A70 y44.length c71) y44 ∧ OwF 2 encI 1 w' w.heap.size v53 y51) [(0, true), (1, true), (2, true), (3, true), (4, true), (5, true), (6, true), (7, true), (8, true), (9, true), (10, false)] (by kernel_rfl) (by kernel_rfl) (fun w73 hb74 szw73 => ?_)
            have G47 := OwF.below G47 hb74
            have G54 := OwF.below G54 hb74
            have Guxs67 := OwF.below Guxs67 hb74
            have T := Tt T hb74
            refine ⟨⟨T, G47, G54⟩, ?_⟩
            refine RG.y rfl rfl (Y.move (v := uxs67) s8_1) ?_
            refine RG.y rfl rfl (Y.move (v := .slice A70 y44.length c71) s6_1) ?_
            refine RG.y rfl rfl (Y.move (v := .int .i64 i68) s9_1) ?_
            obtain ⟨x75, hx77, hm⟩ := bnd hm
            obtain ⟨k76, hk78, hl79, hx77⟩ := getI_some hx77
            obtain ⟨b80, rfl⟩ := OwF.addr0 G47 (by omega)
            refine RG.y rfl rfl (Y.indexAddr (m := k76) (sz := 1) rfl rfl hk78 hl79 (by kernel_rfl)) ?_
            refine RG.y rfl rfl (Y.load (v := .int .i64 x75) rfl (by kernel_rfl) (fun w' hS => (OwF.cell fI hS.2.1 hx77 (j := 0) rfl))) ?_
            refine RG.y rfl rfl (Y.move (v := v53) s7_1) ?_
            refine RG.y rfl rfl (Y.move (v := .int .i64 i68) s9_1) ?_
            obtain ⟨A81, c82, rfl⟩ := OwF.form G54
            have qbA81 := OwF.bound G54
            obtain ⟨x83, hx85, hm⟩ := bnd hm
            obtain ⟨k84, hk86, hl87, hx85⟩ := getI_some hx85
            obtain ⟨b88, rfl⟩ := OwF.addr0 G54 (by omega)
            refine RG.y rfl rfl (Y.indexAddr (m := k84) (sz := 1) rfl rfl hk86 hl87 (by kernel_rfl)) ?_
            refine RG.y rfl rfl (Y.load (v := .int .i64 x83) rfl (by kernel_rfl) (fun w' hS => (OwF.cell fI hS.2.2 hx85 (j := 0) rfl))) ?_
            obtain ⟨A89, c90, rfl⟩ := OwF.form Guxs67
            have qbA89 := OwF.bound Guxs67
            obtain ⟨x91, hx93, hm⟩ := bnd hm
            obtain ⟨k92, hk94, hl95, hx93⟩ := getI_some hx93
            obtain ⟨b96, rfl⟩ := OwF.addr0 Guxs67 (by omega)
            refine RG.y rfl rfl (Y.indexAddr (m := k92) (sz := 1) rfl rfl hk94 hl95 (by kernel_rfl)) ?_
            refine RG.act rfl ?_
            refine RL.storeF (k := k92) (a := x83) fI rfl rfl rfl Guxs67 hl95 rfl (by kernel_rfl) (fun w97 G98 ho99 => ?_)
            have szw97 := ho99.size
            have G47 := OwF.only G47 ho99 (fun e => (Dj.symm Doxs67_o48) _ e rfl)
            have G54 := OwF.only G54 ho99 (fun e => (Dj.symm Doxs67_o55) _ e rfl)
            have T := T.trans (ho99.below (by intro b hb; simp at hb; subst hb; exact OwF.lo_ Guxs67 _ rfl))
            have G98 : OwF 2 encI 1 w97 w.heap.size (.slice (some ⟨b96, 0, none⟩) xs67.length c90) (setI xs67 x75 x83) := by rw [hk94, setI_nat]; exact G98
            have hx100 : (setI xs67 x75 x83)[k92]? = some x83 := setI_at hk94 hl95
            have hl101 := lt_of_some hx100
            refine RL.nil ⟨⟨T, G47, G54⟩, ?_⟩
            refine RG.nil ?_
            refine blk_n (then_n ?_)
            refine wp_rs rfl ?_
            refine RQ.y rfl (Y.move (v := .int .i64 i68) s9_1) ?_
            refine RQ.y rfl (Y.binI rfl rfl (binI_add (m := i68) (by omega))) ?_
            refine RQ.y rfl (Y.assign (v := .int .i64 (i68 + 1)) rfl) ?_
            refine RQ.nil ?_
            exact (then_n ⟨g, _, Nat.lt_succ_self _, rfl, ⟨(setI xs67 x75 x83), (i68 + 1), (.slice (some ⟨b96, 0, none⟩) xs67.length c90), s6_1, s7_1, s8_1, G98, rfl, (by omega), (Ap.dj (Dj.ap Doxs67_o48)), (Ap.dj (Dj.ap Doxs67_o55)), G47, G54, T, (by rw [← hrec1]; exact hm)⟩⟩)
def m_impl_FindIsomorphism_A1 (xs49 : List Int) : Option ((List Int) × Int) :=
  some (xs49, 0)
def m_impl_FindIsomorphism_B1 (y33 : List Int) (y40 : List Int) (rec1 : List Int → Int → Option ((List Int) × Int)) (K1 : List Int → Option ((List Int) × Int)) (xs51 : List Int) (i52 : Int) : Option ((List Int) × Int) :=
  (bif (decide (i52 < (y40.length : Int))) then ((getI y40 i52).bind fun x55 => ((getI y33 i52).bind fun x63 => ((getI xs51 x55).bind fun x71 => (rec1 (setI xs51 x55 x63) (i52 + 1))))) else (K1 xs51))
def m_impl_FindIsomorphism_L1 (y33 : List Int) (y40 : List Int) (K1 : List Int → Option ((List Int) × Int)) : Nat → List Int → Int → Option ((List Int) × Int)
  | 0, _, _ => none
  | g + 1, xs51, i52 => m_impl_FindIsomorphism_B1 y33 y40 (m_impl_FindIsomorphism_L1 y33 y40 K1 g) K1 xs51 i52
def m_impl_FindIsomorphism (d0 : DNet) (d1 : DNet) : Option ((List Int) × Int) :=
  ((m_impl_ValidNet d0).bind fun y11 => (bif y11 then ((m_impl_ValidNet d1).bind fun y16 => (bif y16 then ((m_impl_SameShape d0 d1).bind fun y21 => (bif y21 then ((mustP (d0.agents.length ≤ 4294967296)).bind fun _ => ((m_impl_Net_canonicalOrder d1).bind fun y33 => ((m_impl_Net_canonicalOrder d0).bind fun y40 => (m_impl_FindIsomorphism_L1 y33 y40 m_impl_FindIsomorphism_A1 (y40.length + 1) (List.replicate d0.agents.length 0) 0)))) else some ([], 3))) else some ([], 1))) else some ([], 1)))
set_option maxHeartbeats 2000000 in
theorem c_m_impl_FindIsomorphism (d0 : DNet) (d1 : DNet) (r : (List Int) × Int) (hm : m_impl_FindIsomorphism d0 d1 = some r) (v0 : Value) (v1 : Value) (w : World) (hv0 : St netRd w v0 d0) (hv1 : St netRd w v1 d1) :
    Calls Tryz.prog 22 #[v0, v1] w fun e w' => (∃ (v0 : Value), e = .returned (.tuple #[v0, .int .i64 r.2]) ∧ OwF 2 encI 1 w' w.heap.size v0 r.1) ∧ Below w.heap.size w w' := by
  obtain ⟨csa0, rfl, ⟨A1, n1, c1, rfl, ⟨h1, r1⟩⟩⟩ := hv0
  have e1 := h1.len; subst e1
  have q1 := len_le r1
  obtain ⟨csa1, rfl, ⟨A2, n2, c2, rfl, ⟨h2, r2⟩⟩⟩ := hv1
  have e2 := h2.len; subst e2
  have q2 := len_le r2
  have T := Below.refl w.heap.size w
  unfold m_impl_FindIsomorphism at hm
  refine enter 43 Tryz.func22 rfl rfl rfl ?_
  intro f hf
  have s0 : f 0 = .agg #[.slice A1 d0.agents.length c1] := hf 0 _ rfl
  have s1 : f 1 = .agg #[.slice A2 d1.agents.length c2] := hf 1 _ rfl
  refine wp_seq ?_
  refine wp_rl rfl ?_
  refine RL.box rfl s0 (fun w3 B4 hb5 szw3 => ?_)
  replace B4 : Blk w3 w.heap.size 31 #[.slice A1 d0.agents.length c1] := B4
  have GB4 : w.heap.size ≤ w.heap.size := T.size
  have T := Tt T hb5
  refine RL.box rfl s1 (fun w7 B8 hb9 szw7 => ?_)
  replace B8 : Blk w7 w3.heap.size 31 #[.slice A2 d1.agents.length c2] := B8
  have GB8 : w.heap.size ≤ w3.heap.size := T.size
  have Eob10_ob6 := Nat.ne_of_lt B4.lt
  have B4 := blkT B4 hb9
  have T := Tt T hb9
  refine RL.y rfl (Y.assign (v := .slice none 0 0) rfl) ?_
  refine RL.y rfl (Y.assign (v := .int .i64 0) rfl) ?_
  refine RL.nil ?_
  refine then_n ?_
  refine wp_seq ?_
  refine wp_seq ?_
  refine wp_rb rfl ?_
  refine RQ.y rfl (Y.loadN (cs := [.slice A1 d0.agents.length c1]) rfl (by kernel_rfl) (cells1 (beC (blkCell B4 (i := 0) rfl)))) ?_
  obtain ⟨y11, e12, hm⟩ := bnd hm
  refine RQ.call rfl (am1 rfl) (by kernel_rfl) (v := .bool y11) (bel (K := fun _ => True) fun w' hb' => (c_m_impl_ValidNet d0 _ e12 _ w' (stArg (R := netRd) ⟨_, _, _, rfl, ⟨SlAt.now agentRd_ok h1 (Nat.le_refl _) (Tt T hb'), r1⟩⟩))) ?_
  refine RQ.y rfl (Y.not (b' := (!y11)) rfl rfl) ?_
  refine RQ.y rfl (Y.move (v := .bool (!y11)) rfl) ?_
  rcases bcases y11 with c13 | c13
  · replace hm := cF c13 hm
    refine RQ.skip (wantN (dj := 13) rfl (vbn rfl c13 rfl) rfl) ?_
    refine RQ.skip (wantN (dj := 13) rfl (vbn rfl c13 rfl) rfl) ?_
    refine RQ.skip (wantN (dj := 13) rfl (vbn rfl c13 rfl) rfl) ?_
    refine RQ.y rfl (Y.pick (b := true) (v := .bool true) (vbn rfl c13 rfl) rfl) ?_
    refine RQ.nil ?_
    intro w14 hb15
    have szw14 := hb15.size
    have B4 := blkT B4 hb15
    have B8 := blkT B8 hb15
    have T := Tt T hb15
    refine then_n ?_
    refine cond_t rfl rfl ?_
    refine wp_seq ?_
    refine wp_rs rfl ?_
    refine RQ.y rfl (Y.assign (v := .slice none 0 0) rfl) ?_
    refine RQ.y rfl (Y.assign (v := .int .i64 1) rfl) ?_
    refine RQ.nil ?_
    refine then_n ?_
    refine wp_ret ?_
    obtain rfl := Option.some.inj hm
    exact (then_r (ret2 rfl rfl rfl rfl ⟨⟨_, rfl, OwF.nil⟩, T⟩))
  · replace hm := cT c13 hm
    refine RQ.y (wantT (dj := 13) rfl (vbn rfl c13 rfl)) (Y.loadN (cs := [.slice A2 d1.agents.length c2]) rfl (by kernel_rfl) (cells1 (beC (blkCell B8 (i := 0) rfl)))) ?_
    obtain ⟨y16, e17, hm⟩ := bnd hm
    refine RQ.call (wantT (dj := 13) rfl (vbn rfl c13 rfl)) (am1 rfl) (by kernel_rfl) (v := .bool y16) (bel (K := fun _ => True) fun w' hb' => (c_m_impl_ValidNet d1 _ e17 _ w' (stArg (R := netRd) ⟨_, _, _, rfl, ⟨SlAt.now agentRd_ok h2 (Nat.le_refl _) (Tt T hb'), r2⟩⟩))) ?_
    refine RQ.y (wantT (dj := 13) rfl (vbn rfl c13 rfl)) (Y.not (b' := (!y16)) rfl rfl) ?_
    refine RQ.y rfl (Y.pick (b := false) (v := .bool (!y16)) (vbn rfl c13 rfl) rfl) ?_
    refine RQ.nil ?_
    intro w18 hb19
    have szw18 := hb19.size
    have B4 := blkT B4 hb19
    have B8 := blkT B8 hb19
    have T := Tt T hb19
    refine then_n ?_
    rcases bcases y16 with c20 | c20
    · replace hm := cF c20 hm
      refine cond_t rfl (vbn rfl c20 rfl) ?_
      refine wp_seq ?_
      refine wp_rs rfl ?_
      refine RQ.y rfl (Y.assign (v := .slice none 0 0) rfl) ?_
      refine RQ.y rfl (Y.assign (v := .int .i64 1) rfl) ?_
      refine RQ.nil ?_
      refine then_n ?_
      refine wp_ret ?_
      obtain rfl := Option.some.inj hm
      exact (then_r (ret2 rfl rfl rfl rfl ⟨⟨_, rfl, OwF.nil⟩, T⟩))
    · replace hm := cT c20 hm
      refine cond_f rfl (vbn rfl c20 rfl) ?_
      refine wp_skip ?_
      refine then_n ?_
      refine wp_seq ?_
      refine wp_seq ?_
      refine wp_rb rfl ?_
      refine RQ.y rfl (Y.loadN (cs := [.slice A1 d0.agents.length c1]) rfl (by kernel_rfl) (cells1 (beC (blkCell B4 (i := 0) rfl)))) ?_
      refine RQ.y rfl (Y.loadN (cs := [.slice A2 d1.agents.length c2]) rfl (by kernel_rfl) (cells1 (beC (blkCell B8 (i := 0) rfl)))) ?_
      obtain ⟨y21, e22, hm⟩ := bnd hm
      refine RQ.call rfl (am2 rfl rfl) (by kernel_rfl) (v := .bool y21) (bel (K := fun _ => True) fun w' hb' => (c_m_impl_SameShape d0 d1 _ e22 _ _ w' (stArg (R := netRd) ⟨_, _, _, rfl, ⟨SlAt.now agentRd_ok h1 (Nat.le_refl _) (Tt T hb'), r1⟩⟩) (stArg (R := netRd) ⟨_, _, _, rfl, ⟨SlAt.now agentRd_ok h2 (Nat.le_refl _) (Tt T hb'), r2⟩⟩))) ?_
      refine RQ.y rfl (Y.not (b' := (!y21)) rfl rfl) ?_
      refine RQ.nil ?_
      intro w23 hb24
      have szw23 := hb24.size
      have B4 := blkT B4 hb24
      have B8 := blkT B8 hb24
      have T := Tt T hb24
      refine then_n ?_
      rcases bcases y21 with c25 | c25
      · replace hm := cF c25 hm
        refine cond_t rfl (vbn rfl c25 rfl) ?_
        refine wp_seq ?_
        refine wp_rs rfl ?_
        refine RQ.y rfl (Y.assign (v := .slice none 0 0) rfl) ?_
        refine RQ.y rfl (Y.assign (v := .int .i64 3) rfl) ?_
        refine RQ.nil ?_
        refine then_n ?_
        refine wp_ret ?_
        obtain rfl := Option.some.inj hm
        exact (then_r (ret2 rfl rfl rfl rfl ⟨⟨_, rfl, OwF.nil⟩, T⟩))
      · replace hm := cT c25 hm
        refine cond_f rfl (vbn rfl c25 rfl) ?_
        refine wp_skip ?_
        refine then_n ?_
        refine wp_seq ?_
        refine wp_rl rfl ?_
        refine RL.y rfl (Y.fieldAddr (off := 0) rfl (by kernel_rfl)) ?_
        refine RL.y rfl (Y.load (v := .slice A1 d0.agents.length c1) rfl (by kernel_rfl) (eqC (blkCell B4 (i := 0) rfl))) ?_
        refine RL.y rfl (Y.len (by kernel_rfl) rfl) ?_
        obtain ⟨_, m26, hm⟩ := bnd hm
        have hk27 := mustP_some m26
        refine RL.make (enc := encI) (z0 := 0) (n := d0.agents.length) app_int64 (by decide) rfl rfl rfl rfl hk27 (fun w28 G29 hb30 szw28 => ?_)
        replace G29 := OwF.mono G29 T.size
        have No31_ob6 := litNe (n := d0.agents.length) (c := d0.agents.length) B4.lt
        have No31_ob10 := litNe (n := d0.agents.length) (c := d0.agents.length) B8.lt
        have B4 := blkT B4 hb30
        have B8 := blkT B8 hb30
        have T := Tt T hb30
        refine RL.y rfl (Y.assign (v := .slice (some ⟨w23.heap.size, 0, none⟩) d0.agents.length d0.agents.length) rfl) ?_
        refine RL.nil ?_
        refine then_n ?_
        refine wp_seq ?_
        refine wp_rl rfl ?_
        obtain ⟨y33, e34, hm⟩ := bnd hm
        refine RL.call rfl (am1 rfl) (by kernel_rfl) ((c_m_impl_Net_canonicalOrder d1 _ e34 _ _ (ptBox (R := netRd) B8 ⟨_, _, _, rfl, ⟨SlAt.now agentRd_ok h2 (Nat.le_refl _) T, r2⟩⟩)).mono ?_)
        rintro _ w38 ⟨⟨v35, rfl, G36⟩, hb39⟩
        refine ⟨_, rfl, ?_⟩
        have szw38 := hb39.size
        have T0w38 := T.size
        have Zo37_ob6 := ap_ne (Ap.new (OwF.flo G36) (one_hi B4.lt))
        have Zo37_ob10 := ap_ne (Ap.new (OwF.flo G36) (one_hi B8.lt))
        have Zo37_o31 := Ap.dj (Ap.new (OwF.flo G36) (OwF.fhi G29))
        have B4 := blkT B4 hb39
        have B8 := blkT B8 hb39
        have G29 := OwF.below G29 hb39
        have T := Tt T hb39
        replace G36 := OwF.mono G36 T0w38
        refine RL.y rfl (Y.assign (v := v35) rfl) ?_
        refine RL.nil ?_
        refine then_n ?_
        refine wp_seq ?_
        refine wp_seq ?_
        refine wp_rl rfl ?_
        obtain ⟨y40, e41, hm⟩ := bnd hm
        refine RL.call rfl (am1 rfl) (by kernel_rfl) ((c_m_impl_Net_canonicalOrder d0 _ e41 _ _ (ptBox (R := netRd) B4 ⟨_, _, _, rfl, ⟨SlAt.now agentRd_ok h1 (Nat.le_refl _) T, r1⟩⟩)).mono ?_)
        rintro _ w45 ⟨⟨v42, rfl, G43⟩, hb46⟩
        refine ⟨_, rfl, ?_⟩
        have szw45 := hb46.size
        have T0w45 := T.size
        have Zo44_ob6 := ap_ne (Ap.new (OwF.flo G43) (one_hi B4.lt))
        have Zo44_o31 := Ap.dj (Ap.new (OwF.flo G43) (OwF.fhi G29))
        have Zo44_o37 := Ap.dj (Ap.new (OwF.flo G43) (OwF.fhi G36))
        have B4 := blkT B4 hb46
        have G29 := OwF.below G29 hb46
        have G36 := OwF.below G36 hb46
        have T := Tt T hb46
        replace G43 := OwF.mono G43 T0w45
        obtain ⟨A47, c48, rfl⟩ := OwF.form G43
        have qbA47 := OwF.bound G43
        refine RL.y rfl (Y.len (by kernel_rfl) rfl) ?_
        refine RL.y rfl (Y.move (v := .int .i64 0) rfl) ?_
        refine RL.nil ?_
        refine then_n ?_
        refine wp_block ?_
        obtain ⟨K1, hK1, hm⟩ : ∃ K, K = m_impl_FindIsomorphism_A1 ∧ m_impl_FindIsomorphism_L1 y33 y40 K (y40.length + 1) (List.replicate d0.agents.length 0) 0 = some r := ⟨_, rfl, hm⟩
        refine wp_loopX (fun g f w' => ∃ (xs51 : List Int) (i52 : Int) (uxs51 : Value), f 7 = v35 ∧ f 27 = .slice A47 y40.length c48 ∧ f 28 = .int .i64 (y40.length : Int) ∧ f 6 = uxs51 ∧ OwF 2 encI 1 w' w.heap.size uxs51 xs51 ∧ f 29 = .int .i64 i52 ∧ 0 ≤ i52 ∧ Dj uxs51 v35 ∧ Dj uxs51 (.slice A47 y40.length c48) ∧ OwF 2 encI 1 w' w.heap.size v35 y33 ∧ OwF 2 encI 1 w' w.heap.size (.slice A47 y40.length c48) y40 ∧ Below w.heap.size w w' ∧ m_impl_FindIsomorphism_L1 y33 y40 K1 g xs51 i52 = some r) 0 (fun f w' => ∃ (xs49 : List Int) (uxs49 : Value), f 6 = uxs49 ∧ OwF 2 encI 1 w' w.heap.size uxs49 xs49 ∧ Below w.heap.size w w' ∧ m_impl_FindIsomorphism_A1 xs49 = some r) (y40.length + 1) ⟨(List.replicate d0.agents.length 0), 0, (.slice (some ⟨w23.heap.size, 0, none⟩) d0.agents.length d0.agents.length), rfl, rfl, rfl, rfl, G29, rfl, (by omega), (Ap.dj (Ap.symm (Dj.ap Zo37_o31))), (Ap.dj (Ap.symm (Dj.ap Zo44_o31))), G36, G43, T, hm⟩ ?_ ?_
        · rintro f w50 ⟨xs49, uxs49, s6_1x, Guxs49, T, hm⟩
          unfold m_impl_FindIsomorphism_A1 at hm
          refine blk_hit (then_n ?_)
          refine wp_seq ?_
          refine wp_rs rfl ?_
          refine RQ.y rfl (Y.move (v := uxs49) s6_1x) ?_
          refine RQ.y rfl (Y.assign (v := uxs49) rfl) ?_
          refine RQ.y rfl (Y.assign (v := .int .i64 0) rfl) ?_
          refine RQ.nil ?_
          refine then_n ?_
          refine wp_ret ?_
          obtain rfl := Option.some.inj hm
          exact (ret2 rfl rfl rfl rfl ⟨⟨_, rfl, Guxs49⟩, T⟩)
        · rintro g f w53 ⟨xs51, i52, uxs51, s7_1, s27_1, s28_1, s6_1, Guxs51, s29_1, nn29_1, Doxs51_o37, Doxs51_o44, G36, G43, T, hm⟩
          rcases g with _ | g
          · simp only [m_impl_FindIsomorphism_L1] at hm; cases hm
          obtain ⟨rec1, hrec1, hm⟩ : ∃ z, z = m_impl_FindIsomorphism_L1 y33 y40 K1 g ∧ m_impl_FindIsomorphism_B1 y33 y40 z K1 xs51 i52 = some r := ⟨_, rfl, hm⟩
          unfold m_impl_FindIsomorphism_B1 at hm
          refine wp_seq ?_
          refine wp_rs rfl ?_
          refine RQ.y rfl (Y.binI (v := .bool (decide (i52 < (y40.length : Int)))) s29_1 s28_1 rfl) ?_
          refine RQ.nil ?_
          refine then_n ?_
          refine wp_seq ?_
          rcases bcases (decide (i52 < (y40.length : Int))) with c54 | c54
          · replace hm := cF c54 hm
            have pc54 := of_decide_eq_false c54
            refine cond_f rfl (vb rfl c54) ?_
            refine wp_exit ?_
            exact (then_x (then_x (hit_x ⟨_, rfl, ⟨xs51, (uxs51), s6_1, Guxs51, T, (by rw [hK1] at hm; exact hm)⟩⟩)))
          · replace hm := cT c54 hm
            have pc54 := of_decide_eq_true c54
            refine cond_t rfl (vb rfl c54) ?_
            refine wp_skip ?_
            refine then_n ?_
            refine wp_seq ?_
            refine wp_block ?_
            refine wp_seq ?_
            refine wp_rs rfl ?_
            refine RQ.y rfl (Y.move (v := .int .i64 i52) s29_1) ?_
            obtain ⟨x55, hx57, hm⟩ := bnd hm
            obtain ⟨k56, hk58, hl59, hx57⟩ := getI_some hx57
            obtain ⟨b60, rfl⟩ := OwF.addr0 G43 (by omega)
            refine RQ.y rfl (Y.indexAddr (m := k56) (sz := 1) s27_1 s29_1 hk58 hl59 (by kernel_rfl)) ?_
            refine RQ.y rfl (Y.load (v := .int .i64 x55) rfl (by kernel_rfl) (eqC (OwF.cell fI G43 hx57 (j := 0) rfl))) ?_
            refine RQ.y rfl (Y.assign (v := .int .i64 i52) rfl) ?_
            refine RQ.y rfl (Y.assign (v := .int .i64 x55) rfl) ?_
            refine RQ.nil ?_
            refine then_n ?_
            refine wp_rl rfl ?_
            refine RL.y rfl (Y.move (v := uxs51) s6_1) ?_
            refine RL.y rfl (Y.move (v := .int .i64 x55) rfl) ?_
            refine RL.y rfl (Y.move (v := v35) s7_1) ?_
            refine RL.y rfl (Y.move (v := .int .i64 i52) rfl) ?_
            obtain ⟨A61, c62, rfl⟩ := OwF.form G36
            have qbA61 := OwF.bound G36
            obtain ⟨x63, hx65, hm⟩ := bnd hm
            obtain ⟨k64, hk66, hl67, hx65⟩ := getI_some hx65
            obtain ⟨b68, rfl⟩ := OwF.addr0 G36 (by omega)
            refine RL.y rfl (Y.indexAddr (m := k64) (sz := 1) rfl rfl hk66 hl67 (by kernel_rfl)) ?_
            refine RL.y rfl (Y.load (v := .int .i64 x63) rfl (by kernel_rfl) (eqC (OwF.cell fI G36 hx65 (j := 0) rfl))) ?_
            obtain ⟨A69, c70, rfl⟩ := OwF.form Guxs51
            have qbA69 := OwF.bound Guxs51
            obtain ⟨x71, hx73, hm⟩ := bnd hm
            obtain ⟨k72, hk74, hl75, hx73⟩ := getI_some hx73
            obtain ⟨b76, rfl⟩ := OwF.addr0 Guxs51 (by omega)
            refine RL.y rfl (Y.indexAddr (m := k72) (sz := 1) rfl rfl hk74 hl75 (by kernel_rfl)) ?_
            refine RL.storeF (k := k72) (a := x63) fI rfl rfl rfl Guxs51 hl75 rfl (by kernel_rfl) (fun w77 G78 ho79 => ?_)
            have szw77 := ho79.size
            have G36 := OwF.only G36 ho79 (fun e => (Dj.symm Doxs51_o37) _ e rfl)
            have G43 := OwF.only G43 ho79 (fun e => (Dj.symm Doxs51_o44) _ e rfl)
            have T := T.trans (ho79.below (by intro b hb; simp at hb; subst hb; exact OwF.lo_ Guxs51 _ rfl))
            have G78 : OwF 2 encI 1 w77 w.heap.size (.slice (some ⟨b76, 0, none⟩) xs51.length c70) (setI xs51 x55 x63) := by rw [hk74, setI_nat]; exact G78
            have hx80 : (setI xs51 x55 x63)[k72]? = some x63 := setI_at hk74 hl75
            have hl81 := lt_of_some hx80
            refine RL.nil ?_
            refine blk_n (then_n ?_)
            refine wp_rs rfl ?_
            refine RQ.y rfl (Y.binI s29_1 rfl (binI_add (m := i52) (by omega))) ?_
            refine RQ.y rfl (Y.move (v := .int .i64 (i52 + 1)) rfl) ?_
            refine RQ.nil ?_
            exact (then_n ⟨g, _, Nat.lt_succ_self _, rfl, ⟨(setI xs51 x55 x63), (i52 + 1), (.slice (some ⟨b76, 0, none⟩) xs51.length c70), s7_1, s27_1, s28_1, s6_1, G78, rfl, (by omega), (Ap.dj (Dj.ap Doxs51_o37)), (Ap.dj (Dj.ap Doxs51_o44)), G36, G43, T, (by rw [← hrec1]; exact hm)⟩⟩)
end
section
open Go.RowKit
set_option linter.unusedVariables false
set_option linter.unusedSimpArgs false
theorem bne_nat {n m : Nat} : ((n : Int) != (m : Int)) = !decide (n = m) := by
  by_cases h : n = m
  · subst h; simp
  · simp [h]; omega
theorem ite_dec {p : Prop} [Decidable p] : (if p then some true else some false : Option Bool) = some (decide p) := by
  by_cases h : p <;> simp [h]
theorem decide_len {α : Type} [DecidableEq α] {xs ys : List α} (h : ¬ xs.length = ys.length) : decide (xs = ys) = false := decide_eq_false fun e => h (by rw [e])
theorem p_l00Same (xs ys : List Int) : m_spec_l00Same xs ys = some (decide (xs = ys)) := by
  unfold m_spec_l00Same
  rw [bne_nat]
  by_cases hl : xs.length = ys.length
  · rw [decide_eq_true hl, Bool.not_true, cond_false, ← ite_dec]
    exact eqI hl (fun g k hx hy => by
      simp -implicitDefEqProofs only [m_spec_l00Same_L1, m_spec_l00Same_B1, dlt hx, cond_true, getI_nat (List.getElem?_eq_getElem hx), getI_nat (List.getElem?_eq_getElem hy), Option.bind_some]
      by_cases h : xs[k] = ys[k]
      · rw [if_pos h, show (xs[k] != ys[k]) = false by simpa using h, cond_false]
      · rw [if_neg h, show (xs[k] != ys[k]) = true by simpa using h, cond_true])
      (fun g => by simp -implicitDefEqProofs only [m_spec_l00Same_L1, m_spec_l00Same_B1, dge, cond_false, m_spec_l00Same_A1]) _ (Nat.lt_succ_self _)
  · rw [decide_eq_false hl, Bool.not_false, cond_true, decide_len hl]
theorem p_EqInt (xs ys : List Int) : m_slices_Equal_int64_int64 xs ys = some (decide (xs = ys)) := by
  unfold m_slices_Equal_int64_int64
  rw [bne_nat]
  by_cases hl : xs.length = ys.length
  · rw [decide_eq_true hl, Bool.not_true, cond_false, ← ite_dec]
    exact eqI hl (fun g k hx hy => by
      simp -implicitDefEqProofs only [m_slices_Equal_int64_int64_L1, m_slices_Equal_int64_int64_B1, dlt hx, cond_true, getI_nat (List.getElem?_eq_getElem hx), getI_nat (List.getElem?_eq_getElem hy), Option.bind_some]
      by_cases h : xs[k] = ys[k]
      · rw [if_pos h, show (xs[k] != ys[k]) = false by simpa using h, cond_false]
      · rw [if_neg h, show (xs[k] != ys[k]) = true by simpa using h, cond_true])
      (fun g => by simp -implicitDefEqProofs only [m_slices_Equal_int64_int64_L1, m_slices_Equal_int64_int64_B1, dge, cond_false, m_slices_Equal_int64_int64_A1]) _ (Nat.lt_succ_self _)
  · rw [decide_eq_false hl, Bool.not_false, cond_true, decide_len hl]
theorem portEq (p q : DPort) : (p.agent == q.agent && p.slot == q.slot) = decide (p = q) := by
  obtain ⟨a, b⟩ := p
  obtain ⟨c, d⟩ := q
  by_cases h1 : a = c <;> by_cases h2 : b = d <;> simp [h1, h2]
theorem p_EqPort (xs ys : List DPort) : m_slices_Equal_impl_Port_impl_Port xs ys = some (decide (xs = ys)) := by
  unfold m_slices_Equal_impl_Port_impl_Port
  rw [bne_nat]
  by_cases hl : xs.length = ys.length
  · rw [decide_eq_true hl, Bool.not_true, cond_false, ← ite_dec]
    exact eqI hl (fun g k hx hy => by
      simp -implicitDefEqProofs only [m_slices_Equal_impl_Port_impl_Port_L1, m_slices_Equal_impl_Port_impl_Port_B1, dlt hx, cond_true, getI_nat (List.getElem?_eq_getElem hx), getI_nat (List.getElem?_eq_getElem hy), Option.bind_some, portEq]
      by_cases h : xs[k] = ys[k]
      · rw [if_pos h, decide_eq_true h, cond_true]
      · rw [if_neg h, decide_eq_false h, cond_false])
      (fun g => by simp -implicitDefEqProofs only [m_slices_Equal_impl_Port_impl_Port_L1, m_slices_Equal_impl_Port_impl_Port_B1, dge, cond_false, m_slices_Equal_impl_Port_impl_Port_A1]) _ (Nat.lt_succ_self _)
  · rw [decide_eq_false hl, Bool.not_false, cond_true, decide_len hl]
theorem agentEq (x y : DAgent) : (x = y) ↔ (x.kind = y.kind ∧ x.level = y.level ∧ x.value = y.value ∧ x.data = y.data ∧ x.ports = y.ports) := by
  obtain ⟨a, b, c, d, e⟩ := x
  obtain ⟨a', b', c', d', e'⟩ := y
  simp
theorem p_sSameAgent (x y : DAgent) : m_spec_l11SameAgent x y = some (decide (x = y)) := by
  unfold m_spec_l11SameAgent
  rw [p_l00Same, Option.bind_some, bne_nat]
  by_cases h1 : x.kind = y.kind
  · by_cases h2 : x.level = y.level
    · by_cases h3 : x.value = y.value
      · by_cases h4 : x.data = y.data
        · rw [show (x.kind != y.kind) = false by simpa using h1, show (x.level != y.level) = false by simpa using h2, show (x.value != y.value) = false by simpa using h3, decide_eq_true h4, cond_false, cond_false, cond_false, cond_true]
          by_cases hl : x.ports.length = y.ports.length
          · rw [decide_eq_true hl, Bool.not_true, cond_false]
            have := eqI (L := fun g k => m_spec_l11SameAgent_L1 x y m_spec_l11SameAgent_A1 g k) (no := some false) (yes := some true) hl (fun g k hx hy => by
              simp -implicitDefEqProofs only [m_spec_l11SameAgent_L1, m_spec_l11SameAgent_B1, dlt hx, cond_true, getI_nat (List.getElem?_eq_getElem hx), getI_nat (List.getElem?_eq_getElem hy), Option.bind_some, portEq]
              by_cases h : x.ports[k] = y.ports[k]
              · rw [if_pos h, decide_eq_true h, cond_true]
              · rw [if_neg h, decide_eq_false h, cond_false])
              (fun g => by simp -implicitDefEqProofs only [m_spec_l11SameAgent_L1, m_spec_l11SameAgent_B1, dge, cond_false, m_spec_l11SameAgent_A1]) (x.ports.length + 1) (Nat.lt_succ_self _)
            refine this.trans ?_
            rw [ite_dec]
            congr 1
            exact decide_eq_decide.2 (by rw [agentEq]; simp [h1, h2, h3, h4])
          · rw [decide_eq_false hl, Bool.not_false, cond_true, show decide (x = y) = false from decide_eq_false (fun e => hl (by rw [e]))]
        · rw [decide_eq_false h4, show decide (x = y) = false from decide_eq_false (fun e => h4 (by rw [e]))]
          simp [h1, h2, h3]
      · rw [show (x.value != y.value) = true by simpa using h3, show decide (x = y) = false from decide_eq_false (fun e => h3 (by rw [e]))]
        simp [h1, h2]
    · rw [show (x.level != y.level) = true by simpa using h2, show decide (x = y) = false from decide_eq_false (fun e => h2 (by rw [e]))]
      simp [h1]
  · rw [show (x.kind != y.kind) = true by simpa using h1, show decide (x = y) = false from decide_eq_false (fun e => h1 (by rw [e])), cond_true]
theorem p_iSameAgent (x y : DAgent) : m_impl_sameAgent x y = some (decide (x = y)) := by
  unfold m_impl_sameAgent
  rw [p_EqInt, Option.bind_some, p_EqPort, Option.bind_some]
  by_cases h1 : x.kind = y.kind
  · by_cases h2 : x.level = y.level
    · by_cases h3 : x.value = y.value
      · by_cases h4 : x.data = y.data
        · have e : decide (x = y) = decide (x.ports = y.ports) := decide_eq_decide.2 (by rw [agentEq]; simp [h1, h2, h3, h4])
          rw [e]; simp [h1, h2, h3, h4]
        · rw [decide_eq_false h4, show decide (x = y) = false from decide_eq_false (fun e => h4 (by rw [e]))]
          simp [h1, h2, h3]
      · rw [show decide (x = y) = false from decide_eq_false (fun e => h3 (by rw [e])), show (x.value == y.value) = false by simpa using h3]
        simp [h1, h2]
    · rw [show decide (x = y) = false from decide_eq_false (fun e => h2 (by rw [e])), show (x.level == y.level) = false by simpa using h2]
      simp [h1]
  · rw [show decide (x = y) = false from decide_eq_false (fun e => h1 (by rw [e])), show (x.kind == y.kind) = false by simpa using h1, cond_false]
theorem netEq (d e : DNet) : decide (d = e) = decide (d.agents = e.agents) := by
  obtain ⟨a⟩ := d
  obtain ⟨b⟩ := e
  exact decide_eq_decide.2 (by simp)
theorem p_sSame (d e : DNet) : m_spec_l11Same d e = some (decide (d = e)) := by
  unfold m_spec_l11Same
  rw [bne_nat, netEq]
  by_cases hl : d.agents.length = e.agents.length
  · rw [decide_eq_true hl, Bool.not_true, cond_false, ← ite_dec]
    exact eqI hl (fun g k hx hy => by
      simp -implicitDefEqProofs only [m_spec_l11Same_L1, m_spec_l11Same_B1, dlt hx, cond_true, getI_nat (List.getElem?_eq_getElem hx), getI_nat (List.getElem?_eq_getElem hy), Option.bind_some, p_sSameAgent]
      by_cases h : d.agents[k] = e.agents[k]
      · rw [if_pos h, decide_eq_true h, cond_true]
      · rw [if_neg h, decide_eq_false h, cond_false])
      (fun g => by simp -implicitDefEqProofs only [m_spec_l11Same_L1, m_spec_l11Same_B1, dge, cond_false, m_spec_l11Same_A1]) _ (Nat.lt_succ_self _)
  · rw [decide_eq_false hl, Bool.not_false, cond_true, decide_len hl]
theorem p_iSame (d e : DNet) : m_impl_SameNet d e = some (decide (d = e)) := by
  unfold m_impl_SameNet m_slices_EqualFunc_impl_Agent_impl_Agent_impl_Agent_impl_Agent
  rw [bne_nat, netEq]
  by_cases hl : d.agents.length = e.agents.length
  · rw [decide_eq_true hl, Bool.not_true, cond_false, ← ite_dec]
    have := eqI (L := fun g k => m_slices_EqualFunc_impl_Agent_impl_Agent_impl_Agent_impl_Agent_L1 d.agents e.agents (fun x0 x1 => m_impl_sameAgent x0 x1) m_slices_EqualFunc_impl_Agent_impl_Agent_impl_Agent_impl_Agent_A1 g k) (no := some false) (yes := some true) hl (fun g k hx hy => by
      simp -implicitDefEqProofs only [m_slices_EqualFunc_impl_Agent_impl_Agent_impl_Agent_impl_Agent_L1, m_slices_EqualFunc_impl_Agent_impl_Agent_impl_Agent_impl_Agent_B1, dlt hx, cond_true, getI_nat (List.getElem?_eq_getElem hx), getI_nat (List.getElem?_eq_getElem hy), Option.bind_some, p_iSameAgent]
      by_cases h : d.agents[k] = e.agents[k]
      · rw [if_pos h, decide_eq_true h, cond_true]
      · rw [if_neg h, decide_eq_false h, cond_false])
      (fun g => by simp -implicitDefEqProofs only [m_slices_EqualFunc_impl_Agent_impl_Agent_impl_Agent_impl_Agent_L1, m_slices_EqualFunc_impl_Agent_impl_Agent_impl_Agent_impl_Agent_B1, dge, cond_false, m_slices_EqualFunc_impl_Agent_impl_Agent_impl_Agent_impl_Agent_A1]) (d.agents.length + 1) (Nat.lt_succ_self _)
    rw [this]
    by_cases h : d.agents = e.agents
    · rw [if_pos h]; rfl
    · rw [if_neg h]; rfl
  · rw [decide_eq_false hl, Bool.not_false, cond_true, decide_len hl, Option.bind_some]
theorem canonNet_len {xs : List DAgent} (G : Good xs) : (canonNet xs).agents.length = xs.length := by
  unfold canonNet renL
  rw [List.length_map, canon_len G]
noncomputable def sameShape (d e : DNet) : Bool := validNet d && validNet e && decide (canonNet d.agents = canonNet e.agents)
theorem p_sShape {d e : DNet} (hd : validNet d = true) (he : validNet e = true) (hs : Small d.agents) (hs' : Small e.agents) : m_spec_l12Shape d e = some (decide (canonNet d.agents = canonNet e.agents)) := by
  obtain ⟨xs⟩ := d
  obtain ⟨ys⟩ := e
  unfold m_spec_l12Shape
  rw [p_sNet (good hd) hs, Option.bind_some, p_sNet (good he) hs', Option.bind_some, p_sSame, Option.bind_some]
theorem p_iSameShape (d e : DNet) (hs : Small d.agents) (hs' : Small e.agents) : m_impl_SameShape d e = some (sameShape d e) := by
  unfold m_impl_SameShape sameShape
  rw [p_valid _ hs, Option.bind_some, p_valid _ hs', Option.bind_some]
  cases hd : validNet d with
  | false => rfl
  | true =>
    cases he : validNet e with
    | false => rfl
    | true =>
      rw [cond_true, cond_true]
      by_cases hl : d.agents.length = e.agents.length
      · rw [show ((d.agents.length : Int) == (e.agents.length : Int)) = true by simp [hl], cond_true]
        obtain ⟨xs⟩ := d
        obtain ⟨ys⟩ := e
        rw [p_iNet (good hd) hs, Option.bind_some, p_iNet (good he) hs', Option.bind_some, p_iSame]; rfl
      · rw [show ((d.agents.length : Int) == (e.agents.length : Int)) = false by simp; omega, cond_false]
        have : ¬ canonNet d.agents = canonNet e.agents := fun h => hl (by rw [← canonNet_len (good hd), ← canonNet_len (good he), h])
        rw [decide_eq_false this]; rfl
/-- Where agent a of the one order goes. -/
def isoAt (x y z : List Int) (n k : Nat) : List Int := (List.range n).map fun a : Nat => if x.idxOf (a : Int) < k then y.getD (x.idxOf (a : Int)) 0 else z.getD a 0
theorem isoAt_zero {x y z : List Int} {n : Nat} (hz : z.length = n) : isoAt x y z n 0 = z := by
  apply List.ext_getElem?
  intro a
  unfold isoAt
  by_cases ha : a < n
  · rw [List.getElem?_map, List.getElem?_range ha]
    simp [List.getD, List.getElem?_eq_getElem (show a < z.length by omega)]
  · rw [List.getElem?_eq_none (by simp; omega), List.getElem?_eq_none (by omega)]
theorem isoAt_step {x y z : List Int} {n k : Nat} (hx : GL n x) (hk : k < x.length) (hy : k < y.length) : setI (isoAt x y z n k) x[k] y[k] = isoAt x y z n (k + 1) := by
  have r := hx.inr _ (List.getElem_mem hk)
  obtain ⟨b, hb⟩ := Int.eq_ofNat_of_zero_le r.1
  have hb' : b < n := by omega
  have hib : x.idxOf (b : Int) = k := by rw [← hb]; exact List.Nodup.idxOf_getElem hx.nd k hk
  rw [hb, setI_nat]
  apply List.ext_getElem?
  intro a
  unfold isoAt
  by_cases ha : a < n
  · by_cases hab : a = b
    · subst hab
      rw [List.getElem?_set_self (by simpa using ha), List.getElem?_map, List.getElem?_range ha]
      simp [hib, List.getD, List.getElem?_eq_getElem hy]
    · rw [List.getElem?_set_ne (fun e => hab e.symm), List.getElem?_map, List.getElem?_map, List.getElem?_range ha]
      have hne : x.idxOf (a : Int) ≠ k := fun e => by
        have h1 := List.getElem_idxOf (x := (a : Int)) (xs := x) (by omega)
        have h2 : x[k] = (a : Int) := by rw [← h1]; congr 1; exact e.symm
        omega
      have : (x.idxOf (a : Int) < k + 1) ↔ (x.idxOf (a : Int) < k) := by omega
      simp only [Option.map_some, this]
  · rw [List.getElem?_eq_none (by simp; omega), List.getElem?_eq_none (by simp; omega)]
def isoL (x y : List Int) (n : Nat) : List Int := (List.range n).map fun a : Nat => y.getD (x.idxOf (a : Int)) 0
theorem isoAt_end {x y z : List Int} {n : Nat} (hx : GL n x) (hl : x.length = n) (hall : ∀ a : Nat, a < n → (a : Int) ∈ x) : isoAt x y z n n = isoL x y n := by
  unfold isoAt isoL
  refine List.map_congr_left fun a ha => ?_
  have := List.mem_range.1 ha
  rw [if_pos (by rw [← hl]; exact List.idxOf_lt_length_of_mem (hall a this))]
theorem isoAt_get {x y z : List Int} {n k : Nat} {a : Int} (h0 : 0 ≤ a) (h1 : a < n) : ∃ v, getI (isoAt x y z n k) a = some v := by
  obtain ⟨b, rfl⟩ := Int.eq_ofNat_of_zero_le h0
  exact ⟨_, getI_nat (List.getElem?_eq_getElem (by unfold isoAt; simp; omega))⟩
noncomputable def findIso (d e : DNet) : List Int × Int := bif validNet d && validNet e then (bif decide (canonNet d.agents = canonNet e.agents) then (isoL (canonOf d.agents) (canonOf e.agents) d.agents.length, 0) else ([], 3)) else ([], 1)
theorem findIso_len (d e : DNet) (hs : szNet d ≤ 1048576) : (findIso d e).1.length ≤ 1048576 := by
  unfold findIso
  cases hd : validNet d with
  | false => simp
  | true =>
    have := (good hd).len
    cases validNet e with
    | false => simp
    | true =>
      cases decide (canonNet d.agents = canonNet e.agents) with
      | false => simp
      | true => simp [isoL]; omega
theorem p_sFindIso (d e : DNet) (hs : Small d.agents) (hs' : Small e.agents) : m_spec_FindIsomorphism d e = some (findIso d e) := by
  unfold m_spec_FindIsomorphism findIso
  rw [p_ok _ hs, Option.bind_some, p_ok _ hs', Option.bind_some]
  cases hd : validNet d with
  | false => rfl
  | true =>
    cases he : validNet e with
    | false => rfl
    | true =>
      rw [cond_true, cond_true, p_sShape hd he hs hs', Option.bind_some, Bool.and_true, cond_true]
      by_cases hc : canonNet d.agents = canonNet e.agents
      · rw [decide_eq_true hc, cond_true, cond_true]
        obtain ⟨xs⟩ := d
        obtain ⟨ys⟩ := e
        have Gd := good hd
        have Ge := good he
        have h6 := Gd.len
        have hl : xs.length = ys.length := by
          have h1 := canonNet_len Gd; have h2 := canonNet_len Ge
          rw [hc] at h1; exact h1.symm.trans h2
        have lx := canon_len Gd
        have ly := canon_len Ge
        rw [p_sCanon Gd hs, Option.bind_some, p_sCanon Ge hs', Option.bind_some]
        unfold m_spec_l00Own
        simp only at lx ly h6 hl ⊢
        rw [mustP_ok (by simp; omega), Option.bind_some, Option.bind_some, List.nil_append]
        have gx := canon_gl Gd
        have key := traj (L := fun g (s : List Int × Int) => m_spec_FindIsomorphism_L1 (canonOf xs) (canonOf ys) m_spec_FindIsomorphism_A1 g s.1 s.2) (st := fun k => (isoAt (canonOf xs) (canonOf ys) (canonOf xs) xs.length k, (k : Int))) (n := (canonOf xs).length) (r := some (isoL (canonOf xs) (canonOf ys) xs.length, 0))
          (fun g k hk => by
            have hky : k < (canonOf ys).length := by omega
            have r := gx.inr _ (List.getElem_mem hk)
            obtain ⟨v, hv⟩ := isoAt_get (x := canonOf xs) (y := canonOf ys) (z := canonOf xs) (n := xs.length) (k := k) r.1 r.2
            simp -implicitDefEqProofs only [m_spec_FindIsomorphism_L1, m_spec_FindIsomorphism_B1, dlt hk, cond_true, getI_nat (List.getElem?_eq_getElem hk), getI_nat (List.getElem?_eq_getElem hky), Option.bind_some, hv]
            rw [isoAt_step gx hk hky]
            simp only [Int.natCast_add, Int.cast_ofNat_Int])
          (fun g => by
            simp -implicitDefEqProofs only [m_spec_FindIsomorphism_L1, m_spec_FindIsomorphism_B1, dge, cond_false, m_spec_FindIsomorphism_A1]
            rw [lx, isoAt_end gx lx (fun a ha => canon_mem Gd (by omega) (by omega))]) ((canonOf xs).length + 1) (Nat.lt_succ_self _)
        simp only [isoAt_zero lx] at key
        exact key
      · rw [decide_eq_false hc, cond_false, cond_false]
theorem p_iFindIso (d e : DNet) (hs : Small d.agents) (hs' : Small e.agents) : m_impl_FindIsomorphism d e = some (findIso d e) := by
  unfold m_impl_FindIsomorphism findIso
  rw [p_valid _ hs, Option.bind_some, p_valid _ hs', Option.bind_some]
  cases hd : validNet d with
  | false => rfl
  | true =>
    cases he : validNet e with
    | false => rfl
    | true =>
      rw [cond_true, cond_true, p_iSameShape d e hs hs', Option.bind_some, Bool.and_true, cond_true]
      have hsh : sameShape d e = decide (canonNet d.agents = canonNet e.agents) := by unfold sameShape; rw [hd, he]; rfl
      rw [hsh]
      by_cases hc : canonNet d.agents = canonNet e.agents
      · rw [decide_eq_true hc, cond_true, cond_true]
        obtain ⟨xs⟩ := d
        obtain ⟨ys⟩ := e
        have Gd := good hd
        have Ge := good he
        have h6 := Gd.len
        have hl : xs.length = ys.length := by
          have h1 := canonNet_len Gd; have h2 := canonNet_len Ge
          rw [hc] at h1; exact h1.symm.trans h2
        have lx := canon_len Gd
        have ly := canon_len Ge
        rw [p_iCanon Gd hs, p_iCanon Ge hs']
        simp only at lx ly h6 hl ⊢
        rw [mustP_ok (by omega), Option.bind_some, Option.bind_some, Option.bind_some]
        have gx := canon_gl Gd
        have key := traj (L := fun g (s : List Int × Int) => m_impl_FindIsomorphism_L1 (canonOf ys) (canonOf xs) m_impl_FindIsomorphism_A1 g s.1 s.2) (st := fun k => (isoAt (canonOf xs) (canonOf ys) (List.replicate xs.length 0) xs.length k, (k : Int))) (n := (canonOf xs).length) (r := some (isoL (canonOf xs) (canonOf ys) xs.length, 0))
          (fun g k hk => by
            have hky : k < (canonOf ys).length := by omega
            have r := gx.inr _ (List.getElem_mem hk)
            obtain ⟨v, hv⟩ := isoAt_get (x := canonOf xs) (y := canonOf ys) (z := List.replicate xs.length 0) (n := xs.length) (k := k) r.1 r.2
            simp -implicitDefEqProofs only [m_impl_FindIsomorphism_L1, m_impl_FindIsomorphism_B1, dlt hk, cond_true, getI_nat (List.getElem?_eq_getElem hk), getI_nat (List.getElem?_eq_getElem hky), Option.bind_some, hv]
            rw [isoAt_step gx hk hky]
            simp only [Int.natCast_add, Int.cast_ofNat_Int])
          (fun g => by
            simp -implicitDefEqProofs only [m_impl_FindIsomorphism_L1, m_impl_FindIsomorphism_B1, dge, cond_false, m_impl_FindIsomorphism_A1]
            rw [lx, isoAt_end gx lx (fun a ha => canon_mem Gd (by omega) (by omega))]) ((canonOf xs).length + 1) (Nat.lt_succ_self _)
        simp only [isoAt_zero (List.length_replicate)] at key
        exact key
      · rw [decide_eq_false hc, cond_false, cond_false]
end
section
open Go.RowKit
set_option linter.unusedVariables false
theorem Blk.only {w w' : World} {g lo hi : Nat} {t : TypeId} {cs : Array Value} (h : Blk w g t cs) (ho : OnlyIn lo hi w w') (hg : g < lo ∨ hi ≤ g) : Blk w' g t cs := (ho.block g hg).trans h
def cntA (x : DAgent) : Nat := 3 + x.data.length + 2 * x.ports.length
theorem cntL_agents (xs : List DAgent) : cntL cntA xs ≤ 3 * szAgentS xs := by
  unfold szAgentS cntL
  have : ∀ ys : List DAgent, (ys.map cntA).sum ≤ 3 * ys.length + 2 * (ys.map szAgent).sum := by
    intro ys
    induction ys with
    | nil => simp
    | cons y ys ih =>
      have e : szAgent y = y.data.length + y.ports.length := rfl
      simp only [List.map_cons, List.sum_cons, List.length_cons, cntA]
      omega
  have := this xs
  omega
theorem szAgent_mem {xs : List DAgent} {k : Nat} {x : DAgent} (h : xs[k]? = some x) (hs : szAgentS xs ≤ 1048576) : x.data.length ≤ 1048576 ∧ x.ports.length ≤ 1048576 := by
  have h1 : szAgent x ≤ (xs.map szAgent).sum := by
    have hm := List.mem_of_getElem? h
    clear h hs
    induction xs with
    | nil => cases hm
    | cons y ys ih =>
      rcases List.mem_cons.1 hm with rfl | h
      · simp
      · have := ih h; simp; omega
  have e : szAgent x = x.data.length + x.ports.length := rfl
  unfold szAgentS at hs
  omega
theorem set3_block {w : World} {b p j : Nat} {u0 u1 u2 : Value} (h : j ≠ b) : (((w.setCell ⟨b, p, none⟩ u0).setCell ⟨b, p + 1, none⟩ u1).setCell ⟨b, p + 2, none⟩ u2).heap[j]? = w.heap[j]? := by
  rw [Below.heap_setCell _ ⟨b, p + 2, none⟩ _ _ h, Below.heap_setCell _ ⟨b, p + 1, none⟩ _ _ h, Below.heap_setCell _ ⟨b, p, none⟩ _ _ h]
theorem set3_cell {w : World} {b p q : Nat} {u0 u1 u2 : Value} (h : p + 3 ≤ q) : (((w.setCell ⟨b, p, none⟩ u0).setCell ⟨b, p + 1, none⟩ u1).setCell ⟨b, p + 2, none⟩ u2).cell? ⟨b, q, none⟩ = w.cell? ⟨b, q, none⟩ := by
  rw [World.cell?_setCell_other _ _ _ _ (fun e => by injection e with _ e2; omega), World.cell?_setCell_other _ _ _ _ (fun e => by injection e with _ e2; omega), World.cell?_setCell_other _ _ _ _ (fun e => by injection e with _ e2; omega)]
end
section
open Go.RowKit
set_option linter.unusedVariables false
def mkAgent (k : Nat) (x : DAgent) : DAgent := ⟨(k : Int), ((k + 1 : Nat) : Int), ((k + 2 : Nat) : Int), marks (k + 3) x.data.length, marksF mkPort 2 (k + 3 + x.data.length) x.ports.length⟩
def markA (k : Nat) (xs : List DAgent) : List DAgent := mkL mkAgent cntA k xs
set_option maxHeartbeats 4000000 in
theorem markAgentS_q (A : Option Addr) (n c k0 : Nat) (xs : List DAgent) (bs : List Nat) (w : World) (hx : OwAt agentOw 5 w A n xs bs) (hnd : bs.Nodup) (hs : szAgentS xs ≤ 1048576) (hk0 : k0 ≤ 4294967296) :
    Calls Tryz.prog 30 #[.slice A n c, .int .i64 k0] w fun e w' => e = .returned (.int .i64 ((k0 + cntL cntA xs : Nat) : Int)) ∧ OwAt agentOw 5 w' A n (markA k0 xs) bs ∧ Only bs w w' := by
  have lx := Lib.hid hx.len
  have hn : n ≤ 1048576 := by have := lx.out; unfold szAgentS at hs; omega
  have hcl := cntL_agents xs
  have hmid := Lib.hid hx.mid
  clear hx
  go_enter Tryz.func30, Tryz.ntmps30
  go_wp2_with fail
  go_loopw [1, 5] (fun kk i wr => ∃ k : Nat, k ≤ n ∧ i = .int .i64 k ∧ kk = .int .i64 ((k0 : Int) + (cntL cntA (xs.take k) : Nat)) ∧ Only bs w wr ∧ Hid (MidAt agentOw 5 wr A (markA k0 (xs.take k)) (xs.drop k) bs)) (fun _ i _ => n - (intOf i).toNat)
  case atStart => exact ⟨0, by omega, rfl, by simp [cntL], Only.refl _ _, hmid.out⟩
  case round =>
    obtain ⟨k, hk, rfl, rfl, ho, hm⟩ := hrel
    by_cases hlt : k < n
    · obtain ⟨x, hxk⟩ : ∃ x, xs[k]? = some x := ⟨_, List.getElem?_eq_getElem (by have := lx.out; omega)⟩
      have hm := hm.out
      rw [drop_some hxk] at hm
      obtain ⟨b, o, cs, b1, bx, b3, rfl, hbs, hO, hc, h1, h2⟩ := hm.next
      have hlen : (markA k0 (xs.take k)).length = k := by unfold markA; rw [mkL_len, List.length_take]; have := lx.out; omega
      rw [hlen] at hc h2
      obtain ⟨A1, n1, c1, A2, n2, c2, bd, bp, rfl, ⟨hd, rd⟩, ⟨hp, rp⟩, rfl⟩ := hO
      obtain ⟨hc0, hd0⟩ := hc 0 _ rfl
      obtain ⟨hc1, hd1⟩ := hc 1 _ rfl
      obtain ⟨hc2, hd2⟩ := hc 2 _ rfl
      obtain ⟨hc3, hd3⟩ := hc 3 _ rfl
      obtain ⟨hc4, hd4⟩ := hc 4 _ rfl
      rw [Nat.add_zero] at hc0 hd0
      have hsz := szAgent_mem hxk hs
      have hct := cntL_take (cnt := cntA) hxk
      have hcx : cntA x = 3 + x.data.length + 2 * x.ports.length := rfl
      have hcm := cntL_le (cnt := cntA) xs (k + 1)
      have hck := cntL_le (cnt := cntA) xs k
      have hnd' := hnd
      rw [hbs] at hnd'
      have nb : b ∉ b1 ∧ (b ∉ bd ∧ b ∉ bp) ∧ b ∉ b3 := by have := (List.nodup_cons.1 hnd').1; simp only [List.mem_append, not_or] at this; exact this
      have hn1 := List.nodup_append.1 (List.nodup_cons.1 hnd').2
      have hn2' := List.nodup_append.1 hn1.2.1
      have hn3 := List.nodup_append.1 hn2'.1
      have ld := Lib.hid hd.len
      have lp := Lib.hid hp.len
      have T0 : ∀ (u0 u1 u2 : Value), Touch b (o + k * 5) 5 (bd ++ bp) wr (((wr.setCell ⟨b, o + k * 5, none⟩ u0).setCell ⟨b, o + k * 5 + 1, none⟩ u1).setCell ⟨b, o + k * 5 + 2, none⟩ u2) := fun u0 u1 u2 =>
        ((Touch.refl.set (by omega) (by omega) _).set (by omega) (by omega) _).set (by omega) (by omega) _
      have S0 : ∀ (u0 u1 u2 : Value), CsAt (((wr.setCell ⟨b, o + k * 5, none⟩ u0).setCell ⟨b, o + k * 5 + 1, none⟩ u1).setCell ⟨b, o + k * 5 + 2, none⟩ u2) b (o + k * 5) [u0, u1, u2] := fun u0 u1 u2 =>
        setRun_csAt (w := wr) (vs := [u0, u1, u2]) (fun j hj => by
          rcases j with _ | _ | _ | j
          · exact ⟨_, hc0⟩
          · exact ⟨_, hc1⟩
          · exact ⟨_, hc2⟩
          · simp only [List.length_cons, List.length_nil] at hj; omega) (fun j hj => by
          rcases j with _ | _ | _ | j
          · exact hd0
          · exact hd1
          · exact hd2
          · simp only [List.length_cons, List.length_nil] at hj; omega)
      have HE := Lib.hid h2
      have HF := Lib.hid h1
      have HD := Lib.hid hd
      have HP := Lib.hid hp
      have HX := Lib.hid hxk
      have HT := Lib.hid T0
      have HS := Lib.hid S0
      have HI := Lib.hid hbs
      have N0 := Lib.hid hn1
      have N1 := Lib.hid hn2'
      have N2 := Lib.hid hn3
      have NB := Lib.hid nb
      have HL := Lib.hid hct
      have HLN := Lib.hid hlen
      clear h2 h1 hd hp hxk T0 S0 hbs hn1 hn2' hn3 nb hc hct hlen hnd' hm
      go_wp2_with fail
      have T3 := HT.out (.int .i64 ((k0 : Int) + (cntL cntA (xs.take k) : Nat))) (.int .i64 ((k0 : Int) + (cntL cntA (xs.take k) : Nat) + 1)) (.int .i64 ((k0 : Int) + (cntL cntA (xs.take k) : Nat) + 1 + 1))
      have S3 := HS.out (.int .i64 ((k0 : Int) + (cntL cntA (xs.take k) : Nat))) (.int .i64 ((k0 : Int) + (cntL cntA (xs.take k) : Nat) + 1)) (.int .i64 ((k0 : Int) + (cntL cntA (xs.take k) : Nat) + 1 + 1))
      rw [show (k0 : Int) + (cntL cntA (xs.take k) : Nat) + 1 + 1 + 1 = ((k0 + cntL cntA (xs.take k) + 3 : Nat) : Int) from by omega]
      have OD : OwAt intOw 1 (((wr.setCell ⟨b, o + k * 5, none⟩ (.int .i64 ((k0 : Int) + (cntL cntA (xs.take k) : Nat)))).setCell ⟨b, o + k * 5 + 1, none⟩ (.int .i64 ((k0 : Int) + (cntL cntA (xs.take k) : Nat) + 1))).setCell ⟨b, o + k * 5 + 2, none⟩ (.int .i64 ((k0 : Int) + (cntL cntA (xs.take k) : Nat) + 1 + 1))) A1 n1 x.data bd :=
        HD.out.keep intOw_ok (fun j hj => set3_block (fun e => NB.out.2.1.1 (by rw [← e]; exact hj)))
      refine (markInt64S_c A1 n1 c1 (k0 + cntL cntA (xs.take k) + 3) x.data bd _ OD N2.out.1 (by have := ld.out; omega) (by omega)).mono ?_
      rintro e w4 ⟨rfl, md, o4⟩
      have hc4' : w4.cell? ⟨b, o + k * 5 + 4, none⟩ = some (.slice A2 n2 c2) := ((World.cell?_of_block (a := ⟨b, o + k * 5 + 4, none⟩) (o4.block b NB.out.2.1.1)).trans (set3_cell (by omega))).trans hc4
      have MD := Lib.hid md
      clear md
      go_wp2_with fail
      rw [show (k0 : Int) + (cntL cntA (xs.take k) : Nat) + 3 + (n1 : Nat) = ((k0 + cntL cntA (xs.take k) + 3 + n1 : Nat) : Int) from by omega]
      have OP : OwAt portOw 2 w4 A2 n2 x.ports bp := HP.out.keep portOw_ok (fun j hj => (o4.block j (fun hjd => N2.out.2.2 j hjd j hj rfl)).trans (set3_block (fun e => NB.out.2.1.2 (by rw [← e]; exact hj))))
      refine (markPortS_c A2 n2 c2 _ x.ports bp w4 OP N2.out.2.1 (by have := lp.out; omega) (by have := ld.out; omega)).mono ?_
      rintro e w5 ⟨rfl, mp, o5⟩
      have MP := Lib.hid mp
      clear mp
      go_wp2_with fail
      go_roundw
      case rel =>
        have e1 := ld.out
        have e2 := lp.out
        have e3 := HL.out
        have OO : Only (b :: (bd ++ bp)) wr w5 := (T3.only_.trans (o4.mono (fun j hj => by simp [hj]))).trans (o5.mono (fun j hj => by simp [hj]))
        have hcell : ∀ q, w5.cell? ⟨b, q, none⟩ = (((wr.setCell ⟨b, o + k * 5, none⟩ (.int .i64 ((k0 : Int) + (cntL cntA (xs.take k) : Nat)))).setCell ⟨b, o + k * 5 + 1, none⟩ (.int .i64 ((k0 : Int) + (cntL cntA (xs.take k) : Nat) + 1))).setCell ⟨b, o + k * 5 + 2, none⟩ (.int .i64 ((k0 : Int) + (cntL cntA (xs.take k) : Nat) + 1 + 1))).cell? ⟨b, q, none⟩ := fun q =>
          (World.cell?_of_block (a := ⟨b, q, none⟩) (o5.block b NB.out.2.1.2)).trans (World.cell?_of_block (a := ⟨b, q, none⟩) (o4.block b NB.out.2.1.1))
        have hfroz : ∀ q, w5.frozen? ⟨b, q, none⟩ = (((wr.setCell ⟨b, o + k * 5, none⟩ (.int .i64 ((k0 : Int) + (cntL cntA (xs.take k) : Nat)))).setCell ⟨b, o + k * 5 + 1, none⟩ (.int .i64 ((k0 : Int) + (cntL cntA (xs.take k) : Nat) + 1))).setCell ⟨b, o + k * 5 + 2, none⟩ (.int .i64 ((k0 : Int) + (cntL cntA (xs.take k) : Nat) + 1 + 1))).frozen? ⟨b, q, none⟩ := fun q =>
          (World.frozen?_of_block (a := ⟨b, q, none⟩) (o5.block b NB.out.2.1.2)).trans (World.frozen?_of_block (a := ⟨b, q, none⟩) (o4.block b NB.out.2.1.1))
        refine ⟨k + 1, by omega, by go_num, congrArg (Value.int .i64) (by omega), ho.trans (OO.mono (fun j hj => ?_)), ?_⟩
        · rw [HI.out]; simp only [List.mem_cons, List.mem_append] at hj ⊢
          rcases hj with hj | hj
          · exact .inl hj
          · exact .inr (.inr (.inl hj))
        · show Hid _
          refine ?_
          unfold markA
          rw [mkL_take HX.out, HI.out]
          have hl := HLN.out
          unfold markA at hl
          refine MidAt.step (o := o) (cs := [.int .i64 ((k0 : Int) + (cntL cntA (xs.take k) : Nat)), .int .i64 ((k0 : Int) + (cntL cntA (xs.take k) : Nat) + 1), .int .i64 ((k0 : Int) + (cntL cntA (xs.take k) : Nat) + 1 + 1), .slice A1 n1 c1, .slice A2 n2 c2]) rfl ?_ ?_ ?_ ?_
          · refine ElAt.keepC agentOw_ok (w := wr) (fun q h1 h2 => ?_) (fun j hj => ?_) HF.out
            · unfold markA at h2
              rw [hl] at h2
              exact ⟨(hcell q).trans (T3.cell q (.inl (by omega))), (hfroz q).trans (T3.frozen q)⟩
            · exact OO.block j (fun hin => by
                rcases List.mem_cons.1 hin with rfl | hin
                · exact NB.out.1 hj
                · exact N0.out.2.2 j hj j (by simp only [List.mem_append] at hin ⊢; exact .inl hin) rfl)
          · refine ⟨A1, n1, c1, A2, n2, c2, bd, bp, ?_, ⟨?_, rd⟩, ⟨?_, rp⟩, rfl⟩
            · simp only [mkAgent]
              rw [show ((k0 + cntL cntA (xs.take k) : Nat) : Int) = (k0 : Int) + (cntL cntA (xs.take k) : Nat) from by omega, show ((k0 + cntL cntA (xs.take k) + 1 : Nat) : Int) = (k0 : Int) + (cntL cntA (xs.take k) : Nat) + 1 from by omega, show ((k0 + cntL cntA (xs.take k) + 2 : Nat) : Int) = (k0 : Int) + (cntL cntA (xs.take k) : Nat) + 1 + 1 from by omega]
            · have := MD.out.keep intOw_ok (w' := w5) (fun j hj => o5.block j (fun hin => N2.out.2.2 j hj j hin rfl))
              simp only [mkAgent]; rw [← e1]; exact this
            · have := MP.out
              simp only [mkAgent]; rw [← e1, ← e2]; exact this
          · rw [hl]
            intro j v hj
            rw [hcell, hfroz]
            rcases j with _ | _ | _ | _ | _ | j
            · exact S3 0 v hj
            · exact S3 1 v hj
            · exact S3 2 v hj
            · simp at hj; subst hj
              exact ⟨(set3_cell (by omega)).trans hc3, (T3.frozen _).trans hd3⟩
            · simp at hj; subst hj
              exact ⟨(set3_cell (by omega)).trans hc4, (T3.frozen _).trans hd4⟩
            · simp at hj
          · rw [hl]
            refine ElAt.keepC agentOw_ok (w := wr) (fun q h1 h2 => ?_) (fun j hj => ?_) HE.out
            · exact ⟨(hcell q).trans (T3.cell q (.inr (by omega))), (hfroz q).trans (T3.frozen q)⟩
            · exact OO.block j (fun hin => by
                rcases List.mem_cons.1 hin with rfl | hin
                · exact NB.out.2.2 hj
                · exact N1.out.2.2 j hin j hj rfl)
      case measure => simp [intOf]; omega
    · obtain rfl : n = k := by omega
      have hlast : xs.take n = xs := List.take_of_length_le (by have := lx.out; omega)
      have hdl : xs.drop n = [] := List.drop_eq_nil_of_le (by have := lx.out; omega)
      have hm := hm.out
      rw [hlast, hdl] at hm
      rw [hlast]
      have HM := Lib.hid (hm.whole (by unfold markA; rw [mkL_len]; first | done | exact lx.out))
      clear hlast hdl hm
      go_wp2_with fail
      go_ret
      exact ⟨retI (by omega), by rw [lx.out]; first | exact HM.out | (have h := HM.out; rw [lx.out] at h; exact h), ho⟩
theorem markNet_q (v : Value) (x : DNet) (w : World) (k : Int) (lo hi : Nat) (h : OwT netOw w v x lo hi) (hh : hi ≤ w.heap.size) (hs : szNet x ≤ 1048576) (h0 : 0 ≤ k) (hk : k ≤ 16777216) :
    Calls Tryz.prog 13 #[v, .int .i64 k] w fun e w' => e = .returned (.int .i64 ((k.toNat + cntL cntA x.agents : Nat) : Int)) ∧ ∃ wb, Below w.heap.size w wb ∧ wb.heap.size = w'.heap.size ∧ OnlyIn lo hi wb w' ∧ OwT netOw w' v ⟨markA k.toNat x.agents⟩ lo hi := by
  obtain ⟨cs, bs, rfl, ⟨A1, n1, c1, b1, rfl, ⟨h1, r1⟩, rfl⟩, hnd, hb⟩ := h
  obtain ⟨k0, rfl⟩ := Int.eq_ofNat_of_zero_le h0
  have hA : ∀ o1, Below w.heap.size w (w.alloc o1) := fun o1 => (Below.refl _ _).alloc (Nat.le_refl _) _
  have HK := Lib.hid (show ∀ o1, OwAt agentOw 5 (w.alloc o1) A1 n1 x.agents bs from fun o1 => h1.keep agentOw_ok (fun j hj => (hA o1).block j (by have := hb j hj; omega)))
  have HN := Lib.hid hnd
  have HB := Lib.hid hb
  have HS : szAgentS x.agents ≤ 1048576 := hs
  have hcl := cntL_agents x.agents
  clear h1 hb hnd
  go_enter Tryz.func13, Tryz.ntmps13
  go_wp2_with fail
  refine (markAgentS_q A1 n1 c1 k0 x.agents bs _ (HK.out _) HN.out HS (by omega)).mono ?_
  rintro e w1 ⟨rfl, m1, o1⟩
  have M1 := Lib.hid m1
  clear m1
  go_wp2_with fail
  go_ret
  exact ⟨rfl, _, hA _, o1.size.symm, o1.in_ HB.out, ⟨_, bs, rfl, ⟨A1, n1, c1, bs, rfl, ⟨M1.out, r1⟩, rfl⟩, HN.out, HB.out⟩⟩
end
section
open Go.RowKit
set_option linter.unusedVariables false
set_option linter.unusedSimpArgs false
theorem markNet_r (v : Value) (x : DNet) (w : World) (k : Int) (lo hi : Nat) (m : Nat) (em : m = k.toNat + cntL cntA x.agents) (h : OwT netOw w v x lo hi) (hh : hi ≤ w.heap.size) (hs : szNet x ≤ 1048576) (h0 : 0 ≤ k) (hk : k ≤ 16777216) :
    Calls Tryz.prog 13 #[v, .int .i64 k] w fun e w' => e = .returned (.int .i64 (m : Int)) ∧ ∃ wb, Below w.heap.size w wb ∧ wb.heap.size = w'.heap.size ∧ OnlyIn lo hi wb w' ∧ OwT netOw w' v ⟨markA k.toNat x.agents⟩ lo hi := by
  subst em; exact markNet_q v x w k lo hi h hh hs h0 hk
end
section
open Go.RowKit
set_option linter.unusedVariables false
theorem specFindIsomorphism_v (v u : Value) (x y : DNet) (w : World) {B B' : Nat} (h : RdT netRd w B v x) (h' : RdT netRd w B' u y) (hB : B ≤ w.heap.size) (hB' : B' ≤ w.heap.size) (hs : szNet x ≤ 1048576) (hs' : szNet y ≤ 1048576) :
    Calls Tryz.prog 21 #[v, u] w fun e w' => (∃ v', e = .returned (.tuple #[v', .int .i64 (findIso x y).2]) ∧ OwS intOw 1 w' v' (findIso x y).1 w.heap.size w'.heap.size) ∧ Below w.heap.size w w' :=
  (c_m_spec_FindIsomorphism x y _ (p_sFindIso x y hs hs') v u w (h.more netRd_ok hB) (h'.more netRd_ok hB')).mono fun e w' ⟨⟨v', he, ho⟩, hb⟩ => ⟨⟨v', he, ho.own fI⟩, hb⟩
theorem implFindIsomorphism_v (v u : Value) (x y : DNet) (w : World) {B B' : Nat} (h : RdT netRd w B v x) (h' : RdT netRd w B' u y) (hB : B ≤ w.heap.size) (hB' : B' ≤ w.heap.size) (hs : szNet x ≤ 1048576) (hs' : szNet y ≤ 1048576) :
    Calls Tryz.prog 22 #[v, u] w fun e w' => (∃ v', e = .returned (.tuple #[v', .int .i64 (findIso x y).2]) ∧ OwS intOw 1 w' v' (findIso x y).1 w.heap.size w'.heap.size) ∧ Below w.heap.size w w' :=
  (c_m_impl_FindIsomorphism x y _ (p_iFindIso x y hs hs') v u w (h.more netRd_ok hB) (h'.more netRd_ok hB')).mono fun e w' ⟨⟨v', he, ho⟩, hb⟩ => ⟨⟨v', he, ho.own fI⟩, hb⟩
end
section
open Go.RowKit
set_option linter.unusedVariables false
set_option linter.unusedSimpArgs false
theorem szInt64S_v (v : Value) (xs : List Int) (left : Int) (w : World) {B : Nat} (h : RdS intRd 1 w B v xs) (hB : B ≤ w.heap.size) (h0 : 0 ≤ left) (h1 : left ≤ 1048576) :
    Calls Tryz.prog 67 #[v, .int .i64 left] w fun e w' => e = .returned (.int .i64 (szL left xs.length)) ∧ Below w.heap.size w w' := by
  obtain ⟨A, n, c, rfl, h, hnc, hcm⟩ := h
  have hr := Below.refl w.heap.size w
  have hl := h.len
  rw [← hl]
  unfold maxLen at hcm
  clear h hl
  by_cases hl : left - n < 0
  · have He := Lib.hid (szL_neg hl)
    go_enter Tryz.func67, Tryz.ntmps67
    go_wp2
    go_ret
    exact ⟨by rw [He.out]; rfl, hr⟩
  · have He := Lib.hid (szL_pos hl)
    go_enter Tryz.func67, Tryz.ntmps67
    go_wp2
    go_ret
    exact ⟨by rw [He.out]; rfl, hr⟩
theorem szPortS_v (v : Value) (xs : List DPort) (left : Int) (w : World) {B : Nat} (h : RdS portRd 2 w B v xs) (hB : B ≤ w.heap.size) (h0 : 0 ≤ left) (h1 : left ≤ 1048576) :
    Calls Tryz.prog 68 #[v, .int .i64 left] w fun e w' => e = .returned (.int .i64 (szL left xs.length)) ∧ Below w.heap.size w w' := by
  obtain ⟨A, n, c, rfl, h, hnc, hcm⟩ := h
  have hr := Below.refl w.heap.size w
  have hl := h.len
  rw [← hl]
  unfold maxLen at hcm
  clear h hl
  by_cases hl : left - n < 0
  · have He := Lib.hid (szL_neg hl)
    go_enter Tryz.func68, Tryz.ntmps68
    go_wp2
    go_ret
    exact ⟨by rw [He.out]; rfl, hr⟩
  · have He := Lib.hid (szL_pos hl)
    go_enter Tryz.func68, Tryz.ntmps68
    go_wp2
    go_ret
    exact ⟨by rw [He.out]; rfl, hr⟩
set_option maxHeartbeats 1000000 in
theorem szAgent_v (v : Value) (x : DAgent) (left : Int) (w : World) {B : Nat} (h : RdT agentRd w B v x) (hB : B ≤ w.heap.size) (h0 : 0 ≤ left) (h1 : left ≤ 1048576) :
    Calls Tryz.prog 37 #[v, .int .i64 left] w fun e w' => e = .returned (.int .i64 (szL left (szAgent x))) ∧ Below w.heap.size w w' := by
  obtain ⟨cs, rfl, A1, n1, c1, A2, n2, c2, rfl, ⟨g1, r1⟩, ⟨g2, r2⟩⟩ := h
  have hb : ∀ o1, Below w.heap.size w (w.alloc o1) := fun o1 => (Below.refl _ _).alloc (Nat.le_refl _) _
  obtain ⟨s0, es0⟩ : ∃ s : Nat, s = x.data.length := ⟨_, rfl⟩
  obtain ⟨s1, es1⟩ : ∃ s : Nat, s = x.ports.length := ⟨_, rfl⟩
  have Hs : Hid (szAgent x = s0 + s1) := by show _ = _; rw [es0, es1]; rfl
  have Es0 := Lib.hid es0
  have Es1 := Lib.hid es1
  clear es0 es1
  by_cases d0 : left - (s0 : Int) < 0
  · have He : Hid (szL left (szAgent x) = -1) := by show _ = _; rw [Hs.out, szL_neg (by omega)]
    go_enter Tryz.func37, Tryz.ntmps37
    go_wp2_with fail
    refine (szInt64S_v _ x.data (left) _ (B := B) ⟨A1, n1, c1, rfl, g1.below intRd_ok ((hb _).mono hB), r1⟩ (Nat.le_trans hB (hb _).size) (by omega) (by omega)).mono ?_
    rw [← Es0.out, szL_neg (by omega)]
    rintro e w1 ⟨rfl, q1⟩
    have T := (hb _).trans (q1.mono (hb _).size)
    have B1 := (Blk.new w _ _).below q1 (by simp)
    have z1 : w.heap.size + 1 ≤ w1.heap.size := by have := q1.size; simpa using this
    clear q1
    go_wp2_with fail
    go_ret
    exact ⟨by rw [He.out]; rfl, T⟩
  · skip
    by_cases d1 : left - s0 - (s1 : Int) < 0
    · have He : Hid (szL left (szAgent x) = -1) := by show _ = _; rw [Hs.out, szL_neg (by omega)]
      go_enter Tryz.func37, Tryz.ntmps37
      go_wp2_with fail
      refine (szInt64S_v _ x.data (left) _ (B := B) ⟨A1, n1, c1, rfl, g1.below intRd_ok ((hb _).mono hB), r1⟩ (Nat.le_trans hB (hb _).size) (by omega) (by omega)).mono ?_
      rw [← Es0.out, szL_pos (by omega)]
      rintro e w1 ⟨rfl, q1⟩
      have T := (hb _).trans (q1.mono (hb _).size)
      have B1 := (Blk.new w _ _).below q1 (by simp)
      have z1 : w.heap.size + 1 ≤ w1.heap.size := by have := q1.size; simpa using this
      clear q1
      have cB := B1.cell
      go_wp2_with fail
      clear cB
      refine (szPortS_v _ x.ports (left - s0) _ (B := B) ⟨A2, n2, c2, rfl, g2.below portRd_ok ((T).mono hB), r2⟩ (Nat.le_trans hB (T).size) (by omega) (by omega)).mono ?_
      rw [← Es1.out, szL_neg (by omega)]
      rintro e w2 ⟨rfl, q2⟩
      have T := T.trans (q2.mono T.size)
      have B1 := B1.below q2 (by omega)
      have z2 := Nat.le_trans z1 q2.size
      clear q2
      go_wp2_with fail
      go_ret
      exact ⟨by rw [He.out]; rfl, T⟩
    · skip
      have He : Hid (szL left (szAgent x) = left - s0 - s1) := by show _ = _; rw [Hs.out, szL_pos (by omega)]; try omega
      go_enter Tryz.func37, Tryz.ntmps37
      go_wp2_with fail
      refine (szInt64S_v _ x.data (left) _ (B := B) ⟨A1, n1, c1, rfl, g1.below intRd_ok ((hb _).mono hB), r1⟩ (Nat.le_trans hB (hb _).size) (by omega) (by omega)).mono ?_
      rw [← Es0.out, szL_pos (by omega)]
      rintro e w1 ⟨rfl, q1⟩
      have T := (hb _).trans (q1.mono (hb _).size)
      have B1 := (Blk.new w _ _).below q1 (by simp)
      have z1 : w.heap.size + 1 ≤ w1.heap.size := by have := q1.size; simpa using this
      clear q1
      have cB := B1.cell
      go_wp2_with fail
      clear cB
      refine (szPortS_v _ x.ports (left - s0) _ (B := B) ⟨A2, n2, c2, rfl, g2.below portRd_ok ((T).mono hB), r2⟩ (Nat.le_trans hB (T).size) (by omega) (by omega)).mono ?_
      rw [← Es1.out, szL_pos (by omega)]
      rintro e w2 ⟨rfl, q2⟩
      have T := T.trans (q2.mono T.size)
      have B1 := B1.below q2 (by omega)
      have z2 := Nat.le_trans z1 q2.size
      clear q2
      go_wp2_with fail
      go_ret
      exact ⟨by rw [He.out]; rfl, T⟩
theorem szAgentS_take {xs : List DAgent} {k : Nat} {x : DAgent} (h : xs[k]? = some x) : ((xs.take (k + 1)).map szAgent).sum = ((xs.take k).map szAgent).sum + szAgent x := by
  rw [take_succ_some h]; simp
theorem szAgentS_le (xs : List DAgent) (k : Nat) : ((xs.take k).map szAgent).sum ≤ (xs.map szAgent).sum := by
  have h : ((xs.take k ++ xs.drop k).map szAgent).sum = (xs.map szAgent).sum := by rw [List.take_append_drop]
  rw [List.map_append, List.sum_append] at h
  omega
set_option maxHeartbeats 1000000 in
theorem szAgentS_v (v : Value) (xs : List DAgent) (left : Int) (w : World) {B : Nat} (h : RdS agentRd 5 w B v xs) (hB : B ≤ w.heap.size) (h0 : 0 ≤ left) (h1 : left ≤ 1048576) :
    Calls Tryz.prog 23 #[v, .int .i64 left] w fun e w' => e = .returned (.int .i64 (szL left (szAgentS xs))) ∧ Below w.heap.size w w' := by
  obtain ⟨A, n, c, rfl, hx, hnc, hcm⟩ := h
  have hr := Below.refl w.heap.size w
  unfold maxLen at hcm
  have lx := Lib.hid hx.len
  by_cases hl : left - n < 0
  · have He : Hid (szL left (szAgentS xs) = -1) := szL_neg (by unfold szAgentS; rw [← lx.out]; omega)
    go_enter Tryz.func23, Tryz.ntmps23
    go_wp2
    go_ret
    exact ⟨by rw [He.out]; rfl, hr⟩
  · go_enter Tryz.func23, Tryz.ntmps23
    go_wp2
    go_loopw [1, 5] (fun s i wr => ∃ (k : Nat) (l : Int), k ≤ n ∧ i = .int .i64 k ∧ s = .int .i64 l ∧ 0 ≤ l ∧ l ≤ 1048576 ∧ Hid (l = left - n - (((xs.take k).map szAgent).sum : Nat)) ∧ Below w.heap.size w wr) (fun _ i _ => n - (intOf i).toNat)
    case atStart => exact ⟨0, left - n, by omega, rfl, rfl, by omega, by omega, by simp [Hid], hr⟩
    case round =>
      obtain ⟨k, s, hk, rfl, rfl, hs0, hs1, hs, hq⟩ := hrel
      by_cases hlt : k < n
      · obtain ⟨b, off, x, A1, n1, c1, A2, n2, c2, rfl, hb, hxk, hc0, hc1, hc2, hc3, hc4, ⟨g1, r1⟩, ⟨g2, r2⟩⟩ := (hx.below agentRd_ok (hq.mono hB)).agent hlt
        have Hxk := Lib.hid hxk
        clear hxk
        by_cases hd : s - (szAgent x : Int) < 0
        · have f := szL_neg hd
          have He : Hid (szL left (szAgentS xs) = -1) := szL_neg (by
            have e1 := szAgentS_le xs (k + 1)
            rw [szAgentS_take Hxk.out] at e1
            have e2 := hs.out
            have e3 := lx.out
            unfold szAgentS
            omega)
          go_wp2_with fail
          refine (szAgent_v _ x s _ (B := B) ⟨_, rfl, A1, n1, c1, A2, n2, c2, rfl, ⟨g1, r1⟩, ⟨g2, r2⟩⟩ (Nat.le_trans hB hq.size) hs0 hs1).mono ?_
          rintro e w1 ⟨rfl, q1⟩
          go_wp2_with fail
          go_ret
          exact ⟨by rw [He.out]; rfl, hq.trans (q1.mono hq.size)⟩
        · have f := szL_pos hd
          have Hn : Hid (s - (szAgent x : Int) = left - n - (((xs.take (k + 1)).map szAgent).sum : Nat)) := by
            have e1 := szAgentS_take Hxk.out
            have e2 := hs.out
            show _ = _
            rw [e1]
            omega
          go_wp2_with fail
          refine (szAgent_v _ x s _ (B := B) ⟨_, rfl, A1, n1, c1, A2, n2, c2, rfl, ⟨g1, r1⟩, ⟨g2, r2⟩⟩ (Nat.le_trans hB hq.size) hs0 hs1).mono ?_
          rintro e w1 ⟨rfl, q1⟩
          go_wp2_with fail
          go_roundw
          case rel => exact ⟨k + 1, s - (szAgent x : Int), by omega, by go_num, rfl, by omega, by omega, Hn.out, hq.trans (q1.mono hq.size)⟩
          case measure => simp [intOf]; omega
      · have He : Hid (szL left (szAgentS xs) = s) := by
          have e1 : xs.take k = xs := List.take_of_length_le (by have := lx.out; omega)
          have e2 := hs.out
          rw [e1] at e2
          have e3 := lx.out
          show _ = _
          rw [szL_pos (by unfold szAgentS; omega)]
          unfold szAgentS
          omega
        go_wp2_with fail
        go_ret
        exact ⟨by rw [He.out]; rfl, hq⟩
set_option maxHeartbeats 1000000 in
theorem szNet_v (v : Value) (x : DNet) (left : Int) (w : World) {B : Nat} (h : RdT netRd w B v x) (hB : B ≤ w.heap.size) (h0 : 0 ≤ left) (h1 : left ≤ 1048576) :
    Calls Tryz.prog 7 #[v, .int .i64 left] w fun e w' => e = .returned (.int .i64 (szL left (szNet x))) ∧ Below w.heap.size w w' := by
  obtain ⟨cs, rfl, A1, n1, c1, rfl, ⟨g1, r1⟩⟩ := h
  have hb : ∀ o1, Below w.heap.size w (w.alloc o1) := fun o1 => (Below.refl _ _).alloc (Nat.le_refl _) _
  obtain ⟨s0, es0⟩ : ∃ s : Nat, s = szAgentS x.agents := ⟨_, rfl⟩
  have Hs : Hid (szNet x = s0) := by show _ = _; rw [es0]; rfl
  have Es0 := Lib.hid es0
  clear es0
  by_cases d0 : left - (s0 : Int) < 0
  · have He : Hid (szL left (szNet x) = -1) := by show _ = _; rw [Hs.out, szL_neg (by omega)]
    go_enter Tryz.func7, Tryz.ntmps7
    go_wp2_with fail
    refine (szAgentS_v _ x.agents (left) _ (B := B) ⟨A1, n1, c1, rfl, g1.below agentRd_ok ((hb _).mono hB), r1⟩ (Nat.le_trans hB (hb _).size) (by omega) (by omega)).mono ?_
    rw [← Es0.out, szL_neg (by omega)]
    rintro e w1 ⟨rfl, q1⟩
    have T := (hb _).trans (q1.mono (hb _).size)
    have B1 := (Blk.new w _ _).below q1 (by simp)
    have z1 : w.heap.size + 1 ≤ w1.heap.size := by have := q1.size; simpa using this
    clear q1
    go_wp2_with fail
    go_ret
    exact ⟨by rw [He.out]; rfl, T⟩
  · skip
    have He : Hid (szL left (szNet x) = left - s0) := by show _ = _; rw [Hs.out, szL_pos (by omega)]; try omega
    go_enter Tryz.func7, Tryz.ntmps7
    go_wp2_with fail
    refine (szAgentS_v _ x.agents (left) _ (B := B) ⟨A1, n1, c1, rfl, g1.below agentRd_ok ((hb _).mono hB), r1⟩ (Nat.le_trans hB (hb _).size) (by omega) (by omega)).mono ?_
    rw [← Es0.out, szL_pos (by omega)]
    rintro e w1 ⟨rfl, q1⟩
    have T := (hb _).trans (q1.mono (hb _).size)
    have B1 := (Blk.new w _ _).below q1 (by simp)
    have z1 : w.heap.size + 1 ≤ w1.heap.size := by have := q1.size; simpa using this
    clear q1
    go_wp2_with fail
    go_ret
    exact ⟨by rw [He.out]; rfl, T⟩
end
section
open Go.RowKit
set_option linter.unusedVariables false
set_option linter.unusedSimpArgs false
theorem toPort_v (v : Value) (x : DPort) (w : World) {B : Nat} (h : RdT portRd w B v x) :
    Calls Tryz.prog 91 #[v] w fun e w' => e = .returned (.agg #[.int .i64 x.agent, .int .i64 x.slot]) ∧ Below w.heap.size w w' := by
  obtain ⟨cs, rfl, rfl⟩ := h
  go_enter Tryz.func91, Tryz.ntmps91
  go_wp2_with fail
  exact bodyPost_ret (v := .agg #[.int .i64 x.agent, .int .i64 x.slot]) (by simp [results, Tryz.results91, go_sem]) rfl ⟨rfl, (((Below.refl _ _).alloc (Nat.le_refl _) _).alloc (by simp) _).alloc (by simp; omega) _⟩
theorem info_PortS : (Tryz.prog.info? 65).map (fun i => (i.zero, i.size, i.bytes)) = some (some (.agg #[.int .i64 0, .int .i64 0]), 2, 16) := by kernel_rfl
set_option maxHeartbeats 1000000 in
theorem toPortS_v (v : Value) (xs : List DPort) (w : World) {B : Nat} (h : RdS portRd 2 w B v xs) (hB : B ≤ w.heap.size) (hs : xs.length ≤ 1048576) :
    Calls Tryz.prog 73 #[v] w fun e w' => Ret1 (fun v' => OwS portOw 2 w' v' xs w.heap.size w'.heap.size) e ∧ Below w.heap.size w w' := by
  obtain ⟨A, n, c, rfl, hx, hnc, hcm⟩ := h
  have lx := Lib.hid hx.len
  have hlen := hs
  have hn : n ≤ 1048576 := by have := lx.out; omega
  have hmk := run_make_sz 61 65 Tryz.underlying61 info_PortS n (by omega) (by omega)
  go_enter Tryz.func73, Tryz.ntmps73
  go_wp2
  clear hmk
  go_loopw [4] (fun i wr => ∃ k : Nat, k ≤ n ∧ i = .int .i64 k ∧ Below w.heap.size w wr ∧ w.heap.size + 1 ≤ wr.heap.size ∧ (∃ arr, Blk wr w.heap.size 65 arr ∧ Hid (arr.size = n * 2)) ∧ ∃ bs, ElAt portOw 2 wr w.heap.size 0 (xs.take k) bs ∧ bs.Nodup ∧ ∀ b ∈ bs, w.heap.size + 1 ≤ b ∧ b < wr.heap.size) (fun i _ => n - (intOf i).toNat)
  case atStart => exact ⟨0, by omega, rfl, (Below.refl _ _).alloc (Nat.le_refl _) _, by simp, ⟨_, Blk.new _ _ _, by simp [Hid, madeCells_size]⟩, [], rfl, List.nodup_nil, fun b hb => by simp at hb⟩
  case round =>
    obtain ⟨k, hk, rfl, hb, hzz, ⟨arr, BA, hasz⟩, bs, hel, hnd, hin⟩ := hrel
    by_cases hlt : k < n
    · obtain ⟨b, off, x, rfl, hlb, hxk, hc0, hc1⟩ := (hx.below portRd_ok (hb.mono hB)).port hlt
      have Hxk := Lib.hid hxk
      clear hxk
      go_wp2_with fail
      refine (toPort_v _ x _ (B := 0) ⟨_, rfl, rfl⟩).mono ?_
      rintro e w1 ⟨rfl, q1⟩
      obtain ⟨bl, HO, nd1, in1⟩ : ∃ bl, portOw w1 [.int .i64 x.agent, .int .i64 x.slot] x bl ∧ bl.Nodup ∧ ∀ b ∈ bl, wr.heap.size ≤ b ∧ b < w1.heap.size := ⟨[], ⟨rfl, rfl⟩, List.nodup_nil, fun b hb => by simp at hb⟩
      have BA := BA.below q1 (by omega)
      obtain ⟨z0, hz0⟩ := BA.some_ (i := k * 2) (by rw [hasz.out]; omega)
      obtain ⟨z1, hz1⟩ := BA.some_ (i := k * 2 + 1) (by rw [hasz.out]; omega)
      have fz := BA.frozen
      have zz := q1.size
      have Hel := Lib.hid (hel.keep portOw_ok (q1.block _ (by omega)) (fun k hk => q1.block k (hin k hk).2))
      clear hel
      have TB : ∀ y0 y1, Below w.heap.size w ((w1.setCell ⟨w.heap.size, k * 2, none⟩ y0).setCell ⟨w.heap.size, k * 2 + 1, none⟩ y1) := fun y0 y1 => (((hb.trans (q1.mono hb.size)).setCell (p := ⟨w.heap.size, k * 2, none⟩) (Nat.le_refl _) _).setCell (p := ⟨w.heap.size, k * 2 + 1, none⟩) (Nat.le_refl _) _)
      go_wp2_with fail
      go_roundw
      case rel =>
        refine ⟨k + 1, by omega, by go_num, TB _ _, by simp [World.setCell]; omega, ⟨_, ((BA.set_ (k * 2) _).set_ (k * 2 + 1) _), by simpa [Hid] using hasz⟩, bs ++ bl, ?_⟩
        rw [take_succ_some Hxk.out]
        have hlk : (xs.take k).length = k := by have := lx.out; simp; omega
        have h1 := ElAt.setRun portOw_ok (vs := [.int .i64 x.agent, .int .i64 x.slot]) (p := k * 2) Hel.out (fun hh => by have := hin _ hh; omega) (Or.inr (by rw [hlk]; omega))
        have hnn := nodup_two hnd nd1 hin in1 hzz zz
        refine ⟨ElAt.append h1 (ElAt.one (portOw_ok.keep (w' := setRun w1 w.heap.size (k * 2) [.int .i64 x.agent, .int .i64 x.slot]) (fun b hb => setRun_block (fun e => by have := in1 b hb; omega)) HO) ?_), hnn.1, fun b hb => by have := hnn.2 b hb; simp only [World.size_setCell]; exact this⟩
        rw [hlk, Nat.zero_add]
        exact setRun_csAt (vs := [.int .i64 x.agent, .int .i64 x.slot]) (fun j hj => by
          have hj : j < 2 := by simpa using hj
          match j, hj with
          | 0, _ => exact ⟨z0, hz0⟩
          | 1, _ => exact ⟨z1, hz1⟩) (fun j hj => fz _)
      case measure => simp [intOf]; omega
    · have hkn : k = n := by omega
      have e : xs.take k = xs := List.take_of_length_le (by have := lx.out; omega)
      rw [e] at hel
      have Hkn := Lib.hid hkn
      clear hkn e
      go_wp2
      go_ret
      exact ⟨⟨_, rfl, some ⟨w.heap.size, 0, none⟩, n, n, w.heap.size :: bs, rfl, ⟨lx.out, .inr ⟨_, _, bs, rfl, rfl, hel⟩⟩, List.nodup_cons.2 ⟨fun hh => by have := hin _ hh; omega, hnd⟩, fun b hb => by
        rcases List.mem_cons.1 hb with rfl | hb
        · omega
        · have := hin b hb; omega, Nat.le_refl _, by unfold maxLen; omega⟩, hb⟩
end
section
open Go.RowKit
set_option linter.unusedVariables false
set_option linter.unusedSimpArgs false
set_option maxHeartbeats 1000000 in
theorem toAgent_v (v : Value) (x : DAgent) (w : World) {B : Nat} (h : RdT agentRd w B v x) (hB : B ≤ w.heap.size) (hs : szAgent x ≤ 1048576) :
    Calls Tryz.prog 44 #[v] w fun e w' => Ret1 (fun v' => OwT agentOw w' v' x w.heap.size w'.heap.size) e ∧ Below w.heap.size w w' := by
  obtain ⟨cs, rfl, A1, n1, c1, A2, n2, c2, rfl, ⟨h1, r1⟩, ⟨h2, r2⟩⟩ := h
  unfold szAgent at hs
  have hb : ∀ o1 o2 o3, Below w.heap.size w (((w.alloc o1).alloc o2).alloc o3) := fun o1 o2 o3 => (((Below.refl _ _).alloc (Nat.le_refl _) _).alloc (by simp) _).alloc (by simp; omega) _
  go_enter Tryz.func44, Tryz.ntmps44
  go_wp2_with fail
  refine (toInt64S_v _ x.data _ (B := B) ⟨A1, n1, c1, rfl, h1.below intRd_ok ((hb _ _ _).mono hB), r1⟩ (Nat.le_trans hB (hb _ _ _).size) (by first | omega | (unfold lenOk; omega))).mono ?_
  rintro e w1 ⟨⟨v1, rfl, O1⟩, q1⟩
  have z1 : w.heap.size + 1 + 1 + 1 ≤ w1.heap.size := by have := q1.size; simpa using this
  have O1 := O1.wide (lo' := w.heap.size + 1 + 1 + 1) (hi' := w1.heap.size) (by simp) (Nat.le_refl _)
  obtain ⟨A1', m1, d1, bs1, rfl, ow1, nd1, in1, rr1⟩ := O1
  have T1 := (hb _ _ _).trans (q1.mono (hb _ _ _).size)
  have BB := blk3_0.below q1 (by simp <;> omega)
  have BR := blk3_1.below q1 (by simp <;> omega)
  have BO := blk3_2.below q1 (by simp <;> omega)
  clear q1
  have cB := BB.cell
  have cO := BO.cell
  have fO := BO.frozen
  go_wp2_with fail
  clear cB cO fO
  have T1 := T1.setCell (p := ⟨w.heap.size + 1 + 1, 3, none⟩) (by simp; omega) (.slice A1' m1 d1)
  have BB := BB.far (p := ⟨w.heap.size + 1 + 1, 3, none⟩) (by simp; omega) (.slice A1' m1 d1)
  have BR := BR.far (p := ⟨w.heap.size + 1 + 1, 3, none⟩) (by simp) (.slice A1' m1 d1)
  have BO := BO.set_ 3 (.slice A1' m1 d1)
  have ow1 := ow1.keep intOw_ok (w' := World.setCell w1 ⟨w.heap.size + 1 + 1, 3, none⟩ (.slice A1' m1 d1)) (fun k hk => Below.heap_setCell _ _ _ _ (by have := in1 k hk; simp; omega))
  refine (toPortS_v _ x.ports _ (B := B) ⟨A2, n2, c2, rfl, h2.below portRd_ok (T1.mono hB), r2⟩ (Nat.le_trans hB T1.size) (by first | omega | (unfold lenOk; omega))).mono ?_
  rintro e w2 ⟨⟨v2, rfl, O2⟩, q2⟩
  have z2 : w1.heap.size ≤ w2.heap.size := by have := q2.size; simpa using this
  have O2 := O2.wide (lo' := w1.heap.size) (hi' := w2.heap.size) (by simp) (Nat.le_refl _)
  obtain ⟨A2', m2, d2, bs2, rfl, ow2, nd2, in2, rr2⟩ := O2
  have T1 := T1.trans (q2.mono T1.size)
  have BB := BB.below q2 (by simp <;> omega)
  have BR := BR.below q2 (by simp <;> omega)
  have BO := BO.below q2 (by simp <;> omega)
  have ow1 := ow1.keep intOw_ok (w' := w2) (fun k hk => q2.block k (by have := in1 k hk; simp <;> omega))
  clear q2
  have cB := BB.cell
  have cO := BO.cell
  have fO := BO.frozen
  have cR := BR.cell
  have fR := BR.frozen
  go_wp2_with fail
  have hfin : ∀ w', OnlyIn (w.heap.size + 1) (w.heap.size + 1 + 1 + 1) w2 w' → (Ret1 (fun v' => OwT agentOw w' v' x w.heap.size w'.heap.size) (.returned (.agg #[.int .i64 x.kind, .int .i64 x.level, .int .i64 x.value, (.slice A1' m1 d1), (.slice A2' m2 d2)])) ∧ Below w.heap.size w w') := fun w' ho => by
    refine ⟨⟨_, rfl, [.int .i64 x.kind, .int .i64 x.level, .int .i64 x.value, (.slice A1' m1 d1), (.slice A2' m2 d2)], bs1 ++ bs2, rfl, ⟨A1', m1, d1, A2', m2, d2, bs1, bs2, rfl, ⟨ow1.keep intOw_ok (fun k hk => ho.block k (.inr (by have := in1 k hk; omega))), rr1⟩, ⟨ow2.keep portOw_ok (fun k hk => ho.block k (.inr (by have := in2 k hk; omega))), rr2⟩, rfl⟩, ?_⟩, T1.trans (ho.below.mono (by omega))⟩
    have h1 : bs1.Nodup ∧ ∀ b ∈ bs1, w.heap.size ≤ b ∧ b < w1.heap.size := ⟨nd1, fun b hb => by have := in1 b hb; omega⟩
    have h2 := nodup_two (lo := w.heap.size) (mid := w1.heap.size) (hi := w2.heap.size) h1.1 nd2 (fun b hb => by have := h1.2 b hb; omega) in2 (by omega) (by omega)
    exact ⟨h2.1, fun b hb => by have := h2.2 b hb; have := ho.size; omega⟩
  refine bodyPost_ret (v := .agg #[.int .i64 x.kind, .int .i64 x.level, .int .i64 x.value, (.slice A1' m1 d1), (.slice A2' m2 d2)]) (by simp [results, Tryz.results44, go_sem, cR]) rfl (hfin _ ?_)
  repeat (first | (with_reducible exact OnlyIn.refl _ _ _) | (with_reducible refine OnlyIn.setCell ?_ ⟨by simp, by simp⟩ _))
theorem szAgentS_el {xs : List DAgent} {k : Nat} {x : DAgent} (h : xs[k]? = some x) : szAgent x ≤ szAgentS xs := by
  have h1 := szAgentS_take h
  have h2 := szAgentS_le xs (k + 1)
  unfold szAgentS
  omega
theorem info_AgentS : (Tryz.prog.info? 63).map (fun i => (i.zero, i.size, i.bytes)) = some (some (.agg #[.int .i64 0, .int .i64 0, .int .i64 0, .slice none 0 0, .slice none 0 0]), 5, 72) := by kernel_rfl
set_option maxHeartbeats 1000000 in
theorem toAgentS_v (v : Value) (xs : List DAgent) (w : World) {B : Nat} (h : RdS agentRd 5 w B v xs) (hB : B ≤ w.heap.size) (hs : szAgentS xs ≤ 1048576) :
    Calls Tryz.prog 26 #[v] w fun e w' => Ret1 (fun v' => OwS agentOw 5 w' v' xs w.heap.size w'.heap.size) e ∧ Below w.heap.size w w' := by
  obtain ⟨A, n, c, rfl, hx, hnc, hcm⟩ := h
  have lx := Lib.hid hx.len
  have hlen : xs.length ≤ 1048576 := by unfold szAgentS at hs; omega
  have hn : n ≤ 1048576 := by have := lx.out; omega
  have hmk := run_make_sz 29 63 Tryz.underlying29 info_AgentS n (by omega) (by omega)
  go_enter Tryz.func26, Tryz.ntmps26
  go_wp2
  clear hmk
  go_loopw [4] (fun i wr => ∃ k : Nat, k ≤ n ∧ i = .int .i64 k ∧ Below w.heap.size w wr ∧ w.heap.size + 1 ≤ wr.heap.size ∧ (∃ arr, Blk wr w.heap.size 63 arr ∧ Hid (arr.size = n * 5)) ∧ ∃ bs, ElAt agentOw 5 wr w.heap.size 0 (xs.take k) bs ∧ bs.Nodup ∧ ∀ b ∈ bs, w.heap.size + 1 ≤ b ∧ b < wr.heap.size) (fun i _ => n - (intOf i).toNat)
  case atStart => exact ⟨0, by omega, rfl, (Below.refl _ _).alloc (Nat.le_refl _) _, by simp, ⟨_, Blk.new _ _ _, by simp [Hid, madeCells_size]⟩, [], rfl, List.nodup_nil, fun b hb => by simp at hb⟩
  case round =>
    obtain ⟨k, hk, rfl, hb, hzz, ⟨arr, BA, hasz⟩, bs, hel, hnd, hin⟩ := hrel
    by_cases hlt : k < n
    · obtain ⟨b, off, x, A1, n1, c1, A2, n2, c2, rfl, hlb, hxk, hc0, hc1, hc2, hc3, hc4, ⟨h1, r1⟩, ⟨h2, r2⟩⟩ := (hx.below agentRd_ok (hb.mono hB)).agent hlt
      have Hxk := Lib.hid hxk
      clear hxk
      go_wp2_with fail
      refine (toAgent_v _ x _ (B := B) ⟨_, rfl, A1, n1, c1, A2, n2, c2, rfl, ⟨h1, r1⟩, ⟨h2, r2⟩⟩ (Nat.le_trans hB hb.size) (by have := szAgentS_el Hxk.out; omega)).mono ?_
      rintro e w1 ⟨⟨v1, rfl, O1⟩, q1⟩
      obtain ⟨cs1, bl, rfl, HO, nd1, in1⟩ := O1
      have HO' := HO
      obtain ⟨A1', m1, d1, A2', m2, d2, b1, b2, rfl, _⟩ := HO'
      have BA := BA.below q1 (by omega)
      obtain ⟨z0, hz0⟩ := BA.some_ (i := k * 5) (by rw [hasz.out]; omega)
      obtain ⟨z1, hz1⟩ := BA.some_ (i := k * 5 + 1) (by rw [hasz.out]; omega)
      obtain ⟨z2, hz2⟩ := BA.some_ (i := k * 5 + 2) (by rw [hasz.out]; omega)
      obtain ⟨z3, hz3⟩ := BA.some_ (i := k * 5 + 3) (by rw [hasz.out]; omega)
      obtain ⟨z4, hz4⟩ := BA.some_ (i := k * 5 + 4) (by rw [hasz.out]; omega)
      have fz := BA.frozen
      have zz := q1.size
      have Hel := Lib.hid (hel.keep agentOw_ok (q1.block _ (by omega)) (fun k hk => q1.block k (hin k hk).2))
      clear hel
      have TB : ∀ y0 y1 y2 y3 y4, Below w.heap.size w (((((w1.setCell ⟨w.heap.size, k * 5, none⟩ y0).setCell ⟨w.heap.size, k * 5 + 1, none⟩ y1).setCell ⟨w.heap.size, k * 5 + 2, none⟩ y2).setCell ⟨w.heap.size, k * 5 + 3, none⟩ y3).setCell ⟨w.heap.size, k * 5 + 4, none⟩ y4) := fun y0 y1 y2 y3 y4 => ((((((hb.trans (q1.mono hb.size)).setCell (p := ⟨w.heap.size, k * 5, none⟩) (Nat.le_refl _) _).setCell (p := ⟨w.heap.size, k * 5 + 1, none⟩) (Nat.le_refl _) _).setCell (p := ⟨w.heap.size, k * 5 + 2, none⟩) (Nat.le_refl _) _).setCell (p := ⟨w.heap.size, k * 5 + 3, none⟩) (Nat.le_refl _) _).setCell (p := ⟨w.heap.size, k * 5 + 4, none⟩) (Nat.le_refl _) _)
      go_wp2_with fail
      go_roundw
      case rel =>
        refine ⟨k + 1, by omega, by go_num, TB _ _ _ _ _, by simp [World.setCell]; omega, ⟨_, (((((BA.set_ (k * 5) _).set_ (k * 5 + 1) _).set_ (k * 5 + 2) _).set_ (k * 5 + 3) _).set_ (k * 5 + 4) _), by simpa [Hid] using hasz⟩, bs ++ bl, ?_⟩
        rw [take_succ_some Hxk.out]
        have hlk : (xs.take k).length = k := by have := lx.out; simp; omega
        have h1 := ElAt.setRun agentOw_ok (vs := [.int .i64 x.kind, .int .i64 x.level, .int .i64 x.value, .slice A1' m1 d1, .slice A2' m2 d2]) (p := k * 5) Hel.out (fun hh => by have := hin _ hh; omega) (Or.inr (by rw [hlk]; omega))
        have hnn := nodup_two hnd nd1 hin in1 hzz zz
        refine ⟨ElAt.append h1 (ElAt.one (agentOw_ok.keep (w' := setRun w1 w.heap.size (k * 5) [.int .i64 x.kind, .int .i64 x.level, .int .i64 x.value, .slice A1' m1 d1, .slice A2' m2 d2]) (fun b hb => setRun_block (fun e => by have := in1 b hb; omega)) HO) ?_), hnn.1, fun b hb => by have := hnn.2 b hb; simp only [World.size_setCell]; exact this⟩
        rw [hlk, Nat.zero_add]
        exact setRun_csAt (vs := [.int .i64 x.kind, .int .i64 x.level, .int .i64 x.value, .slice A1' m1 d1, .slice A2' m2 d2]) (fun j hj => by
          have hj : j < 5 := by simpa using hj
          match j, hj with
          | 0, _ => exact ⟨z0, hz0⟩
          | 1, _ => exact ⟨z1, hz1⟩
          | 2, _ => exact ⟨z2, hz2⟩
          | 3, _ => exact ⟨z3, hz3⟩
          | 4, _ => exact ⟨z4, hz4⟩) (fun j hj => fz _)
      case measure => simp [intOf]; omega
    · have hkn : k = n := by omega
      have e : xs.take k = xs := List.take_of_length_le (by have := lx.out; omega)
      rw [e] at hel
      have Hkn := Lib.hid hkn
      clear hkn e
      go_wp2
      go_ret
      exact ⟨⟨_, rfl, some ⟨w.heap.size, 0, none⟩, n, n, w.heap.size :: bs, rfl, ⟨lx.out, .inr ⟨_, _, bs, rfl, rfl, hel⟩⟩, List.nodup_cons.2 ⟨fun hh => by have := hin _ hh; omega, hnd⟩, fun b hb => by
        rcases List.mem_cons.1 hb with rfl | hb
        · omega
        · have := hin b hb; omega, Nat.le_refl _, by unfold maxLen; omega⟩, hb⟩
set_option maxHeartbeats 1000000 in
theorem toNet_v (v : Value) (x : DNet) (w : World) {B : Nat} (h : RdT netRd w B v x) (hB : B ≤ w.heap.size) (hs : szNet x ≤ 1048576) :
    Calls Tryz.prog 9 #[v] w fun e w' => Ret1 (fun v' => OwT netOw w' v' x w.heap.size w'.heap.size) e ∧ Below w.heap.size w w' := by
  obtain ⟨cs, rfl, A1, n1, c1, rfl, ⟨h1, r1⟩⟩ := h
  unfold szNet at hs
  have hb : ∀ o1 o2 o3, Below w.heap.size w (((w.alloc o1).alloc o2).alloc o3) := fun o1 o2 o3 => (((Below.refl _ _).alloc (Nat.le_refl _) _).alloc (by simp) _).alloc (by simp; omega) _
  go_enter Tryz.func9, Tryz.ntmps9
  go_wp2_with fail
  refine (toAgentS_v _ x.agents _ (B := B) ⟨A1, n1, c1, rfl, h1.below agentRd_ok ((hb _ _ _).mono hB), r1⟩ (Nat.le_trans hB (hb _ _ _).size) (by first | omega | (unfold lenOk; omega))).mono ?_
  rintro e w1 ⟨⟨v1, rfl, O1⟩, q1⟩
  have z1 : w.heap.size + 1 + 1 + 1 ≤ w1.heap.size := by have := q1.size; simpa using this
  have O1 := O1.wide (lo' := w.heap.size + 1 + 1 + 1) (hi' := w1.heap.size) (by simp) (Nat.le_refl _)
  obtain ⟨A1', m1, d1, bs1, rfl, ow1, nd1, in1, rr1⟩ := O1
  have T1 := (hb _ _ _).trans (q1.mono (hb _ _ _).size)
  have BB := blk3_0.below q1 (by simp <;> omega)
  have BR := blk3_1.below q1 (by simp <;> omega)
  have BO := blk3_2.below q1 (by simp <;> omega)
  clear q1
  have cB := BB.cell
  have cO := BO.cell
  have fO := BO.frozen
  have cR := BR.cell
  have fR := BR.frozen
  go_wp2_with fail
  have hfin : ∀ w', OnlyIn (w.heap.size + 1) (w.heap.size + 1 + 1 + 1) w1 w' → (Ret1 (fun v' => OwT netOw w' v' x w.heap.size w'.heap.size) (.returned (.agg #[(.slice A1' m1 d1)])) ∧ Below w.heap.size w w') := fun w' ho => by
    refine ⟨⟨_, rfl, [(.slice A1' m1 d1)], bs1, rfl, ⟨A1', m1, d1, bs1, rfl, ⟨ow1.keep agentOw_ok (fun k hk => ho.block k (.inr (by have := in1 k hk; omega))), rr1⟩, rfl⟩, ?_⟩, T1.trans (ho.below.mono (by omega))⟩
    have h1 : bs1.Nodup ∧ ∀ b ∈ bs1, w.heap.size ≤ b ∧ b < w1.heap.size := ⟨nd1, fun b hb => by have := in1 b hb; omega⟩
    exact ⟨h1.1, fun b hb => by have := h1.2 b hb; have := ho.size; omega⟩
  refine bodyPost_ret (v := .agg #[(.slice A1' m1 d1)]) (by simp [results, Tryz.results9, go_sem, cR]) rfl (hfin _ ?_)
  repeat (first | (with_reducible exact OnlyIn.refl _ _ _) | (with_reducible refine OnlyIn.setCell ?_ ⟨by simp, by simp⟩ _))
end
section
open Go.RowKit
set_option linter.unusedVariables false
set_option linter.unusedSimpArgs false
set_option maxHeartbeats 1000000 in
theorem eqPort_v (v u : Value) (x y : DPort) (w : World) {B B' : Nat} (h : RdT portRd w B v x) (h' : RdT portRd w B' u y) (hB : B ≤ w.heap.size) (hB' : B' ≤ w.heap.size) :
    Calls Tryz.prog 111 #[v, u] w fun e w' => e = .returned (.bool (decide (x = y))) ∧ Below w.heap.size w w' := by
  obtain ⟨cs, rfl, rfl⟩ := h
  obtain ⟨cs, rfl, rfl⟩ := h'
  have hb : ∀ o1 o2, Below w.heap.size w ((w.alloc o1).alloc o2) := fun o1 o2 => ((Below.refl _ _).alloc (Nat.le_refl _) _).alloc (by simp) _
  by_cases e0 : x.agent = y.agent
  · have f0 : (x.agent != y.agent) = false := by simp [e0]
    by_cases e1 : x.slot = y.slot
    · have f1 : (x.slot != y.slot) = false := by simp [e1]
      have He : Hid (decide (x = y) = true) := decide_eq_true (by cases x; cases y; simp_all)
      clear e0 e1
      go_enter Tryz.func111, Tryz.ntmps111
      go_wp2_with fail
      go_ret
      exact ⟨by rw [He.out]; rfl, hb _ _⟩
    · have f1 : (x.slot != y.slot) = true := by simp [e1]
      have He : Hid (decide (x = y) = false) := decide_eq_false (by intro exy; exact e1 (by rw [exy]))
      clear e0 e1
      go_enter Tryz.func111, Tryz.ntmps111
      go_wp2_with fail
      go_ret
      exact ⟨by rw [He.out]; rfl, hb _ _⟩
  · have f0 : (x.agent != y.agent) = true := by simp [e0]
    have He : Hid (decide (x = y) = false) := decide_eq_false (by intro exy; exact e0 (by rw [exy]))
    clear e0
    go_enter Tryz.func111, Tryz.ntmps111
    go_wp2_with fail
    go_ret
    exact ⟨by rw [He.out]; rfl, hb _ _⟩
set_option maxHeartbeats 1000000 in
theorem eqPortS_v (v u : Value) (xs ys : List DPort) (w : World) {B B' : Nat} (h : RdS portRd 2 w B v xs) (h' : RdS portRd 2 w B' u ys) (hB : B ≤ w.heap.size) (hB' : B' ≤ w.heap.size) :
    Calls Tryz.prog 81 #[v, u] w fun e w' => e = .returned (.bool (eqL xs ys)) ∧ Below w.heap.size w w' := by
  obtain ⟨A, n, c, rfl, hx, hnc, hcm⟩ := h
  obtain ⟨C, m, d, rfl, hy, hmd, hdm⟩ := h'
  unfold maxLen at hcm hdm
  have lx := Lib.hid hx.len
  have ly := Lib.hid hy.len
  have hr := Below.refl w.heap.size w
  by_cases hnm : n = m
  · subst hnm
    go_enter Tryz.func81, Tryz.ntmps81
    go_wp2
    go_loopw [5] (fun i wr => ∃ k : Nat, k ≤ n ∧ i = .int .i64 k ∧ Hid (xs.take k = ys.take k) ∧ Below w.heap.size w wr) (fun i _ => n - (intOf i).toNat)
    case atStart => exact ⟨0, by omega, rfl, rfl, hr⟩
    case round =>
      obtain ⟨k, hk, rfl, ht, hq⟩ := hrel
      by_cases hlt : k < n
      · have hx' := hx.below portRd_ok (hq.mono hB)
        have hy' := hy.below portRd_ok (hq.mono hB')
        obtain ⟨b, off, x, rfl, hb, hxk, hc0, hc1⟩ := hx'.port hlt
        obtain ⟨b', off', y, rfl, hb', hyk, hc0', hc1'⟩ := hy'.port hlt
        have Hxk := Lib.hid hxk
        have Hyk := Lib.hid hyk
        clear hxk hyk hx' hy'
        have hzB : B ≤ wr.drew.heap.size := Nat.le_trans hB hq.size
        have hzB' : B' ≤ wr.drew.heap.size := Nat.le_trans hB' hq.size
        by_cases hxy : x = y
        · have hf : decide (x = y) = true := decide_eq_true hxy
          have Hxy := Lib.hid hxy
          clear hxy
          go_wp2_with fail
          go_region_with (go_at_call 111; refine (eqPort_v _ _ x y _ (B := 0) (B' := 0) ⟨_, rfl, rfl⟩ ⟨_, rfl, rfl⟩ (Nat.zero_le _) (Nat.zero_le _)).mono ?_; rintro e w1 ⟨rfl, hq1⟩)
          all_goals
            go_wp2_with fail
            go_roundw
            case rel => exact ⟨k + 1, by omega, by go_num, eqL_step Hxk.out Hyk.out ht.out Hxy.out, hq.drew.trans (hq1.mono hq.size)⟩
            case measure => simp [intOf]; omega
        · have hf : decide (x = y) = false := decide_eq_false hxy
          have Hno := Lib.hid (eqL_no Hxk.out Hyk.out hxy)
          clear hxy
          go_wp2_with fail
          go_region_with (go_at_call 111; refine (eqPort_v _ _ x y _ (B := 0) (B' := 0) ⟨_, rfl, rfl⟩ ⟨_, rfl, rfl⟩ (Nat.zero_le _) (Nat.zero_le _)).mono ?_; rintro e w1 ⟨rfl, hq1⟩)
          all_goals
            go_wp2_with fail
            go_ret
            exact ⟨by rw [Hno.out]; rfl, hq.drew.trans (hq1.mono hq.size)⟩
      · have Hyes := Lib.hid (eqL_yes (k := k) ht.out (by have := lx.out; omega) (by have := ly.out; omega))
        go_wp2
        go_ret
        exact ⟨by rw [Hyes.out]; rfl, hq⟩
  · have Hno := Lib.hid (eqL_len (xs := xs) (ys := ys) (by have := lx.out; have := ly.out; omega))
    have hf : ((n : Int) != (m : Int)) = true := by simp; omega
    go_enter Tryz.func81, Tryz.ntmps81
    go_wp2
    go_ret
    exact ⟨by rw [Hno.out]; rfl, hr⟩
end
section
open Go.RowKit
set_option linter.unusedVariables false
set_option linter.unusedSimpArgs false
set_option maxHeartbeats 1000000 in
theorem eqAgent_v (v u : Value) (x y : DAgent) (w : World) {B B' : Nat} (h : RdT agentRd w B v x) (h' : RdT agentRd w B' u y) (hB : B ≤ w.heap.size) (hB' : B' ≤ w.heap.size) :
    Calls Tryz.prog 59 #[v, u] w fun e w' => e = .returned (.bool (decide (x = y))) ∧ Below w.heap.size w w' := by
  obtain ⟨cs, rfl, A1, n1, c1, A2, n2, c2, rfl, ⟨h1, r1⟩, ⟨h2, r2⟩⟩ := h
  obtain ⟨cs, rfl, A1', n1', c1', A2', n2', c2', rfl, ⟨h1', r1'⟩, ⟨h2', r2'⟩⟩ := h'
  have hb : ∀ o1 o2, Below w.heap.size w ((w.alloc o1).alloc o2) := fun o1 o2 => ((Below.refl _ _).alloc (Nat.le_refl _) _).alloc (by simp) _
  by_cases e0 : x.kind = y.kind
  · have f0 : (x.kind != y.kind) = false := by simp [e0]
    by_cases e1 : x.level = y.level
    · have f1 : (x.level != y.level) = false := by simp [e1]
      by_cases e2 : x.value = y.value
      · have f2 : (x.value != y.value) = false := by simp [e2]
        by_cases e3 : x.data = y.data
        · have f3 : eqL x.data y.data = true := decide_eq_true e3
          by_cases e4 : x.ports = y.ports
          · have f4 : eqL x.ports y.ports = true := decide_eq_true e4
            have He : Hid (decide (x = y) = true) := decide_eq_true (by cases x; cases y; simp_all)
            clear e0 e1 e2 e3 e4
            go_enter Tryz.func59, Tryz.ntmps59
            go_wp2_with fail
            refine (eqInt64S_v _ _ x.data y.data _ (B := B) (B' := B') ⟨A1, n1, c1, rfl, h1.below intRd_ok ((hb _ _).mono hB), r1⟩ ⟨A1', n1', c1', rfl, h1'.below intRd_ok ((hb _ _).mono hB'), r1'⟩ (Nat.le_trans hB (hb _ _).size) (Nat.le_trans hB' (hb _ _).size)).mono ?_
            rintro e w1 ⟨rfl, q1⟩
            have T := (hb _ _).trans (q1.mono (hb _ _).size)
            have B1 := blk2_0.below q1 (by simp <;> omega)
            have B2 := blk2_1.below q1 (by simp <;> omega)
            have z1 : w.heap.size + 1 + 1 ≤ w1.heap.size := by have := q1.size; simpa using this
            clear q1
            have g1 := B1.cell
            have g2 := B2.cell
            go_wp2_with fail
            clear g1 g2
            refine (eqPortS_v _ _ x.ports y.ports _ (B := B) (B' := B') ⟨A2, n2, c2, rfl, h2.below portRd_ok ((T).mono hB), r2⟩ ⟨A2', n2', c2', rfl, h2'.below portRd_ok ((T).mono hB'), r2'⟩ (Nat.le_trans hB (T).size) (Nat.le_trans hB' (T).size)).mono ?_
            rintro e w2 ⟨rfl, q2⟩
            have T := T.trans (q2.mono T.size)
            have B1 := B1.below q2 (by omega)
            have B2 := B2.below q2 (by omega)
            have z2 := Nat.le_trans z1 q2.size
            clear q2
            go_wp2_with fail
            go_ret
            exact ⟨by rw [He.out]; rfl, T⟩
          · have f4 : eqL x.ports y.ports = false := decide_eq_false e4
            have He : Hid (decide (x = y) = false) := decide_eq_false (by intro exy; exact e4 (by rw [exy]))
            clear e0 e1 e2 e3 e4
            go_enter Tryz.func59, Tryz.ntmps59
            go_wp2_with fail
            refine (eqInt64S_v _ _ x.data y.data _ (B := B) (B' := B') ⟨A1, n1, c1, rfl, h1.below intRd_ok ((hb _ _).mono hB), r1⟩ ⟨A1', n1', c1', rfl, h1'.below intRd_ok ((hb _ _).mono hB'), r1'⟩ (Nat.le_trans hB (hb _ _).size) (Nat.le_trans hB' (hb _ _).size)).mono ?_
            rintro e w1 ⟨rfl, q1⟩
            have T := (hb _ _).trans (q1.mono (hb _ _).size)
            have B1 := blk2_0.below q1 (by simp <;> omega)
            have B2 := blk2_1.below q1 (by simp <;> omega)
            have z1 : w.heap.size + 1 + 1 ≤ w1.heap.size := by have := q1.size; simpa using this
            clear q1
            have g1 := B1.cell
            have g2 := B2.cell
            go_wp2_with fail
            clear g1 g2
            refine (eqPortS_v _ _ x.ports y.ports _ (B := B) (B' := B') ⟨A2, n2, c2, rfl, h2.below portRd_ok ((T).mono hB), r2⟩ ⟨A2', n2', c2', rfl, h2'.below portRd_ok ((T).mono hB'), r2'⟩ (Nat.le_trans hB (T).size) (Nat.le_trans hB' (T).size)).mono ?_
            rintro e w2 ⟨rfl, q2⟩
            have T := T.trans (q2.mono T.size)
            have B1 := B1.below q2 (by omega)
            have B2 := B2.below q2 (by omega)
            have z2 := Nat.le_trans z1 q2.size
            clear q2
            go_wp2_with fail
            go_ret
            exact ⟨by rw [He.out]; rfl, T⟩
        · have f3 : eqL x.data y.data = false := decide_eq_false e3
          have He : Hid (decide (x = y) = false) := decide_eq_false (by intro exy; exact e3 (by rw [exy]))
          clear e0 e1 e2 e3
          go_enter Tryz.func59, Tryz.ntmps59
          go_wp2_with fail
          refine (eqInt64S_v _ _ x.data y.data _ (B := B) (B' := B') ⟨A1, n1, c1, rfl, h1.below intRd_ok ((hb _ _).mono hB), r1⟩ ⟨A1', n1', c1', rfl, h1'.below intRd_ok ((hb _ _).mono hB'), r1'⟩ (Nat.le_trans hB (hb _ _).size) (Nat.le_trans hB' (hb _ _).size)).mono ?_
          rintro e w1 ⟨rfl, q1⟩
          have T := (hb _ _).trans (q1.mono (hb _ _).size)
          have B1 := blk2_0.below q1 (by simp <;> omega)
          have B2 := blk2_1.below q1 (by simp <;> omega)
          have z1 : w.heap.size + 1 + 1 ≤ w1.heap.size := by have := q1.size; simpa using this
          clear q1
          go_wp2_with fail
          go_ret
          exact ⟨by rw [He.out]; rfl, T⟩
      · have f2 : (x.value != y.value) = true := by simp [e2]
        have He : Hid (decide (x = y) = false) := decide_eq_false (by intro exy; exact e2 (by rw [exy]))
        clear e0 e1 e2
        go_enter Tryz.func59, Tryz.ntmps59
        go_wp2_with fail
        go_ret
        exact ⟨by rw [He.out]; rfl, hb _ _⟩
    · have f1 : (x.level != y.level) = true := by simp [e1]
      have He : Hid (decide (x = y) = false) := decide_eq_false (by intro exy; exact e1 (by rw [exy]))
      clear e0 e1
      go_enter Tryz.func59, Tryz.ntmps59
      go_wp2_with fail
      go_ret
      exact ⟨by rw [He.out]; rfl, hb _ _⟩
  · have f0 : (x.kind != y.kind) = true := by simp [e0]
    have He : Hid (decide (x = y) = false) := decide_eq_false (by intro exy; exact e0 (by rw [exy]))
    clear e0
    go_enter Tryz.func59, Tryz.ntmps59
    go_wp2_with fail
    go_ret
    exact ⟨by rw [He.out]; rfl, hb _ _⟩
set_option maxHeartbeats 1000000 in
theorem eqAgentS_v (v u : Value) (xs ys : List DAgent) (w : World) {B B' : Nat} (h : RdS agentRd 5 w B v xs) (h' : RdS agentRd 5 w B' u ys) (hB : B ≤ w.heap.size) (hB' : B' ≤ w.heap.size) :
    Calls Tryz.prog 29 #[v, u] w fun e w' => e = .returned (.bool (eqL xs ys)) ∧ Below w.heap.size w w' := by
  obtain ⟨A, n, c, rfl, hx, hnc, hcm⟩ := h
  obtain ⟨C, m, d, rfl, hy, hmd, hdm⟩ := h'
  unfold maxLen at hcm hdm
  have lx := Lib.hid hx.len
  have ly := Lib.hid hy.len
  have hr := Below.refl w.heap.size w
  by_cases hnm : n = m
  · subst hnm
    go_enter Tryz.func29, Tryz.ntmps29
    go_wp2
    go_loopw [5] (fun i wr => ∃ k : Nat, k ≤ n ∧ i = .int .i64 k ∧ Hid (xs.take k = ys.take k) ∧ Below w.heap.size w wr) (fun i _ => n - (intOf i).toNat)
    case atStart => exact ⟨0, by omega, rfl, rfl, hr⟩
    case round =>
      obtain ⟨k, hk, rfl, ht, hq⟩ := hrel
      by_cases hlt : k < n
      · have hx' := hx.below agentRd_ok (hq.mono hB)
        have hy' := hy.below agentRd_ok (hq.mono hB')
        obtain ⟨b, off, x, A1, n1, c1, A2, n2, c2, rfl, hb, hxk, hc0, hc1, hc2, hc3, hc4, ⟨h1, r1⟩, ⟨h2, r2⟩⟩ := hx'.agent hlt
        obtain ⟨b', off', y, A1', n1', c1', A2', n2', c2', rfl, hb', hyk, hc0', hc1', hc2', hc3', hc4', ⟨h1', r1'⟩, ⟨h2', r2'⟩⟩ := hy'.agent hlt
        have Hxk := Lib.hid hxk
        have Hyk := Lib.hid hyk
        clear hxk hyk hx' hy'
        have hzB : B ≤ wr.drew.heap.size := Nat.le_trans hB hq.size
        have hzB' : B' ≤ wr.drew.heap.size := Nat.le_trans hB' hq.size
        by_cases hxy : x = y
        · have hf : decide (x = y) = true := decide_eq_true hxy
          have Hxy := Lib.hid hxy
          clear hxy
          go_wp2_with fail
          go_region_with (go_at_call 59; refine (eqAgent_v _ _ x y _ (B := B) (B' := B') ⟨_, rfl, A1, n1, c1, A2, n2, c2, rfl, ⟨h1.drew intRd_ok, r1⟩, ⟨h2.drew portRd_ok, r2⟩⟩ ⟨_, rfl, A1', n1', c1', A2', n2', c2', rfl, ⟨h1'.drew intRd_ok, r1'⟩, ⟨h2'.drew portRd_ok, r2'⟩⟩ hzB hzB').mono ?_; rintro e w1 ⟨rfl, hq1⟩)
          all_goals
            go_wp2_with fail
            go_roundw
            case rel => exact ⟨k + 1, by omega, by go_num, eqL_step Hxk.out Hyk.out ht.out Hxy.out, hq.drew.trans (hq1.mono hq.size)⟩
            case measure => simp [intOf]; omega
        · have hf : decide (x = y) = false := decide_eq_false hxy
          have Hno := Lib.hid (eqL_no Hxk.out Hyk.out hxy)
          clear hxy
          go_wp2_with fail
          go_region_with (go_at_call 59; refine (eqAgent_v _ _ x y _ (B := B) (B' := B') ⟨_, rfl, A1, n1, c1, A2, n2, c2, rfl, ⟨h1.drew intRd_ok, r1⟩, ⟨h2.drew portRd_ok, r2⟩⟩ ⟨_, rfl, A1', n1', c1', A2', n2', c2', rfl, ⟨h1'.drew intRd_ok, r1'⟩, ⟨h2'.drew portRd_ok, r2'⟩⟩ hzB hzB').mono ?_; rintro e w1 ⟨rfl, hq1⟩)
          all_goals
            go_wp2_with fail
            go_ret
            exact ⟨by rw [Hno.out]; rfl, hq.drew.trans (hq1.mono hq.size)⟩
      · have Hyes := Lib.hid (eqL_yes (k := k) ht.out (by have := lx.out; omega) (by have := ly.out; omega))
        go_wp2
        go_ret
        exact ⟨by rw [Hyes.out]; rfl, hq⟩
  · have Hno := Lib.hid (eqL_len (xs := xs) (ys := ys) (by have := lx.out; have := ly.out; omega))
    have hf : ((n : Int) != (m : Int)) = true := by simp; omega
    go_enter Tryz.func29, Tryz.ntmps29
    go_wp2
    go_ret
    exact ⟨by rw [Hno.out]; rfl, hr⟩
set_option maxHeartbeats 1000000 in
theorem eqNet_v (v u : Value) (x y : DNet) (w : World) {B B' : Nat} (h : RdT netRd w B v x) (h' : RdT netRd w B' u y) (hB : B ≤ w.heap.size) (hB' : B' ≤ w.heap.size) :
    Calls Tryz.prog 12 #[v, u] w fun e w' => e = .returned (.bool (decide (x = y))) ∧ Below w.heap.size w w' := by
  obtain ⟨cs, rfl, A1, n1, c1, rfl, ⟨h1, r1⟩⟩ := h
  obtain ⟨cs, rfl, A1', n1', c1', rfl, ⟨h1', r1'⟩⟩ := h'
  have hb : ∀ o1 o2, Below w.heap.size w ((w.alloc o1).alloc o2) := fun o1 o2 => ((Below.refl _ _).alloc (Nat.le_refl _) _).alloc (by simp) _
  by_cases e0 : x.agents = y.agents
  · have f0 : eqL x.agents y.agents = true := decide_eq_true e0
    have He : Hid (decide (x = y) = true) := decide_eq_true (by cases x; cases y; simp_all)
    clear e0
    go_enter Tryz.func12, Tryz.ntmps12
    go_wp2_with fail
    refine (eqAgentS_v _ _ x.agents y.agents _ (B := B) (B' := B') ⟨A1, n1, c1, rfl, h1.below agentRd_ok ((hb _ _).mono hB), r1⟩ ⟨A1', n1', c1', rfl, h1'.below agentRd_ok ((hb _ _).mono hB'), r1'⟩ (Nat.le_trans hB (hb _ _).size) (Nat.le_trans hB' (hb _ _).size)).mono ?_
    rintro e w1 ⟨rfl, q1⟩
    have T := (hb _ _).trans (q1.mono (hb _ _).size)
    have B1 := blk2_0.below q1 (by simp <;> omega)
    have B2 := blk2_1.below q1 (by simp <;> omega)
    have z1 : w.heap.size + 1 + 1 ≤ w1.heap.size := by have := q1.size; simpa using this
    clear q1
    go_wp2_with fail
    go_ret
    exact ⟨by rw [He.out]; rfl, T⟩
  · have f0 : eqL x.agents y.agents = false := decide_eq_false e0
    have He : Hid (decide (x = y) = false) := decide_eq_false (by intro exy; exact e0 (by rw [exy]))
    clear e0
    go_enter Tryz.func12, Tryz.ntmps12
    go_wp2_with fail
    refine (eqAgentS_v _ _ x.agents y.agents _ (B := B) (B' := B') ⟨A1, n1, c1, rfl, h1.below agentRd_ok ((hb _ _).mono hB), r1⟩ ⟨A1', n1', c1', rfl, h1'.below agentRd_ok ((hb _ _).mono hB'), r1'⟩ (Nat.le_trans hB (hb _ _).size) (Nat.le_trans hB' (hb _ _).size)).mono ?_
    rintro e w1 ⟨rfl, q1⟩
    have T := (hb _ _).trans (q1.mono (hb _ _).size)
    have B1 := blk2_0.below q1 (by simp <;> omega)
    have B2 := blk2_1.below q1 (by simp <;> omega)
    have z1 : w.heap.size + 1 + 1 ≤ w1.heap.size := by have := q1.size; simpa using this
    clear q1
    go_wp2_with fail
    go_ret
    exact ⟨by rw [He.out]; rfl, T⟩
end
end Go.Proofs.YtebioddcnldjkaaGreat
