/- Models and contracts of functions, printed by wg.py. -/
import Derived.Test.YtampijkiidjcmaaWC
import Derived.Test.YtampijkiidjcmaaWkH
import Derived.Test.YtampijkiidjcmaaRows
namespace Go.Proofs.Ytampijkiidjcmaa
open Go.RowKit
set_option linter.unusedVariables false
set_option linter.unusedSimpArgs false
set_option maxRecDepth 100000

def m_spec_l19Fits_A1 : Option Bool :=
  some true
def m_spec_l19Fits_B1 (d0 : DNet) (d1 : List Bool) (rec1 : Int → Option Bool) (K1 : Option Bool) (i4 : Int) : Option Bool :=
  (bif (decide (i4 < (d1.length : Int))) then ((getI d1 i4).bind fun x7 => (bif x7 then ((getI d0.agents i4).bind fun x19 => (bif (turns x19.kind) then (rec1 (i4 + 1)) else some false)) else (rec1 (i4 + 1)))) else (K1))
def m_spec_l19Fits_L1 (d0 : DNet) (d1 : List Bool) (K1 : Option Bool) : Nat → Int → Option Bool
  | 0, _ => none
  | g + 1, i4 => m_spec_l19Fits_B1 d0 d1 (m_spec_l19Fits_L1 d0 d1 K1 g) K1 i4
def m_spec_l19Fits (d0 : DNet) (d1 : List Bool) : Option Bool :=
  (bif ((d1.length : Int) != (d0.agents.length : Int)) then some false else (m_spec_l19Fits_L1 d0 d1 m_spec_l19Fits_A1 (d1.length + 1) 0))
set_option maxHeartbeats 2000000 in
theorem c_m_spec_l19Fits (d0 : DNet) (d1 : List Bool) (r : Bool) (hm : m_spec_l19Fits d0 d1 = some r) (v0 : Value) (v1 : Value) (w : World) (hv0 : Pt netRd w v0 d0) (hv1 : Sl boolRd 1 w v1 d1) :
    Calls Try.prog 88 #[v0, v1] w fun e w' => e = .returned (.bool r) ∧ Below w.heap.size w w' := by
  obtain ⟨ba0, oa0, csa0, rfl, hba0, hRa0, hca0⟩ := hv0
  have hSa0 := hRa0
  obtain ⟨A1, n1, c1, rfl, ⟨h1, r1⟩⟩ := hRa0
  have e1 := h1.len; subst e1
  have q1 := len_le r1
  obtain ⟨Aa1, na1, ca1, rfl, ha1, ra1⟩ := hv1
  have ea1 := ha1.len; subst ea1
  have qa1 := len_le ra1
  have T := Below.refl w.heap.size w
  unfold m_spec_l19Fits at hm
  refine enter 36 Try.func88 rfl rfl rfl ?_
  intro f hf
  have s0 : f 0 = .pointer (some ⟨ba0, oa0, none⟩) := hf 0 _ rfl
  have s1 : f 1 = .slice Aa1 d1.length ca1 := hf 1 _ rfl
  refine wp_seq ?_
  refine wp_rs rfl ?_
  refine RQ.y rfl (Y.assign (v := .bool false) rfl) ?_
  refine RQ.nil ?_
  refine then_n ?_
  refine wp_seq ?_
  refine wp_seq ?_
  refine wp_rs rfl ?_
  refine RQ.y rfl (Y.move (v := .slice Aa1 d1.length ca1) s1) ?_
  refine RQ.y rfl (Y.len (by kernel_rfl) rfl) ?_
  refine RQ.y rfl (Y.move (v := .pointer (some ⟨ba0, oa0, none⟩)) s0) ?_
  refine RQ.y rfl (Y.nilCheck rfl) ?_
  refine RQ.y rfl (Y.fieldAddr (off := 0) rfl (by kernel_rfl)) ?_
  refine RQ.y rfl (Y.load (v := .slice A1 d0.agents.length c1) rfl (by kernel_rfl) (eqC (cellT T (hca0 0 _ rfl)))) ?_
  refine RQ.y rfl (Y.len (by kernel_rfl) rfl) ?_
  refine RQ.y rfl (Y.binI (v := .bool ((d1.length : Int) != (d0.agents.length : Int))) rfl rfl rfl) ?_
  refine RQ.nil ?_
  refine then_n ?_
  rcases bcases ((d1.length : Int) != (d0.agents.length : Int)) with c2 | c2
  · replace hm := cF c2 hm
    refine cond_f rfl (vb rfl c2) ?_
    refine wp_skip ?_
    refine then_n ?_
    refine wp_seq ?_
    refine wp_seq ?_
    refine wp_rs rfl ?_
    refine RQ.y rfl (Y.assign (v := .int .i64 0) rfl) ?_
    refine RQ.nil ?_
    refine then_n ?_
    refine wp_block ?_
    obtain ⟨K1, hK1, hm⟩ : ∃ K, K = m_spec_l19Fits_A1 ∧ m_spec_l19Fits_L1 d0 d1 K (d1.length + 1) 0 = some r := ⟨_, rfl, hm⟩
    refine wp_loopX (fun g f w' => ∃ (i4 : Int), f 0 = .pointer (some ⟨ba0, oa0, none⟩) ∧ f 1 = .slice Aa1 d1.length ca1 ∧ f 5 = .int .i64 i4 ∧ 0 ≤ i4 ∧ Below w.heap.size w w' ∧ m_spec_l19Fits_L1 d0 d1 K1 g i4 = some r) 0 (fun f w' => Below w.heap.size w w' ∧ m_spec_l19Fits_A1  = some r) (d1.length + 1) ⟨0, s0, s1, rfl, (by omega), T, hm⟩ ?_ ?_
    · rintro f w3 ⟨T, hm⟩
      unfold m_spec_l19Fits_A1 at hm
      refine blk_hit (then_n ?_)
      refine wp_seq ?_
      refine wp_rs rfl ?_
      refine RQ.y rfl (Y.assign (v := .bool true) rfl) ?_
      refine RQ.nil ?_
      refine then_n ?_
      refine wp_ret ?_
      obtain rfl := Option.some.inj hm
      exact (ret1 rfl rfl rfl ⟨rfl, T⟩)
    · rintro g f w5 ⟨i4, s0_1, s1_1, s5_1, nn5_1, T, hm⟩
      rcases g with _ | g
      · simp only [m_spec_l19Fits_L1] at hm; cases hm
      obtain ⟨rec1, hrec1, hm⟩ : ∃ z, z = m_spec_l19Fits_L1 d0 d1 K1 g ∧ m_spec_l19Fits_B1 d0 d1 z K1 i4 = some r := ⟨_, rfl, hm⟩
      unfold m_spec_l19Fits_B1 at hm
      refine wp_seq ?_
      refine wp_seq ?_
      refine wp_rs rfl ?_
      refine RQ.y rfl (Y.move (v := .int .i64 i4) s5_1) ?_
      refine RQ.y rfl (Y.move (v := .slice Aa1 d1.length ca1) s1_1) ?_
      refine RQ.y rfl (Y.len (by kernel_rfl) rfl) ?_
      refine RQ.y rfl (Y.binI (v := .bool (decide (i4 < (d1.length : Int)))) rfl rfl rfl) ?_
      refine RQ.nil ?_
      refine then_n ?_
      rcases bcases (decide (i4 < (d1.length : Int))) with c6 | c6
      · replace hm := cF c6 hm
        have pc6 := of_decide_eq_false c6
        refine cond_f rfl (vb rfl c6) ?_
        refine wp_exit ?_
        exact (then_x (then_x (hit_x ⟨_, rfl, ⟨T, (by rw [hK1] at hm; exact hm)⟩⟩)))
      · replace hm := cT c6 hm
        have pc6 := of_decide_eq_true c6
        refine cond_t rfl (vb rfl c6) ?_
        refine wp_skip ?_
        refine then_n ?_
        refine wp_seq ?_
        refine wp_block ?_
        refine wp_seq ?_
        refine wp_rb rfl ?_
        refine RQ.y rfl (Y.move (v := .slice Aa1 d1.length ca1) s1_1) ?_
        refine RQ.y rfl (Y.move (v := .int .i64 i4) s5_1) ?_
        obtain ⟨x7, hx10, hm⟩ := bnd hm
        obtain ⟨k8, hk11, hl12, hx10⟩ := getI_some hx10
        obtain ⟨b14, o15, rfl, hbb14⟩ := ha1.addr (by omega)
        obtain ⟨cs9, hRcs9, hc13⟩ := ha1.el hx10
        have hScs9 := hRcs9
        obtain rfl := hRcs9
        refine RQ.y rfl (Y.indexAddr (m := k8) (sz := 1) rfl rfl hk11 hl12 (by kernel_rfl)) ?_
        refine RQ.y rfl (Y.load (v := .bool x7) rfl (by kernel_rfl) (beC (cellT T (hc13 0 _ rfl)))) ?_
        refine RQ.y rfl (Y.move (v := .bool x7) rfl) ?_
        rcases bcases x7 with c16 | c16
        · replace hm := cF c16 hm
          refine RQ.skip (wantN (dj := 24) rfl (vb rfl c16) rfl) ?_
          refine RQ.skip (wantN (dj := 24) rfl (vb rfl c16) rfl) ?_
          refine RQ.skip (wantN (dj := 24) rfl (vb rfl c16) rfl) ?_
          refine RQ.skip (wantN (dj := 24) rfl (vb rfl c16) rfl) ?_
          refine RQ.skip (wantN (dj := 24) rfl (vb rfl c16) rfl) ?_
          refine RQ.skip (wantN (dj := 24) rfl (vb rfl c16) rfl) ?_
          refine RQ.skip (wantN (dj := 24) rfl (vb rfl c16) rfl) ?_
          refine RQ.skip (wantN (dj := 24) rfl (vb rfl c16) rfl) ?_
          refine RQ.skip (wantN (dj := 24) rfl (vb rfl c16) rfl) ?_
          refine RQ.skip (wantN (dj := 24) rfl (vb rfl c16) rfl) ?_
          refine RQ.y rfl (Y.pick (b := false) (v := .bool false) (vb rfl c16) rfl) ?_
          refine RQ.nil ?_
          intro w17 hb18
          have szw17 := hb18.size
          have T := Tt T hb18
          refine then_n ?_
          refine cond_f rfl rfl ?_
          refine wp_skip ?_
          refine blk_n (then_n ?_)
          refine wp_rs rfl ?_
          refine RQ.y rfl (Y.move (v := .int .i64 i4) s5_1) ?_
          refine RQ.y rfl (Y.binI rfl rfl (binI_add (m := i4) (by omega))) ?_
          refine RQ.y rfl (Y.assign (v := .int .i64 (i4 + 1)) rfl) ?_
          refine RQ.nil ?_
          exact (then_n ⟨g, _, Nat.lt_succ_self _, rfl, ⟨(i4 + 1), s0_1, s1_1, rfl, (by omega), T, (by rw [← hrec1]; exact hm)⟩⟩)
        · replace hm := cT c16 hm
          refine RQ.y (wantT (dj := 24) rfl (vb rfl c16)) (Y.move (v := .pointer (some ⟨ba0, oa0, none⟩)) s0_1) ?_
          refine RQ.y (wantT (dj := 24) rfl (vb rfl c16)) (Y.nilCheck rfl) ?_
          refine RQ.y (wantT (dj := 24) rfl (vb rfl c16)) (Y.fieldAddr (off := 0) rfl (by kernel_rfl)) ?_
          refine RQ.y (wantT (dj := 24) rfl (vb rfl c16)) (Y.load (v := .slice A1 d0.agents.length c1) rfl (by kernel_rfl) (beC (cellT T (hca0 0 _ rfl)))) ?_
          refine RQ.y (wantT (dj := 24) rfl (vb rfl c16)) (Y.move (v := .int .i64 i4) s5_1) ?_
          obtain ⟨x19, hx22, hm⟩ := bnd hm
          obtain ⟨k20, hk23, hl24, hx22⟩ := getI_some hx22
          obtain ⟨b26, o27, rfl, hbb26⟩ := h1.addr (by omega)
          obtain ⟨cs21, hRcs21, hc25⟩ := h1.el hx22
          have hScs21 := hRcs21
          obtain ⟨A28, n28, c28, A29, n29, c29, rfl, ⟨h28, r28⟩, ⟨h29, r29⟩⟩ := hRcs21
          have e28 := h28.len; subst e28
          have q28 := len_le r28
          have e29 := h29.len; subst e29
          have q29 := len_le r29
          refine RQ.y (wantT (dj := 24) rfl (vb rfl c16)) (Y.indexAddr (m := k20) (sz := 5) rfl rfl hk23 hl24 (by kernel_rfl)) ?_
          refine RQ.y (wantT (dj := 24) rfl (vb rfl c16)) (Y.fieldAddr (off := 0) rfl (by kernel_rfl)) ?_
          refine RQ.y (wantT (dj := 24) rfl (vb rfl c16)) (Y.load (v := .int .i64 x19.kind) rfl (by kernel_rfl) (beC (cellT T (hc25 0 _ rfl)))) ?_
          refine RQ.call (wantT (dj := 24) rfl (vb rfl c16)) (am1 rfl) (by kernel_rfl) (v := .bool (turns x19.kind)) (bel (K := fun _ => True) fun w' hb' => (callB (spec_l19Turns x19.kind w'))) ?_
          refine RQ.y (wantT (dj := 24) rfl (vb rfl c16)) (Y.not (b' := (!(turns x19.kind))) rfl rfl) ?_
          refine RQ.y rfl (Y.pick (b := true) (v := .bool (!(turns x19.kind))) (vb rfl c16) rfl) ?_
          refine RQ.nil ?_
          intro w30 hb31
          have szw30 := hb31.size
          have T := Tt T hb31
          refine then_n ?_
          rcases bcases (turns x19.kind) with c32 | c32
          · replace hm := cF c32 hm
            refine cond_t rfl (vbn rfl c32 rfl) ?_
            refine wp_seq ?_
            refine wp_rs rfl ?_
            refine RQ.y rfl (Y.assign (v := .bool false) rfl) ?_
            refine RQ.nil ?_
            refine then_n ?_
            refine wp_ret ?_
            obtain rfl := Option.some.inj hm
            exact (blk_r (then_r (then_r (hit_r (blk_r (then_r (ret1 rfl rfl rfl ⟨rfl, T⟩)))))))
          · replace hm := cT c32 hm
            refine cond_f rfl (vbn rfl c32 rfl) ?_
            refine wp_skip ?_
            refine blk_n (then_n ?_)
            refine wp_rs rfl ?_
            refine RQ.y rfl (Y.move (v := .int .i64 i4) s5_1) ?_
            refine RQ.y rfl (Y.binI rfl rfl (binI_add (m := i4) (by omega))) ?_
            refine RQ.y rfl (Y.assign (v := .int .i64 (i4 + 1)) rfl) ?_
            refine RQ.nil ?_
            exact (then_n ⟨g, _, Nat.lt_succ_self _, rfl, ⟨(i4 + 1), s0_1, s1_1, rfl, (by omega), T, (by rw [← hrec1]; exact hm)⟩⟩)
  · replace hm := cT c2 hm
    refine cond_t rfl (vb rfl c2) ?_
    refine wp_seq ?_
    refine wp_rs rfl ?_
    refine RQ.y rfl (Y.assign (v := .bool false) rfl) ?_
    refine RQ.nil ?_
    refine then_n ?_
    refine wp_ret ?_
    obtain rfl := Option.some.inj hm
    exact (then_r (ret1 rfl rfl rfl ⟨rfl, T⟩))

def m_spec_l19At (d0 : DNet) (d1 : List Bool) (d2 : DPort) : Option Int :=
  ((getI d0.agents d2.agent).bind fun x6 => ((getI d1 d2.agent).bind fun x17 => some (roleSpec x6.kind d2.slot x17)))
set_option maxHeartbeats 2000000 in
theorem c_m_spec_l19At (d0 : DNet) (d1 : List Bool) (d2 : DPort) (r : Int) (hm : m_spec_l19At d0 d1 d2 = some r) (v0 : Value) (v1 : Value) (w : World) (hv0 : Pt netRd w v0 d0) (hv1 : Sl boolRd 1 w v1 d1) :
    Calls Try.prog 139 #[v0, v1, .agg #[.int .i64 d2.agent, .int .i64 d2.slot]] w fun e w' => e = .returned (.int .i64 r) ∧ Below w.heap.size w w' := by
  obtain ⟨ba0, oa0, csa0, rfl, hba0, hRa0, hca0⟩ := hv0
  have hSa0 := hRa0
  obtain ⟨A1, n1, c1, rfl, ⟨h1, r1⟩⟩ := hRa0
  have e1 := h1.len; subst e1
  have q1 := len_le r1
  obtain ⟨Aa1, na1, ca1, rfl, ha1, ra1⟩ := hv1
  have ea1 := ha1.len; subst ea1
  have qa1 := len_le ra1
  have T := Below.refl w.heap.size w
  unfold m_spec_l19At at hm
  refine enter 24 Try.func139 rfl rfl rfl ?_
  intro f hf
  have s0 : f 0 = .pointer (some ⟨ba0, oa0, none⟩) := hf 0 _ rfl
  have s1 : f 1 = .slice Aa1 d1.length ca1 := hf 1 _ rfl
  have s2 : f 2 = .agg #[.int .i64 d2.agent, .int .i64 d2.slot] := hf 2 _ rfl
  refine wp_seq ?_
  refine wp_rl rfl ?_
  refine RL.box rfl s2 (fun w2 B3 hb4 szw2 => ?_)
  replace B3 : Blk w2 w.heap.size 53 #[.int .i64 d2.agent, .int .i64 d2.slot] := B3
  have GB3 : w.heap.size ≤ w.heap.size := T.size
  have T := Tt T hb4
  refine RL.y rfl (Y.assign (v := .int .i64 0) rfl) ?_
  refine RL.nil ?_
  refine then_n ?_
  refine wp_seq ?_
  refine wp_rbd (by kernel_rfl) (by kernel_rfl) ?_
  refine RQ.y rfl (Y.move (v := .pointer (some ⟨ba0, oa0, none⟩)) s0) ?_
  refine RQ.y rfl (Y.nilCheck rfl) ?_
  refine RQ.y rfl (Y.fieldAddr (off := 0) rfl (by kernel_rfl)) ?_
  refine RQ.y rfl (Y.load (v := .slice A1 d0.agents.length c1) rfl (by kernel_rfl) (beC (cellT T (hca0 0 _ rfl)))) ?_
  refine RQ.y rfl (Y.fieldAddr (off := 0) rfl (by kernel_rfl)) ?_
  refine RQ.y rfl (Y.load (v := .int .i64 d2.agent) rfl (by kernel_rfl) (beC (blkCell B3 (i := 0) rfl))) ?_
  obtain ⟨x6, hx9, hm⟩ := bnd hm
  obtain ⟨k7, hk10, hl11, hx9⟩ := getI_some hx9
  obtain ⟨b13, o14, rfl, hbb13⟩ := h1.addr (by omega)
  obtain ⟨cs8, hRcs8, hc12⟩ := h1.el hx9
  have hScs8 := hRcs8
  obtain ⟨A15, n15, c15, A16, n16, c16, rfl, ⟨h15, r15⟩, ⟨h16, r16⟩⟩ := hRcs8
  have e15 := h15.len; subst e15
  have q15 := len_le r15
  have e16 := h16.len; subst e16
  have q16 := len_le r16
  refine RQ.y rfl (Y.indexAddr (m := k7) (sz := 5) rfl rfl hk10 hl11 (by kernel_rfl)) ?_
  refine RQ.y rfl (Y.fieldAddr (off := 0) rfl (by kernel_rfl)) ?_
  refine RQ.y rfl (Y.load (v := .int .i64 x6.kind) rfl (by kernel_rfl) (beC (cellT T (hc12 0 _ rfl)))) ?_
  refine RQ.y rfl (Y.fieldAddr (off := 1) rfl (by kernel_rfl)) ?_
  refine RQ.y rfl (Y.load (v := .int .i64 d2.slot) rfl (by kernel_rfl) (beC (blkCell B3 (i := 1) rfl))) ?_
  refine RQ.y rfl (Y.move (v := .slice Aa1 d1.length ca1) s1) ?_
  refine RQ.y rfl (Y.fieldAddr (off := 0) rfl (by kernel_rfl)) ?_
  refine RQ.y rfl (Y.load (v := .int .i64 d2.agent) rfl (by kernel_rfl) (beC (blkCell B3 (i := 0) rfl))) ?_
  obtain ⟨x17, hx20, hm⟩ := bnd hm
  obtain ⟨k18, hk21, hl22, hx20⟩ := getI_some hx20
  obtain ⟨b24, o25, rfl, hbb24⟩ := ha1.addr (by omega)
  obtain ⟨cs19, hRcs19, hc23⟩ := ha1.el hx20
  have hScs19 := hRcs19
  obtain rfl := hRcs19
  refine RQ.y rfl (Y.indexAddr (m := k18) (sz := 1) rfl rfl hk21 hl22 (by kernel_rfl)) ?_
  refine RQ.y rfl (Y.load (v := .bool x17) rfl (by kernel_rfl) (beC (cellT T (hc23 0 _ rfl)))) ?_
  refine RQ.call rfl (am3 rfl rfl rfl) (by kernel_rfl) (v := .int .i64 (roleSpec x6.kind d2.slot x17)) (bel (K := fun _ => True) fun w' hb' => (callB (spec_l19Role x6.kind d2.slot x17 w'))) ?_
  refine RQ.y rfl (Y.assign (v := .int .i64 (roleSpec x6.kind d2.slot x17)) rfl) ?_
  refine RQ.nil ?_
  intro w26 hb27
  have szw26 := hb27.size
  have T := Tt T hb27
  refine then_n ?_
  refine wp_ret ?_
  obtain rfl := Option.some.inj hm
  exact (ret1 rfl rfl rfl ⟨rfl, T⟩)

def m_spec_l13Port (d0 : Int) (d1 : Int) : Option DPort :=
  some (⟨d0, d1⟩ : DPort)
set_option maxHeartbeats 2000000 in
theorem c_m_spec_l13Port (d0 : Int) (d1 : Int) (r : DPort) (hm : m_spec_l13Port d0 d1 = some r)  (w : World)  :
    Calls Try.prog 124 #[.int .i64 d0, .int .i64 d1] w fun e w' => e = .returned (.agg #[.int .i64 r.agent, .int .i64 r.slot]) ∧ Below w.heap.size w w' := by
  have T := Below.refl w.heap.size w
  unfold m_spec_l13Port at hm
  refine enter 8 Try.func124 rfl rfl rfl ?_
  intro f hf
  have s0 : f 0 = .int .i64 d0 := hf 0 _ rfl
  have s1 : f 1 = .int .i64 d1 := hf 1 _ rfl
  refine wp_seq ?_
  refine wp_rl rfl ?_
  refine RL.alloc (z := .agg #[.int .i64 0, .int .i64 0]) rfl (by kernel_rfl) (fun w1 B2 hb3 szw1 => ?_)
  replace B2 : Blk w1 w.heap.size 53 #[.int .i64 0, .int .i64 0] := B2
  have GB2 : w.heap.size ≤ w.heap.size := T.size
  have T := Tt T hb3
  refine RL.nil ?_
  refine then_n ?_
  refine wp_seq ?_
  refine wp_rl rfl ?_
  refine RL.y rfl (Y.move (v := .int .i64 d0) s0) ?_
  refine RL.y rfl (Y.move (v := .int .i64 d1) s1) ?_
  refine RL.y rfl (Y.build2 (cells := #[.int .i64 d0, .int .i64 d1]) rfl rfl (by kernel_rfl) (by kernel_rfl)) ?_
  refine RL.store (v := .agg #[.int .i64 d0, .int .i64 d1]) (cs' := #[.int .i64 d0, .int .i64 d1]) rfl rfl rfl B2 (by kernel_rfl) (by rfl) (by rfl) (by rfl) (fun w5 B6 ho7 => ?_)
  have szw5 := ho7.size
  have T := T.trans (ho7.below (by first | (simp; done) | (simp; omega)))
  refine RL.nil ?_
  refine then_n ?_
  refine wp_ret ?_
  obtain rfl := Option.some.inj hm
  exact (retc (cs := [.int .i64 d0, .int .i64 d1]) rfl rfl rfl (by kernel_rfl) (blkCells B6) ⟨rfl, T⟩)

def m_impl_Net_fits_A1 : Option Bool :=
  some true
def m_impl_Net_fits_B1 (d0 : DNet) (d1 : List Bool) (rec1 : Int → Option Bool) (K1 : Option Bool) (i4 : Int) : Option Bool :=
  (bif (decide (i4 < (d1.length : Int))) then ((getI d1 i4).bind fun x7 => (bif x7 then ((getI d0.agents i4).bind fun x19 => (bif (turns x19.kind) then (rec1 (i4 + 1)) else some false)) else (rec1 (i4 + 1)))) else (K1))
def m_impl_Net_fits_L1 (d0 : DNet) (d1 : List Bool) (K1 : Option Bool) : Nat → Int → Option Bool
  | 0, _ => none
  | g + 1, i4 => m_impl_Net_fits_B1 d0 d1 (m_impl_Net_fits_L1 d0 d1 K1 g) K1 i4
def m_impl_Net_fits (d0 : DNet) (d1 : List Bool) : Option Bool :=
  (bif ((d1.length : Int) != (d0.agents.length : Int)) then some false else (m_impl_Net_fits_L1 d0 d1 m_impl_Net_fits_A1 (d1.length + 1) 0))
set_option maxHeartbeats 2000000 in
theorem c_m_impl_Net_fits (d0 : DNet) (d1 : List Bool) (r : Bool) (hm : m_impl_Net_fits d0 d1 = some r) (v0 : Value) (v1 : Value) (w : World) (hv0 : Pt netRd w v0 d0) (hv1 : Sl boolRd 1 w v1 d1) :
    Calls Try.prog 91 #[v0, v1] w fun e w' => e = .returned (.bool r) ∧ Below w.heap.size w w' := by
  obtain ⟨ba0, oa0, csa0, rfl, hba0, hRa0, hca0⟩ := hv0
  have hSa0 := hRa0
  obtain ⟨A1, n1, c1, rfl, ⟨h1, r1⟩⟩ := hRa0
  have e1 := h1.len; subst e1
  have q1 := len_le r1
  obtain ⟨Aa1, na1, ca1, rfl, ha1, ra1⟩ := hv1
  have ea1 := ha1.len; subst ea1
  have qa1 := len_le ra1
  have T := Below.refl w.heap.size w
  unfold m_impl_Net_fits at hm
  refine enter 36 Try.func91 rfl rfl rfl ?_
  intro f hf
  have s0 : f 0 = .pointer (some ⟨ba0, oa0, none⟩) := hf 0 _ rfl
  have s1 : f 1 = .slice Aa1 d1.length ca1 := hf 1 _ rfl
  refine wp_seq ?_
  refine wp_rs rfl ?_
  refine RQ.y rfl (Y.assign (v := .bool false) rfl) ?_
  refine RQ.nil ?_
  refine then_n ?_
  refine wp_seq ?_
  refine wp_seq ?_
  refine wp_rs rfl ?_
  refine RQ.y rfl (Y.move (v := .slice Aa1 d1.length ca1) s1) ?_
  refine RQ.y rfl (Y.len (by kernel_rfl) rfl) ?_
  refine RQ.y rfl (Y.move (v := .pointer (some ⟨ba0, oa0, none⟩)) s0) ?_
  refine RQ.y rfl (Y.nilCheck rfl) ?_
  refine RQ.y rfl (Y.fieldAddr (off := 0) rfl (by kernel_rfl)) ?_
  refine RQ.y rfl (Y.load (v := .slice A1 d0.agents.length c1) rfl (by kernel_rfl) (eqC (cellT T (hca0 0 _ rfl)))) ?_
  refine RQ.y rfl (Y.len (by kernel_rfl) rfl) ?_
  refine RQ.y rfl (Y.binI (v := .bool ((d1.length : Int) != (d0.agents.length : Int))) rfl rfl rfl) ?_
  refine RQ.nil ?_
  refine then_n ?_
  rcases bcases ((d1.length : Int) != (d0.agents.length : Int)) with c2 | c2
  · replace hm := cF c2 hm
    refine cond_f rfl (vb rfl c2) ?_
    refine wp_skip ?_
    refine then_n ?_
    refine wp_seq ?_
    refine wp_seq ?_
    refine wp_rs rfl ?_
    refine RQ.y rfl (Y.move (v := .slice Aa1 d1.length ca1) s1) ?_
    refine RQ.y rfl (Y.len (by kernel_rfl) rfl) ?_
    refine RQ.y rfl (Y.move (v := .int .i64 0) rfl) ?_
    refine RQ.nil ?_
    refine then_n ?_
    refine wp_block ?_
    obtain ⟨K1, hK1, hm⟩ : ∃ K, K = m_impl_Net_fits_A1 ∧ m_impl_Net_fits_L1 d0 d1 K (d1.length + 1) 0 = some r := ⟨_, rfl, hm⟩
    refine wp_loopX (fun g f w' => ∃ (i4 : Int), f 0 = .pointer (some ⟨ba0, oa0, none⟩) ∧ f 15 = .slice Aa1 d1.length ca1 ∧ f 16 = .int .i64 (d1.length : Int) ∧ f 17 = .int .i64 i4 ∧ 0 ≤ i4 ∧ Below w.heap.size w w' ∧ m_impl_Net_fits_L1 d0 d1 K1 g i4 = some r) 0 (fun f w' => Below w.heap.size w w' ∧ m_impl_Net_fits_A1  = some r) (d1.length + 1) ⟨0, s0, rfl, rfl, rfl, (by omega), T, hm⟩ ?_ ?_
    · rintro f w3 ⟨T, hm⟩
      unfold m_impl_Net_fits_A1 at hm
      refine blk_hit (then_n ?_)
      refine wp_seq ?_
      refine wp_rs rfl ?_
      refine RQ.y rfl (Y.assign (v := .bool true) rfl) ?_
      refine RQ.nil ?_
      refine then_n ?_
      refine wp_ret ?_
      obtain rfl := Option.some.inj hm
      exact (ret1 rfl rfl rfl ⟨rfl, T⟩)
    · rintro g f w5 ⟨i4, s0_1, s15_1, s16_1, s17_1, nn17_1, T, hm⟩
      rcases g with _ | g
      · simp only [m_impl_Net_fits_L1] at hm; cases hm
      obtain ⟨rec1, hrec1, hm⟩ : ∃ z, z = m_impl_Net_fits_L1 d0 d1 K1 g ∧ m_impl_Net_fits_B1 d0 d1 z K1 i4 = some r := ⟨_, rfl, hm⟩
      unfold m_impl_Net_fits_B1 at hm
      refine wp_seq ?_
      refine wp_rs rfl ?_
      refine RQ.y rfl (Y.binI (v := .bool (decide (i4 < (d1.length : Int)))) s17_1 s16_1 rfl) ?_
      refine RQ.nil ?_
      refine then_n ?_
      refine wp_seq ?_
      rcases bcases (decide (i4 < (d1.length : Int))) with c6 | c6
      · replace hm := cF c6 hm
        have pc6 := of_decide_eq_false c6
        refine cond_f rfl (vb rfl c6) ?_
        refine wp_exit ?_
        exact (then_x (then_x (hit_x ⟨_, rfl, ⟨T, (by rw [hK1] at hm; exact hm)⟩⟩)))
      · replace hm := cT c6 hm
        have pc6 := of_decide_eq_true c6
        refine cond_t rfl (vb rfl c6) ?_
        refine wp_skip ?_
        refine then_n ?_
        refine wp_seq ?_
        refine wp_block ?_
        refine wp_seq ?_
        refine wp_rs rfl ?_
        refine RQ.y rfl (Y.move (v := .int .i64 i4) s17_1) ?_
        obtain ⟨x7, hx10, hm⟩ := bnd hm
        obtain ⟨k8, hk11, hl12, hx10⟩ := getI_some hx10
        obtain ⟨b14, o15, rfl, hbb14⟩ := ha1.addr (by omega)
        obtain ⟨cs9, hRcs9, hc13⟩ := ha1.el hx10
        have hScs9 := hRcs9
        obtain rfl := hRcs9
        refine RQ.y rfl (Y.indexAddr (m := k8) (sz := 1) s15_1 s17_1 hk11 hl12 (by kernel_rfl)) ?_
        refine RQ.y rfl (Y.load (v := .bool x7) rfl (by kernel_rfl) (eqC (cellT T (hc13 0 _ rfl)))) ?_
        refine RQ.y rfl (Y.assign (v := .int .i64 i4) rfl) ?_
        refine RQ.y rfl (Y.assign (v := .bool x7) rfl) ?_
        refine RQ.nil ?_
        refine then_n ?_
        refine wp_seq ?_
        refine wp_rb rfl ?_
        refine RQ.y rfl (Y.move (v := .bool x7) rfl) ?_
        refine RQ.y rfl (Y.move (v := .bool x7) rfl) ?_
        rcases bcases x7 with c16 | c16
        · replace hm := cF c16 hm
          refine RQ.skip (wantN (dj := 23) rfl (vb rfl c16) rfl) ?_
          refine RQ.skip (wantN (dj := 23) rfl (vb rfl c16) rfl) ?_
          refine RQ.skip (wantN (dj := 23) rfl (vb rfl c16) rfl) ?_
          refine RQ.skip (wantN (dj := 23) rfl (vb rfl c16) rfl) ?_
          refine RQ.skip (wantN (dj := 23) rfl (vb rfl c16) rfl) ?_
          refine RQ.skip (wantN (dj := 23) rfl (vb rfl c16) rfl) ?_
          refine RQ.skip (wantN (dj := 23) rfl (vb rfl c16) rfl) ?_
          refine RQ.skip (wantN (dj := 23) rfl (vb rfl c16) rfl) ?_
          refine RQ.skip (wantN (dj := 23) rfl (vb rfl c16) rfl) ?_
          refine RQ.skip (wantN (dj := 23) rfl (vb rfl c16) rfl) ?_
          refine RQ.y rfl (Y.pick (b := false) (v := .bool false) (vb rfl c16) rfl) ?_
          refine RQ.nil ?_
          intro w17 hb18
          have szw17 := hb18.size
          have T := Tt T hb18
          refine then_n ?_
          refine cond_f rfl rfl ?_
          refine wp_skip ?_
          refine blk_n (then_n ?_)
          refine wp_rs rfl ?_
          refine RQ.y rfl (Y.binI s17_1 rfl (binI_add (m := i4) (by omega))) ?_
          refine RQ.y rfl (Y.move (v := .int .i64 (i4 + 1)) rfl) ?_
          refine RQ.nil ?_
          exact (then_n ⟨g, _, Nat.lt_succ_self _, rfl, ⟨(i4 + 1), s0_1, s15_1, s16_1, rfl, (by omega), T, (by rw [← hrec1]; exact hm)⟩⟩)
        · replace hm := cT c16 hm
          refine RQ.y (wantT (dj := 23) rfl (vb rfl c16)) (Y.move (v := .pointer (some ⟨ba0, oa0, none⟩)) s0_1) ?_
          refine RQ.y (wantT (dj := 23) rfl (vb rfl c16)) (Y.nilCheck rfl) ?_
          refine RQ.y (wantT (dj := 23) rfl (vb rfl c16)) (Y.fieldAddr (off := 0) rfl (by kernel_rfl)) ?_
          refine RQ.y (wantT (dj := 23) rfl (vb rfl c16)) (Y.load (v := .slice A1 d0.agents.length c1) rfl (by kernel_rfl) (beC (cellT T (hca0 0 _ rfl)))) ?_
          refine RQ.y (wantT (dj := 23) rfl (vb rfl c16)) (Y.move (v := .int .i64 i4) rfl) ?_
          obtain ⟨x19, hx22, hm⟩ := bnd hm
          obtain ⟨k20, hk23, hl24, hx22⟩ := getI_some hx22
          obtain ⟨b26, o27, rfl, hbb26⟩ := h1.addr (by omega)
          obtain ⟨cs21, hRcs21, hc25⟩ := h1.el hx22
          have hScs21 := hRcs21
          obtain ⟨A28, n28, c28, A29, n29, c29, rfl, ⟨h28, r28⟩, ⟨h29, r29⟩⟩ := hRcs21
          have e28 := h28.len; subst e28
          have q28 := len_le r28
          have e29 := h29.len; subst e29
          have q29 := len_le r29
          refine RQ.y (wantT (dj := 23) rfl (vb rfl c16)) (Y.indexAddr (m := k20) (sz := 5) rfl rfl hk23 hl24 (by kernel_rfl)) ?_
          refine RQ.y (wantT (dj := 23) rfl (vb rfl c16)) (Y.fieldAddr (off := 0) rfl (by kernel_rfl)) ?_
          refine RQ.y (wantT (dj := 23) rfl (vb rfl c16)) (Y.load (v := .int .i64 x19.kind) rfl (by kernel_rfl) (beC (cellT T (hc25 0 _ rfl)))) ?_
          refine RQ.call (wantT (dj := 23) rfl (vb rfl c16)) (am1 rfl) (by kernel_rfl) (v := .bool (turns x19.kind)) (bel (K := fun _ => True) fun w' hb' => (callB (impl_canReverse x19.kind w'))) ?_
          refine RQ.y (wantT (dj := 23) rfl (vb rfl c16)) (Y.not (b' := (!(turns x19.kind))) rfl rfl) ?_
          refine RQ.y rfl (Y.pick (b := true) (v := .bool (!(turns x19.kind))) (vb rfl c16) rfl) ?_
          refine RQ.nil ?_
          intro w30 hb31
          have szw30 := hb31.size
          have T := Tt T hb31
          refine then_n ?_
          rcases bcases (turns x19.kind) with c32 | c32
          · replace hm := cF c32 hm
            refine cond_t rfl (vbn rfl c32 rfl) ?_
            refine wp_seq ?_
            refine wp_rs rfl ?_
            refine RQ.y rfl (Y.assign (v := .bool false) rfl) ?_
            refine RQ.nil ?_
            refine then_n ?_
            refine wp_ret ?_
            obtain rfl := Option.some.inj hm
            exact (blk_r (then_r (then_r (hit_r (blk_r (then_r (ret1 rfl rfl rfl ⟨rfl, T⟩)))))))
          · replace hm := cT c32 hm
            refine cond_f rfl (vbn rfl c32 rfl) ?_
            refine wp_skip ?_
            refine blk_n (then_n ?_)
            refine wp_rs rfl ?_
            refine RQ.y rfl (Y.binI s17_1 rfl (binI_add (m := i4) (by omega))) ?_
            refine RQ.y rfl (Y.move (v := .int .i64 (i4 + 1)) rfl) ?_
            refine RQ.nil ?_
            exact (then_n ⟨g, _, Nat.lt_succ_self _, rfl, ⟨(i4 + 1), s0_1, s15_1, s16_1, rfl, (by omega), T, (by rw [← hrec1]; exact hm)⟩⟩)
  · replace hm := cT c2 hm
    refine cond_t rfl (vb rfl c2) ?_
    refine wp_seq ?_
    refine wp_rs rfl ?_
    refine RQ.y rfl (Y.assign (v := .bool false) rfl) ?_
    refine RQ.nil ?_
    refine then_n ?_
    refine wp_ret ?_
    obtain rfl := Option.some.inj hm
    exact (then_r (ret1 rfl rfl rfl ⟨rfl, T⟩))

def m_impl_Net_role (d0 : DNet) (d1 : DPort) (d2 : List Bool) : Option Int :=
  ((getI d0.agents d1.agent).bind fun x6 => ((getI d2 d1.agent).bind fun x17 => some (portRole x6.kind d1.slot x17)))
set_option maxHeartbeats 2000000 in
theorem c_m_impl_Net_role (d0 : DNet) (d1 : DPort) (d2 : List Bool) (r : Int) (hm : m_impl_Net_role d0 d1 d2 = some r) (v0 : Value) (v2 : Value) (w : World) (hv0 : Pt netRd w v0 d0) (hv2 : Sl boolRd 1 w v2 d2) :
    Calls Try.prog 142 #[v0, .agg #[.int .i64 d1.agent, .int .i64 d1.slot], v2] w fun e w' => e = .returned (.int .i64 r) ∧ Below w.heap.size w w' := by
  obtain ⟨ba0, oa0, csa0, rfl, hba0, hRa0, hca0⟩ := hv0
  have hSa0 := hRa0
  obtain ⟨A1, n1, c1, rfl, ⟨h1, r1⟩⟩ := hRa0
  have e1 := h1.len; subst e1
  have q1 := len_le r1
  obtain ⟨Aa2, na2, ca2, rfl, ha2, ra2⟩ := hv2
  have ea2 := ha2.len; subst ea2
  have qa2 := len_le ra2
  have T := Below.refl w.heap.size w
  unfold m_impl_Net_role at hm
  refine enter 24 Try.func142 rfl rfl rfl ?_
  intro f hf
  have s0 : f 0 = .pointer (some ⟨ba0, oa0, none⟩) := hf 0 _ rfl
  have s1 : f 1 = .agg #[.int .i64 d1.agent, .int .i64 d1.slot] := hf 1 _ rfl
  have s2 : f 2 = .slice Aa2 d2.length ca2 := hf 2 _ rfl
  refine wp_seq ?_
  refine wp_rl rfl ?_
  refine RL.box rfl s1 (fun w2 B3 hb4 szw2 => ?_)
  replace B3 : Blk w2 w.heap.size 53 #[.int .i64 d1.agent, .int .i64 d1.slot] := B3
  have GB3 : w.heap.size ≤ w.heap.size := T.size
  have T := Tt T hb4
  refine RL.y rfl (Y.assign (v := .int .i64 0) rfl) ?_
  refine RL.nil ?_
  refine then_n ?_
  refine wp_seq ?_
  refine wp_rbd (by kernel_rfl) (by kernel_rfl) ?_
  refine RQ.y rfl (Y.move (v := .pointer (some ⟨ba0, oa0, none⟩)) s0) ?_
  refine RQ.y rfl (Y.nilCheck rfl) ?_
  refine RQ.y rfl (Y.fieldAddr (off := 0) rfl (by kernel_rfl)) ?_
  refine RQ.y rfl (Y.load (v := .slice A1 d0.agents.length c1) rfl (by kernel_rfl) (beC (cellT T (hca0 0 _ rfl)))) ?_
  refine RQ.y rfl (Y.fieldAddr (off := 0) rfl (by kernel_rfl)) ?_
  refine RQ.y rfl (Y.load (v := .int .i64 d1.agent) rfl (by kernel_rfl) (beC (blkCell B3 (i := 0) rfl))) ?_
  obtain ⟨x6, hx9, hm⟩ := bnd hm
  obtain ⟨k7, hk10, hl11, hx9⟩ := getI_some hx9
  obtain ⟨b13, o14, rfl, hbb13⟩ := h1.addr (by omega)
  obtain ⟨cs8, hRcs8, hc12⟩ := h1.el hx9
  have hScs8 := hRcs8
  obtain ⟨A15, n15, c15, A16, n16, c16, rfl, ⟨h15, r15⟩, ⟨h16, r16⟩⟩ := hRcs8
  have e15 := h15.len; subst e15
  have q15 := len_le r15
  have e16 := h16.len; subst e16
  have q16 := len_le r16
  refine RQ.y rfl (Y.indexAddr (m := k7) (sz := 5) rfl rfl hk10 hl11 (by kernel_rfl)) ?_
  refine RQ.y rfl (Y.fieldAddr (off := 0) rfl (by kernel_rfl)) ?_
  refine RQ.y rfl (Y.load (v := .int .i64 x6.kind) rfl (by kernel_rfl) (beC (cellT T (hc12 0 _ rfl)))) ?_
  refine RQ.y rfl (Y.fieldAddr (off := 1) rfl (by kernel_rfl)) ?_
  refine RQ.y rfl (Y.load (v := .int .i64 d1.slot) rfl (by kernel_rfl) (beC (blkCell B3 (i := 1) rfl))) ?_
  refine RQ.y rfl (Y.move (v := .slice Aa2 d2.length ca2) s2) ?_
  refine RQ.y rfl (Y.fieldAddr (off := 0) rfl (by kernel_rfl)) ?_
  refine RQ.y rfl (Y.load (v := .int .i64 d1.agent) rfl (by kernel_rfl) (beC (blkCell B3 (i := 0) rfl))) ?_
  obtain ⟨x17, hx20, hm⟩ := bnd hm
  obtain ⟨k18, hk21, hl22, hx20⟩ := getI_some hx20
  obtain ⟨b24, o25, rfl, hbb24⟩ := ha2.addr (by omega)
  obtain ⟨cs19, hRcs19, hc23⟩ := ha2.el hx20
  have hScs19 := hRcs19
  obtain rfl := hRcs19
  refine RQ.y rfl (Y.indexAddr (m := k18) (sz := 1) rfl rfl hk21 hl22 (by kernel_rfl)) ?_
  refine RQ.y rfl (Y.load (v := .bool x17) rfl (by kernel_rfl) (beC (cellT T (hc23 0 _ rfl)))) ?_
  refine RQ.call rfl (am3 rfl rfl rfl) (by kernel_rfl) (v := .int .i64 (portRole x6.kind d1.slot x17)) (bel (K := fun _ => True) fun w' hb' => (callB (impl_PortRole x6.kind d1.slot x17 w'))) ?_
  refine RQ.y rfl (Y.assign (v := .int .i64 (portRole x6.kind d1.slot x17)) rfl) ?_
  refine RQ.nil ?_
  intro w26 hb27
  have szw26 := hb27.size
  have T := Tt T hb27
  refine then_n ?_
  refine wp_ret ?_
  obtain rfl := Option.some.inj hm
  exact (ret1 rfl rfl rfl ⟨rfl, T⟩)

def m_spec_l13Class (d0 : DAgent) (d1 : DAgent) : Option Int :=
  (bif (d0.kind == 9) then (bif (d1.kind == 10) then (bif (decide (d0.value ≥ (d1.data.length : Int))) then some 8 else (bif (d0.kind == 10) then (bif (d1.kind == 9) then (bif (decide (d1.value ≥ (d0.data.length : Int))) then some 8 else some (pairClass d0.kind d0.level d1.kind d1.level)) else some (pairClass d0.kind d0.level d1.kind d1.level)) else some (pairClass d0.kind d0.level d1.kind d1.level))) else (bif (d0.kind == 10) then (bif (d1.kind == 9) then (bif (decide (d1.value ≥ (d0.data.length : Int))) then some 8 else some (pairClass d0.kind d0.level d1.kind d1.level)) else some (pairClass d0.kind d0.level d1.kind d1.level)) else some (pairClass d0.kind d0.level d1.kind d1.level))) else (bif (d0.kind == 10) then (bif (d1.kind == 9) then (bif (decide (d1.value ≥ (d0.data.length : Int))) then some 8 else some (pairClass d0.kind d0.level d1.kind d1.level)) else some (pairClass d0.kind d0.level d1.kind d1.level)) else some (pairClass d0.kind d0.level d1.kind d1.level)))
set_option maxHeartbeats 2000000 in
theorem c_m_spec_l13Class (d0 : DAgent) (d1 : DAgent) (r : Int) (hm : m_spec_l13Class d0 d1 = some r) (v0 : Value) (v1 : Value) (w : World) (hv0 : Pt agentRd w v0 d0) (hv1 : Pt agentRd w v1 d1) :
    Calls Try.prog 61 #[v0, v1] w fun e w' => e = .returned (.int .i64 r) ∧ Below w.heap.size w w' := by
  obtain ⟨ba0, oa0, csa0, rfl, hba0, hRa0, hca0⟩ := hv0
  have hSa0 := hRa0
  obtain ⟨A1, n1, c1, A2, n2, c2, rfl, ⟨h1, r1⟩, ⟨h2, r2⟩⟩ := hRa0
  have e1 := h1.len; subst e1
  have q1 := len_le r1
  have e2 := h2.len; subst e2
  have q2 := len_le r2
  obtain ⟨ba1, oa1, csa1, rfl, hba1, hRa1, hca1⟩ := hv1
  have hSa1 := hRa1
  obtain ⟨A3, n3, c3, A4, n4, c4, rfl, ⟨h3, r3⟩, ⟨h4, r4⟩⟩ := hRa1
  have e3 := h3.len; subst e3
  have q3 := len_le r3
  have e4 := h4.len; subst e4
  have q4 := len_le r4
  have T := Below.refl w.heap.size w
  unfold m_spec_l13Class at hm
  refine enter 70 Try.func61 rfl rfl rfl ?_
  intro f hf
  have s0 : f 0 = .pointer (some ⟨ba0, oa0, none⟩) := hf 0 _ rfl
  have s1 : f 1 = .pointer (some ⟨ba1, oa1, none⟩) := hf 1 _ rfl
  refine wp_seq ?_
  refine wp_rs rfl ?_
  refine RQ.y rfl (Y.assign (v := .int .i64 0) rfl) ?_
  refine RQ.nil ?_
  refine then_n ?_
  refine wp_seq ?_
  refine wp_seq ?_
  refine wp_rbd (by kernel_rfl) (by kernel_rfl) ?_
  refine RQ.y rfl (Y.move (v := .pointer (some ⟨ba0, oa0, none⟩)) s0) ?_
  refine RQ.y rfl (Y.nilCheck rfl) ?_
  refine RQ.y rfl (Y.fieldAddr (off := 0) rfl (by kernel_rfl)) ?_
  refine RQ.y rfl (Y.load (v := .int .i64 d0.kind) rfl (by kernel_rfl) (beC (cellT T (hca0 0 _ rfl)))) ?_
  refine RQ.y rfl (Y.binI (v := .bool (d0.kind == 9)) rfl rfl rfl) ?_
  refine RQ.y rfl (Y.move (v := .bool (d0.kind == 9)) rfl) ?_
  rcases bcases (d0.kind == 9) with c5 | c5
  · replace hm := cF c5 hm
    refine RQ.skip (wantN (dj := 10) rfl (vb rfl c5) rfl) ?_
    refine RQ.skip (wantN (dj := 10) rfl (vb rfl c5) rfl) ?_
    refine RQ.skip (wantN (dj := 10) rfl (vb rfl c5) rfl) ?_
    refine RQ.skip (wantN (dj := 10) rfl (vb rfl c5) rfl) ?_
    refine RQ.skip (wantN (dj := 10) rfl (vb rfl c5) rfl) ?_
    refine RQ.y rfl (Y.pick (b := false) (v := .bool false) (vb rfl c5) rfl) ?_
    refine RQ.y rfl (Y.move (v := .bool false) rfl) ?_
    refine RQ.skip (wantN (dj := 17) rfl rfl rfl) ?_
    refine RQ.skip (wantN (dj := 17) rfl rfl rfl) ?_
    refine RQ.skip (wantN (dj := 17) rfl rfl rfl) ?_
    refine RQ.skip (wantN (dj := 17) rfl rfl rfl) ?_
    refine RQ.skip (wantN (dj := 17) rfl rfl rfl) ?_
    refine RQ.skip (wantN (dj := 17) rfl rfl rfl) ?_
    refine RQ.skip (wantN (dj := 17) rfl rfl rfl) ?_
    refine RQ.skip (wantN (dj := 17) rfl rfl rfl) ?_
    refine RQ.skip (wantN (dj := 17) rfl rfl rfl) ?_
    refine RQ.skip (wantN (dj := 17) rfl rfl rfl) ?_
    refine RQ.y rfl (Y.pick (b := false) (v := .bool false) rfl rfl) ?_
    refine RQ.nil ?_
    intro w6 hb7
    have szw6 := hb7.size
    have T := Tt T hb7
    refine then_n ?_
    refine cond_f rfl rfl ?_
    refine wp_skip ?_
    refine then_n ?_
    refine wp_seq ?_
    refine wp_seq ?_
    refine wp_rbd (by kernel_rfl) (by kernel_rfl) ?_
    refine RQ.y rfl (Y.move (v := .pointer (some ⟨ba0, oa0, none⟩)) s0) ?_
    refine RQ.y rfl (Y.nilCheck rfl) ?_
    refine RQ.y rfl (Y.fieldAddr (off := 0) rfl (by kernel_rfl)) ?_
    refine RQ.y rfl (Y.load (v := .int .i64 d0.kind) rfl (by kernel_rfl) (beC (cellT T (hca0 0 _ rfl)))) ?_
    refine RQ.y rfl (Y.binI (v := .bool (d0.kind == 10)) rfl rfl rfl) ?_
    refine RQ.y rfl (Y.move (v := .bool (d0.kind == 10)) rfl) ?_
    rcases bcases (d0.kind == 10) with c8 | c8
    · replace hm := cF c8 hm
      refine RQ.skip (wantN (dj := 34) rfl (vb rfl c8) rfl) ?_
      refine RQ.skip (wantN (dj := 34) rfl (vb rfl c8) rfl) ?_
      refine RQ.skip (wantN (dj := 34) rfl (vb rfl c8) rfl) ?_
      refine RQ.skip (wantN (dj := 34) rfl (vb rfl c8) rfl) ?_
      refine RQ.skip (wantN (dj := 34) rfl (vb rfl c8) rfl) ?_
      refine RQ.y rfl (Y.pick (b := false) (v := .bool false) (vb rfl c8) rfl) ?_
      refine RQ.y rfl (Y.move (v := .bool false) rfl) ?_
      refine RQ.skip (wantN (dj := 41) rfl rfl rfl) ?_
      refine RQ.skip (wantN (dj := 41) rfl rfl rfl) ?_
      refine RQ.skip (wantN (dj := 41) rfl rfl rfl) ?_
      refine RQ.skip (wantN (dj := 41) rfl rfl rfl) ?_
      refine RQ.skip (wantN (dj := 41) rfl rfl rfl) ?_
      refine RQ.skip (wantN (dj := 41) rfl rfl rfl) ?_
      refine RQ.skip (wantN (dj := 41) rfl rfl rfl) ?_
      refine RQ.skip (wantN (dj := 41) rfl rfl rfl) ?_
      refine RQ.skip (wantN (dj := 41) rfl rfl rfl) ?_
      refine RQ.skip (wantN (dj := 41) rfl rfl rfl) ?_
      refine RQ.y rfl (Y.pick (b := false) (v := .bool false) rfl rfl) ?_
      refine RQ.nil ?_
      intro w9 hb10
      have szw9 := hb10.size
      have T := Tt T hb10
      refine then_n ?_
      refine cond_f rfl rfl ?_
      refine wp_skip ?_
      refine then_n ?_
      refine wp_seq ?_
      refine wp_rbd (by kernel_rfl) (by kernel_rfl) ?_
      refine RQ.y rfl (Y.move (v := .pointer (some ⟨ba0, oa0, none⟩)) s0) ?_
      refine RQ.y rfl (Y.nilCheck rfl) ?_
      refine RQ.y rfl (Y.fieldAddr (off := 0) rfl (by kernel_rfl)) ?_
      refine RQ.y rfl (Y.load (v := .int .i64 d0.kind) rfl (by kernel_rfl) (beC (cellT T (hca0 0 _ rfl)))) ?_
      refine RQ.y rfl (Y.move (v := .pointer (some ⟨ba0, oa0, none⟩)) s0) ?_
      refine RQ.y rfl (Y.nilCheck rfl) ?_
      refine RQ.y rfl (Y.fieldAddr (off := 1) rfl (by kernel_rfl)) ?_
      refine RQ.y rfl (Y.load (v := .int .i64 d0.level) rfl (by kernel_rfl) (beC (cellT T (hca0 1 _ rfl)))) ?_
      refine RQ.y rfl (Y.move (v := .pointer (some ⟨ba1, oa1, none⟩)) s1) ?_
      refine RQ.y rfl (Y.nilCheck rfl) ?_
      refine RQ.y rfl (Y.fieldAddr (off := 0) rfl (by kernel_rfl)) ?_
      refine RQ.y rfl (Y.load (v := .int .i64 d1.kind) rfl (by kernel_rfl) (beC (cellT T (hca1 0 _ rfl)))) ?_
      refine RQ.y rfl (Y.move (v := .pointer (some ⟨ba1, oa1, none⟩)) s1) ?_
      refine RQ.y rfl (Y.nilCheck rfl) ?_
      refine RQ.y rfl (Y.fieldAddr (off := 1) rfl (by kernel_rfl)) ?_
      refine RQ.y rfl (Y.load (v := .int .i64 d1.level) rfl (by kernel_rfl) (beC (cellT T (hca1 1 _ rfl)))) ?_
      refine RQ.call rfl (am4 rfl rfl rfl rfl) (by kernel_rfl) (v := .int .i64 (pairClass d0.kind d0.level d1.kind d1.level)) (bel (K := fun _ => True) fun w' hb' => (callB (spec_PairClass d0.kind d0.level d1.kind d1.level w'))) ?_
      refine RQ.y rfl (Y.assign (v := .int .i64 (pairClass d0.kind d0.level d1.kind d1.level)) rfl) ?_
      refine RQ.nil ?_
      intro w11 hb12
      have szw11 := hb12.size
      have T := Tt T hb12
      refine then_n ?_
      refine wp_ret ?_
      obtain rfl := Option.some.inj hm
      exact (ret1 rfl rfl rfl ⟨rfl, T⟩)
    · replace hm := cT c8 hm
      refine RQ.y (wantT (dj := 34) rfl (vb rfl c8)) (Y.move (v := .pointer (some ⟨ba1, oa1, none⟩)) s1) ?_
      refine RQ.y (wantT (dj := 34) rfl (vb rfl c8)) (Y.nilCheck rfl) ?_
      refine RQ.y (wantT (dj := 34) rfl (vb rfl c8)) (Y.fieldAddr (off := 0) rfl (by kernel_rfl)) ?_
      refine RQ.y (wantT (dj := 34) rfl (vb rfl c8)) (Y.load (v := .int .i64 d1.kind) rfl (by kernel_rfl) (beC (cellT T (hca1 0 _ rfl)))) ?_
      refine RQ.y (wantT (dj := 34) rfl (vb rfl c8)) (Y.binI (v := .bool (d1.kind == 9)) rfl rfl rfl) ?_
      refine RQ.y rfl (Y.pick (b := true) (v := .bool (d1.kind == 9)) (vb rfl c8) rfl) ?_
      refine RQ.y rfl (Y.move (v := .bool (d1.kind == 9)) rfl) ?_
      rcases bcases (d1.kind == 9) with c13 | c13
      · replace hm := cF c13 hm
        refine RQ.skip (wantN (dj := 41) rfl (vb rfl c13) rfl) ?_
        refine RQ.skip (wantN (dj := 41) rfl (vb rfl c13) rfl) ?_
        refine RQ.skip (wantN (dj := 41) rfl (vb rfl c13) rfl) ?_
        refine RQ.skip (wantN (dj := 41) rfl (vb rfl c13) rfl) ?_
        refine RQ.skip (wantN (dj := 41) rfl (vb rfl c13) rfl) ?_
        refine RQ.skip (wantN (dj := 41) rfl (vb rfl c13) rfl) ?_
        refine RQ.skip (wantN (dj := 41) rfl (vb rfl c13) rfl) ?_
        refine RQ.skip (wantN (dj := 41) rfl (vb rfl c13) rfl) ?_
        refine RQ.skip (wantN (dj := 41) rfl (vb rfl c13) rfl) ?_
        refine RQ.skip (wantN (dj := 41) rfl (vb rfl c13) rfl) ?_
        refine RQ.y rfl (Y.pick (b := false) (v := .bool false) (vb rfl c13) rfl) ?_
        refine RQ.nil ?_
        intro w14 hb15
        have szw14 := hb15.size
        have T := Tt T hb15
        refine then_n ?_
        refine cond_f rfl rfl ?_
        refine wp_skip ?_
        refine then_n ?_
        refine wp_seq ?_
        refine wp_rbd (by kernel_rfl) (by kernel_rfl) ?_
        refine RQ.y rfl (Y.move (v := .pointer (some ⟨ba0, oa0, none⟩)) s0) ?_
        refine RQ.y rfl (Y.nilCheck rfl) ?_
        refine RQ.y rfl (Y.fieldAddr (off := 0) rfl (by kernel_rfl)) ?_
        refine RQ.y rfl (Y.load (v := .int .i64 d0.kind) rfl (by kernel_rfl) (beC (cellT T (hca0 0 _ rfl)))) ?_
        refine RQ.y rfl (Y.move (v := .pointer (some ⟨ba0, oa0, none⟩)) s0) ?_
        refine RQ.y rfl (Y.nilCheck rfl) ?_
        refine RQ.y rfl (Y.fieldAddr (off := 1) rfl (by kernel_rfl)) ?_
        refine RQ.y rfl (Y.load (v := .int .i64 d0.level) rfl (by kernel_rfl) (beC (cellT T (hca0 1 _ rfl)))) ?_
        refine RQ.y rfl (Y.move (v := .pointer (some ⟨ba1, oa1, none⟩)) s1) ?_
        refine RQ.y rfl (Y.nilCheck rfl) ?_
        refine RQ.y rfl (Y.fieldAddr (off := 0) rfl (by kernel_rfl)) ?_
        refine RQ.y rfl (Y.load (v := .int .i64 d1.kind) rfl (by kernel_rfl) (beC (cellT T (hca1 0 _ rfl)))) ?_
        refine RQ.y rfl (Y.move (v := .pointer (some ⟨ba1, oa1, none⟩)) s1) ?_
        refine RQ.y rfl (Y.nilCheck rfl) ?_
        refine RQ.y rfl (Y.fieldAddr (off := 1) rfl (by kernel_rfl)) ?_
        refine RQ.y rfl (Y.load (v := .int .i64 d1.level) rfl (by kernel_rfl) (beC (cellT T (hca1 1 _ rfl)))) ?_
        refine RQ.call rfl (am4 rfl rfl rfl rfl) (by kernel_rfl) (v := .int .i64 (pairClass d0.kind d0.level d1.kind d1.level)) (bel (K := fun _ => True) fun w' hb' => (callB (spec_PairClass d0.kind d0.level d1.kind d1.level w'))) ?_
        refine RQ.y rfl (Y.assign (v := .int .i64 (pairClass d0.kind d0.level d1.kind d1.level)) rfl) ?_
        refine RQ.nil ?_
        intro w16 hb17
        have szw16 := hb17.size
        have T := Tt T hb17
        refine then_n ?_
        refine wp_ret ?_
        obtain rfl := Option.some.inj hm
        exact (ret1 rfl rfl rfl ⟨rfl, T⟩)
      · replace hm := cT c13 hm
        refine RQ.y (wantT (dj := 41) rfl (vb rfl c13)) (Y.move (v := .pointer (some ⟨ba1, oa1, none⟩)) s1) ?_
        refine RQ.y (wantT (dj := 41) rfl (vb rfl c13)) (Y.nilCheck rfl) ?_
        refine RQ.y (wantT (dj := 41) rfl (vb rfl c13)) (Y.fieldAddr (off := 2) rfl (by kernel_rfl)) ?_
        refine RQ.y (wantT (dj := 41) rfl (vb rfl c13)) (Y.load (v := .int .i64 d1.value) rfl (by kernel_rfl) (beC (cellT T (hca1 2 _ rfl)))) ?_
        refine RQ.y (wantT (dj := 41) rfl (vb rfl c13)) (Y.move (v := .pointer (some ⟨ba0, oa0, none⟩)) s0) ?_
        refine RQ.y (wantT (dj := 41) rfl (vb rfl c13)) (Y.nilCheck rfl) ?_
        refine RQ.y (wantT (dj := 41) rfl (vb rfl c13)) (Y.fieldAddr (off := 3) rfl (by kernel_rfl)) ?_
        refine RQ.y (wantT (dj := 41) rfl (vb rfl c13)) (Y.load (v := .slice A1 d0.data.length c1) rfl (by kernel_rfl) (beC (cellT T (hca0 3 _ rfl)))) ?_
        refine RQ.y (wantT (dj := 41) rfl (vb rfl c13)) (Y.len (by kernel_rfl) rfl) ?_
        refine RQ.y (wantT (dj := 41) rfl (vb rfl c13)) (Y.binI (v := .bool (decide (d1.value ≥ (d0.data.length : Int)))) rfl rfl rfl) ?_
        refine RQ.y rfl (Y.pick (b := true) (v := .bool (decide (d1.value ≥ (d0.data.length : Int)))) (vb rfl c13) rfl) ?_
        refine RQ.nil ?_
        intro w18 hb19
        have szw18 := hb19.size
        have T := Tt T hb19
        refine then_n ?_
        rcases bcases (decide (d1.value ≥ (d0.data.length : Int))) with c20 | c20
        · replace hm := cF c20 hm
          have pc20 := of_decide_eq_false c20
          refine cond_f rfl (vb rfl c20) ?_
          refine wp_skip ?_
          refine then_n ?_
          refine wp_seq ?_
          refine wp_rbd (by kernel_rfl) (by kernel_rfl) ?_
          refine RQ.y rfl (Y.move (v := .pointer (some ⟨ba0, oa0, none⟩)) s0) ?_
          refine RQ.y rfl (Y.nilCheck rfl) ?_
          refine RQ.y rfl (Y.fieldAddr (off := 0) rfl (by kernel_rfl)) ?_
          refine RQ.y rfl (Y.load (v := .int .i64 d0.kind) rfl (by kernel_rfl) (beC (cellT T (hca0 0 _ rfl)))) ?_
          refine RQ.y rfl (Y.move (v := .pointer (some ⟨ba0, oa0, none⟩)) s0) ?_
          refine RQ.y rfl (Y.nilCheck rfl) ?_
          refine RQ.y rfl (Y.fieldAddr (off := 1) rfl (by kernel_rfl)) ?_
          refine RQ.y rfl (Y.load (v := .int .i64 d0.level) rfl (by kernel_rfl) (beC (cellT T (hca0 1 _ rfl)))) ?_
          refine RQ.y rfl (Y.move (v := .pointer (some ⟨ba1, oa1, none⟩)) s1) ?_
          refine RQ.y rfl (Y.nilCheck rfl) ?_
          refine RQ.y rfl (Y.fieldAddr (off := 0) rfl (by kernel_rfl)) ?_
          refine RQ.y rfl (Y.load (v := .int .i64 d1.kind) rfl (by kernel_rfl) (beC (cellT T (hca1 0 _ rfl)))) ?_
          refine RQ.y rfl (Y.move (v := .pointer (some ⟨ba1, oa1, none⟩)) s1) ?_
          refine RQ.y rfl (Y.nilCheck rfl) ?_
          refine RQ.y rfl (Y.fieldAddr (off := 1) rfl (by kernel_rfl)) ?_
          refine RQ.y rfl (Y.load (v := .int .i64 d1.level) rfl (by kernel_rfl) (beC (cellT T (hca1 1 _ rfl)))) ?_
          refine RQ.call rfl (am4 rfl rfl rfl rfl) (by kernel_rfl) (v := .int .i64 (pairClass d0.kind d0.level d1.kind d1.level)) (bel (K := fun _ => True) fun w' hb' => (callB (spec_PairClass d0.kind d0.level d1.kind d1.level w'))) ?_
          refine RQ.y rfl (Y.assign (v := .int .i64 (pairClass d0.kind d0.level d1.kind d1.level)) rfl) ?_
          refine RQ.nil ?_
          intro w21 hb22
          have szw21 := hb22.size
          have T := Tt T hb22
          refine then_n ?_
          refine wp_ret ?_
          obtain rfl := Option.some.inj hm
          exact (ret1 rfl rfl rfl ⟨rfl, T⟩)
        · replace hm := cT c20 hm
          have pc20 := of_decide_eq_true c20
          refine cond_t rfl (vb rfl c20) ?_
          refine wp_seq ?_
          refine wp_rs rfl ?_
          refine RQ.y rfl (Y.assign (v := .int .i64 8) rfl) ?_
          refine RQ.nil ?_
          refine then_n ?_
          refine wp_ret ?_
          obtain rfl := Option.some.inj hm
          exact (then_r (ret1 rfl rfl rfl ⟨rfl, T⟩))
  · replace hm := cT c5 hm
    refine RQ.y (wantT (dj := 10) rfl (vb rfl c5)) (Y.move (v := .pointer (some ⟨ba1, oa1, none⟩)) s1) ?_
    refine RQ.y (wantT (dj := 10) rfl (vb rfl c5)) (Y.nilCheck rfl) ?_
    refine RQ.y (wantT (dj := 10) rfl (vb rfl c5)) (Y.fieldAddr (off := 0) rfl (by kernel_rfl)) ?_
    refine RQ.y (wantT (dj := 10) rfl (vb rfl c5)) (Y.load (v := .int .i64 d1.kind) rfl (by kernel_rfl) (beC (cellT T (hca1 0 _ rfl)))) ?_
    refine RQ.y (wantT (dj := 10) rfl (vb rfl c5)) (Y.binI (v := .bool (d1.kind == 10)) rfl rfl rfl) ?_
    refine RQ.y rfl (Y.pick (b := true) (v := .bool (d1.kind == 10)) (vb rfl c5) rfl) ?_
    refine RQ.y rfl (Y.move (v := .bool (d1.kind == 10)) rfl) ?_
    rcases bcases (d1.kind == 10) with c23 | c23
    · replace hm := cF c23 hm
      refine RQ.skip (wantN (dj := 17) rfl (vb rfl c23) rfl) ?_
      refine RQ.skip (wantN (dj := 17) rfl (vb rfl c23) rfl) ?_
      refine RQ.skip (wantN (dj := 17) rfl (vb rfl c23) rfl) ?_
      refine RQ.skip (wantN (dj := 17) rfl (vb rfl c23) rfl) ?_
      refine RQ.skip (wantN (dj := 17) rfl (vb rfl c23) rfl) ?_
      refine RQ.skip (wantN (dj := 17) rfl (vb rfl c23) rfl) ?_
      refine RQ.skip (wantN (dj := 17) rfl (vb rfl c23) rfl) ?_
      refine RQ.skip (wantN (dj := 17) rfl (vb rfl c23) rfl) ?_
      refine RQ.skip (wantN (dj := 17) rfl (vb rfl c23) rfl) ?_
      refine RQ.skip (wantN (dj := 17) rfl (vb rfl c23) rfl) ?_
      refine RQ.y rfl (Y.pick (b := false) (v := .bool false) (vb rfl c23) rfl) ?_
      refine RQ.nil ?_
      intro w24 hb25
      have szw24 := hb25.size
      have T := Tt T hb25
      refine then_n ?_
      refine cond_f rfl rfl ?_
      refine wp_skip ?_
      refine then_n ?_
      refine wp_seq ?_
      refine wp_seq ?_
      refine wp_rbd (by kernel_rfl) (by kernel_rfl) ?_
      refine RQ.y rfl (Y.move (v := .pointer (some ⟨ba0, oa0, none⟩)) s0) ?_
      refine RQ.y rfl (Y.nilCheck rfl) ?_
      refine RQ.y rfl (Y.fieldAddr (off := 0) rfl (by kernel_rfl)) ?_
      refine RQ.y rfl (Y.load (v := .int .i64 d0.kind) rfl (by kernel_rfl) (beC (cellT T (hca0 0 _ rfl)))) ?_
      refine RQ.y rfl (Y.binI (v := .bool (d0.kind == 10)) rfl rfl rfl) ?_
      refine RQ.y rfl (Y.move (v := .bool (d0.kind == 10)) rfl) ?_
      rcases bcases (d0.kind == 10) with c26 | c26
      · replace hm := cF c26 hm
        refine RQ.skip (wantN (dj := 34) rfl (vb rfl c26) rfl) ?_
        refine RQ.skip (wantN (dj := 34) rfl (vb rfl c26) rfl) ?_
        refine RQ.skip (wantN (dj := 34) rfl (vb rfl c26) rfl) ?_
        refine RQ.skip (wantN (dj := 34) rfl (vb rfl c26) rfl) ?_
        refine RQ.skip (wantN (dj := 34) rfl (vb rfl c26) rfl) ?_
        refine RQ.y rfl (Y.pick (b := false) (v := .bool false) (vb rfl c26) rfl) ?_
        refine RQ.y rfl (Y.move (v := .bool false) rfl) ?_
        refine RQ.skip (wantN (dj := 41) rfl rfl rfl) ?_
        refine RQ.skip (wantN (dj := 41) rfl rfl rfl) ?_
        refine RQ.skip (wantN (dj := 41) rfl rfl rfl) ?_
        refine RQ.skip (wantN (dj := 41) rfl rfl rfl) ?_
        refine RQ.skip (wantN (dj := 41) rfl rfl rfl) ?_
        refine RQ.skip (wantN (dj := 41) rfl rfl rfl) ?_
        refine RQ.skip (wantN (dj := 41) rfl rfl rfl) ?_
        refine RQ.skip (wantN (dj := 41) rfl rfl rfl) ?_
        refine RQ.skip (wantN (dj := 41) rfl rfl rfl) ?_
        refine RQ.skip (wantN (dj := 41) rfl rfl rfl) ?_
        refine RQ.y rfl (Y.pick (b := false) (v := .bool false) rfl rfl) ?_
        refine RQ.nil ?_
        intro w27 hb28
        have szw27 := hb28.size
        have T := Tt T hb28
        refine then_n ?_
        refine cond_f rfl rfl ?_
        refine wp_skip ?_
        refine then_n ?_
        refine wp_seq ?_
        refine wp_rbd (by kernel_rfl) (by kernel_rfl) ?_
        refine RQ.y rfl (Y.move (v := .pointer (some ⟨ba0, oa0, none⟩)) s0) ?_
        refine RQ.y rfl (Y.nilCheck rfl) ?_
        refine RQ.y rfl (Y.fieldAddr (off := 0) rfl (by kernel_rfl)) ?_
        refine RQ.y rfl (Y.load (v := .int .i64 d0.kind) rfl (by kernel_rfl) (beC (cellT T (hca0 0 _ rfl)))) ?_
        refine RQ.y rfl (Y.move (v := .pointer (some ⟨ba0, oa0, none⟩)) s0) ?_
        refine RQ.y rfl (Y.nilCheck rfl) ?_
        refine RQ.y rfl (Y.fieldAddr (off := 1) rfl (by kernel_rfl)) ?_
        refine RQ.y rfl (Y.load (v := .int .i64 d0.level) rfl (by kernel_rfl) (beC (cellT T (hca0 1 _ rfl)))) ?_
        refine RQ.y rfl (Y.move (v := .pointer (some ⟨ba1, oa1, none⟩)) s1) ?_
        refine RQ.y rfl (Y.nilCheck rfl) ?_
        refine RQ.y rfl (Y.fieldAddr (off := 0) rfl (by kernel_rfl)) ?_
        refine RQ.y rfl (Y.load (v := .int .i64 d1.kind) rfl (by kernel_rfl) (beC (cellT T (hca1 0 _ rfl)))) ?_
        refine RQ.y rfl (Y.move (v := .pointer (some ⟨ba1, oa1, none⟩)) s1) ?_
        refine RQ.y rfl (Y.nilCheck rfl) ?_
        refine RQ.y rfl (Y.fieldAddr (off := 1) rfl (by kernel_rfl)) ?_
        refine RQ.y rfl (Y.load (v := .int .i64 d1.level) rfl (by kernel_rfl) (beC (cellT T (hca1 1 _ rfl)))) ?_
        refine RQ.call rfl (am4 rfl rfl rfl rfl) (by kernel_rfl) (v := .int .i64 (pairClass d0.kind d0.level d1.kind d1.level)) (bel (K := fun _ => True) fun w' hb' => (callB (spec_PairClass d0.kind d0.level d1.kind d1.level w'))) ?_
        refine RQ.y rfl (Y.assign (v := .int .i64 (pairClass d0.kind d0.level d1.kind d1.level)) rfl) ?_
        refine RQ.nil ?_
        intro w29 hb30
        have szw29 := hb30.size
        have T := Tt T hb30
        refine then_n ?_
        refine wp_ret ?_
        obtain rfl := Option.some.inj hm
        exact (ret1 rfl rfl rfl ⟨rfl, T⟩)
      · replace hm := cT c26 hm
        refine RQ.y (wantT (dj := 34) rfl (vb rfl c26)) (Y.move (v := .pointer (some ⟨ba1, oa1, none⟩)) s1) ?_
        refine RQ.y (wantT (dj := 34) rfl (vb rfl c26)) (Y.nilCheck rfl) ?_
        refine RQ.y (wantT (dj := 34) rfl (vb rfl c26)) (Y.fieldAddr (off := 0) rfl (by kernel_rfl)) ?_
        refine RQ.y (wantT (dj := 34) rfl (vb rfl c26)) (Y.load (v := .int .i64 d1.kind) rfl (by kernel_rfl) (beC (cellT T (hca1 0 _ rfl)))) ?_
        refine RQ.y (wantT (dj := 34) rfl (vb rfl c26)) (Y.binI (v := .bool (d1.kind == 9)) rfl rfl rfl) ?_
        refine RQ.y rfl (Y.pick (b := true) (v := .bool (d1.kind == 9)) (vb rfl c26) rfl) ?_
        refine RQ.y rfl (Y.move (v := .bool (d1.kind == 9)) rfl) ?_
        rcases bcases (d1.kind == 9) with c31 | c31
        · replace hm := cF c31 hm
          refine RQ.skip (wantN (dj := 41) rfl (vb rfl c31) rfl) ?_
          refine RQ.skip (wantN (dj := 41) rfl (vb rfl c31) rfl) ?_
          refine RQ.skip (wantN (dj := 41) rfl (vb rfl c31) rfl) ?_
          refine RQ.skip (wantN (dj := 41) rfl (vb rfl c31) rfl) ?_
          refine RQ.skip (wantN (dj := 41) rfl (vb rfl c31) rfl) ?_
          refine RQ.skip (wantN (dj := 41) rfl (vb rfl c31) rfl) ?_
          refine RQ.skip (wantN (dj := 41) rfl (vb rfl c31) rfl) ?_
          refine RQ.skip (wantN (dj := 41) rfl (vb rfl c31) rfl) ?_
          refine RQ.skip (wantN (dj := 41) rfl (vb rfl c31) rfl) ?_
          refine RQ.skip (wantN (dj := 41) rfl (vb rfl c31) rfl) ?_
          refine RQ.y rfl (Y.pick (b := false) (v := .bool false) (vb rfl c31) rfl) ?_
          refine RQ.nil ?_
          intro w32 hb33
          have szw32 := hb33.size
          have T := Tt T hb33
          refine then_n ?_
          refine cond_f rfl rfl ?_
          refine wp_skip ?_
          refine then_n ?_
          refine wp_seq ?_
          refine wp_rbd (by kernel_rfl) (by kernel_rfl) ?_
          refine RQ.y rfl (Y.move (v := .pointer (some ⟨ba0, oa0, none⟩)) s0) ?_
          refine RQ.y rfl (Y.nilCheck rfl) ?_
          refine RQ.y rfl (Y.fieldAddr (off := 0) rfl (by kernel_rfl)) ?_
          refine RQ.y rfl (Y.load (v := .int .i64 d0.kind) rfl (by kernel_rfl) (beC (cellT T (hca0 0 _ rfl)))) ?_
          refine RQ.y rfl (Y.move (v := .pointer (some ⟨ba0, oa0, none⟩)) s0) ?_
          refine RQ.y rfl (Y.nilCheck rfl) ?_
          refine RQ.y rfl (Y.fieldAddr (off := 1) rfl (by kernel_rfl)) ?_
          refine RQ.y rfl (Y.load (v := .int .i64 d0.level) rfl (by kernel_rfl) (beC (cellT T (hca0 1 _ rfl)))) ?_
          refine RQ.y rfl (Y.move (v := .pointer (some ⟨ba1, oa1, none⟩)) s1) ?_
          refine RQ.y rfl (Y.nilCheck rfl) ?_
          refine RQ.y rfl (Y.fieldAddr (off := 0) rfl (by kernel_rfl)) ?_
          refine RQ.y rfl (Y.load (v := .int .i64 d1.kind) rfl (by kernel_rfl) (beC (cellT T (hca1 0 _ rfl)))) ?_
          refine RQ.y rfl (Y.move (v := .pointer (some ⟨ba1, oa1, none⟩)) s1) ?_
          refine RQ.y rfl (Y.nilCheck rfl) ?_
          refine RQ.y rfl (Y.fieldAddr (off := 1) rfl (by kernel_rfl)) ?_
          refine RQ.y rfl (Y.load (v := .int .i64 d1.level) rfl (by kernel_rfl) (beC (cellT T (hca1 1 _ rfl)))) ?_
          refine RQ.call rfl (am4 rfl rfl rfl rfl) (by kernel_rfl) (v := .int .i64 (pairClass d0.kind d0.level d1.kind d1.level)) (bel (K := fun _ => True) fun w' hb' => (callB (spec_PairClass d0.kind d0.level d1.kind d1.level w'))) ?_
          refine RQ.y rfl (Y.assign (v := .int .i64 (pairClass d0.kind d0.level d1.kind d1.level)) rfl) ?_
          refine RQ.nil ?_
          intro w34 hb35
          have szw34 := hb35.size
          have T := Tt T hb35
          refine then_n ?_
          refine wp_ret ?_
          obtain rfl := Option.some.inj hm
          exact (ret1 rfl rfl rfl ⟨rfl, T⟩)
        · replace hm := cT c31 hm
          refine RQ.y (wantT (dj := 41) rfl (vb rfl c31)) (Y.move (v := .pointer (some ⟨ba1, oa1, none⟩)) s1) ?_
          refine RQ.y (wantT (dj := 41) rfl (vb rfl c31)) (Y.nilCheck rfl) ?_
          refine RQ.y (wantT (dj := 41) rfl (vb rfl c31)) (Y.fieldAddr (off := 2) rfl (by kernel_rfl)) ?_
          refine RQ.y (wantT (dj := 41) rfl (vb rfl c31)) (Y.load (v := .int .i64 d1.value) rfl (by kernel_rfl) (beC (cellT T (hca1 2 _ rfl)))) ?_
          refine RQ.y (wantT (dj := 41) rfl (vb rfl c31)) (Y.move (v := .pointer (some ⟨ba0, oa0, none⟩)) s0) ?_
          refine RQ.y (wantT (dj := 41) rfl (vb rfl c31)) (Y.nilCheck rfl) ?_
          refine RQ.y (wantT (dj := 41) rfl (vb rfl c31)) (Y.fieldAddr (off := 3) rfl (by kernel_rfl)) ?_
          refine RQ.y (wantT (dj := 41) rfl (vb rfl c31)) (Y.load (v := .slice A1 d0.data.length c1) rfl (by kernel_rfl) (beC (cellT T (hca0 3 _ rfl)))) ?_
          refine RQ.y (wantT (dj := 41) rfl (vb rfl c31)) (Y.len (by kernel_rfl) rfl) ?_
          refine RQ.y (wantT (dj := 41) rfl (vb rfl c31)) (Y.binI (v := .bool (decide (d1.value ≥ (d0.data.length : Int)))) rfl rfl rfl) ?_
          refine RQ.y rfl (Y.pick (b := true) (v := .bool (decide (d1.value ≥ (d0.data.length : Int)))) (vb rfl c31) rfl) ?_
          refine RQ.nil ?_
          intro w36 hb37
          have szw36 := hb37.size
          have T := Tt T hb37
          refine then_n ?_
          rcases bcases (decide (d1.value ≥ (d0.data.length : Int))) with c38 | c38
          · replace hm := cF c38 hm
            have pc38 := of_decide_eq_false c38
            refine cond_f rfl (vb rfl c38) ?_
            refine wp_skip ?_
            refine then_n ?_
            refine wp_seq ?_
            refine wp_rbd (by kernel_rfl) (by kernel_rfl) ?_
            refine RQ.y rfl (Y.move (v := .pointer (some ⟨ba0, oa0, none⟩)) s0) ?_
            refine RQ.y rfl (Y.nilCheck rfl) ?_
            refine RQ.y rfl (Y.fieldAddr (off := 0) rfl (by kernel_rfl)) ?_
            refine RQ.y rfl (Y.load (v := .int .i64 d0.kind) rfl (by kernel_rfl) (beC (cellT T (hca0 0 _ rfl)))) ?_
            refine RQ.y rfl (Y.move (v := .pointer (some ⟨ba0, oa0, none⟩)) s0) ?_
            refine RQ.y rfl (Y.nilCheck rfl) ?_
            refine RQ.y rfl (Y.fieldAddr (off := 1) rfl (by kernel_rfl)) ?_
            refine RQ.y rfl (Y.load (v := .int .i64 d0.level) rfl (by kernel_rfl) (beC (cellT T (hca0 1 _ rfl)))) ?_
            refine RQ.y rfl (Y.move (v := .pointer (some ⟨ba1, oa1, none⟩)) s1) ?_
            refine RQ.y rfl (Y.nilCheck rfl) ?_
            refine RQ.y rfl (Y.fieldAddr (off := 0) rfl (by kernel_rfl)) ?_
            refine RQ.y rfl (Y.load (v := .int .i64 d1.kind) rfl (by kernel_rfl) (beC (cellT T (hca1 0 _ rfl)))) ?_
            refine RQ.y rfl (Y.move (v := .pointer (some ⟨ba1, oa1, none⟩)) s1) ?_
            refine RQ.y rfl (Y.nilCheck rfl) ?_
            refine RQ.y rfl (Y.fieldAddr (off := 1) rfl (by kernel_rfl)) ?_
            refine RQ.y rfl (Y.load (v := .int .i64 d1.level) rfl (by kernel_rfl) (beC (cellT T (hca1 1 _ rfl)))) ?_
            refine RQ.call rfl (am4 rfl rfl rfl rfl) (by kernel_rfl) (v := .int .i64 (pairClass d0.kind d0.level d1.kind d1.level)) (bel (K := fun _ => True) fun w' hb' => (callB (spec_PairClass d0.kind d0.level d1.kind d1.level w'))) ?_
            refine RQ.y rfl (Y.assign (v := .int .i64 (pairClass d0.kind d0.level d1.kind d1.level)) rfl) ?_
            refine RQ.nil ?_
            intro w39 hb40
            have szw39 := hb40.size
            have T := Tt T hb40
            refine then_n ?_
            refine wp_ret ?_
            obtain rfl := Option.some.inj hm
            exact (ret1 rfl rfl rfl ⟨rfl, T⟩)
          · replace hm := cT c38 hm
            have pc38 := of_decide_eq_true c38
            refine cond_t rfl (vb rfl c38) ?_
            refine wp_seq ?_
            refine wp_rs rfl ?_
            refine RQ.y rfl (Y.assign (v := .int .i64 8) rfl) ?_
            refine RQ.nil ?_
            refine then_n ?_
            refine wp_ret ?_
            obtain rfl := Option.some.inj hm
            exact (then_r (ret1 rfl rfl rfl ⟨rfl, T⟩))
    · replace hm := cT c23 hm
      refine RQ.y (wantT (dj := 17) rfl (vb rfl c23)) (Y.move (v := .pointer (some ⟨ba0, oa0, none⟩)) s0) ?_
      refine RQ.y (wantT (dj := 17) rfl (vb rfl c23)) (Y.nilCheck rfl) ?_
      refine RQ.y (wantT (dj := 17) rfl (vb rfl c23)) (Y.fieldAddr (off := 2) rfl (by kernel_rfl)) ?_
      refine RQ.y (wantT (dj := 17) rfl (vb rfl c23)) (Y.load (v := .int .i64 d0.value) rfl (by kernel_rfl) (beC (cellT T (hca0 2 _ rfl)))) ?_
      refine RQ.y (wantT (dj := 17) rfl (vb rfl c23)) (Y.move (v := .pointer (some ⟨ba1, oa1, none⟩)) s1) ?_
      refine RQ.y (wantT (dj := 17) rfl (vb rfl c23)) (Y.nilCheck rfl) ?_
      refine RQ.y (wantT (dj := 17) rfl (vb rfl c23)) (Y.fieldAddr (off := 3) rfl (by kernel_rfl)) ?_
      refine RQ.y (wantT (dj := 17) rfl (vb rfl c23)) (Y.load (v := .slice A3 d1.data.length c3) rfl (by kernel_rfl) (beC (cellT T (hca1 3 _ rfl)))) ?_
      refine RQ.y (wantT (dj := 17) rfl (vb rfl c23)) (Y.len (by kernel_rfl) rfl) ?_
      refine RQ.y (wantT (dj := 17) rfl (vb rfl c23)) (Y.binI (v := .bool (decide (d0.value ≥ (d1.data.length : Int)))) rfl rfl rfl) ?_
      refine RQ.y rfl (Y.pick (b := true) (v := .bool (decide (d0.value ≥ (d1.data.length : Int)))) (vb rfl c23) rfl) ?_
      refine RQ.nil ?_
      intro w41 hb42
      have szw41 := hb42.size
      have T := Tt T hb42
      refine then_n ?_
      rcases bcases (decide (d0.value ≥ (d1.data.length : Int))) with c43 | c43
      · replace hm := cF c43 hm
        have pc43 := of_decide_eq_false c43
        refine cond_f rfl (vb rfl c43) ?_
        refine wp_skip ?_
        refine then_n ?_
        refine wp_seq ?_
        refine wp_seq ?_
        refine wp_rbd (by kernel_rfl) (by kernel_rfl) ?_
        refine RQ.y rfl (Y.move (v := .pointer (some ⟨ba0, oa0, none⟩)) s0) ?_
        refine RQ.y rfl (Y.nilCheck rfl) ?_
        refine RQ.y rfl (Y.fieldAddr (off := 0) rfl (by kernel_rfl)) ?_
        refine RQ.y rfl (Y.load (v := .int .i64 d0.kind) rfl (by kernel_rfl) (beC (cellT T (hca0 0 _ rfl)))) ?_
        refine RQ.y rfl (Y.binI (v := .bool (d0.kind == 10)) rfl rfl rfl) ?_
        refine RQ.y rfl (Y.move (v := .bool (d0.kind == 10)) rfl) ?_
        rcases bcases (d0.kind == 10) with c44 | c44
        · replace hm := cF c44 hm
          refine RQ.skip (wantN (dj := 34) rfl (vb rfl c44) rfl) ?_
          refine RQ.skip (wantN (dj := 34) rfl (vb rfl c44) rfl) ?_
          refine RQ.skip (wantN (dj := 34) rfl (vb rfl c44) rfl) ?_
          refine RQ.skip (wantN (dj := 34) rfl (vb rfl c44) rfl) ?_
          refine RQ.skip (wantN (dj := 34) rfl (vb rfl c44) rfl) ?_
          refine RQ.y rfl (Y.pick (b := false) (v := .bool false) (vb rfl c44) rfl) ?_
          refine RQ.y rfl (Y.move (v := .bool false) rfl) ?_
          refine RQ.skip (wantN (dj := 41) rfl rfl rfl) ?_
          refine RQ.skip (wantN (dj := 41) rfl rfl rfl) ?_
          refine RQ.skip (wantN (dj := 41) rfl rfl rfl) ?_
          refine RQ.skip (wantN (dj := 41) rfl rfl rfl) ?_
          refine RQ.skip (wantN (dj := 41) rfl rfl rfl) ?_
          refine RQ.skip (wantN (dj := 41) rfl rfl rfl) ?_
          refine RQ.skip (wantN (dj := 41) rfl rfl rfl) ?_
          refine RQ.skip (wantN (dj := 41) rfl rfl rfl) ?_
          refine RQ.skip (wantN (dj := 41) rfl rfl rfl) ?_
          refine RQ.skip (wantN (dj := 41) rfl rfl rfl) ?_
          refine RQ.y rfl (Y.pick (b := false) (v := .bool false) rfl rfl) ?_
          refine RQ.nil ?_
          intro w45 hb46
          have szw45 := hb46.size
          have T := Tt T hb46
          refine then_n ?_
          refine cond_f rfl rfl ?_
          refine wp_skip ?_
          refine then_n ?_
          refine wp_seq ?_
          refine wp_rbd (by kernel_rfl) (by kernel_rfl) ?_
          refine RQ.y rfl (Y.move (v := .pointer (some ⟨ba0, oa0, none⟩)) s0) ?_
          refine RQ.y rfl (Y.nilCheck rfl) ?_
          refine RQ.y rfl (Y.fieldAddr (off := 0) rfl (by kernel_rfl)) ?_
          refine RQ.y rfl (Y.load (v := .int .i64 d0.kind) rfl (by kernel_rfl) (beC (cellT T (hca0 0 _ rfl)))) ?_
          refine RQ.y rfl (Y.move (v := .pointer (some ⟨ba0, oa0, none⟩)) s0) ?_
          refine RQ.y rfl (Y.nilCheck rfl) ?_
          refine RQ.y rfl (Y.fieldAddr (off := 1) rfl (by kernel_rfl)) ?_
          refine RQ.y rfl (Y.load (v := .int .i64 d0.level) rfl (by kernel_rfl) (beC (cellT T (hca0 1 _ rfl)))) ?_
          refine RQ.y rfl (Y.move (v := .pointer (some ⟨ba1, oa1, none⟩)) s1) ?_
          refine RQ.y rfl (Y.nilCheck rfl) ?_
          refine RQ.y rfl (Y.fieldAddr (off := 0) rfl (by kernel_rfl)) ?_
          refine RQ.y rfl (Y.load (v := .int .i64 d1.kind) rfl (by kernel_rfl) (beC (cellT T (hca1 0 _ rfl)))) ?_
          refine RQ.y rfl (Y.move (v := .pointer (some ⟨ba1, oa1, none⟩)) s1) ?_
          refine RQ.y rfl (Y.nilCheck rfl) ?_
          refine RQ.y rfl (Y.fieldAddr (off := 1) rfl (by kernel_rfl)) ?_
          refine RQ.y rfl (Y.load (v := .int .i64 d1.level) rfl (by kernel_rfl) (beC (cellT T (hca1 1 _ rfl)))) ?_
          refine RQ.call rfl (am4 rfl rfl rfl rfl) (by kernel_rfl) (v := .int .i64 (pairClass d0.kind d0.level d1.kind d1.level)) (bel (K := fun _ => True) fun w' hb' => (callB (spec_PairClass d0.kind d0.level d1.kind d1.level w'))) ?_
          refine RQ.y rfl (Y.assign (v := .int .i64 (pairClass d0.kind d0.level d1.kind d1.level)) rfl) ?_
          refine RQ.nil ?_
          intro w47 hb48
          have szw47 := hb48.size
          have T := Tt T hb48
          refine then_n ?_
          refine wp_ret ?_
          obtain rfl := Option.some.inj hm
          exact (ret1 rfl rfl rfl ⟨rfl, T⟩)
        · replace hm := cT c44 hm
          refine RQ.y (wantT (dj := 34) rfl (vb rfl c44)) (Y.move (v := .pointer (some ⟨ba1, oa1, none⟩)) s1) ?_
          refine RQ.y (wantT (dj := 34) rfl (vb rfl c44)) (Y.nilCheck rfl) ?_
          refine RQ.y (wantT (dj := 34) rfl (vb rfl c44)) (Y.fieldAddr (off := 0) rfl (by kernel_rfl)) ?_
          refine RQ.y (wantT (dj := 34) rfl (vb rfl c44)) (Y.load (v := .int .i64 d1.kind) rfl (by kernel_rfl) (beC (cellT T (hca1 0 _ rfl)))) ?_
          refine RQ.y (wantT (dj := 34) rfl (vb rfl c44)) (Y.binI (v := .bool (d1.kind == 9)) rfl rfl rfl) ?_
          refine RQ.y rfl (Y.pick (b := true) (v := .bool (d1.kind == 9)) (vb rfl c44) rfl) ?_
          refine RQ.y rfl (Y.move (v := .bool (d1.kind == 9)) rfl) ?_
          rcases bcases (d1.kind == 9) with c49 | c49
          · replace hm := cF c49 hm
            refine RQ.skip (wantN (dj := 41) rfl (vb rfl c49) rfl) ?_
            refine RQ.skip (wantN (dj := 41) rfl (vb rfl c49) rfl) ?_
            refine RQ.skip (wantN (dj := 41) rfl (vb rfl c49) rfl) ?_
            refine RQ.skip (wantN (dj := 41) rfl (vb rfl c49) rfl) ?_
            refine RQ.skip (wantN (dj := 41) rfl (vb rfl c49) rfl) ?_
            refine RQ.skip (wantN (dj := 41) rfl (vb rfl c49) rfl) ?_
            refine RQ.skip (wantN (dj := 41) rfl (vb rfl c49) rfl) ?_
            refine RQ.skip (wantN (dj := 41) rfl (vb rfl c49) rfl) ?_
            refine RQ.skip (wantN (dj := 41) rfl (vb rfl c49) rfl) ?_
            refine RQ.skip (wantN (dj := 41) rfl (vb rfl c49) rfl) ?_
            refine RQ.y rfl (Y.pick (b := false) (v := .bool false) (vb rfl c49) rfl) ?_
            refine RQ.nil ?_
            intro w50 hb51
            have szw50 := hb51.size
            have T := Tt T hb51
            refine then_n ?_
            refine cond_f rfl rfl ?_
            refine wp_skip ?_
            refine then_n ?_
            refine wp_seq ?_
            refine wp_rbd (by kernel_rfl) (by kernel_rfl) ?_
            refine RQ.y rfl (Y.move (v := .pointer (some ⟨ba0, oa0, none⟩)) s0) ?_
            refine RQ.y rfl (Y.nilCheck rfl) ?_
            refine RQ.y rfl (Y.fieldAddr (off := 0) rfl (by kernel_rfl)) ?_
            refine RQ.y rfl (Y.load (v := .int .i64 d0.kind) rfl (by kernel_rfl) (beC (cellT T (hca0 0 _ rfl)))) ?_
            refine RQ.y rfl (Y.move (v := .pointer (some ⟨ba0, oa0, none⟩)) s0) ?_
            refine RQ.y rfl (Y.nilCheck rfl) ?_
            refine RQ.y rfl (Y.fieldAddr (off := 1) rfl (by kernel_rfl)) ?_
            refine RQ.y rfl (Y.load (v := .int .i64 d0.level) rfl (by kernel_rfl) (beC (cellT T (hca0 1 _ rfl)))) ?_
            refine RQ.y rfl (Y.move (v := .pointer (some ⟨ba1, oa1, none⟩)) s1) ?_
            refine RQ.y rfl (Y.nilCheck rfl) ?_
            refine RQ.y rfl (Y.fieldAddr (off := 0) rfl (by kernel_rfl)) ?_
            refine RQ.y rfl (Y.load (v := .int .i64 d1.kind) rfl (by kernel_rfl) (beC (cellT T (hca1 0 _ rfl)))) ?_
            refine RQ.y rfl (Y.move (v := .pointer (some ⟨ba1, oa1, none⟩)) s1) ?_
            refine RQ.y rfl (Y.nilCheck rfl) ?_
            refine RQ.y rfl (Y.fieldAddr (off := 1) rfl (by kernel_rfl)) ?_
            refine RQ.y rfl (Y.load (v := .int .i64 d1.level) rfl (by kernel_rfl) (beC (cellT T (hca1 1 _ rfl)))) ?_
            refine RQ.call rfl (am4 rfl rfl rfl rfl) (by kernel_rfl) (v := .int .i64 (pairClass d0.kind d0.level d1.kind d1.level)) (bel (K := fun _ => True) fun w' hb' => (callB (spec_PairClass d0.kind d0.level d1.kind d1.level w'))) ?_
            refine RQ.y rfl (Y.assign (v := .int .i64 (pairClass d0.kind d0.level d1.kind d1.level)) rfl) ?_
            refine RQ.nil ?_
            intro w52 hb53
            have szw52 := hb53.size
            have T := Tt T hb53
            refine then_n ?_
            refine wp_ret ?_
            obtain rfl := Option.some.inj hm
            exact (ret1 rfl rfl rfl ⟨rfl, T⟩)
          · replace hm := cT c49 hm
            refine RQ.y (wantT (dj := 41) rfl (vb rfl c49)) (Y.move (v := .pointer (some ⟨ba1, oa1, none⟩)) s1) ?_
            refine RQ.y (wantT (dj := 41) rfl (vb rfl c49)) (Y.nilCheck rfl) ?_
            refine RQ.y (wantT (dj := 41) rfl (vb rfl c49)) (Y.fieldAddr (off := 2) rfl (by kernel_rfl)) ?_
            refine RQ.y (wantT (dj := 41) rfl (vb rfl c49)) (Y.load (v := .int .i64 d1.value) rfl (by kernel_rfl) (beC (cellT T (hca1 2 _ rfl)))) ?_
            refine RQ.y (wantT (dj := 41) rfl (vb rfl c49)) (Y.move (v := .pointer (some ⟨ba0, oa0, none⟩)) s0) ?_
            refine RQ.y (wantT (dj := 41) rfl (vb rfl c49)) (Y.nilCheck rfl) ?_
            refine RQ.y (wantT (dj := 41) rfl (vb rfl c49)) (Y.fieldAddr (off := 3) rfl (by kernel_rfl)) ?_
            refine RQ.y (wantT (dj := 41) rfl (vb rfl c49)) (Y.load (v := .slice A1 d0.data.length c1) rfl (by kernel_rfl) (beC (cellT T (hca0 3 _ rfl)))) ?_
            refine RQ.y (wantT (dj := 41) rfl (vb rfl c49)) (Y.len (by kernel_rfl) rfl) ?_
            refine RQ.y (wantT (dj := 41) rfl (vb rfl c49)) (Y.binI (v := .bool (decide (d1.value ≥ (d0.data.length : Int)))) rfl rfl rfl) ?_
            refine RQ.y rfl (Y.pick (b := true) (v := .bool (decide (d1.value ≥ (d0.data.length : Int)))) (vb rfl c49) rfl) ?_
            refine RQ.nil ?_
            intro w54 hb55
            have szw54 := hb55.size
            have T := Tt T hb55
            refine then_n ?_
            rcases bcases (decide (d1.value ≥ (d0.data.length : Int))) with c56 | c56
            · replace hm := cF c56 hm
              have pc56 := of_decide_eq_false c56
              refine cond_f rfl (vb rfl c56) ?_
              refine wp_skip ?_
              refine then_n ?_
              refine wp_seq ?_
              refine wp_rbd (by kernel_rfl) (by kernel_rfl) ?_
              refine RQ.y rfl (Y.move (v := .pointer (some ⟨ba0, oa0, none⟩)) s0) ?_
              refine RQ.y rfl (Y.nilCheck rfl) ?_
              refine RQ.y rfl (Y.fieldAddr (off := 0) rfl (by kernel_rfl)) ?_
              refine RQ.y rfl (Y.load (v := .int .i64 d0.kind) rfl (by kernel_rfl) (beC (cellT T (hca0 0 _ rfl)))) ?_
              refine RQ.y rfl (Y.move (v := .pointer (some ⟨ba0, oa0, none⟩)) s0) ?_
              refine RQ.y rfl (Y.nilCheck rfl) ?_
              refine RQ.y rfl (Y.fieldAddr (off := 1) rfl (by kernel_rfl)) ?_
              refine RQ.y rfl (Y.load (v := .int .i64 d0.level) rfl (by kernel_rfl) (beC (cellT T (hca0 1 _ rfl)))) ?_
              refine RQ.y rfl (Y.move (v := .pointer (some ⟨ba1, oa1, none⟩)) s1) ?_
              refine RQ.y rfl (Y.nilCheck rfl) ?_
              refine RQ.y rfl (Y.fieldAddr (off := 0) rfl (by kernel_rfl)) ?_
              refine RQ.y rfl (Y.load (v := .int .i64 d1.kind) rfl (by kernel_rfl) (beC (cellT T (hca1 0 _ rfl)))) ?_
              refine RQ.y rfl (Y.move (v := .pointer (some ⟨ba1, oa1, none⟩)) s1) ?_
              refine RQ.y rfl (Y.nilCheck rfl) ?_
              refine RQ.y rfl (Y.fieldAddr (off := 1) rfl (by kernel_rfl)) ?_
              refine RQ.y rfl (Y.load (v := .int .i64 d1.level) rfl (by kernel_rfl) (beC (cellT T (hca1 1 _ rfl)))) ?_
              refine RQ.call rfl (am4 rfl rfl rfl rfl) (by kernel_rfl) (v := .int .i64 (pairClass d0.kind d0.level d1.kind d1.level)) (bel (K := fun _ => True) fun w' hb' => (callB (spec_PairClass d0.kind d0.level d1.kind d1.level w'))) ?_
              refine RQ.y rfl (Y.assign (v := .int .i64 (pairClass d0.kind d0.level d1.kind d1.level)) rfl) ?_
              refine RQ.nil ?_
              intro w57 hb58
              have szw57 := hb58.size
              have T := Tt T hb58
              refine then_n ?_
              refine wp_ret ?_
              obtain rfl := Option.some.inj hm
              exact (ret1 rfl rfl rfl ⟨rfl, T⟩)
            · replace hm := cT c56 hm
              have pc56 := of_decide_eq_true c56
              refine cond_t rfl (vb rfl c56) ?_
              refine wp_seq ?_
              refine wp_rs rfl ?_
              refine RQ.y rfl (Y.assign (v := .int .i64 8) rfl) ?_
              refine RQ.nil ?_
              refine then_n ?_
              refine wp_ret ?_
              obtain rfl := Option.some.inj hm
              exact (then_r (ret1 rfl rfl rfl ⟨rfl, T⟩))
      · replace hm := cT c43 hm
        have pc43 := of_decide_eq_true c43
        refine cond_t rfl (vb rfl c43) ?_
        refine wp_seq ?_
        refine wp_rs rfl ?_
        refine RQ.y rfl (Y.assign (v := .int .i64 8) rfl) ?_
        refine RQ.nil ?_
        refine then_n ?_
        refine wp_ret ?_
        obtain rfl := Option.some.inj hm
        exact (then_r (ret1 rfl rfl rfl ⟨rfl, T⟩))

def m_impl_Net_classOf (d0 : DNet) (d1 : DPair) : Option (Int × Bool) :=
  ((getI d0.agents d1.a).bind fun x8 => ((getI d0.agents d1.b).bind fun x19 => (bif ((pairFirst x8.kind x8.level x19.kind x19.level) == 2) then (bif ((pairClass x8.kind x8.level x19.kind x19.level) == 6) then (bif (x8.kind == 10) then (bif (decide (x19.value ≥ (x8.data.length : Int))) then some (8, false) else some ((pairClass x8.kind x8.level x19.kind x19.level), ((pairFirst x8.kind x8.level x19.kind x19.level) == 2))) else some ((pairClass x8.kind x8.level x19.kind x19.level), ((pairFirst x8.kind x8.level x19.kind x19.level) == 2))) else some ((pairClass x8.kind x8.level x19.kind x19.level), ((pairFirst x8.kind x8.level x19.kind x19.level) == 2))) else (bif ((pairClass x8.kind x8.level x19.kind x19.level) == 6) then (bif (x19.kind == 10) then (bif (decide (x8.value ≥ (x19.data.length : Int))) then some (8, false) else some ((pairClass x8.kind x8.level x19.kind x19.level), ((pairFirst x8.kind x8.level x19.kind x19.level) == 2))) else some ((pairClass x8.kind x8.level x19.kind x19.level), ((pairFirst x8.kind x8.level x19.kind x19.level) == 2))) else some ((pairClass x8.kind x8.level x19.kind x19.level), ((pairFirst x8.kind x8.level x19.kind x19.level) == 2))))))
set_option maxHeartbeats 2000000 in
theorem c_m_impl_Net_classOf (d0 : DNet) (d1 : DPair) (r : Int × Bool) (hm : m_impl_Net_classOf d0 d1 = some r) (v0 : Value) (w : World) (hv0 : Pt netRd w v0 d0) :
    Calls Try.prog 64 #[v0, .agg #[.int .i64 d1.a, .int .i64 d1.b]] w fun e w' => e = .returned (.tuple #[.int .i64 r.1, .bool r.2]) ∧ Below w.heap.size w w' := by
  obtain ⟨ba0, oa0, csa0, rfl, hba0, hRa0, hca0⟩ := hv0
  have hSa0 := hRa0
  obtain ⟨A1, n1, c1, rfl, ⟨h1, r1⟩⟩ := hRa0
  have e1 := h1.len; subst e1
  have q1 := len_le r1
  have T := Below.refl w.heap.size w
  unfold m_impl_Net_classOf at hm
  refine enter 60 Try.func64 rfl rfl rfl ?_
  intro f hf
  have s0 : f 0 = .pointer (some ⟨ba0, oa0, none⟩) := hf 0 _ rfl
  have s1 : f 1 = .agg #[.int .i64 d1.a, .int .i64 d1.b] := hf 1 _ rfl
  refine wp_seq ?_
  refine wp_rl rfl ?_
  refine RL.box rfl s1 (fun w2 B3 hb4 szw2 => ?_)
  replace B3 : Blk w2 w.heap.size 81 #[.int .i64 d1.a, .int .i64 d1.b] := B3
  have GB3 : w.heap.size ≤ w.heap.size := T.size
  have T := Tt T hb4
  refine RL.y rfl (Y.assign (v := .int .i64 0) rfl) ?_
  refine RL.y rfl (Y.assign (v := .bool false) rfl) ?_
  refine RL.nil ?_
  refine then_n ?_
  refine wp_seq ?_
  refine wp_rgt (fun w' => Below w.heap.size w w' ∧ Blk w' w.heap.size 81 #[.int .i64 d1.a, .int .i64 d1.b]) (.q 0 (.q 1 (.q 2 (.q 3 (.q 4 (.q 5 (.q 6 (.q 7 (.q 8 (.q 9 (.q 10 (.q 11 (.q 12 (.q 13 (.q 14 (.q 15 (.two 16 (.a 17 (.a 18 (.a 19 .nil))) 17 (.a 16 (.a 18 (.a 19 .nil)))))))))))))))))))) (by kernel_rfl) (by kernel_rfl) (fun w6 hb7 szw6 => ?_)
  have B3 := blkT B3 hb7
  have T := Tt T hb7
  refine ⟨⟨T, B3⟩, ?_⟩
  refine RT.y rfl rfl (Y.move (v := .pointer (some ⟨ba0, oa0, none⟩)) s0) ?_
  refine RT.y rfl rfl (Y.nilCheck rfl) ?_
  refine RT.y rfl rfl (Y.fieldAddr (off := 0) rfl (by kernel_rfl)) ?_
  refine RT.y rfl rfl (Y.load (v := .slice A1 d0.agents.length c1) rfl (by kernel_rfl) (fun w' hS => (cellT hS.1 (hca0 0 _ rfl)))) ?_
  refine RT.y rfl rfl (Y.fieldAddr (off := 0) rfl (by kernel_rfl)) ?_
  refine RT.y rfl rfl (Y.load (v := .int .i64 d1.a) rfl (by kernel_rfl) (fun w' hS => (blkCell hS.2 (i := 0) rfl))) ?_
  obtain ⟨x8, hx11, hm⟩ := bnd hm
  obtain ⟨k9, hk12, hl13, hx11⟩ := getI_some hx11
  obtain ⟨b15, o16, rfl, hbb15⟩ := h1.addr (by omega)
  obtain ⟨cs10, hRcs10, hc14⟩ := h1.el hx11
  have hScs10 := hRcs10
  obtain ⟨A17, n17, c17, A18, n18, c18, rfl, ⟨h17, r17⟩, ⟨h18, r18⟩⟩ := hRcs10
  have e17 := h17.len; subst e17
  have q17 := len_le r17
  have e18 := h18.len; subst e18
  have q18 := len_le r18
  refine RT.y rfl rfl (Y.indexAddr (m := k9) (sz := 5) rfl rfl hk12 hl13 (by kernel_rfl)) ?_
  refine RT.y rfl rfl (Y.loadN (cs := [.int .i64 x8.kind, .int .i64 x8.level, .int .i64 x8.value, .slice A17 x8.data.length c17, .slice A18 x8.ports.length c18]) rfl (by kernel_rfl) (cells5 (fun w' hS => (cellT hS.1 (hc14 0 _ rfl))) (fun w' hS => (cellT hS.1 (hc14 1 _ rfl))) (fun w' hS => (cellT hS.1 (hc14 2 _ rfl))) (fun w' hS => (cellT hS.1 (hc14 3 _ rfl))) (fun w' hS => (cellT hS.1 (hc14 4 _ rfl))))) ?_
  refine RT.y rfl rfl (Y.move (v := .pointer (some ⟨ba0, oa0, none⟩)) s0) ?_
  refine RT.y rfl rfl (Y.nilCheck rfl) ?_
  refine RT.y rfl rfl (Y.fieldAddr (off := 0) rfl (by kernel_rfl)) ?_
  refine RT.y rfl rfl (Y.load (v := .slice (some ⟨b15, o16, none⟩) d0.agents.length c1) rfl (by kernel_rfl) (fun w' hS => (cellT hS.1 (hca0 0 _ rfl)))) ?_
  refine RT.y rfl rfl (Y.fieldAddr (off := 1) rfl (by kernel_rfl)) ?_
  refine RT.y rfl rfl (Y.load (v := .int .i64 d1.b) rfl (by kernel_rfl) (fun w' hS => (blkCell hS.2 (i := 1) rfl))) ?_
  obtain ⟨x19, hx22, hm⟩ := bnd hm
  obtain ⟨k20, hk23, hl24, hx22⟩ := getI_some hx22
  obtain ⟨cs21, hRcs21, hc25⟩ := h1.el hx22
  have hScs21 := hRcs21
  obtain ⟨A26, n26, c26, A27, n27, c27, rfl, ⟨h26, r26⟩, ⟨h27, r27⟩⟩ := hRcs21
  have e26 := h26.len; subst e26
  have q26 := len_le r26
  have e27 := h27.len; subst e27
  have q27 := len_le r27
  refine RT.y rfl rfl (Y.indexAddr (m := k20) (sz := 5) rfl rfl hk23 hl24 (by kernel_rfl)) ?_
  refine RT.y rfl rfl (Y.loadN (cs := [.int .i64 x19.kind, .int .i64 x19.level, .int .i64 x19.value, .slice A26 x19.data.length c26, .slice A27 x19.ports.length c27]) rfl (by kernel_rfl) (cells5 (fun w' hS => (cellT hS.1 (hc25 0 _ rfl))) (fun w' hS => (cellT hS.1 (hc25 1 _ rfl))) (fun w' hS => (cellT hS.1 (hc25 2 _ rfl))) (fun w' hS => (cellT hS.1 (hc25 3 _ rfl))) (fun w' hS => (cellT hS.1 (hc25 4 _ rfl))))) ?_
  refine RT.both rfl rfl ?_ ?_
  · refine RL.alloc (z := .agg #[.int .i64 0, .int .i64 0, .int .i64 0, .slice none 0 0, .slice none 0 0]) rfl (by kernel_rfl) (fun w28 B29 hb30 szw28 => ?_)
    replace B29 : Blk w28 w6.heap.size 89 #[.int .i64 0, .int .i64 0, .int .i64 0, .slice none 0 0, .slice none 0 0] := B29
    have GB29 : w.heap.size ≤ w6.heap.size := T.size
    have Eob31_ob5 := Nat.ne_of_lt B3.lt
    have B3 := blkT B3 hb30
    have T := Tt T hb30
    refine RL.nil ⟨⟨T, B3⟩, ?_⟩
    refine RT.act rfl ?_
    refine RL.alloc (z := .agg #[.int .i64 0, .int .i64 0, .int .i64 0, .slice none 0 0, .slice none 0 0]) rfl (by kernel_rfl) (fun w32 B33 hb34 szw32 => ?_)
    replace B33 : Blk w32 w28.heap.size 89 #[.int .i64 0, .int .i64 0, .int .i64 0, .slice none 0 0, .slice none 0 0] := B33
    have GB33 : w.heap.size ≤ w28.heap.size := T.size
    have Eob35_ob5 := Nat.ne_of_lt B3.lt
    have Eob35_ob31 := Nat.ne_of_lt B29.lt
    have B3 := blkT B3 hb34
    have B29 := blkT B29 hb34
    have T := Tt T hb34
    refine RL.nil ⟨⟨T, B3⟩, ?_⟩
    refine RT.act rfl ?_
    refine RL.store (v := .agg #[.int .i64 x8.kind, .int .i64 x8.level, .int .i64 x8.value, .slice A17 x8.data.length c17, .slice A18 x8.ports.length c18]) (cs' := #[.int .i64 x8.kind, .int .i64 x8.level, .int .i64 x8.value, .slice A17 x8.data.length c17, .slice A18 x8.ports.length c18]) rfl rfl rfl B29 (by kernel_rfl) (by rfl) (by rfl) (by rfl) (fun w36 B37 ho38 => ?_)
    have szw36 := ho38.size
    have B3 := B3.only_ ho38 (by intro hin; simp at hin; exact Eob31_ob5 hin)
    have B33 := B33.only_ ho38 (by intro hin; simp at hin; exact Eob35_ob31.symm hin)
    have T := T.trans (ho38.below (by first | (simp; done) | (simp; omega)))
    refine RL.nil ⟨⟨T, B3⟩, ?_⟩
    refine RT.act rfl ?_
    refine RL.store (v := .agg #[.int .i64 x19.kind, .int .i64 x19.level, .int .i64 x19.value, .slice A26 x19.data.length c26, .slice A27 x19.ports.length c27]) (cs' := #[.int .i64 x19.kind, .int .i64 x19.level, .int .i64 x19.value, .slice A26 x19.data.length c26, .slice A27 x19.ports.length c27]) rfl rfl rfl B33 (by kernel_rfl) (by rfl) (by rfl) (by rfl) (fun w39 B40 ho41 => ?_)
    have szw39 := ho41.size
    have B3 := B3.only_ ho41 (by intro hin; simp at hin; exact Eob35_ob5 hin)
    have B37 := B37.only_ ho41 (by intro hin; simp at hin; exact Eob35_ob31 hin)
    have T := T.trans (ho41.below (by first | (simp; done) | (simp; omega)))
    refine RL.nil ⟨⟨T, B3⟩, ?_⟩
    refine RT.nil_ ?_
    refine then_n ?_
    refine wp_seq ?_
    refine wp_rb rfl ?_
    refine RQ.y rfl (Y.fieldAddr (off := 0) rfl (by kernel_rfl)) ?_
    refine RQ.y rfl (Y.load (v := .int .i64 x8.kind) rfl (by kernel_rfl) (beC (blkCell B37 (i := 0) rfl))) ?_
    refine RQ.y rfl (Y.fieldAddr (off := 1) rfl (by kernel_rfl)) ?_
    refine RQ.y rfl (Y.load (v := .int .i64 x8.level) rfl (by kernel_rfl) (beC (blkCell B37 (i := 1) rfl))) ?_
    refine RQ.y rfl (Y.fieldAddr (off := 0) rfl (by kernel_rfl)) ?_
    refine RQ.y rfl (Y.load (v := .int .i64 x19.kind) rfl (by kernel_rfl) (beC (blkCell B40 (i := 0) rfl))) ?_
    refine RQ.y rfl (Y.fieldAddr (off := 1) rfl (by kernel_rfl)) ?_
    refine RQ.y rfl (Y.load (v := .int .i64 x19.level) rfl (by kernel_rfl) (beC (blkCell B40 (i := 1) rfl))) ?_
    refine RQ.call rfl (am4 rfl rfl rfl rfl) (by kernel_rfl) (v := .tuple #[.int .i64 (pairClass x8.kind x8.level x19.kind x19.level), .int .i64 (pairFirst x8.kind x8.level x19.kind x19.level)]) (bel (K := fun _ => True) fun w' hb' => (callB (impl_pairOf x8.kind x8.level x19.kind x19.level w'))) ?_
    refine RQ.y rfl (Y.move (v := .tuple #[.int .i64 (pairClass x8.kind x8.level x19.kind x19.level), .int .i64 (pairFirst x8.kind x8.level x19.kind x19.level)]) rfl) ?_
    refine RQ.y rfl (Y.extract (i := 0) rfl rfl) ?_
    refine RQ.y rfl (Y.extract (i := 1) rfl rfl) ?_
    refine RQ.y rfl (Y.assign (v := .int .i64 (pairClass x8.kind x8.level x19.kind x19.level)) rfl) ?_
    refine RQ.y rfl (Y.assign (v := .int .i64 (pairFirst x8.kind x8.level x19.kind x19.level)) rfl) ?_
    refine RQ.nil ?_
    intro w42 hb43
    have szw42 := hb43.size
    have B37 := blkT B37 hb43
    have B40 := blkT B40 hb43
    have T := Tt T hb43
    refine then_n ?_
    refine wp_seq ?_
    refine wp_seq ?_
    refine wp_rs rfl ?_
    refine RQ.y rfl (Y.move (v := .int .i64 (pairFirst x8.kind x8.level x19.kind x19.level)) rfl) ?_
    refine RQ.y rfl (Y.binI (v := .bool ((pairFirst x8.kind x8.level x19.kind x19.level) == 2)) rfl rfl rfl) ?_
    refine RQ.nil ?_
    refine then_n ?_
    rcases bcases ((pairFirst x8.kind x8.level x19.kind x19.level) == 2) with c44 | c44
    · replace hm := cF c44 hm
      refine cond_f rfl (vb rfl c44) ?_
      refine wp_skip ?_
      refine then_n ?_
      refine wp_seq ?_
      refine wp_seq ?_
      refine wp_rs rfl ?_
      refine RQ.y rfl (Y.move (v := .int .i64 (pairClass x8.kind x8.level x19.kind x19.level)) rfl) ?_
      refine RQ.y rfl (Y.binI (v := .bool ((pairClass x8.kind x8.level x19.kind x19.level) == 6)) rfl rfl rfl) ?_
      refine RQ.y rfl (Y.move (v := .bool ((pairClass x8.kind x8.level x19.kind x19.level) == 6)) rfl) ?_
      rcases bcases ((pairClass x8.kind x8.level x19.kind x19.level) == 6) with c45 | c45
      · replace hm := cF c45 hm
        refine RQ.skip (wantN (dj := 44) rfl (vb rfl c45) rfl) ?_
        refine RQ.skip (wantN (dj := 44) rfl (vb rfl c45) rfl) ?_
        refine RQ.skip (wantN (dj := 44) rfl (vb rfl c45) rfl) ?_
        refine RQ.y rfl (Y.pick (b := false) (v := .bool false) (vb rfl c45) rfl) ?_
        refine RQ.y rfl (Y.move (v := .bool false) rfl) ?_
        refine RQ.skip (wantN (dj := 49) rfl rfl rfl) ?_
        refine RQ.skip (wantN (dj := 49) rfl rfl rfl) ?_
        refine RQ.skip (wantN (dj := 49) rfl rfl rfl) ?_
        refine RQ.skip (wantN (dj := 49) rfl rfl rfl) ?_
        refine RQ.skip (wantN (dj := 49) rfl rfl rfl) ?_
        refine RQ.skip (wantN (dj := 49) rfl rfl rfl) ?_
        refine RQ.y rfl (Y.pick (b := false) (v := .bool false) rfl rfl) ?_
        refine RQ.nil ?_
        refine then_n ?_
        refine cond_f rfl rfl ?_
        refine wp_skip ?_
        refine then_n ?_
        refine wp_seq ?_
        refine wp_rs rfl ?_
        refine RQ.y rfl (Y.move (v := .int .i64 (pairClass x8.kind x8.level x19.kind x19.level)) rfl) ?_
        refine RQ.y rfl (Y.move (v := .int .i64 (pairFirst x8.kind x8.level x19.kind x19.level)) rfl) ?_
        refine RQ.y rfl (Y.binI (v := .bool ((pairFirst x8.kind x8.level x19.kind x19.level) == 2)) rfl rfl rfl) ?_
        refine RQ.y rfl (Y.assign (v := .int .i64 (pairClass x8.kind x8.level x19.kind x19.level)) rfl) ?_
        refine RQ.y rfl (Y.assign (v := .bool ((pairFirst x8.kind x8.level x19.kind x19.level) == 2)) rfl) ?_
        refine RQ.nil ?_
        refine then_n ?_
        refine wp_ret ?_
        obtain rfl := Option.some.inj hm
        exact (ret2 rfl rfl rfl rfl ⟨rfl, T⟩)
      · replace hm := cT c45 hm
        refine RQ.y (wantT (dj := 44) rfl (vb rfl c45)) (Y.fieldAddr (off := 0) rfl (by kernel_rfl)) ?_
        refine RQ.y (wantT (dj := 44) rfl (vb rfl c45)) (Y.load (v := .int .i64 x19.kind) rfl (by kernel_rfl) (eqC (blkCell B40 (i := 0) rfl))) ?_
        refine RQ.y (wantT (dj := 44) rfl (vb rfl c45)) (Y.binI (v := .bool (x19.kind == 10)) rfl rfl rfl) ?_
        refine RQ.y rfl (Y.pick (b := true) (v := .bool (x19.kind == 10)) (vb rfl c45) rfl) ?_
        refine RQ.y rfl (Y.move (v := .bool (x19.kind == 10)) rfl) ?_
        rcases bcases (x19.kind == 10) with c46 | c46
        · replace hm := cF c46 hm
          refine RQ.skip (wantN (dj := 49) rfl (vb rfl c46) rfl) ?_
          refine RQ.skip (wantN (dj := 49) rfl (vb rfl c46) rfl) ?_
          refine RQ.skip (wantN (dj := 49) rfl (vb rfl c46) rfl) ?_
          refine RQ.skip (wantN (dj := 49) rfl (vb rfl c46) rfl) ?_
          refine RQ.skip (wantN (dj := 49) rfl (vb rfl c46) rfl) ?_
          refine RQ.skip (wantN (dj := 49) rfl (vb rfl c46) rfl) ?_
          refine RQ.y rfl (Y.pick (b := false) (v := .bool false) (vb rfl c46) rfl) ?_
          refine RQ.nil ?_
          refine then_n ?_
          refine cond_f rfl rfl ?_
          refine wp_skip ?_
          refine then_n ?_
          refine wp_seq ?_
          refine wp_rs rfl ?_
          refine RQ.y rfl (Y.move (v := .int .i64 (pairClass x8.kind x8.level x19.kind x19.level)) rfl) ?_
          refine RQ.y rfl (Y.move (v := .int .i64 (pairFirst x8.kind x8.level x19.kind x19.level)) rfl) ?_
          refine RQ.y rfl (Y.binI (v := .bool ((pairFirst x8.kind x8.level x19.kind x19.level) == 2)) rfl rfl rfl) ?_
          refine RQ.y rfl (Y.assign (v := .int .i64 (pairClass x8.kind x8.level x19.kind x19.level)) rfl) ?_
          refine RQ.y rfl (Y.assign (v := .bool ((pairFirst x8.kind x8.level x19.kind x19.level) == 2)) rfl) ?_
          refine RQ.nil ?_
          refine then_n ?_
          refine wp_ret ?_
          obtain rfl := Option.some.inj hm
          exact (ret2 rfl rfl rfl rfl ⟨rfl, T⟩)
        · replace hm := cT c46 hm
          refine RQ.y (wantT (dj := 49) rfl (vb rfl c46)) (Y.fieldAddr (off := 2) rfl (by kernel_rfl)) ?_
          refine RQ.y (wantT (dj := 49) rfl (vb rfl c46)) (Y.load (v := .int .i64 x8.value) rfl (by kernel_rfl) (eqC (blkCell B37 (i := 2) rfl))) ?_
          refine RQ.y (wantT (dj := 49) rfl (vb rfl c46)) (Y.fieldAddr (off := 3) rfl (by kernel_rfl)) ?_
          refine RQ.y (wantT (dj := 49) rfl (vb rfl c46)) (Y.load (v := .slice A26 x19.data.length c26) rfl (by kernel_rfl) (eqC (blkCell B40 (i := 3) rfl))) ?_
          refine RQ.y (wantT (dj := 49) rfl (vb rfl c46)) (Y.len (by kernel_rfl) rfl) ?_
          refine RQ.y (wantT (dj := 49) rfl (vb rfl c46)) (Y.binI (v := .bool (decide (x8.value ≥ (x19.data.length : Int)))) rfl rfl rfl) ?_
          refine RQ.y rfl (Y.pick (b := true) (v := .bool (decide (x8.value ≥ (x19.data.length : Int)))) (vb rfl c46) rfl) ?_
          refine RQ.nil ?_
          refine then_n ?_
          rcases bcases (decide (x8.value ≥ (x19.data.length : Int))) with c47 | c47
          · replace hm := cF c47 hm
            have pc47 := of_decide_eq_false c47
            refine cond_f rfl (vb rfl c47) ?_
            refine wp_skip ?_
            refine then_n ?_
            refine wp_seq ?_
            refine wp_rs rfl ?_
            refine RQ.y rfl (Y.move (v := .int .i64 (pairClass x8.kind x8.level x19.kind x19.level)) rfl) ?_
            refine RQ.y rfl (Y.move (v := .int .i64 (pairFirst x8.kind x8.level x19.kind x19.level)) rfl) ?_
            refine RQ.y rfl (Y.binI (v := .bool ((pairFirst x8.kind x8.level x19.kind x19.level) == 2)) rfl rfl rfl) ?_
            refine RQ.y rfl (Y.assign (v := .int .i64 (pairClass x8.kind x8.level x19.kind x19.level)) rfl) ?_
            refine RQ.y rfl (Y.assign (v := .bool ((pairFirst x8.kind x8.level x19.kind x19.level) == 2)) rfl) ?_
            refine RQ.nil ?_
            refine then_n ?_
            refine wp_ret ?_
            obtain rfl := Option.some.inj hm
            exact (ret2 rfl rfl rfl rfl ⟨rfl, T⟩)
          · replace hm := cT c47 hm
            have pc47 := of_decide_eq_true c47
            refine cond_t rfl (vb rfl c47) ?_
            refine wp_seq ?_
            refine wp_rs rfl ?_
            refine RQ.y rfl (Y.assign (v := .int .i64 8) rfl) ?_
            refine RQ.y rfl (Y.assign (v := .bool false) rfl) ?_
            refine RQ.nil ?_
            refine then_n ?_
            refine wp_ret ?_
            obtain rfl := Option.some.inj hm
            exact (then_r (ret2 rfl rfl rfl rfl ⟨rfl, T⟩))
    · replace hm := cT c44 hm
      refine cond_t rfl (vb rfl c44) ?_
      refine wp_rl rfl ?_
      refine RL.y rfl (Y.loadN (cs := [.int .i64 x19.kind, .int .i64 x19.level, .int .i64 x19.value, .slice A26 x19.data.length c26, .slice A27 x19.ports.length c27]) rfl (by kernel_rfl) (cells5 (eqC (blkCell B40 (i := 0) rfl)) (eqC (blkCell B40 (i := 1) rfl)) (eqC (blkCell B40 (i := 2) rfl)) (eqC (blkCell B40 (i := 3) rfl)) (eqC (blkCell B40 (i := 4) rfl)))) ?_
      refine RL.y rfl (Y.loadN (cs := [.int .i64 x8.kind, .int .i64 x8.level, .int .i64 x8.value, .slice A17 x8.data.length c17, .slice A18 x8.ports.length c18]) rfl (by kernel_rfl) (cells5 (eqC (blkCell B37 (i := 0) rfl)) (eqC (blkCell B37 (i := 1) rfl)) (eqC (blkCell B37 (i := 2) rfl)) (eqC (blkCell B37 (i := 3) rfl)) (eqC (blkCell B37 (i := 4) rfl)))) ?_
      refine RL.store (v := .agg #[.int .i64 x19.kind, .int .i64 x19.level, .int .i64 x19.value, .slice A26 x19.data.length c26, .slice A27 x19.ports.length c27]) (cs' := #[.int .i64 x19.kind, .int .i64 x19.level, .int .i64 x19.value, .slice A26 x19.data.length c26, .slice A27 x19.ports.length c27]) rfl rfl rfl B37 (by kernel_rfl) (by rfl) (by rfl) (by rfl) (fun w48 B49 ho50 => ?_)
      have szw48 := ho50.size
      have B40 := B40.only_ ho50 (by intro hin; simp at hin; exact Eob35_ob31.symm hin)
      have T := T.trans (ho50.below (by first | (simp; done) | (simp; omega)))
      refine RL.store (v := .agg #[.int .i64 x8.kind, .int .i64 x8.level, .int .i64 x8.value, .slice A17 x8.data.length c17, .slice A18 x8.ports.length c18]) (cs' := #[.int .i64 x8.kind, .int .i64 x8.level, .int .i64 x8.value, .slice A17 x8.data.length c17, .slice A18 x8.ports.length c18]) rfl rfl rfl B40 (by kernel_rfl) (by rfl) (by rfl) (by rfl) (fun w51 B52 ho53 => ?_)
      have szw51 := ho53.size
      have B49 := B49.only_ ho53 (by intro hin; simp at hin; exact Eob35_ob31 hin)
      have T := T.trans (ho53.below (by first | (simp; done) | (simp; omega)))
      refine RL.nil ?_
      refine then_n ?_
      refine wp_seq ?_
      refine wp_seq ?_
      refine wp_rs rfl ?_
      refine RQ.y rfl (Y.move (v := .int .i64 (pairClass x8.kind x8.level x19.kind x19.level)) rfl) ?_
      refine RQ.y rfl (Y.binI (v := .bool ((pairClass x8.kind x8.level x19.kind x19.level) == 6)) rfl rfl rfl) ?_
      refine RQ.y rfl (Y.move (v := .bool ((pairClass x8.kind x8.level x19.kind x19.level) == 6)) rfl) ?_
      rcases bcases ((pairClass x8.kind x8.level x19.kind x19.level) == 6) with c54 | c54
      · replace hm := cF c54 hm
        refine RQ.skip (wantN (dj := 44) rfl (vb rfl c54) rfl) ?_
        refine RQ.skip (wantN (dj := 44) rfl (vb rfl c54) rfl) ?_
        refine RQ.skip (wantN (dj := 44) rfl (vb rfl c54) rfl) ?_
        refine RQ.y rfl (Y.pick (b := false) (v := .bool false) (vb rfl c54) rfl) ?_
        refine RQ.y rfl (Y.move (v := .bool false) rfl) ?_
        refine RQ.skip (wantN (dj := 49) rfl rfl rfl) ?_
        refine RQ.skip (wantN (dj := 49) rfl rfl rfl) ?_
        refine RQ.skip (wantN (dj := 49) rfl rfl rfl) ?_
        refine RQ.skip (wantN (dj := 49) rfl rfl rfl) ?_
        refine RQ.skip (wantN (dj := 49) rfl rfl rfl) ?_
        refine RQ.skip (wantN (dj := 49) rfl rfl rfl) ?_
        refine RQ.y rfl (Y.pick (b := false) (v := .bool false) rfl rfl) ?_
        refine RQ.nil ?_
        refine then_n ?_
        refine cond_f rfl rfl ?_
        refine wp_skip ?_
        refine then_n ?_
        refine wp_seq ?_
        refine wp_rs rfl ?_
        refine RQ.y rfl (Y.move (v := .int .i64 (pairClass x8.kind x8.level x19.kind x19.level)) rfl) ?_
        refine RQ.y rfl (Y.move (v := .int .i64 (pairFirst x8.kind x8.level x19.kind x19.level)) rfl) ?_
        refine RQ.y rfl (Y.binI (v := .bool ((pairFirst x8.kind x8.level x19.kind x19.level) == 2)) rfl rfl rfl) ?_
        refine RQ.y rfl (Y.assign (v := .int .i64 (pairClass x8.kind x8.level x19.kind x19.level)) rfl) ?_
        refine RQ.y rfl (Y.assign (v := .bool ((pairFirst x8.kind x8.level x19.kind x19.level) == 2)) rfl) ?_
        refine RQ.nil ?_
        refine then_n ?_
        refine wp_ret ?_
        obtain rfl := Option.some.inj hm
        exact (ret2 rfl rfl rfl rfl ⟨rfl, T⟩)
      · replace hm := cT c54 hm
        refine RQ.y (wantT (dj := 44) rfl (vb rfl c54)) (Y.fieldAddr (off := 0) rfl (by kernel_rfl)) ?_
        refine RQ.y (wantT (dj := 44) rfl (vb rfl c54)) (Y.load (v := .int .i64 x8.kind) rfl (by kernel_rfl) (eqC (blkCell B52 (i := 0) rfl))) ?_
        refine RQ.y (wantT (dj := 44) rfl (vb rfl c54)) (Y.binI (v := .bool (x8.kind == 10)) rfl rfl rfl) ?_
        refine RQ.y rfl (Y.pick (b := true) (v := .bool (x8.kind == 10)) (vb rfl c54) rfl) ?_
        refine RQ.y rfl (Y.move (v := .bool (x8.kind == 10)) rfl) ?_
        rcases bcases (x8.kind == 10) with c55 | c55
        · replace hm := cF c55 hm
          refine RQ.skip (wantN (dj := 49) rfl (vb rfl c55) rfl) ?_
          refine RQ.skip (wantN (dj := 49) rfl (vb rfl c55) rfl) ?_
          refine RQ.skip (wantN (dj := 49) rfl (vb rfl c55) rfl) ?_
          refine RQ.skip (wantN (dj := 49) rfl (vb rfl c55) rfl) ?_
          refine RQ.skip (wantN (dj := 49) rfl (vb rfl c55) rfl) ?_
          refine RQ.skip (wantN (dj := 49) rfl (vb rfl c55) rfl) ?_
          refine RQ.y rfl (Y.pick (b := false) (v := .bool false) (vb rfl c55) rfl) ?_
          refine RQ.nil ?_
          refine then_n ?_
          refine cond_f rfl rfl ?_
          refine wp_skip ?_
          refine then_n ?_
          refine wp_seq ?_
          refine wp_rs rfl ?_
          refine RQ.y rfl (Y.move (v := .int .i64 (pairClass x8.kind x8.level x19.kind x19.level)) rfl) ?_
          refine RQ.y rfl (Y.move (v := .int .i64 (pairFirst x8.kind x8.level x19.kind x19.level)) rfl) ?_
          refine RQ.y rfl (Y.binI (v := .bool ((pairFirst x8.kind x8.level x19.kind x19.level) == 2)) rfl rfl rfl) ?_
          refine RQ.y rfl (Y.assign (v := .int .i64 (pairClass x8.kind x8.level x19.kind x19.level)) rfl) ?_
          refine RQ.y rfl (Y.assign (v := .bool ((pairFirst x8.kind x8.level x19.kind x19.level) == 2)) rfl) ?_
          refine RQ.nil ?_
          refine then_n ?_
          refine wp_ret ?_
          obtain rfl := Option.some.inj hm
          exact (ret2 rfl rfl rfl rfl ⟨rfl, T⟩)
        · replace hm := cT c55 hm
          refine RQ.y (wantT (dj := 49) rfl (vb rfl c55)) (Y.fieldAddr (off := 2) rfl (by kernel_rfl)) ?_
          refine RQ.y (wantT (dj := 49) rfl (vb rfl c55)) (Y.load (v := .int .i64 x19.value) rfl (by kernel_rfl) (eqC (blkCell B49 (i := 2) rfl))) ?_
          refine RQ.y (wantT (dj := 49) rfl (vb rfl c55)) (Y.fieldAddr (off := 3) rfl (by kernel_rfl)) ?_
          refine RQ.y (wantT (dj := 49) rfl (vb rfl c55)) (Y.load (v := .slice A17 x8.data.length c17) rfl (by kernel_rfl) (eqC (blkCell B52 (i := 3) rfl))) ?_
          refine RQ.y (wantT (dj := 49) rfl (vb rfl c55)) (Y.len (by kernel_rfl) rfl) ?_
          refine RQ.y (wantT (dj := 49) rfl (vb rfl c55)) (Y.binI (v := .bool (decide (x19.value ≥ (x8.data.length : Int)))) rfl rfl rfl) ?_
          refine RQ.y rfl (Y.pick (b := true) (v := .bool (decide (x19.value ≥ (x8.data.length : Int)))) (vb rfl c55) rfl) ?_
          refine RQ.nil ?_
          refine then_n ?_
          rcases bcases (decide (x19.value ≥ (x8.data.length : Int))) with c56 | c56
          · replace hm := cF c56 hm
            have pc56 := of_decide_eq_false c56
            refine cond_f rfl (vb rfl c56) ?_
            refine wp_skip ?_
            refine then_n ?_
            refine wp_seq ?_
            refine wp_rs rfl ?_
            refine RQ.y rfl (Y.move (v := .int .i64 (pairClass x8.kind x8.level x19.kind x19.level)) rfl) ?_
            refine RQ.y rfl (Y.move (v := .int .i64 (pairFirst x8.kind x8.level x19.kind x19.level)) rfl) ?_
            refine RQ.y rfl (Y.binI (v := .bool ((pairFirst x8.kind x8.level x19.kind x19.level) == 2)) rfl rfl rfl) ?_
            refine RQ.y rfl (Y.assign (v := .int .i64 (pairClass x8.kind x8.level x19.kind x19.level)) rfl) ?_
            refine RQ.y rfl (Y.assign (v := .bool ((pairFirst x8.kind x8.level x19.kind x19.level) == 2)) rfl) ?_
            refine RQ.nil ?_
            refine then_n ?_
            refine wp_ret ?_
            obtain rfl := Option.some.inj hm
            exact (ret2 rfl rfl rfl rfl ⟨rfl, T⟩)
          · replace hm := cT c56 hm
            have pc56 := of_decide_eq_true c56
            refine cond_t rfl (vb rfl c56) ?_
            refine wp_seq ?_
            refine wp_rs rfl ?_
            refine RQ.y rfl (Y.assign (v := .int .i64 8) rfl) ?_
            refine RQ.y rfl (Y.assign (v := .bool false) rfl) ?_
            refine RQ.nil ?_
            refine then_n ?_
            refine wp_ret ?_
            obtain rfl := Option.some.inj hm
            exact (then_r (ret2 rfl rfl rfl rfl ⟨rfl, T⟩))
  · refine RL.alloc (z := .agg #[.int .i64 0, .int .i64 0, .int .i64 0, .slice none 0 0, .slice none 0 0]) rfl (by kernel_rfl) (fun w57 B58 hb59 szw57 => ?_)
    replace B58 : Blk w57 w6.heap.size 89 #[.int .i64 0, .int .i64 0, .int .i64 0, .slice none 0 0, .slice none 0 0] := B58
    have GB58 : w.heap.size ≤ w6.heap.size := T.size
    have Eob60_ob5 := Nat.ne_of_lt B3.lt
    have B3 := blkT B3 hb59
    have T := Tt T hb59
    refine RL.nil ⟨⟨T, B3⟩, ?_⟩
    refine RT.act rfl ?_
    refine RL.alloc (z := .agg #[.int .i64 0, .int .i64 0, .int .i64 0, .slice none 0 0, .slice none 0 0]) rfl (by kernel_rfl) (fun w61 B62 hb63 szw61 => ?_)
    replace B62 : Blk w61 w57.heap.size 89 #[.int .i64 0, .int .i64 0, .int .i64 0, .slice none 0 0, .slice none 0 0] := B62
    have GB62 : w.heap.size ≤ w57.heap.size := T.size
    have Eob64_ob5 := Nat.ne_of_lt B3.lt
    have Eob64_ob60 := Nat.ne_of_lt B58.lt
    have B3 := blkT B3 hb63
    have B58 := blkT B58 hb63
    have T := Tt T hb63
    refine RL.nil ⟨⟨T, B3⟩, ?_⟩
    refine RT.act rfl ?_
    refine RL.store (v := .agg #[.int .i64 x8.kind, .int .i64 x8.level, .int .i64 x8.value, .slice A17 x8.data.length c17, .slice A18 x8.ports.length c18]) (cs' := #[.int .i64 x8.kind, .int .i64 x8.level, .int .i64 x8.value, .slice A17 x8.data.length c17, .slice A18 x8.ports.length c18]) rfl rfl rfl B62 (by kernel_rfl) (by rfl) (by rfl) (by rfl) (fun w65 B66 ho67 => ?_)
    have szw65 := ho67.size
    have B3 := B3.only_ ho67 (by intro hin; simp at hin; exact Eob64_ob5 hin)
    have B58 := B58.only_ ho67 (by intro hin; simp at hin; exact Eob64_ob60 hin)
    have T := T.trans (ho67.below (by first | (simp; done) | (simp; omega)))
    refine RL.nil ⟨⟨T, B3⟩, ?_⟩
    refine RT.act rfl ?_
    refine RL.store (v := .agg #[.int .i64 x19.kind, .int .i64 x19.level, .int .i64 x19.value, .slice A26 x19.data.length c26, .slice A27 x19.ports.length c27]) (cs' := #[.int .i64 x19.kind, .int .i64 x19.level, .int .i64 x19.value, .slice A26 x19.data.length c26, .slice A27 x19.ports.length c27]) rfl rfl rfl B58 (by kernel_rfl) (by rfl) (by rfl) (by rfl) (fun w68 B69 ho70 => ?_)
    have szw68 := ho70.size
    have B3 := B3.only_ ho70 (by intro hin; simp at hin; exact Eob60_ob5 hin)
    have B66 := B66.only_ ho70 (by intro hin; simp at hin; exact Eob64_ob60.symm hin)
    have T := T.trans (ho70.below (by first | (simp; done) | (simp; omega)))
    refine RL.nil ⟨⟨T, B3⟩, ?_⟩
    refine RT.nil_ ?_
    refine then_n ?_
    refine wp_seq ?_
    refine wp_rb rfl ?_
    refine RQ.y rfl (Y.fieldAddr (off := 0) rfl (by kernel_rfl)) ?_
    refine RQ.y rfl (Y.load (v := .int .i64 x8.kind) rfl (by kernel_rfl) (beC (blkCell B66 (i := 0) rfl))) ?_
    refine RQ.y rfl (Y.fieldAddr (off := 1) rfl (by kernel_rfl)) ?_
    refine RQ.y rfl (Y.load (v := .int .i64 x8.level) rfl (by kernel_rfl) (beC (blkCell B66 (i := 1) rfl))) ?_
    refine RQ.y rfl (Y.fieldAddr (off := 0) rfl (by kernel_rfl)) ?_
    refine RQ.y rfl (Y.load (v := .int .i64 x19.kind) rfl (by kernel_rfl) (beC (blkCell B69 (i := 0) rfl))) ?_
    refine RQ.y rfl (Y.fieldAddr (off := 1) rfl (by kernel_rfl)) ?_
    refine RQ.y rfl (Y.load (v := .int .i64 x19.level) rfl (by kernel_rfl) (beC (blkCell B69 (i := 1) rfl))) ?_
    refine RQ.call rfl (am4 rfl rfl rfl rfl) (by kernel_rfl) (v := .tuple #[.int .i64 (pairClass x8.kind x8.level x19.kind x19.level), .int .i64 (pairFirst x8.kind x8.level x19.kind x19.level)]) (bel (K := fun _ => True) fun w' hb' => (callB (impl_pairOf x8.kind x8.level x19.kind x19.level w'))) ?_
    refine RQ.y rfl (Y.move (v := .tuple #[.int .i64 (pairClass x8.kind x8.level x19.kind x19.level), .int .i64 (pairFirst x8.kind x8.level x19.kind x19.level)]) rfl) ?_
    refine RQ.y rfl (Y.extract (i := 0) rfl rfl) ?_
    refine RQ.y rfl (Y.extract (i := 1) rfl rfl) ?_
    refine RQ.y rfl (Y.assign (v := .int .i64 (pairClass x8.kind x8.level x19.kind x19.level)) rfl) ?_
    refine RQ.y rfl (Y.assign (v := .int .i64 (pairFirst x8.kind x8.level x19.kind x19.level)) rfl) ?_
    refine RQ.nil ?_
    intro w71 hb72
    have szw71 := hb72.size
    have B69 := blkT B69 hb72
    have B66 := blkT B66 hb72
    have T := Tt T hb72
    refine then_n ?_
    refine wp_seq ?_
    refine wp_seq ?_
    refine wp_rs rfl ?_
    refine RQ.y rfl (Y.move (v := .int .i64 (pairFirst x8.kind x8.level x19.kind x19.level)) rfl) ?_
    refine RQ.y rfl (Y.binI (v := .bool ((pairFirst x8.kind x8.level x19.kind x19.level) == 2)) rfl rfl rfl) ?_
    refine RQ.nil ?_
    refine then_n ?_
    rcases bcases ((pairFirst x8.kind x8.level x19.kind x19.level) == 2) with c73 | c73
    · replace hm := cF c73 hm
      refine cond_f rfl (vb rfl c73) ?_
      refine wp_skip ?_
      refine then_n ?_
      refine wp_seq ?_
      refine wp_seq ?_
      refine wp_rs rfl ?_
      refine RQ.y rfl (Y.move (v := .int .i64 (pairClass x8.kind x8.level x19.kind x19.level)) rfl) ?_
      refine RQ.y rfl (Y.binI (v := .bool ((pairClass x8.kind x8.level x19.kind x19.level) == 6)) rfl rfl rfl) ?_
      refine RQ.y rfl (Y.move (v := .bool ((pairClass x8.kind x8.level x19.kind x19.level) == 6)) rfl) ?_
      rcases bcases ((pairClass x8.kind x8.level x19.kind x19.level) == 6) with c74 | c74
      · replace hm := cF c74 hm
        refine RQ.skip (wantN (dj := 44) rfl (vb rfl c74) rfl) ?_
        refine RQ.skip (wantN (dj := 44) rfl (vb rfl c74) rfl) ?_
        refine RQ.skip (wantN (dj := 44) rfl (vb rfl c74) rfl) ?_
        refine RQ.y rfl (Y.pick (b := false) (v := .bool false) (vb rfl c74) rfl) ?_
        refine RQ.y rfl (Y.move (v := .bool false) rfl) ?_
        refine RQ.skip (wantN (dj := 49) rfl rfl rfl) ?_
        refine RQ.skip (wantN (dj := 49) rfl rfl rfl) ?_
        refine RQ.skip (wantN (dj := 49) rfl rfl rfl) ?_
        refine RQ.skip (wantN (dj := 49) rfl rfl rfl) ?_
        refine RQ.skip (wantN (dj := 49) rfl rfl rfl) ?_
        refine RQ.skip (wantN (dj := 49) rfl rfl rfl) ?_
        refine RQ.y rfl (Y.pick (b := false) (v := .bool false) rfl rfl) ?_
        refine RQ.nil ?_
        refine then_n ?_
        refine cond_f rfl rfl ?_
        refine wp_skip ?_
        refine then_n ?_
        refine wp_seq ?_
        refine wp_rs rfl ?_
        refine RQ.y rfl (Y.move (v := .int .i64 (pairClass x8.kind x8.level x19.kind x19.level)) rfl) ?_
        refine RQ.y rfl (Y.move (v := .int .i64 (pairFirst x8.kind x8.level x19.kind x19.level)) rfl) ?_
        refine RQ.y rfl (Y.binI (v := .bool ((pairFirst x8.kind x8.level x19.kind x19.level) == 2)) rfl rfl rfl) ?_
        refine RQ.y rfl (Y.assign (v := .int .i64 (pairClass x8.kind x8.level x19.kind x19.level)) rfl) ?_
        refine RQ.y rfl (Y.assign (v := .bool ((pairFirst x8.kind x8.level x19.kind x19.level) == 2)) rfl) ?_
        refine RQ.nil ?_
        refine then_n ?_
        refine wp_ret ?_
        obtain rfl := Option.some.inj hm
        exact (ret2 rfl rfl rfl rfl ⟨rfl, T⟩)
      · replace hm := cT c74 hm
        refine RQ.y (wantT (dj := 44) rfl (vb rfl c74)) (Y.fieldAddr (off := 0) rfl (by kernel_rfl)) ?_
        refine RQ.y (wantT (dj := 44) rfl (vb rfl c74)) (Y.load (v := .int .i64 x19.kind) rfl (by kernel_rfl) (eqC (blkCell B69 (i := 0) rfl))) ?_
        refine RQ.y (wantT (dj := 44) rfl (vb rfl c74)) (Y.binI (v := .bool (x19.kind == 10)) rfl rfl rfl) ?_
        refine RQ.y rfl (Y.pick (b := true) (v := .bool (x19.kind == 10)) (vb rfl c74) rfl) ?_
        refine RQ.y rfl (Y.move (v := .bool (x19.kind == 10)) rfl) ?_
        rcases bcases (x19.kind == 10) with c75 | c75
        · replace hm := cF c75 hm
          refine RQ.skip (wantN (dj := 49) rfl (vb rfl c75) rfl) ?_
          refine RQ.skip (wantN (dj := 49) rfl (vb rfl c75) rfl) ?_
          refine RQ.skip (wantN (dj := 49) rfl (vb rfl c75) rfl) ?_
          refine RQ.skip (wantN (dj := 49) rfl (vb rfl c75) rfl) ?_
          refine RQ.skip (wantN (dj := 49) rfl (vb rfl c75) rfl) ?_
          refine RQ.skip (wantN (dj := 49) rfl (vb rfl c75) rfl) ?_
          refine RQ.y rfl (Y.pick (b := false) (v := .bool false) (vb rfl c75) rfl) ?_
          refine RQ.nil ?_
          refine then_n ?_
          refine cond_f rfl rfl ?_
          refine wp_skip ?_
          refine then_n ?_
          refine wp_seq ?_
          refine wp_rs rfl ?_
          refine RQ.y rfl (Y.move (v := .int .i64 (pairClass x8.kind x8.level x19.kind x19.level)) rfl) ?_
          refine RQ.y rfl (Y.move (v := .int .i64 (pairFirst x8.kind x8.level x19.kind x19.level)) rfl) ?_
          refine RQ.y rfl (Y.binI (v := .bool ((pairFirst x8.kind x8.level x19.kind x19.level) == 2)) rfl rfl rfl) ?_
          refine RQ.y rfl (Y.assign (v := .int .i64 (pairClass x8.kind x8.level x19.kind x19.level)) rfl) ?_
          refine RQ.y rfl (Y.assign (v := .bool ((pairFirst x8.kind x8.level x19.kind x19.level) == 2)) rfl) ?_
          refine RQ.nil ?_
          refine then_n ?_
          refine wp_ret ?_
          obtain rfl := Option.some.inj hm
          exact (ret2 rfl rfl rfl rfl ⟨rfl, T⟩)
        · replace hm := cT c75 hm
          refine RQ.y (wantT (dj := 49) rfl (vb rfl c75)) (Y.fieldAddr (off := 2) rfl (by kernel_rfl)) ?_
          refine RQ.y (wantT (dj := 49) rfl (vb rfl c75)) (Y.load (v := .int .i64 x8.value) rfl (by kernel_rfl) (eqC (blkCell B66 (i := 2) rfl))) ?_
          refine RQ.y (wantT (dj := 49) rfl (vb rfl c75)) (Y.fieldAddr (off := 3) rfl (by kernel_rfl)) ?_
          refine RQ.y (wantT (dj := 49) rfl (vb rfl c75)) (Y.load (v := .slice A26 x19.data.length c26) rfl (by kernel_rfl) (eqC (blkCell B69 (i := 3) rfl))) ?_
          refine RQ.y (wantT (dj := 49) rfl (vb rfl c75)) (Y.len (by kernel_rfl) rfl) ?_
          refine RQ.y (wantT (dj := 49) rfl (vb rfl c75)) (Y.binI (v := .bool (decide (x8.value ≥ (x19.data.length : Int)))) rfl rfl rfl) ?_
          refine RQ.y rfl (Y.pick (b := true) (v := .bool (decide (x8.value ≥ (x19.data.length : Int)))) (vb rfl c75) rfl) ?_
          refine RQ.nil ?_
          refine then_n ?_
          rcases bcases (decide (x8.value ≥ (x19.data.length : Int))) with c76 | c76
          · replace hm := cF c76 hm
            have pc76 := of_decide_eq_false c76
            refine cond_f rfl (vb rfl c76) ?_
            refine wp_skip ?_
            refine then_n ?_
            refine wp_seq ?_
            refine wp_rs rfl ?_
            refine RQ.y rfl (Y.move (v := .int .i64 (pairClass x8.kind x8.level x19.kind x19.level)) rfl) ?_
            refine RQ.y rfl (Y.move (v := .int .i64 (pairFirst x8.kind x8.level x19.kind x19.level)) rfl) ?_
            refine RQ.y rfl (Y.binI (v := .bool ((pairFirst x8.kind x8.level x19.kind x19.level) == 2)) rfl rfl rfl) ?_
            refine RQ.y rfl (Y.assign (v := .int .i64 (pairClass x8.kind x8.level x19.kind x19.level)) rfl) ?_
            refine RQ.y rfl (Y.assign (v := .bool ((pairFirst x8.kind x8.level x19.kind x19.level) == 2)) rfl) ?_
            refine RQ.nil ?_
            refine then_n ?_
            refine wp_ret ?_
            obtain rfl := Option.some.inj hm
            exact (ret2 rfl rfl rfl rfl ⟨rfl, T⟩)
          · replace hm := cT c76 hm
            have pc76 := of_decide_eq_true c76
            refine cond_t rfl (vb rfl c76) ?_
            refine wp_seq ?_
            refine wp_rs rfl ?_
            refine RQ.y rfl (Y.assign (v := .int .i64 8) rfl) ?_
            refine RQ.y rfl (Y.assign (v := .bool false) rfl) ?_
            refine RQ.nil ?_
            refine then_n ?_
            refine wp_ret ?_
            obtain rfl := Option.some.inj hm
            exact (then_r (ret2 rfl rfl rfl rfl ⟨rfl, T⟩))
    · replace hm := cT c73 hm
      refine cond_t rfl (vb rfl c73) ?_
      refine wp_rl rfl ?_
      refine RL.y rfl (Y.loadN (cs := [.int .i64 x19.kind, .int .i64 x19.level, .int .i64 x19.value, .slice A26 x19.data.length c26, .slice A27 x19.ports.length c27]) rfl (by kernel_rfl) (cells5 (eqC (blkCell B69 (i := 0) rfl)) (eqC (blkCell B69 (i := 1) rfl)) (eqC (blkCell B69 (i := 2) rfl)) (eqC (blkCell B69 (i := 3) rfl)) (eqC (blkCell B69 (i := 4) rfl)))) ?_
      refine RL.y rfl (Y.loadN (cs := [.int .i64 x8.kind, .int .i64 x8.level, .int .i64 x8.value, .slice A17 x8.data.length c17, .slice A18 x8.ports.length c18]) rfl (by kernel_rfl) (cells5 (eqC (blkCell B66 (i := 0) rfl)) (eqC (blkCell B66 (i := 1) rfl)) (eqC (blkCell B66 (i := 2) rfl)) (eqC (blkCell B66 (i := 3) rfl)) (eqC (blkCell B66 (i := 4) rfl)))) ?_
      refine RL.store (v := .agg #[.int .i64 x19.kind, .int .i64 x19.level, .int .i64 x19.value, .slice A26 x19.data.length c26, .slice A27 x19.ports.length c27]) (cs' := #[.int .i64 x19.kind, .int .i64 x19.level, .int .i64 x19.value, .slice A26 x19.data.length c26, .slice A27 x19.ports.length c27]) rfl rfl rfl B66 (by kernel_rfl) (by rfl) (by rfl) (by rfl) (fun w77 B78 ho79 => ?_)
      have szw77 := ho79.size
      have B69 := B69.only_ ho79 (by intro hin; simp at hin; exact Eob64_ob60 hin)
      have T := T.trans (ho79.below (by first | (simp; done) | (simp; omega)))
      refine RL.store (v := .agg #[.int .i64 x8.kind, .int .i64 x8.level, .int .i64 x8.value, .slice A17 x8.data.length c17, .slice A18 x8.ports.length c18]) (cs' := #[.int .i64 x8.kind, .int .i64 x8.level, .int .i64 x8.value, .slice A17 x8.data.length c17, .slice A18 x8.ports.length c18]) rfl rfl rfl B69 (by kernel_rfl) (by rfl) (by rfl) (by rfl) (fun w80 B81 ho82 => ?_)
      have szw80 := ho82.size
      have B78 := B78.only_ ho82 (by intro hin; simp at hin; exact Eob64_ob60.symm hin)
      have T := T.trans (ho82.below (by first | (simp; done) | (simp; omega)))
      refine RL.nil ?_
      refine then_n ?_
      refine wp_seq ?_
      refine wp_seq ?_
      refine wp_rs rfl ?_
      refine RQ.y rfl (Y.move (v := .int .i64 (pairClass x8.kind x8.level x19.kind x19.level)) rfl) ?_
      refine RQ.y rfl (Y.binI (v := .bool ((pairClass x8.kind x8.level x19.kind x19.level) == 6)) rfl rfl rfl) ?_
      refine RQ.y rfl (Y.move (v := .bool ((pairClass x8.kind x8.level x19.kind x19.level) == 6)) rfl) ?_
      rcases bcases ((pairClass x8.kind x8.level x19.kind x19.level) == 6) with c83 | c83
      · replace hm := cF c83 hm
        refine RQ.skip (wantN (dj := 44) rfl (vb rfl c83) rfl) ?_
        refine RQ.skip (wantN (dj := 44) rfl (vb rfl c83) rfl) ?_
        refine RQ.skip (wantN (dj := 44) rfl (vb rfl c83) rfl) ?_
        refine RQ.y rfl (Y.pick (b := false) (v := .bool false) (vb rfl c83) rfl) ?_
        refine RQ.y rfl (Y.move (v := .bool false) rfl) ?_
        refine RQ.skip (wantN (dj := 49) rfl rfl rfl) ?_
        refine RQ.skip (wantN (dj := 49) rfl rfl rfl) ?_
        refine RQ.skip (wantN (dj := 49) rfl rfl rfl) ?_
        refine RQ.skip (wantN (dj := 49) rfl rfl rfl) ?_
        refine RQ.skip (wantN (dj := 49) rfl rfl rfl) ?_
        refine RQ.skip (wantN (dj := 49) rfl rfl rfl) ?_
        refine RQ.y rfl (Y.pick (b := false) (v := .bool false) rfl rfl) ?_
        refine RQ.nil ?_
        refine then_n ?_
        refine cond_f rfl rfl ?_
        refine wp_skip ?_
        refine then_n ?_
        refine wp_seq ?_
        refine wp_rs rfl ?_
        refine RQ.y rfl (Y.move (v := .int .i64 (pairClass x8.kind x8.level x19.kind x19.level)) rfl) ?_
        refine RQ.y rfl (Y.move (v := .int .i64 (pairFirst x8.kind x8.level x19.kind x19.level)) rfl) ?_
        refine RQ.y rfl (Y.binI (v := .bool ((pairFirst x8.kind x8.level x19.kind x19.level) == 2)) rfl rfl rfl) ?_
        refine RQ.y rfl (Y.assign (v := .int .i64 (pairClass x8.kind x8.level x19.kind x19.level)) rfl) ?_
        refine RQ.y rfl (Y.assign (v := .bool ((pairFirst x8.kind x8.level x19.kind x19.level) == 2)) rfl) ?_
        refine RQ.nil ?_
        refine then_n ?_
        refine wp_ret ?_
        obtain rfl := Option.some.inj hm
        exact (ret2 rfl rfl rfl rfl ⟨rfl, T⟩)
      · replace hm := cT c83 hm
        refine RQ.y (wantT (dj := 44) rfl (vb rfl c83)) (Y.fieldAddr (off := 0) rfl (by kernel_rfl)) ?_
        refine RQ.y (wantT (dj := 44) rfl (vb rfl c83)) (Y.load (v := .int .i64 x8.kind) rfl (by kernel_rfl) (eqC (blkCell B81 (i := 0) rfl))) ?_
        refine RQ.y (wantT (dj := 44) rfl (vb rfl c83)) (Y.binI (v := .bool (x8.kind == 10)) rfl rfl rfl) ?_
        refine RQ.y rfl (Y.pick (b := true) (v := .bool (x8.kind == 10)) (vb rfl c83) rfl) ?_
        refine RQ.y rfl (Y.move (v := .bool (x8.kind == 10)) rfl) ?_
        rcases bcases (x8.kind == 10) with c84 | c84
        · replace hm := cF c84 hm
          refine RQ.skip (wantN (dj := 49) rfl (vb rfl c84) rfl) ?_
          refine RQ.skip (wantN (dj := 49) rfl (vb rfl c84) rfl) ?_
          refine RQ.skip (wantN (dj := 49) rfl (vb rfl c84) rfl) ?_
          refine RQ.skip (wantN (dj := 49) rfl (vb rfl c84) rfl) ?_
          refine RQ.skip (wantN (dj := 49) rfl (vb rfl c84) rfl) ?_
          refine RQ.skip (wantN (dj := 49) rfl (vb rfl c84) rfl) ?_
          refine RQ.y rfl (Y.pick (b := false) (v := .bool false) (vb rfl c84) rfl) ?_
          refine RQ.nil ?_
          refine then_n ?_
          refine cond_f rfl rfl ?_
          refine wp_skip ?_
          refine then_n ?_
          refine wp_seq ?_
          refine wp_rs rfl ?_
          refine RQ.y rfl (Y.move (v := .int .i64 (pairClass x8.kind x8.level x19.kind x19.level)) rfl) ?_
          refine RQ.y rfl (Y.move (v := .int .i64 (pairFirst x8.kind x8.level x19.kind x19.level)) rfl) ?_
          refine RQ.y rfl (Y.binI (v := .bool ((pairFirst x8.kind x8.level x19.kind x19.level) == 2)) rfl rfl rfl) ?_
          refine RQ.y rfl (Y.assign (v := .int .i64 (pairClass x8.kind x8.level x19.kind x19.level)) rfl) ?_
          refine RQ.y rfl (Y.assign (v := .bool ((pairFirst x8.kind x8.level x19.kind x19.level) == 2)) rfl) ?_
          refine RQ.nil ?_
          refine then_n ?_
          refine wp_ret ?_
          obtain rfl := Option.some.inj hm
          exact (ret2 rfl rfl rfl rfl ⟨rfl, T⟩)
        · replace hm := cT c84 hm
          refine RQ.y (wantT (dj := 49) rfl (vb rfl c84)) (Y.fieldAddr (off := 2) rfl (by kernel_rfl)) ?_
          refine RQ.y (wantT (dj := 49) rfl (vb rfl c84)) (Y.load (v := .int .i64 x19.value) rfl (by kernel_rfl) (eqC (blkCell B78 (i := 2) rfl))) ?_
          refine RQ.y (wantT (dj := 49) rfl (vb rfl c84)) (Y.fieldAddr (off := 3) rfl (by kernel_rfl)) ?_
          refine RQ.y (wantT (dj := 49) rfl (vb rfl c84)) (Y.load (v := .slice A17 x8.data.length c17) rfl (by kernel_rfl) (eqC (blkCell B81 (i := 3) rfl))) ?_
          refine RQ.y (wantT (dj := 49) rfl (vb rfl c84)) (Y.len (by kernel_rfl) rfl) ?_
          refine RQ.y (wantT (dj := 49) rfl (vb rfl c84)) (Y.binI (v := .bool (decide (x19.value ≥ (x8.data.length : Int)))) rfl rfl rfl) ?_
          refine RQ.y rfl (Y.pick (b := true) (v := .bool (decide (x19.value ≥ (x8.data.length : Int)))) (vb rfl c84) rfl) ?_
          refine RQ.nil ?_
          refine then_n ?_
          rcases bcases (decide (x19.value ≥ (x8.data.length : Int))) with c85 | c85
          · replace hm := cF c85 hm
            have pc85 := of_decide_eq_false c85
            refine cond_f rfl (vb rfl c85) ?_
            refine wp_skip ?_
            refine then_n ?_
            refine wp_seq ?_
            refine wp_rs rfl ?_
            refine RQ.y rfl (Y.move (v := .int .i64 (pairClass x8.kind x8.level x19.kind x19.level)) rfl) ?_
            refine RQ.y rfl (Y.move (v := .int .i64 (pairFirst x8.kind x8.level x19.kind x19.level)) rfl) ?_
            refine RQ.y rfl (Y.binI (v := .bool ((pairFirst x8.kind x8.level x19.kind x19.level) == 2)) rfl rfl rfl) ?_
            refine RQ.y rfl (Y.assign (v := .int .i64 (pairClass x8.kind x8.level x19.kind x19.level)) rfl) ?_
            refine RQ.y rfl (Y.assign (v := .bool ((pairFirst x8.kind x8.level x19.kind x19.level) == 2)) rfl) ?_
            refine RQ.nil ?_
            refine then_n ?_
            refine wp_ret ?_
            obtain rfl := Option.some.inj hm
            exact (ret2 rfl rfl rfl rfl ⟨rfl, T⟩)
          · replace hm := cT c85 hm
            have pc85 := of_decide_eq_true c85
            refine cond_t rfl (vb rfl c85) ?_
            refine wp_seq ?_
            refine wp_rs rfl ?_
            refine RQ.y rfl (Y.assign (v := .int .i64 8) rfl) ?_
            refine RQ.y rfl (Y.assign (v := .bool false) rfl) ?_
            refine RQ.nil ?_
            refine then_n ?_
            refine wp_ret ?_
            obtain rfl := Option.some.inj hm
            exact (then_r (ret2 rfl rfl rfl rfl ⟨rfl, T⟩))

def m_spec_l00Min (d0 : Int) (d1 : Int) : Option Int :=
  (bif (decide (d0 < d1)) then some d0 else some d1)
set_option maxHeartbeats 2000000 in
theorem c_m_spec_l00Min (d0 : Int) (d1 : Int) (r : Int) (hm : m_spec_l00Min d0 d1 = some r)  (w : World)  :
    Calls Try.prog 168 #[.int .i64 d0, .int .i64 d1] w fun e w' => e = .returned (.int .i64 r) ∧ Below w.heap.size w w' := by
  have T := Below.refl w.heap.size w
  unfold m_spec_l00Min at hm
  refine enter 10 Try.func168 rfl rfl rfl ?_
  intro f hf
  have s0 : f 0 = .int .i64 d0 := hf 0 _ rfl
  have s1 : f 1 = .int .i64 d1 := hf 1 _ rfl
  refine wp_seq ?_
  refine wp_rs rfl ?_
  refine RQ.y rfl (Y.assign (v := .int .i64 0) rfl) ?_
  refine RQ.nil ?_
  refine then_n ?_
  refine wp_seq ?_
  refine wp_seq ?_
  refine wp_rs rfl ?_
  refine RQ.y rfl (Y.move (v := .int .i64 d0) s0) ?_
  refine RQ.y rfl (Y.move (v := .int .i64 d1) s1) ?_
  refine RQ.y rfl (Y.binI (v := .bool (decide (d0 < d1))) rfl rfl rfl) ?_
  refine RQ.nil ?_
  refine then_n ?_
  rcases bcases (decide (d0 < d1)) with c1 | c1
  · replace hm := cF c1 hm
    have pc1 := of_decide_eq_false c1
    refine cond_f rfl (vb rfl c1) ?_
    refine wp_skip ?_
    refine then_n ?_
    refine wp_seq ?_
    refine wp_rs rfl ?_
    refine RQ.y rfl (Y.move (v := .int .i64 d1) s1) ?_
    refine RQ.y rfl (Y.assign (v := .int .i64 d1) rfl) ?_
    refine RQ.nil ?_
    refine then_n ?_
    refine wp_ret ?_
    obtain rfl := Option.some.inj hm
    exact (ret1 rfl rfl rfl ⟨rfl, T⟩)
  · replace hm := cT c1 hm
    have pc1 := of_decide_eq_true c1
    refine cond_t rfl (vb rfl c1) ?_
    refine wp_seq ?_
    refine wp_rs rfl ?_
    refine RQ.y rfl (Y.move (v := .int .i64 d0) s0) ?_
    refine RQ.y rfl (Y.assign (v := .int .i64 d0) rfl) ?_
    refine RQ.nil ?_
    refine then_n ?_
    refine wp_ret ?_
    obtain rfl := Option.some.inj hm
    exact (then_r (ret1 rfl rfl rfl ⟨rfl, T⟩))

def m_spec_l00Max (d0 : Int) (d1 : Int) : Option Int :=
  (bif (decide (d0 > d1)) then some d0 else some d1)
set_option maxHeartbeats 2000000 in
theorem c_m_spec_l00Max (d0 : Int) (d1 : Int) (r : Int) (hm : m_spec_l00Max d0 d1 = some r)  (w : World)  :
    Calls Try.prog 130 #[.int .i64 d0, .int .i64 d1] w fun e w' => e = .returned (.int .i64 r) ∧ Below w.heap.size w w' := by
  have T := Below.refl w.heap.size w
  unfold m_spec_l00Max at hm
  refine enter 10 Try.func130 rfl rfl rfl ?_
  intro f hf
  have s0 : f 0 = .int .i64 d0 := hf 0 _ rfl
  have s1 : f 1 = .int .i64 d1 := hf 1 _ rfl
  refine wp_seq ?_
  refine wp_rs rfl ?_
  refine RQ.y rfl (Y.assign (v := .int .i64 0) rfl) ?_
  refine RQ.nil ?_
  refine then_n ?_
  refine wp_seq ?_
  refine wp_seq ?_
  refine wp_rs rfl ?_
  refine RQ.y rfl (Y.move (v := .int .i64 d0) s0) ?_
  refine RQ.y rfl (Y.move (v := .int .i64 d1) s1) ?_
  refine RQ.y rfl (Y.binI (v := .bool (decide (d0 > d1))) rfl rfl rfl) ?_
  refine RQ.nil ?_
  refine then_n ?_
  rcases bcases (decide (d0 > d1)) with c1 | c1
  · replace hm := cF c1 hm
    have pc1 := of_decide_eq_false c1
    refine cond_f rfl (vb rfl c1) ?_
    refine wp_skip ?_
    refine then_n ?_
    refine wp_seq ?_
    refine wp_rs rfl ?_
    refine RQ.y rfl (Y.move (v := .int .i64 d1) s1) ?_
    refine RQ.y rfl (Y.assign (v := .int .i64 d1) rfl) ?_
    refine RQ.nil ?_
    refine then_n ?_
    refine wp_ret ?_
    obtain rfl := Option.some.inj hm
    exact (ret1 rfl rfl rfl ⟨rfl, T⟩)
  · replace hm := cT c1 hm
    have pc1 := of_decide_eq_true c1
    refine cond_t rfl (vb rfl c1) ?_
    refine wp_seq ?_
    refine wp_rs rfl ?_
    refine RQ.y rfl (Y.move (v := .int .i64 d0) s0) ?_
    refine RQ.y rfl (Y.assign (v := .int .i64 d0) rfl) ?_
    refine RQ.nil ?_
    refine then_n ?_
    refine wp_ret ?_
    obtain rfl := Option.some.inj hm
    exact (then_r (ret1 rfl rfl rfl ⟨rfl, T⟩))

def m_spec_l17Value (d0 : DNet) (d1 : DPort) : Option Bool :=
  ((m_spec_l11Peer d0 d1).bind fun y6 => (bif (y6.slot != 0) then some false else ((getI d0.agents y6.agent).bind fun x18 => (bif (x18.kind == 2) then some true else (bif (x18.kind == 6) then some true else (bif (x18.kind == 9) then some true else (bif (x18.kind == 12) then some true else some false)))))))
set_option maxHeartbeats 2000000 in
theorem c_m_spec_l17Value (d0 : DNet) (d1 : DPort) (r : Bool) (hm : m_spec_l17Value d0 d1 = some r) (v0 : Value) (w : World) (hv0 : Pt netRd w v0 d0) :
    Calls Try.prog 146 #[v0, .agg #[.int .i64 d1.agent, .int .i64 d1.slot]] w fun e w' => e = .returned (.bool r) ∧ Below w.heap.size w w' := by
  obtain ⟨ba0, oa0, csa0, rfl, hba0, hRa0, hca0⟩ := hv0
  have hSa0 := hRa0
  obtain ⟨A1, n1, c1, rfl, ⟨h1, r1⟩⟩ := hRa0
  have e1 := h1.len; subst e1
  have q1 := len_le r1
  have T := Below.refl w.heap.size w
  unfold m_spec_l17Value at hm
  refine enter 26 Try.func146 rfl rfl rfl ?_
  intro f hf
  have s0 : f 0 = .pointer (some ⟨ba0, oa0, none⟩) := hf 0 _ rfl
  have s1 : f 1 = .agg #[.int .i64 d1.agent, .int .i64 d1.slot] := hf 1 _ rfl
  refine wp_seq ?_
  refine wp_rl rfl ?_
  refine RL.box rfl s1 (fun w2 B3 hb4 szw2 => ?_)
  replace B3 : Blk w2 w.heap.size 53 #[.int .i64 d1.agent, .int .i64 d1.slot] := B3
  have GB3 : w.heap.size ≤ w.heap.size := T.size
  have T := Tt T hb4
  refine RL.y rfl (Y.assign (v := .bool false) rfl) ?_
  refine RL.nil ?_
  refine then_n ?_
  refine wp_seq ?_
  refine wp_rl rfl ?_
  refine RL.y rfl (Y.move (v := .pointer (some ⟨ba0, oa0, none⟩)) s0) ?_
  refine RL.y rfl (Y.loadN (cs := [.int .i64 d1.agent, .int .i64 d1.slot]) rfl (by kernel_rfl) (cells2 (eqC (blkCell B3 (i := 0) rfl)) (eqC (blkCell B3 (i := 1) rfl)))) ?_
  obtain ⟨y6, e7, hm⟩ := bnd hm
  refine RL.call rfl (am2 rfl rfl) (by kernel_rfl) ((c_m_spec_l11Peer d0 d1 _ e7 _ _ (ptArg netRd_ok hba0 hSa0 hca0 T)).mono ?_)
  rintro _ w8 ⟨rfl, hb9⟩
  refine ⟨_, rfl, ?_⟩
  have szw8 := hb9.size
  have B3 := blkT B3 hb9
  have T := Tt T hb9
  refine RL.alloc (z := .agg #[.int .i64 0, .int .i64 0]) rfl (by kernel_rfl) (fun w10 B11 hb12 szw10 => ?_)
  replace B11 : Blk w10 w8.heap.size 53 #[.int .i64 0, .int .i64 0] := B11
  have GB11 : w.heap.size ≤ w8.heap.size := T.size
  have Eob13_ob5 := Nat.ne_of_lt B3.lt
  have B3 := blkT B3 hb12
  have T := Tt T hb12
  refine RL.store (v := .agg #[.int .i64 y6.agent, .int .i64 y6.slot]) (cs' := #[.int .i64 y6.agent, .int .i64 y6.slot]) rfl rfl rfl B11 (by kernel_rfl) (by rfl) (by rfl) (by rfl) (fun w14 B15 ho16 => ?_)
  have szw14 := ho16.size
  have B3 := B3.only_ ho16 (by intro hin; simp at hin; exact Eob13_ob5 hin)
  have T := T.trans (ho16.below (by first | (simp; done) | (simp; omega)))
  refine RL.nil ?_
  refine then_n ?_
  refine wp_seq ?_
  refine wp_seq ?_
  refine wp_rs rfl ?_
  refine RQ.y rfl (Y.fieldAddr (off := 1) rfl (by kernel_rfl)) ?_
  refine RQ.y rfl (Y.load (v := .int .i64 y6.slot) rfl (by kernel_rfl) (eqC (blkCell B15 (i := 1) rfl))) ?_
  refine RQ.y rfl (Y.binI (v := .bool (y6.slot != 0)) rfl rfl rfl) ?_
  refine RQ.nil ?_
  refine then_n ?_
  rcases bcases (y6.slot != 0) with c17 | c17
  · replace hm := cF c17 hm
    refine cond_f rfl (vb rfl c17) ?_
    refine wp_skip ?_
    refine then_n ?_
    refine wp_seq ?_
    refine wp_seq ?_
    refine wp_rbd (by kernel_rfl) (by kernel_rfl) ?_
    refine RQ.y rfl (Y.move (v := .pointer (some ⟨ba0, oa0, none⟩)) s0) ?_
    refine RQ.y rfl (Y.nilCheck rfl) ?_
    refine RQ.y rfl (Y.fieldAddr (off := 0) rfl (by kernel_rfl)) ?_
    refine RQ.y rfl (Y.load (v := .slice A1 d0.agents.length c1) rfl (by kernel_rfl) (beC (cellT T (hca0 0 _ rfl)))) ?_
    refine RQ.y rfl (Y.fieldAddr (off := 0) rfl (by kernel_rfl)) ?_
    refine RQ.y rfl (Y.load (v := .int .i64 y6.agent) rfl (by kernel_rfl) (beC (blkCell B15 (i := 0) rfl))) ?_
    obtain ⟨x18, hx21, hm⟩ := bnd hm
    obtain ⟨k19, hk22, hl23, hx21⟩ := getI_some hx21
    obtain ⟨b25, o26, rfl, hbb25⟩ := h1.addr (by omega)
    obtain ⟨cs20, hRcs20, hc24⟩ := h1.el hx21
    have hScs20 := hRcs20
    obtain ⟨A27, n27, c27, A28, n28, c28, rfl, ⟨h27, r27⟩, ⟨h28, r28⟩⟩ := hRcs20
    have e27 := h27.len; subst e27
    have q27 := len_le r27
    have e28 := h28.len; subst e28
    have q28 := len_le r28
    refine RQ.y rfl (Y.indexAddr (m := k19) (sz := 5) rfl rfl hk22 hl23 (by kernel_rfl)) ?_
    refine RQ.y rfl (Y.fieldAddr (off := 0) rfl (by kernel_rfl)) ?_
    refine RQ.y rfl (Y.load (v := .int .i64 x18.kind) rfl (by kernel_rfl) (beC (cellT T (hc24 0 _ rfl)))) ?_
    refine RQ.nil ?_
    intro w29 hb30
    have szw29 := hb30.size
    have T := Tt T hb30
    refine then_n ?_
    refine wp_block ?_
    refine wp_seq ?_
    refine wp_seq ?_
    refine wp_rs rfl ?_
    refine RQ.y rfl (Y.binI (v := .bool (x18.kind == 2)) rfl rfl rfl) ?_
    refine RQ.y rfl (Y.assign (v := .bool (x18.kind == 2)) rfl) ?_
    refine RQ.nil ?_
    refine then_n ?_
    rcases bcases (x18.kind == 2) with c31 | c31
    · replace hm := cF c31 hm
      refine cond_f rfl (vb rfl c31) ?_
      refine wp_seq ?_
      refine wp_rs rfl ?_
      refine RQ.y rfl (Y.binI (v := .bool (x18.kind == 6)) rfl rfl rfl) ?_
      refine RQ.y rfl (Y.assign (v := .bool (x18.kind == 6)) rfl) ?_
      refine RQ.nil ?_
      refine then_n ?_
      rcases bcases (x18.kind == 6) with c32 | c32
      · replace hm := cF c32 hm
        refine cond_f rfl (vb rfl c32) ?_
        refine wp_seq ?_
        refine wp_rs rfl ?_
        refine RQ.y rfl (Y.binI (v := .bool (x18.kind == 9)) rfl rfl rfl) ?_
        refine RQ.y rfl (Y.assign (v := .bool (x18.kind == 9)) rfl) ?_
        refine RQ.nil ?_
        refine then_n ?_
        rcases bcases (x18.kind == 9) with c33 | c33
        · replace hm := cF c33 hm
          refine cond_f rfl (vb rfl c33) ?_
          refine wp_rs rfl ?_
          refine RQ.y rfl (Y.binI (v := .bool (x18.kind == 12)) rfl rfl rfl) ?_
          refine RQ.y rfl (Y.assign (v := .bool (x18.kind == 12)) rfl) ?_
          refine RQ.nil ?_
          refine then_n ?_
          rcases bcases (x18.kind == 12) with c34 | c34
          · replace hm := cF c34 hm
            refine cond_f rfl (vb rfl c34) ?_
            refine wp_skip ?_
            refine blk_n (then_n ?_)
            refine wp_seq ?_
            refine wp_rs rfl ?_
            refine RQ.y rfl (Y.assign (v := .bool false) rfl) ?_
            refine RQ.nil ?_
            refine then_n ?_
            refine wp_ret ?_
            obtain rfl := Option.some.inj hm
            exact (ret1 rfl rfl rfl ⟨rfl, T⟩)
          · replace hm := cT c34 hm
            refine cond_t rfl (vb rfl c34) ?_
            refine wp_seq ?_
            refine wp_rs rfl ?_
            refine RQ.y rfl (Y.assign (v := .bool true) rfl) ?_
            refine RQ.nil ?_
            refine then_n ?_
            refine wp_ret ?_
            obtain rfl := Option.some.inj hm
            exact (blk_r (then_r (ret1 rfl rfl rfl ⟨rfl, T⟩)))
        · replace hm := cT c33 hm
          refine cond_t rfl (vb rfl c33) ?_
          refine wp_skip ?_
          refine then_n ?_
          refine cond_t rfl (vb rfl c33) ?_
          refine wp_seq ?_
          refine wp_rs rfl ?_
          refine RQ.y rfl (Y.assign (v := .bool true) rfl) ?_
          refine RQ.nil ?_
          refine then_n ?_
          refine wp_ret ?_
          obtain rfl := Option.some.inj hm
          exact (blk_r (then_r (ret1 rfl rfl rfl ⟨rfl, T⟩)))
      · replace hm := cT c32 hm
        refine cond_t rfl (vb rfl c32) ?_
        refine wp_skip ?_
        refine then_n ?_
        refine cond_t rfl (vb rfl c32) ?_
        refine wp_seq ?_
        refine wp_rs rfl ?_
        refine RQ.y rfl (Y.assign (v := .bool true) rfl) ?_
        refine RQ.nil ?_
        refine then_n ?_
        refine wp_ret ?_
        obtain rfl := Option.some.inj hm
        exact (blk_r (then_r (ret1 rfl rfl rfl ⟨rfl, T⟩)))
    · replace hm := cT c31 hm
      refine cond_t rfl (vb rfl c31) ?_
      refine wp_skip ?_
      refine then_n ?_
      refine cond_t rfl (vb rfl c31) ?_
      refine wp_seq ?_
      refine wp_rs rfl ?_
      refine RQ.y rfl (Y.assign (v := .bool true) rfl) ?_
      refine RQ.nil ?_
      refine then_n ?_
      refine wp_ret ?_
      obtain rfl := Option.some.inj hm
      exact (blk_r (then_r (ret1 rfl rfl rfl ⟨rfl, T⟩)))
  · replace hm := cT c17 hm
    refine cond_t rfl (vb rfl c17) ?_
    refine wp_seq ?_
    refine wp_rs rfl ?_
    refine RQ.y rfl (Y.assign (v := .bool false) rfl) ?_
    refine RQ.nil ?_
    refine then_n ?_
    refine wp_ret ?_
    obtain rfl := Option.some.inj hm
    exact (then_r (ret1 rfl rfl rfl ⟨rfl, T⟩))

def m_spec_l17Index_A1 : Option Int :=
  some 0
def m_spec_l17Index_B1 (d1 : DPair) (y6 : List DPair) (rec1 : Int → Option Int) (K1 : Option Int) (i14 : Int) : Option Int :=
  (bif (decide (i14 < (y6.length : Int))) then ((getI y6 i14).bind fun x19 => (bif (x19.a == d1.a && x19.b == d1.b) then some i14 else (rec1 (i14 + 1)))) else (K1))
def m_spec_l17Index_L1 (d1 : DPair) (y6 : List DPair) (K1 : Option Int) : Nat → Int → Option Int
  | 0, _ => none
  | g + 1, i14 => m_spec_l17Index_B1 d1 y6 (m_spec_l17Index_L1 d1 y6 K1 g) K1 i14
def m_spec_l17Index (d0 : DNet) (d1 : DPair) : Option Int :=
  ((m_spec_l11Pairs d0).bind fun y6 => (m_spec_l17Index_L1 d1 y6 m_spec_l17Index_A1 (y6.length + 1) 0))
set_option maxHeartbeats 2000000 in
theorem c_m_spec_l17Index (d0 : DNet) (d1 : DPair) (r : Int) (hm : m_spec_l17Index d0 d1 = some r) (v0 : Value) (w : World) (hv0 : Pt netRd w v0 d0) :
    Calls Try.prog 72 #[v0, .agg #[.int .i64 d1.a, .int .i64 d1.b]] w fun e w' => e = .returned (.int .i64 r) ∧ Below w.heap.size w w' := by
  obtain ⟨ba0, oa0, csa0, rfl, hba0, hRa0, hca0⟩ := hv0
  have hSa0 := hRa0
  obtain ⟨A1, n1, c1, rfl, ⟨h1, r1⟩⟩ := hRa0
  have e1 := h1.len; subst e1
  have q1 := len_le r1
  have T := Below.refl w.heap.size w
  unfold m_spec_l17Index at hm
  refine enter 22 Try.func72 rfl rfl rfl ?_
  intro f hf
  have s0 : f 0 = .pointer (some ⟨ba0, oa0, none⟩) := hf 0 _ rfl
  have s1 : f 1 = .agg #[.int .i64 d1.a, .int .i64 d1.b] := hf 1 _ rfl
  refine wp_seq ?_
  refine wp_rl rfl ?_
  refine RL.box rfl s1 (fun w2 B3 hb4 szw2 => ?_)
  replace B3 : Blk w2 w.heap.size 81 #[.int .i64 d1.a, .int .i64 d1.b] := B3
  have GB3 : w.heap.size ≤ w.heap.size := T.size
  have T := Tt T hb4
  refine RL.y rfl (Y.assign (v := .int .i64 0) rfl) ?_
  refine RL.nil ?_
  refine then_n ?_
  refine wp_seq ?_
  refine wp_rl rfl ?_
  refine RL.y rfl (Y.move (v := .pointer (some ⟨ba0, oa0, none⟩)) s0) ?_
  obtain ⟨y6, e7, hm⟩ := bnd hm
  refine RL.call rfl (am1 rfl) (by kernel_rfl) ((c_m_spec_l11Pairs d0 _ e7 _ _ (ptArg netRd_ok hba0 hSa0 hca0 T)).mono ?_)
  rintro _ w11 ⟨⟨v8, rfl, G9⟩, hb12⟩
  refine ⟨_, rfl, ?_⟩
  have szw11 := hb12.size
  have T0w11 := T.size
  have No10_ob5 := OwF.ne G9 B3.lt
  have B3 := blkT B3 hb12
  have T := Tt T hb12
  replace G9 := OwF.mono G9 T0w11
  refine RL.y rfl (Y.assign (v := v8) rfl) ?_
  refine RL.nil ?_
  refine then_n ?_
  refine wp_seq ?_
  refine wp_seq ?_
  refine wp_rs rfl ?_
  refine RQ.y rfl (Y.assign (v := .int .i64 0) rfl) ?_
  refine RQ.nil ?_
  refine then_n ?_
  refine wp_block ?_
  obtain ⟨K1, hK1, hm⟩ : ∃ K, K = m_spec_l17Index_A1 ∧ m_spec_l17Index_L1 d1 y6 K (y6.length + 1) 0 = some r := ⟨_, rfl, hm⟩
  refine wp_loopX (fun g f w' => ∃ (i14 : Int), f 3 = .pointer (some ⟨w.heap.size, 0, none⟩) ∧ f 5 = v8 ∧ f 6 = .int .i64 i14 ∧ 0 ≤ i14 ∧ Blk w' w.heap.size 81 #[.int .i64 d1.a, .int .i64 d1.b] ∧ OwF 81 encPair 2 w' w.heap.size v8 y6 ∧ Below w.heap.size w w' ∧ m_spec_l17Index_L1 d1 y6 K1 g i14 = some r) 0 (fun f w' => Blk w' w.heap.size 81 #[.int .i64 d1.a, .int .i64 d1.b] ∧ Below w.heap.size w w' ∧ m_spec_l17Index_A1  = some r) (y6.length + 1) ⟨0, rfl, rfl, rfl, (by omega), B3, G9, T, hm⟩ ?_ ?_
  · rintro f w13 ⟨B3, T, hm⟩
    unfold m_spec_l17Index_A1 at hm
    refine blk_hit (then_n ?_)
    refine wp_seq ?_
    refine wp_rs rfl ?_
    refine RQ.y rfl (Y.assign (v := .int .i64 0) rfl) ?_
    refine RQ.nil ?_
    refine then_n ?_
    refine wp_ret ?_
    obtain rfl := Option.some.inj hm
    exact (ret1 rfl rfl rfl ⟨rfl, T⟩)
  · rintro g f w15 ⟨i14, s3_1, s5_1, s6_1, nn6_1, B3, G9, T, hm⟩
    rcases g with _ | g
    · simp only [m_spec_l17Index_L1] at hm; cases hm
    obtain ⟨rec1, hrec1, hm⟩ : ∃ z, z = m_spec_l17Index_L1 d1 y6 K1 g ∧ m_spec_l17Index_B1 d1 y6 z K1 i14 = some r := ⟨_, rfl, hm⟩
    unfold m_spec_l17Index_B1 at hm
    refine wp_seq ?_
    refine wp_seq ?_
    refine wp_rs rfl ?_
    refine RQ.y rfl (Y.move (v := .int .i64 i14) s6_1) ?_
    refine RQ.y rfl (Y.move (v := v8) s5_1) ?_
    obtain ⟨A16, c17, rfl⟩ := OwF.form G9
    have qbA16 := OwF.bound G9
    refine RQ.y rfl (Y.len (by kernel_rfl) rfl) ?_
    refine RQ.y rfl (Y.binI (v := .bool (decide (i14 < (y6.length : Int)))) rfl rfl rfl) ?_
    refine RQ.nil ?_
    refine then_n ?_
    rcases bcases (decide (i14 < (y6.length : Int))) with c18 | c18
    · replace hm := cF c18 hm
      have pc18 := of_decide_eq_false c18
      refine cond_f rfl (vb rfl c18) ?_
      refine wp_exit ?_
      exact (then_x (then_x (hit_x ⟨_, rfl, ⟨B3, T, (by rw [hK1] at hm; exact hm)⟩⟩)))
    · replace hm := cT c18 hm
      have pc18 := of_decide_eq_true c18
      refine cond_t rfl (vb rfl c18) ?_
      refine wp_skip ?_
      refine then_n ?_
      refine wp_seq ?_
      refine wp_block ?_
      refine wp_seq ?_
      refine wp_rbd (by kernel_rfl) (by kernel_rfl) ?_
      refine RQ.y rfl (Y.move (v := .slice A16 y6.length c17) s5_1) ?_
      refine RQ.y rfl (Y.move (v := .int .i64 i14) s6_1) ?_
      obtain ⟨x19, hx21, hm⟩ := bnd hm
      obtain ⟨k20, hk22, hl23, hx21⟩ := getI_some hx21
      obtain ⟨b24, rfl⟩ := OwF.addr0 G9 (by omega)
      refine RQ.y rfl (Y.indexAddr (m := k20) (sz := 2) rfl rfl hk22 hl23 (by kernel_rfl)) ?_
      refine RQ.y rfl (Y.loadN (cs := [.int .i64 x19.a, .int .i64 x19.b]) rfl (by kernel_rfl) (cells2 (beC (OwF.cell fPair G9 hx21 (j := 0) rfl)) (beC (OwF.cell fPair G9 hx21 (j := 1) rfl)))) ?_
      refine RQ.y rfl (Y.loadN (cs := [.int .i64 d1.a, .int .i64 d1.b]) s3_1 (by kernel_rfl) (cells2 (beC (blkCell B3 (i := 0) rfl)) (beC (blkCell B3 (i := 1) rfl)))) ?_
      refine RQ.y rfl (Y.eqS (b := (x19.a == d1.a && x19.b == d1.b)) rfl rfl (eqPair_run _ _ _ _) (eqGuardPair_run _ _ _ _ _)) ?_
      refine RQ.nil ?_
      intro w25 hb26
      have szw25 := hb26.size
      have B3 := blkT B3 hb26
      have G9 := OwF.below G9 hb26
      have T := Tt T hb26
      refine then_n ?_
      rcases bcases (x19.a == d1.a && x19.b == d1.b) with c27 | c27
      · replace hm := cF c27 hm
        refine cond_f rfl (vb rfl c27) ?_
        refine wp_skip ?_
        refine blk_n (then_n ?_)
        refine wp_rs rfl ?_
        refine RQ.y rfl (Y.move (v := .int .i64 i14) s6_1) ?_
        refine RQ.y rfl (Y.binI rfl rfl (binI_add (m := i14) (by omega))) ?_
        refine RQ.y rfl (Y.assign (v := .int .i64 (i14 + 1)) rfl) ?_
        refine RQ.nil ?_
        exact (then_n ⟨g, _, Nat.lt_succ_self _, rfl, ⟨(i14 + 1), s3_1, s5_1, rfl, (by omega), B3, G9, T, (by rw [← hrec1]; exact hm)⟩⟩)
      · replace hm := cT c27 hm
        refine cond_t rfl (vb rfl c27) ?_
        refine wp_seq ?_
        refine wp_rs rfl ?_
        refine RQ.y rfl (Y.move (v := .int .i64 i14) s6_1) ?_
        refine RQ.y rfl (Y.assign (v := .int .i64 i14) rfl) ?_
        refine RQ.nil ?_
        refine then_n ?_
        refine wp_ret ?_
        obtain rfl := Option.some.inj hm
        exact (blk_r (then_r (then_r (hit_r (blk_r (then_r (ret1 rfl rfl rfl ⟨rfl, T⟩)))))))

def m_impl_Net_isKnown (d0 : DNet) (d1 : DPort) : Option Bool :=
  ((m_impl_Net_peer d0 d1).bind fun y6 => ((getI d0.agents y6.agent).bind fun x17 => (bif (x17.kind == 2) then some (y6.slot == 0) else (bif (x17.kind == 6) then some (y6.slot == 0) else (bif (x17.kind == 9) then some (y6.slot == 0) else (bif (x17.kind == 12) then some (y6.slot == 0) else some false))))))
set_option maxHeartbeats 2000000 in
theorem c_m_impl_Net_isKnown (d0 : DNet) (d1 : DPort) (r : Bool) (hm : m_impl_Net_isKnown d0 d1 = some r) (v0 : Value) (w : World) (hv0 : Pt netRd w v0 d0) :
    Calls Try.prog 127 #[v0, .agg #[.int .i64 d1.agent, .int .i64 d1.slot]] w fun e w' => e = .returned (.bool r) ∧ Below w.heap.size w w' := by
  obtain ⟨ba0, oa0, csa0, rfl, hba0, hRa0, hca0⟩ := hv0
  have hSa0 := hRa0
  obtain ⟨A1, n1, c1, rfl, ⟨h1, r1⟩⟩ := hRa0
  have e1 := h1.len; subst e1
  have q1 := len_le r1
  have T := Below.refl w.heap.size w
  unfold m_impl_Net_isKnown at hm
  refine enter 26 Try.func127 rfl rfl rfl ?_
  intro f hf
  have s0 : f 0 = .pointer (some ⟨ba0, oa0, none⟩) := hf 0 _ rfl
  have s1 : f 1 = .agg #[.int .i64 d1.agent, .int .i64 d1.slot] := hf 1 _ rfl
  refine wp_seq ?_
  refine wp_rl rfl ?_
  refine RL.box rfl s1 (fun w2 B3 hb4 szw2 => ?_)
  replace B3 : Blk w2 w.heap.size 53 #[.int .i64 d1.agent, .int .i64 d1.slot] := B3
  have GB3 : w.heap.size ≤ w.heap.size := T.size
  have T := Tt T hb4
  refine RL.y rfl (Y.assign (v := .bool false) rfl) ?_
  refine RL.nil ?_
  refine then_n ?_
  refine wp_seq ?_
  refine wp_rl rfl ?_
  refine RL.y rfl (Y.move (v := .pointer (some ⟨ba0, oa0, none⟩)) s0) ?_
  refine RL.y rfl (Y.loadN (cs := [.int .i64 d1.agent, .int .i64 d1.slot]) rfl (by kernel_rfl) (cells2 (eqC (blkCell B3 (i := 0) rfl)) (eqC (blkCell B3 (i := 1) rfl)))) ?_
  obtain ⟨y6, e7, hm⟩ := bnd hm
  refine RL.call rfl (am2 rfl rfl) (by kernel_rfl) ((c_m_impl_Net_peer d0 d1 _ e7 _ _ (ptArg netRd_ok hba0 hSa0 hca0 T)).mono ?_)
  rintro _ w8 ⟨rfl, hb9⟩
  refine ⟨_, rfl, ?_⟩
  have szw8 := hb9.size
  have B3 := blkT B3 hb9
  have T := Tt T hb9
  refine RL.alloc (z := .agg #[.int .i64 0, .int .i64 0]) rfl (by kernel_rfl) (fun w10 B11 hb12 szw10 => ?_)
  replace B11 : Blk w10 w8.heap.size 53 #[.int .i64 0, .int .i64 0] := B11
  have GB11 : w.heap.size ≤ w8.heap.size := T.size
  have Eob13_ob5 := Nat.ne_of_lt B3.lt
  have B3 := blkT B3 hb12
  have T := Tt T hb12
  refine RL.store (v := .agg #[.int .i64 y6.agent, .int .i64 y6.slot]) (cs' := #[.int .i64 y6.agent, .int .i64 y6.slot]) rfl rfl rfl B11 (by kernel_rfl) (by rfl) (by rfl) (by rfl) (fun w14 B15 ho16 => ?_)
  have szw14 := ho16.size
  have B3 := B3.only_ ho16 (by intro hin; simp at hin; exact Eob13_ob5 hin)
  have T := T.trans (ho16.below (by first | (simp; done) | (simp; omega)))
  refine RL.nil ?_
  refine then_n ?_
  refine wp_seq ?_
  refine wp_seq ?_
  refine wp_rbd (by kernel_rfl) (by kernel_rfl) ?_
  refine RQ.y rfl (Y.move (v := .pointer (some ⟨ba0, oa0, none⟩)) s0) ?_
  refine RQ.y rfl (Y.nilCheck rfl) ?_
  refine RQ.y rfl (Y.fieldAddr (off := 0) rfl (by kernel_rfl)) ?_
  refine RQ.y rfl (Y.load (v := .slice A1 d0.agents.length c1) rfl (by kernel_rfl) (beC (cellT T (hca0 0 _ rfl)))) ?_
  refine RQ.y rfl (Y.fieldAddr (off := 0) rfl (by kernel_rfl)) ?_
  refine RQ.y rfl (Y.load (v := .int .i64 y6.agent) rfl (by kernel_rfl) (beC (blkCell B15 (i := 0) rfl))) ?_
  obtain ⟨x17, hx20, hm⟩ := bnd hm
  obtain ⟨k18, hk21, hl22, hx20⟩ := getI_some hx20
  obtain ⟨b24, o25, rfl, hbb24⟩ := h1.addr (by omega)
  obtain ⟨cs19, hRcs19, hc23⟩ := h1.el hx20
  have hScs19 := hRcs19
  obtain ⟨A26, n26, c26, A27, n27, c27, rfl, ⟨h26, r26⟩, ⟨h27, r27⟩⟩ := hRcs19
  have e26 := h26.len; subst e26
  have q26 := len_le r26
  have e27 := h27.len; subst e27
  have q27 := len_le r27
  refine RQ.y rfl (Y.indexAddr (m := k18) (sz := 5) rfl rfl hk21 hl22 (by kernel_rfl)) ?_
  refine RQ.y rfl (Y.fieldAddr (off := 0) rfl (by kernel_rfl)) ?_
  refine RQ.y rfl (Y.load (v := .int .i64 x17.kind) rfl (by kernel_rfl) (beC (cellT T (hc23 0 _ rfl)))) ?_
  refine RQ.nil ?_
  intro w28 hb29
  have szw28 := hb29.size
  have B15 := blkT B15 hb29
  have T := Tt T hb29
  refine then_n ?_
  refine wp_block ?_
  refine wp_seq ?_
  refine wp_seq ?_
  refine wp_rs rfl ?_
  refine RQ.y rfl (Y.binI (v := .bool (x17.kind == 2)) rfl rfl rfl) ?_
  refine RQ.y rfl (Y.assign (v := .bool (x17.kind == 2)) rfl) ?_
  refine RQ.nil ?_
  refine then_n ?_
  rcases bcases (x17.kind == 2) with c30 | c30
  · replace hm := cF c30 hm
    refine cond_f rfl (vb rfl c30) ?_
    refine wp_seq ?_
    refine wp_rs rfl ?_
    refine RQ.y rfl (Y.binI (v := .bool (x17.kind == 6)) rfl rfl rfl) ?_
    refine RQ.y rfl (Y.assign (v := .bool (x17.kind == 6)) rfl) ?_
    refine RQ.nil ?_
    refine then_n ?_
    rcases bcases (x17.kind == 6) with c31 | c31
    · replace hm := cF c31 hm
      refine cond_f rfl (vb rfl c31) ?_
      refine wp_seq ?_
      refine wp_rs rfl ?_
      refine RQ.y rfl (Y.binI (v := .bool (x17.kind == 9)) rfl rfl rfl) ?_
      refine RQ.y rfl (Y.assign (v := .bool (x17.kind == 9)) rfl) ?_
      refine RQ.nil ?_
      refine then_n ?_
      rcases bcases (x17.kind == 9) with c32 | c32
      · replace hm := cF c32 hm
        refine cond_f rfl (vb rfl c32) ?_
        refine wp_rs rfl ?_
        refine RQ.y rfl (Y.binI (v := .bool (x17.kind == 12)) rfl rfl rfl) ?_
        refine RQ.y rfl (Y.assign (v := .bool (x17.kind == 12)) rfl) ?_
        refine RQ.nil ?_
        refine then_n ?_
        rcases bcases (x17.kind == 12) with c33 | c33
        · replace hm := cF c33 hm
          refine cond_f rfl (vb rfl c33) ?_
          refine wp_skip ?_
          refine blk_n (then_n ?_)
          refine wp_seq ?_
          refine wp_rs rfl ?_
          refine RQ.y rfl (Y.assign (v := .bool false) rfl) ?_
          refine RQ.nil ?_
          refine then_n ?_
          refine wp_ret ?_
          obtain rfl := Option.some.inj hm
          exact (ret1 rfl rfl rfl ⟨rfl, T⟩)
        · replace hm := cT c33 hm
          refine cond_t rfl (vb rfl c33) ?_
          refine wp_seq ?_
          refine wp_rs rfl ?_
          refine RQ.y rfl (Y.fieldAddr (off := 1) rfl (by kernel_rfl)) ?_
          refine RQ.y rfl (Y.load (v := .int .i64 y6.slot) rfl (by kernel_rfl) (eqC (blkCell B15 (i := 1) rfl))) ?_
          refine RQ.y rfl (Y.binI (v := .bool (y6.slot == 0)) rfl rfl rfl) ?_
          refine RQ.y rfl (Y.assign (v := .bool (y6.slot == 0)) rfl) ?_
          refine RQ.nil ?_
          refine then_n ?_
          refine wp_ret ?_
          obtain rfl := Option.some.inj hm
          exact (blk_r (then_r (ret1 rfl rfl rfl ⟨rfl, T⟩)))
      · replace hm := cT c32 hm
        refine cond_t rfl (vb rfl c32) ?_
        refine wp_skip ?_
        refine then_n ?_
        refine cond_t rfl (vb rfl c32) ?_
        refine wp_seq ?_
        refine wp_rs rfl ?_
        refine RQ.y rfl (Y.fieldAddr (off := 1) rfl (by kernel_rfl)) ?_
        refine RQ.y rfl (Y.load (v := .int .i64 y6.slot) rfl (by kernel_rfl) (eqC (blkCell B15 (i := 1) rfl))) ?_
        refine RQ.y rfl (Y.binI (v := .bool (y6.slot == 0)) rfl rfl rfl) ?_
        refine RQ.y rfl (Y.assign (v := .bool (y6.slot == 0)) rfl) ?_
        refine RQ.nil ?_
        refine then_n ?_
        refine wp_ret ?_
        obtain rfl := Option.some.inj hm
        exact (blk_r (then_r (ret1 rfl rfl rfl ⟨rfl, T⟩)))
    · replace hm := cT c31 hm
      refine cond_t rfl (vb rfl c31) ?_
      refine wp_skip ?_
      refine then_n ?_
      refine cond_t rfl (vb rfl c31) ?_
      refine wp_seq ?_
      refine wp_rs rfl ?_
      refine RQ.y rfl (Y.fieldAddr (off := 1) rfl (by kernel_rfl)) ?_
      refine RQ.y rfl (Y.load (v := .int .i64 y6.slot) rfl (by kernel_rfl) (eqC (blkCell B15 (i := 1) rfl))) ?_
      refine RQ.y rfl (Y.binI (v := .bool (y6.slot == 0)) rfl rfl rfl) ?_
      refine RQ.y rfl (Y.assign (v := .bool (y6.slot == 0)) rfl) ?_
      refine RQ.nil ?_
      refine then_n ?_
      refine wp_ret ?_
      obtain rfl := Option.some.inj hm
      exact (blk_r (then_r (ret1 rfl rfl rfl ⟨rfl, T⟩)))
  · replace hm := cT c30 hm
    refine cond_t rfl (vb rfl c30) ?_
    refine wp_skip ?_
    refine then_n ?_
    refine cond_t rfl (vb rfl c30) ?_
    refine wp_seq ?_
    refine wp_rs rfl ?_
    refine RQ.y rfl (Y.fieldAddr (off := 1) rfl (by kernel_rfl)) ?_
    refine RQ.y rfl (Y.load (v := .int .i64 y6.slot) rfl (by kernel_rfl) (eqC (blkCell B15 (i := 1) rfl))) ?_
    refine RQ.y rfl (Y.binI (v := .bool (y6.slot == 0)) rfl rfl rfl) ?_
    refine RQ.y rfl (Y.assign (v := .bool (y6.slot == 0)) rfl) ?_
    refine RQ.nil ?_
    refine then_n ?_
    refine wp_ret ?_
    obtain rfl := Option.some.inj hm
    exact (blk_r (then_r (ret1 rfl rfl rfl ⟨rfl, T⟩)))

def m_slices_Index_impl_Pair_impl_Pair_A1 : Option Int :=
  some (-1)
def m_slices_Index_impl_Pair_impl_Pair_B1 (d0 : List DPair) (d1 : DPair) (rec1 : Int → Option Int) (K1 : Option Int) (i6 : Int) : Option Int :=
  (bif (decide (i6 < (d0.length : Int))) then ((getI d0 i6).bind fun x9 => (bif (d1.a == x9.a && d1.b == x9.b) then some i6 else (rec1 (i6 + 1)))) else (K1))
def m_slices_Index_impl_Pair_impl_Pair_L1 (d0 : List DPair) (d1 : DPair) (K1 : Option Int) : Nat → Int → Option Int
  | 0, _ => none
  | g + 1, i6 => m_slices_Index_impl_Pair_impl_Pair_B1 d0 d1 (m_slices_Index_impl_Pair_impl_Pair_L1 d0 d1 K1 g) K1 i6
def m_slices_Index_impl_Pair_impl_Pair (d0 : List DPair) (d1 : DPair) : Option Int :=
  (m_slices_Index_impl_Pair_impl_Pair_L1 d0 d1 m_slices_Index_impl_Pair_impl_Pair_A1 (d0.length + 1) 0)
set_option maxHeartbeats 2000000 in
theorem c_m_slices_Index_impl_Pair_impl_Pair (d0 : List DPair) (d1 : DPair) (r : Int) (hm : m_slices_Index_impl_Pair_impl_Pair d0 d1 = some r) (v0 : Value) (w : World) (hv0 : Sl pairRd 2 w v0 d0) :
    Calls Try.prog 129 #[v0, .agg #[.int .i64 d1.a, .int .i64 d1.b]] w fun e w' => e = .returned (.int .i64 r) ∧ Below w.heap.size w w' := by
  obtain ⟨Aa0, na0, ca0, rfl, ha0, ra0⟩ := hv0
  have ea0 := ha0.len; subst ea0
  have qa0 := len_le ra0
  have T := Below.refl w.heap.size w
  unfold m_slices_Index_impl_Pair_impl_Pair at hm
  refine enter 19 Try.func129 rfl rfl rfl ?_
  intro f hf
  have s0 : f 0 = .slice Aa0 d0.length ca0 := hf 0 _ rfl
  have s1 : f 1 = .agg #[.int .i64 d1.a, .int .i64 d1.b] := hf 1 _ rfl
  refine wp_seq ?_
  refine wp_rl rfl ?_
  refine RL.box rfl s1 (fun w1 B2 hb3 szw1 => ?_)
  replace B2 : Blk w1 w.heap.size 81 #[.int .i64 d1.a, .int .i64 d1.b] := B2
  have GB2 : w.heap.size ≤ w.heap.size := T.size
  have T := Tt T hb3
  refine RL.y rfl (Y.assign (v := .int .i64 0) rfl) ?_
  refine RL.nil ?_
  refine then_n ?_
  refine wp_seq ?_
  refine wp_seq ?_
  refine wp_rs rfl ?_
  refine RQ.y rfl (Y.move (v := .slice Aa0 d0.length ca0) s0) ?_
  refine RQ.y rfl (Y.len (by kernel_rfl) rfl) ?_
  refine RQ.y rfl (Y.move (v := .int .i64 0) rfl) ?_
  refine RQ.nil ?_
  refine then_n ?_
  refine wp_block ?_
  obtain ⟨K1, hK1, hm⟩ : ∃ K, K = m_slices_Index_impl_Pair_impl_Pair_A1 ∧ m_slices_Index_impl_Pair_impl_Pair_L1 d0 d1 K (d0.length + 1) 0 = some r := ⟨_, rfl, hm⟩
  refine wp_loopX (fun g f w' => ∃ (i6 : Int), f 0 = .slice Aa0 d0.length ca0 ∧ f 3 = .pointer (some ⟨w.heap.size, 0, none⟩) ∧ f 7 = .int .i64 (d0.length : Int) ∧ f 8 = .int .i64 i6 ∧ 0 ≤ i6 ∧ Blk w' w.heap.size 81 #[.int .i64 d1.a, .int .i64 d1.b] ∧ Below w.heap.size w w' ∧ m_slices_Index_impl_Pair_impl_Pair_L1 d0 d1 K1 g i6 = some r) 0 (fun f w' => Blk w' w.heap.size 81 #[.int .i64 d1.a, .int .i64 d1.b] ∧ Below w.heap.size w w' ∧ m_slices_Index_impl_Pair_impl_Pair_A1  = some r) (d0.length + 1) ⟨0, s0, rfl, rfl, rfl, (by omega), B2, T, hm⟩ ?_ ?_
  · rintro f w5 ⟨B2, T, hm⟩
    unfold m_slices_Index_impl_Pair_impl_Pair_A1 at hm
    refine blk_hit (then_n ?_)
    refine wp_seq ?_
    refine wp_rs rfl ?_
    refine RQ.y rfl (Y.assign (v := .int .i64 (-1)) rfl) ?_
    refine RQ.nil ?_
    refine then_n ?_
    refine wp_ret ?_
    obtain rfl := Option.some.inj hm
    exact (ret1 rfl rfl rfl ⟨rfl, T⟩)
  · rintro g f w7 ⟨i6, s0_1, s3_1, s7_1, s8_1, nn8_1, B2, T, hm⟩
    rcases g with _ | g
    · simp only [m_slices_Index_impl_Pair_impl_Pair_L1] at hm; cases hm
    obtain ⟨rec1, hrec1, hm⟩ : ∃ z, z = m_slices_Index_impl_Pair_impl_Pair_L1 d0 d1 K1 g ∧ m_slices_Index_impl_Pair_impl_Pair_B1 d0 d1 z K1 i6 = some r := ⟨_, rfl, hm⟩
    unfold m_slices_Index_impl_Pair_impl_Pair_B1 at hm
    refine wp_seq ?_
    refine wp_rs rfl ?_
    refine RQ.y rfl (Y.binI (v := .bool (decide (i6 < (d0.length : Int)))) s8_1 s7_1 rfl) ?_
    refine RQ.nil ?_
    refine then_n ?_
    refine wp_seq ?_
    rcases bcases (decide (i6 < (d0.length : Int))) with c8 | c8
    · replace hm := cF c8 hm
      have pc8 := of_decide_eq_false c8
      refine cond_f rfl (vb rfl c8) ?_
      refine wp_exit ?_
      exact (then_x (then_x (hit_x ⟨_, rfl, ⟨B2, T, (by rw [hK1] at hm; exact hm)⟩⟩)))
    · replace hm := cT c8 hm
      have pc8 := of_decide_eq_true c8
      refine cond_t rfl (vb rfl c8) ?_
      refine wp_skip ?_
      refine then_n ?_
      refine wp_seq ?_
      refine wp_block ?_
      refine wp_seq ?_
      refine wp_rs rfl ?_
      refine RQ.y rfl (Y.move (v := .int .i64 i6) s8_1) ?_
      refine RQ.y rfl (Y.assign (v := .int .i64 i6) rfl) ?_
      refine RQ.nil ?_
      refine then_n ?_
      refine wp_seq ?_
      refine wp_rbd (by kernel_rfl) (by kernel_rfl) ?_
      refine RQ.y rfl (Y.loadN (cs := [.int .i64 d1.a, .int .i64 d1.b]) s3_1 (by kernel_rfl) (cells2 (beC (blkCell B2 (i := 0) rfl)) (beC (blkCell B2 (i := 1) rfl)))) ?_
      refine RQ.y rfl (Y.move (v := .slice Aa0 d0.length ca0) s0_1) ?_
      refine RQ.y rfl (Y.move (v := .int .i64 i6) rfl) ?_
      obtain ⟨x9, hx12, hm⟩ := bnd hm
      obtain ⟨k10, hk13, hl14, hx12⟩ := getI_some hx12
      obtain ⟨b16, o17, rfl, hbb16⟩ := ha0.addr (by omega)
      obtain ⟨cs11, hRcs11, hc15⟩ := ha0.el hx12
      have hScs11 := hRcs11
      obtain rfl := hRcs11
      refine RQ.y rfl (Y.indexAddr (m := k10) (sz := 2) rfl rfl hk13 hl14 (by kernel_rfl)) ?_
      refine RQ.y rfl (Y.loadN (cs := [.int .i64 x9.a, .int .i64 x9.b]) rfl (by kernel_rfl) (cells2 (beC (cellT T (hc15 0 _ rfl))) (beC (cellT T (hc15 1 _ rfl))))) ?_
      refine RQ.y rfl (Y.eqS (b := (d1.a == x9.a && d1.b == x9.b)) rfl rfl (eqPair_run _ _ _ _) (eqGuardPair_run _ _ _ _ _)) ?_
      refine RQ.nil ?_
      intro w18 hb19
      have szw18 := hb19.size
      have B2 := blkT B2 hb19
      have T := Tt T hb19
      refine then_n ?_
      rcases bcases (d1.a == x9.a && d1.b == x9.b) with c20 | c20
      · replace hm := cF c20 hm
        refine cond_f rfl (vb rfl c20) ?_
        refine wp_skip ?_
        refine blk_n (then_n ?_)
        refine wp_rs rfl ?_
        refine RQ.y rfl (Y.binI s8_1 rfl (binI_add (m := i6) (by omega))) ?_
        refine RQ.y rfl (Y.move (v := .int .i64 (i6 + 1)) rfl) ?_
        refine RQ.nil ?_
        exact (then_n ⟨g, _, Nat.lt_succ_self _, rfl, ⟨(i6 + 1), s0_1, s3_1, s7_1, rfl, (by omega), B2, T, (by rw [← hrec1]; exact hm)⟩⟩)
      · replace hm := cT c20 hm
        refine cond_t rfl (vb rfl c20) ?_
        refine wp_seq ?_
        refine wp_rs rfl ?_
        refine RQ.y rfl (Y.move (v := .int .i64 i6) rfl) ?_
        refine RQ.y rfl (Y.assign (v := .int .i64 i6) rfl) ?_
        refine RQ.nil ?_
        refine then_n ?_
        refine wp_ret ?_
        obtain rfl := Option.some.inj hm
        exact (blk_r (then_r (then_r (hit_r (blk_r (then_r (ret1 rfl rfl rfl ⟨rfl, T⟩)))))))

end Go.Proofs.Ytampijkiidjcmaa
