/- Lemmas of the proof of FindIsomorphism, part 6. No condition. -/
import Derived.Test.YtebioddcnldjkaaGreatZFindIsomorphism5
namespace Go.Proofs.YtebioddcnldjkaaGreat
section
open Go.RowKit
set_option linter.unusedVariables false
set_option linter.unusedSimpArgs false
set_option maxRecDepth 100000
def m_cmp_isNaN_int64 (d0 : Int) : Option Bool :=
  some (d0 != d0)
set_option maxHeartbeats 2000000 in
theorem c_m_cmp_isNaN_int64 (d0 : Int) (r : Bool) (hm : m_cmp_isNaN_int64 d0 = some r)  (w : World)  :
    Calls Tryz.prog 80 #[.int .i64 d0] w fun e w' => e = .returned (.bool r) ∧ Below w.heap.size w w' := by
  have T := Below.refl w.heap.size w
  unfold m_cmp_isNaN_int64 at hm
  refine enter 6 Tryz.func80 rfl rfl rfl ?_
  intro f hf
  have s0 : f 0 = .int .i64 d0 := hf 0 _ rfl
  refine wp_seq ?_
  refine wp_rs rfl ?_
  refine RQ.y rfl (Y.assign (v := .bool false) rfl) ?_
  refine RQ.nil ?_
  refine then_n ?_
  refine wp_seq ?_
  refine wp_rs rfl ?_
  refine RQ.y rfl (Y.move (v := .int .i64 d0) s0) ?_
  refine RQ.y rfl (Y.move (v := .int .i64 d0) s0) ?_
  refine RQ.y rfl (Y.binI (v := .bool (d0 != d0)) rfl rfl rfl) ?_
  refine RQ.y rfl (Y.assign (v := .bool (d0 != d0)) rfl) ?_
  refine RQ.nil ?_
  refine then_n ?_
  refine wp_ret ?_
  obtain rfl := Option.some.inj hm
  exact (ret1 rfl rfl rfl ⟨rfl, T⟩)
def m_cmp_Compare_int64 (d0 : Int) (d1 : Int) : Option Int :=
  ((m_cmp_isNaN_int64 d0).bind fun y1 => ((m_cmp_isNaN_int64 d1).bind fun y5 => (bif y1 then (bif y5 then some 0 else some (-1)) else (bif y5 then some 1 else (bif (decide (d0 < d1)) then some (-1) else (bif (decide (d0 > d1)) then some 1 else some 0))))))
set_option maxHeartbeats 2000000 in
theorem c_m_cmp_Compare_int64 (d0 : Int) (d1 : Int) (r : Int) (hm : m_cmp_Compare_int64 d0 d1 = some r)  (w : World)  :
    Calls Tryz.prog 58 #[.int .i64 d0, .int .i64 d1] w fun e w' => e = .returned (.int .i64 r) ∧ Below w.heap.size w w' := by
  have T := Below.refl w.heap.size w
  unfold m_cmp_Compare_int64 at hm
  refine enter 20 Tryz.func58 rfl rfl rfl ?_
  intro f hf
  have s0 : f 0 = .int .i64 d0 := hf 0 _ rfl
  have s1 : f 1 = .int .i64 d1 := hf 1 _ rfl
  refine wp_seq ?_
  refine wp_rs rfl ?_
  refine RQ.y rfl (Y.assign (v := .int .i64 0) rfl) ?_
  refine RQ.nil ?_
  refine then_n ?_
  refine wp_seq ?_
  refine wp_rb rfl ?_
  refine RQ.y rfl (Y.move (v := .int .i64 d0) s0) ?_
  obtain ⟨y1, e2, hm⟩ := bnd hm
  refine RQ.call rfl (am1 rfl) (by kernel_rfl) (v := .bool y1) (bel (K := fun _ => True) fun w' hb' => (c_m_cmp_isNaN_int64 d0 _ e2  w' )) ?_
  refine RQ.y rfl (Y.assign (v := .bool y1) rfl) ?_
  refine RQ.nil ?_
  intro w3 hb4
  have szw3 := hb4.size
  have T := Tt T hb4
  refine then_n ?_
  refine wp_seq ?_
  refine wp_rb rfl ?_
  refine RQ.y rfl (Y.move (v := .int .i64 d1) s1) ?_
  obtain ⟨y5, e6, hm⟩ := bnd hm
  refine RQ.call rfl (am1 rfl) (by kernel_rfl) (v := .bool y5) (bel (K := fun _ => True) fun w' hb' => (c_m_cmp_isNaN_int64 d1 _ e6  w' )) ?_
  refine RQ.y rfl (Y.assign (v := .bool y5) rfl) ?_
  refine RQ.nil ?_
  intro w7 hb8
  have szw7 := hb8.size
  have T := Tt T hb8
  refine then_n ?_
  refine wp_seq ?_
  refine wp_seq ?_
  refine wp_rs rfl ?_
  refine RQ.y rfl (Y.move (v := .bool y1) rfl) ?_
  refine RQ.nil ?_
  refine then_n ?_
  rcases bcases y1 with c9 | c9
  · replace hm := cF c9 hm
    refine cond_f rfl (vb rfl c9) ?_
    refine wp_skip ?_
    refine then_n ?_
    refine wp_seq ?_
    refine wp_seq ?_
    refine wp_rs rfl ?_
    refine RQ.y rfl (Y.move (v := .bool y5) rfl) ?_
    refine RQ.nil ?_
    refine then_n ?_
    rcases bcases y5 with c10 | c10
    · replace hm := cF c10 hm
      refine cond_f rfl (vb rfl c10) ?_
      refine wp_skip ?_
      refine then_n ?_
      refine wp_seq ?_
      refine wp_seq ?_
      refine wp_rs rfl ?_
      refine RQ.y rfl (Y.move (v := .int .i64 d0) s0) ?_
      refine RQ.y rfl (Y.move (v := .int .i64 d1) s1) ?_
      refine RQ.y rfl (Y.binI (v := .bool (decide (d0 < d1))) rfl rfl rfl) ?_
      refine RQ.nil ?_
      refine then_n ?_
      rcases bcases (decide (d0 < d1)) with c11 | c11
      · replace hm := cF c11 hm
        have pc11 := of_decide_eq_false c11
        refine cond_f rfl (vb rfl c11) ?_
        refine wp_skip ?_
        refine then_n ?_
        refine wp_seq ?_
        refine wp_seq ?_
        refine wp_rs rfl ?_
        refine RQ.y rfl (Y.move (v := .int .i64 d0) s0) ?_
        refine RQ.y rfl (Y.move (v := .int .i64 d1) s1) ?_
        refine RQ.y rfl (Y.binI (v := .bool (decide (d0 > d1))) rfl rfl rfl) ?_
        refine RQ.nil ?_
        refine then_n ?_
        rcases bcases (decide (d0 > d1)) with c12 | c12
        · replace hm := cF c12 hm
          have pc12 := of_decide_eq_false c12
          refine cond_f rfl (vb rfl c12) ?_
          refine wp_skip ?_
          refine then_n ?_
          refine wp_seq ?_
          refine wp_rs rfl ?_
          refine RQ.y rfl (Y.assign (v := .int .i64 0) rfl) ?_
          refine RQ.nil ?_
          refine then_n ?_
          refine wp_ret ?_
          obtain rfl := Option.some.inj hm
          exact (ret1 rfl rfl rfl ⟨rfl, T⟩)
        · replace hm := cT c12 hm
          have pc12 := of_decide_eq_true c12
          refine cond_t rfl (vb rfl c12) ?_
          refine wp_seq ?_
          refine wp_rs rfl ?_
          refine RQ.y rfl (Y.assign (v := .int .i64 1) rfl) ?_
          refine RQ.nil ?_
          refine then_n ?_
          refine wp_ret ?_
          obtain rfl := Option.some.inj hm
          exact (then_r (ret1 rfl rfl rfl ⟨rfl, T⟩))
      · replace hm := cT c11 hm
        have pc11 := of_decide_eq_true c11
        refine cond_t rfl (vb rfl c11) ?_
        refine wp_seq ?_
        refine wp_rs rfl ?_
        refine RQ.y rfl (Y.assign (v := .int .i64 (-1)) rfl) ?_
        refine RQ.nil ?_
        refine then_n ?_
        refine wp_ret ?_
        obtain rfl := Option.some.inj hm
        exact (then_r (ret1 rfl rfl rfl ⟨rfl, T⟩))
    · replace hm := cT c10 hm
      refine cond_t rfl (vb rfl c10) ?_
      refine wp_seq ?_
      refine wp_rs rfl ?_
      refine RQ.y rfl (Y.assign (v := .int .i64 1) rfl) ?_
      refine RQ.nil ?_
      refine then_n ?_
      refine wp_ret ?_
      obtain rfl := Option.some.inj hm
      exact (then_r (ret1 rfl rfl rfl ⟨rfl, T⟩))
  · replace hm := cT c9 hm
    refine cond_t rfl (vb rfl c9) ?_
    refine wp_seq ?_
    refine wp_seq ?_
    refine wp_rs rfl ?_
    refine RQ.y rfl (Y.move (v := .bool y5) rfl) ?_
    refine RQ.nil ?_
    refine then_n ?_
    rcases bcases y5 with c13 | c13
    · replace hm := cF c13 hm
      refine cond_f rfl (vb rfl c13) ?_
      refine wp_skip ?_
      refine then_n ?_
      refine wp_seq ?_
      refine wp_rs rfl ?_
      refine RQ.y rfl (Y.assign (v := .int .i64 (-1)) rfl) ?_
      refine RQ.nil ?_
      refine then_n ?_
      refine wp_ret ?_
      obtain rfl := Option.some.inj hm
      exact (then_r (ret1 rfl rfl rfl ⟨rfl, T⟩))
    · replace hm := cT c13 hm
      refine cond_t rfl (vb rfl c13) ?_
      refine wp_seq ?_
      refine wp_rs rfl ?_
      refine RQ.y rfl (Y.assign (v := .int .i64 0) rfl) ?_
      refine RQ.nil ?_
      refine then_n ?_
      refine wp_ret ?_
      obtain rfl := Option.some.inj hm
      exact (then_r (then_r (ret1 rfl rfl rfl ⟨rfl, T⟩)))
def m_slices_Compare_int64_int64_A1 (d0 : List Int) (d1 : List Int) : Option Int :=
  (bif (decide ((d0.length : Int) < (d1.length : Int))) then some (-1) else some 0)
def m_slices_Compare_int64_int64_B1 (d0 : List Int) (d1 : List Int) (rec1 : Int → Option Int) (K1 : Option Int) (i3 : Int) : Option Int :=
  (bif (decide (i3 < (d0.length : Int))) then ((getI d0 i3).bind fun x6 => (bif (decide (i3 ≥ (d1.length : Int))) then some 1 else ((getI d1 i3).bind fun x16 => ((m_cmp_Compare_int64 x6 x16).bind fun y25 => (bif (y25 != 0) then some y25 else (rec1 (i3 + 1))))))) else (K1))
def m_slices_Compare_int64_int64_L1 (d0 : List Int) (d1 : List Int) (K1 : Option Int) : Nat → Int → Option Int
  | 0, _ => none
  | g + 1, i3 => m_slices_Compare_int64_int64_B1 d0 d1 (m_slices_Compare_int64_int64_L1 d0 d1 K1 g) K1 i3
def m_slices_Compare_int64_int64 (d0 : List Int) (d1 : List Int) : Option Int :=
  (m_slices_Compare_int64_int64_L1 d0 d1 (m_slices_Compare_int64_int64_A1 d0 d1) (d0.length + 1) 0)
set_option maxHeartbeats 2000000 in
theorem c_m_slices_Compare_int64_int64 (d0 : List Int) (d1 : List Int) (r : Int) (hm : m_slices_Compare_int64_int64 d0 d1 = some r) (v0 : Value) (v1 : Value) (w : World) (hv0 : Sl intRd 1 w v0 d0) (hv1 : Sl intRd 1 w v1 d1) :
    Calls Tryz.prog 57 #[v0, v1] w fun e w' => e = .returned (.int .i64 r) ∧ Below w.heap.size w w' := by
  obtain ⟨Aa0, na0, ca0, rfl, ha0, ra0⟩ := hv0
  have ea0 := ha0.len; subst ea0
  have qa0 := len_le ra0
  obtain ⟨Aa1, na1, ca1, rfl, ha1, ra1⟩ := hv1
  have ea1 := ha1.len; subst ea1
  have qa1 := len_le ra1
  have T := Below.refl w.heap.size w
  unfold m_slices_Compare_int64_int64 at hm
  refine enter 36 Tryz.func57 rfl rfl rfl ?_
  intro f hf
  have s0 : f 0 = .slice Aa0 d0.length ca0 := hf 0 _ rfl
  have s1 : f 1 = .slice Aa1 d1.length ca1 := hf 1 _ rfl
  refine wp_seq ?_
  refine wp_rs rfl ?_
  refine RQ.y rfl (Y.assign (v := .int .i64 0) rfl) ?_
  refine RQ.nil ?_
  refine then_n ?_
  refine wp_seq ?_
  refine wp_seq ?_
  refine wp_rs rfl ?_
  refine RQ.y rfl (Y.move (v := .slice Aa0 d0.length ca0) s0) ?_
  refine RQ.y rfl (Y.len (by kernel_rfl) rfl) ?_
  refine RQ.y rfl (Y.move (v := .int .i64 0) rfl) ?_
  refine RQ.nil ?_
  refine then_n ?_
  refine wp_block ?_
  obtain ⟨K1, hK1, hm⟩ : ∃ K, K = (m_slices_Compare_int64_int64_A1 d0 d1) ∧ m_slices_Compare_int64_int64_L1 d0 d1 K (d0.length + 1) 0 = some r := ⟨_, rfl, hm⟩
  refine wp_loopX (fun g f w' => ∃ (i3 : Int), f 0 = .slice Aa0 d0.length ca0 ∧ f 1 = .slice Aa1 d1.length ca1 ∧ f 9 = .slice Aa0 d0.length ca0 ∧ f 10 = .int .i64 (d0.length : Int) ∧ f 11 = .int .i64 i3 ∧ 0 ≤ i3 ∧ Below w.heap.size w w' ∧ m_slices_Compare_int64_int64_L1 d0 d1 K1 g i3 = some r) 0 (fun f w' => f 0 = .slice Aa0 d0.length ca0 ∧ f 1 = .slice Aa1 d1.length ca1 ∧ Below w.heap.size w w' ∧ m_slices_Compare_int64_int64_A1 d0 d1  = some r) (d0.length + 1) ⟨0, s0, s1, rfl, rfl, rfl, (by omega), T, hm⟩ ?_ ?_
  · rintro f w1 ⟨s0_1x, s1_1x, T, hm⟩
    unfold m_slices_Compare_int64_int64_A1 at hm
    refine blk_hit (then_n ?_)
    refine wp_seq ?_
    refine wp_seq ?_
    refine wp_rs rfl ?_
    refine RQ.y rfl (Y.move (v := .slice Aa0 d0.length ca0) s0_1x) ?_
    refine RQ.y rfl (Y.len (by kernel_rfl) rfl) ?_
    refine RQ.y rfl (Y.move (v := .slice Aa1 d1.length ca1) s1_1x) ?_
    refine RQ.y rfl (Y.len (by kernel_rfl) rfl) ?_
    refine RQ.y rfl (Y.binI (v := .bool (decide ((d0.length : Int) < (d1.length : Int)))) rfl rfl rfl) ?_
    refine RQ.nil ?_
    refine then_n ?_
    rcases bcases (decide ((d0.length : Int) < (d1.length : Int))) with c2 | c2
    · replace hm := cF c2 hm
      have pc2 := of_decide_eq_false c2
      refine cond_f rfl (vb rfl c2) ?_
      refine wp_skip ?_
      refine then_n ?_
      refine wp_seq ?_
      refine wp_rs rfl ?_
      refine RQ.y rfl (Y.assign (v := .int .i64 0) rfl) ?_
      refine RQ.nil ?_
      refine then_n ?_
      refine wp_ret ?_
      obtain rfl := Option.some.inj hm
      exact (ret1 rfl rfl rfl ⟨rfl, T⟩)
    · replace hm := cT c2 hm
      have pc2 := of_decide_eq_true c2
      refine cond_t rfl (vb rfl c2) ?_
      refine wp_seq ?_
      refine wp_rs rfl ?_
      refine RQ.y rfl (Y.assign (v := .int .i64 (-1)) rfl) ?_
      refine RQ.nil ?_
      refine then_n ?_
      refine wp_ret ?_
      obtain rfl := Option.some.inj hm
      exact (then_r (ret1 rfl rfl rfl ⟨rfl, T⟩))
  · rintro g f w4 ⟨i3, s0_1, s1_1, s9_1, s10_1, s11_1, nn11_1, T, hm⟩
    rcases g with _ | g
    · simp only [m_slices_Compare_int64_int64_L1] at hm; cases hm
    obtain ⟨rec1, hrec1, hm⟩ : ∃ z, z = m_slices_Compare_int64_int64_L1 d0 d1 K1 g ∧ m_slices_Compare_int64_int64_B1 d0 d1 z K1 i3 = some r := ⟨_, rfl, hm⟩
    unfold m_slices_Compare_int64_int64_B1 at hm
    refine wp_seq ?_
    refine wp_rs rfl ?_
    refine RQ.y rfl (Y.binI (v := .bool (decide (i3 < (d0.length : Int)))) s11_1 s10_1 rfl) ?_
    refine RQ.nil ?_
    refine then_n ?_
    refine wp_seq ?_
    rcases bcases (decide (i3 < (d0.length : Int))) with c5 | c5
    · replace hm := cF c5 hm
      have pc5 := of_decide_eq_false c5
      refine cond_f rfl (vb rfl c5) ?_
      refine wp_exit ?_
      exact (then_x (then_x (hit_x ⟨_, rfl, ⟨s0_1, s1_1, T, (by rw [hK1] at hm; exact hm)⟩⟩)))
    · replace hm := cT c5 hm
      have pc5 := of_decide_eq_true c5
      refine cond_t rfl (vb rfl c5) ?_
      refine wp_skip ?_
      refine then_n ?_
      refine wp_seq ?_
      refine wp_block ?_
      refine wp_seq ?_
      refine wp_rs rfl ?_
      refine RQ.y rfl (Y.move (v := .int .i64 i3) s11_1) ?_
      obtain ⟨x6, hx9, hm⟩ := bnd hm
      obtain ⟨k7, hk10, hl11, hx9⟩ := getI_some hx9
      obtain ⟨b13, o14, rfl, hbb13⟩ := ha0.addr (by omega)
      obtain ⟨cs8, hRcs8, hc12⟩ := ha0.el hx9
      have hScs8 := hRcs8
      obtain rfl := hRcs8
      refine RQ.y rfl (Y.indexAddr (m := k7) (sz := 1) s9_1 s11_1 hk10 hl11 (by kernel_rfl)) ?_
      refine RQ.y rfl (Y.load (v := .int .i64 x6) rfl (by kernel_rfl) (eqC (cellT T (hc12 0 _ rfl)))) ?_
      refine RQ.y rfl (Y.assign (v := .int .i64 i3) rfl) ?_
      refine RQ.y rfl (Y.assign (v := .int .i64 x6) rfl) ?_
      refine RQ.nil ?_
      refine then_n ?_
      refine wp_seq ?_
      refine wp_seq ?_
      refine wp_rs rfl ?_
      refine RQ.y rfl (Y.move (v := .int .i64 i3) rfl) ?_
      refine RQ.y rfl (Y.move (v := .slice Aa1 d1.length ca1) s1_1) ?_
      refine RQ.y rfl (Y.len (by kernel_rfl) rfl) ?_
      refine RQ.y rfl (Y.binI (v := .bool (decide (i3 ≥ (d1.length : Int)))) rfl rfl rfl) ?_
      refine RQ.nil ?_
      refine then_n ?_
      rcases bcases (decide (i3 ≥ (d1.length : Int))) with c15 | c15
      · replace hm := cF c15 hm
        have pc15 := of_decide_eq_false c15
        refine cond_f rfl (vb rfl c15) ?_
        refine wp_skip ?_
        refine then_n ?_
        refine wp_seq ?_
        refine wp_rs rfl ?_
        refine RQ.y rfl (Y.move (v := .slice Aa1 d1.length ca1) s1_1) ?_
        refine RQ.y rfl (Y.move (v := .int .i64 i3) rfl) ?_
        obtain ⟨x16, hx19, hm⟩ := bnd hm
        obtain ⟨k17, hk20, hl21, hx19⟩ := getI_some hx19
        obtain ⟨b23, o24, rfl, hbb23⟩ := ha1.addr (by omega)
        obtain ⟨cs18, hRcs18, hc22⟩ := ha1.el hx19
        have hScs18 := hRcs18
        obtain rfl := hRcs18
        refine RQ.y rfl (Y.indexAddr (m := k17) (sz := 1) rfl rfl hk20 hl21 (by kernel_rfl)) ?_
        refine RQ.y rfl (Y.load (v := .int .i64 x16) rfl (by kernel_rfl) (eqC (cellT T (hc22 0 _ rfl)))) ?_
        refine RQ.y rfl (Y.assign (v := .int .i64 x16) rfl) ?_
        refine RQ.nil ?_
        refine then_n ?_
        refine wp_seq ?_
        refine wp_rb rfl ?_
        refine RQ.y rfl (Y.move (v := .int .i64 x6) rfl) ?_
        refine RQ.y rfl (Y.move (v := .int .i64 x16) rfl) ?_
        obtain ⟨y25, e26, hm⟩ := bnd hm
        refine RQ.call rfl (am2 rfl rfl) (by kernel_rfl) (v := .int .i64 y25) (bel (K := fun _ => True) fun w' hb' => (c_m_cmp_Compare_int64 x6 x16 _ e26  w' )) ?_
        refine RQ.y rfl (Y.assign (v := .int .i64 y25) rfl) ?_
        refine RQ.nil ?_
        intro w27 hb28
        have szw27 := hb28.size
        have T := Tt T hb28
        refine then_n ?_
        refine wp_seq ?_
        refine wp_rs rfl ?_
        refine RQ.y rfl (Y.move (v := .int .i64 y25) rfl) ?_
        refine RQ.y rfl (Y.binI (v := .bool (y25 != 0)) rfl rfl rfl) ?_
        refine RQ.nil ?_
        refine then_n ?_
        rcases bcases (y25 != 0) with c29 | c29
        · replace hm := cF c29 hm
          refine cond_f rfl (vb rfl c29) ?_
          refine wp_skip ?_
          refine blk_n (then_n ?_)
          refine wp_rs rfl ?_
          refine RQ.y rfl (Y.binI s11_1 rfl (binI_add (m := i3) (by omega))) ?_
          refine RQ.y rfl (Y.move (v := .int .i64 (i3 + 1)) rfl) ?_
          refine RQ.nil ?_
          exact (then_n ⟨g, _, Nat.lt_succ_self _, rfl, ⟨(i3 + 1), s0_1, s1_1, s9_1, s10_1, rfl, (by omega), T, (by rw [← hrec1]; exact hm)⟩⟩)
        · replace hm := cT c29 hm
          refine cond_t rfl (vb rfl c29) ?_
          refine wp_seq ?_
          refine wp_rs rfl ?_
          refine RQ.y rfl (Y.move (v := .int .i64 y25) rfl) ?_
          refine RQ.y rfl (Y.assign (v := .int .i64 y25) rfl) ?_
          refine RQ.nil ?_
          refine then_n ?_
          refine wp_ret ?_
          obtain rfl := Option.some.inj hm
          exact (blk_r (then_r (then_r (hit_r (blk_r (then_r (ret1 rfl rfl rfl ⟨rfl, T⟩)))))))
      · replace hm := cT c15 hm
        have pc15 := of_decide_eq_true c15
        refine cond_t rfl (vb rfl c15) ?_
        refine wp_seq ?_
        refine wp_rs rfl ?_
        refine RQ.y rfl (Y.assign (v := .int .i64 1) rfl) ?_
        refine RQ.nil ?_
        refine then_n ?_
        refine wp_ret ?_
        obtain rfl := Option.some.inj hm
        exact (then_r (blk_r (then_r (then_r (hit_r (blk_r (then_r (ret1 rfl rfl rfl ⟨rfl, T⟩))))))))
def m_spec_l12Less_A1 (d0 : List Int) (d1 : List Int) : Option Bool :=
  some (decide ((d0.length : Int) < (d1.length : Int)))
def m_spec_l12Less_B1 (d0 : List Int) (d1 : List Int) (rec1 : Int → Option Bool) (K1 : Option Bool) (i2 : Int) : Option Bool :=
  (bif (decide (i2 < (d0.length : Int))) then (bif (decide (i2 < (d1.length : Int))) then ((getI d0 i2).bind fun x6 => ((getI d1 i2).bind fun x15 => (bif (x6 != x15) then ((getI d0 i2).bind fun x27 => ((getI d1 i2).bind fun x34 => some (decide (x27 < x34)))) else (rec1 (i2 + 1))))) else (K1)) else (K1))
def m_spec_l12Less_L1 (d0 : List Int) (d1 : List Int) (K1 : Option Bool) : Nat → Int → Option Bool
  | 0, _ => none
  | g + 1, i2 => m_spec_l12Less_B1 d0 d1 (m_spec_l12Less_L1 d0 d1 K1 g) K1 i2
def m_spec_l12Less (d0 : List Int) (d1 : List Int) : Option Bool :=
  (m_spec_l12Less_L1 d0 d1 (m_spec_l12Less_A1 d0 d1) (d0.length + 1) 0)
set_option maxHeartbeats 2000000 in
theorem c_m_spec_l12Less (d0 : List Int) (d1 : List Int) (r : Bool) (hm : m_spec_l12Less d0 d1 = some r) (v0 : Value) (v1 : Value) (w : World) (hv0 : Sl intRd 1 w v0 d0) (hv1 : Sl intRd 1 w v1 d1) :
    Calls Tryz.prog 43 #[v0, v1] w fun e w' => e = .returned (.bool r) ∧ Below w.heap.size w w' := by
  obtain ⟨Aa0, na0, ca0, rfl, ha0, ra0⟩ := hv0
  have ea0 := ha0.len; subst ea0
  have qa0 := len_le ra0
  obtain ⟨Aa1, na1, ca1, rfl, ha1, ra1⟩ := hv1
  have ea1 := ha1.len; subst ea1
  have qa1 := len_le ra1
  have T := Below.refl w.heap.size w
  unfold m_spec_l12Less at hm
  refine enter 41 Tryz.func43 rfl rfl rfl ?_
  intro f hf
  have s0 : f 0 = .slice Aa0 d0.length ca0 := hf 0 _ rfl
  have s1 : f 1 = .slice Aa1 d1.length ca1 := hf 1 _ rfl
  refine wp_seq ?_
  refine wp_rs rfl ?_
  refine RQ.y rfl (Y.assign (v := .bool false) rfl) ?_
  refine RQ.nil ?_
  refine then_n ?_
  refine wp_seq ?_
  refine wp_seq ?_
  refine wp_rs rfl ?_
  refine RQ.y rfl (Y.assign (v := .int .i64 0) rfl) ?_
  refine RQ.nil ?_
  refine then_n ?_
  refine wp_block ?_
  obtain ⟨K1, hK1, hm⟩ : ∃ K, K = (m_spec_l12Less_A1 d0 d1) ∧ m_spec_l12Less_L1 d0 d1 K (d0.length + 1) 0 = some r := ⟨_, rfl, hm⟩
  refine wp_loopX (fun g f w' => ∃ (i2 : Int), f 0 = .slice Aa0 d0.length ca0 ∧ f 1 = .slice Aa1 d1.length ca1 ∧ f 5 = .int .i64 i2 ∧ 0 ≤ i2 ∧ Below w.heap.size w w' ∧ m_spec_l12Less_L1 d0 d1 K1 g i2 = some r) 0 (fun f w' => f 0 = .slice Aa0 d0.length ca0 ∧ f 1 = .slice Aa1 d1.length ca1 ∧ Below w.heap.size w w' ∧ m_spec_l12Less_A1 d0 d1  = some r) (d0.length + 1) ⟨0, s0, s1, rfl, (by omega), T, hm⟩ ?_ ?_
  · rintro f w1 ⟨s0_1x, s1_1x, T, hm⟩
    unfold m_spec_l12Less_A1 at hm
    refine blk_hit (then_n ?_)
    refine wp_seq ?_
    refine wp_rs rfl ?_
    refine RQ.y rfl (Y.move (v := .slice Aa0 d0.length ca0) s0_1x) ?_
    refine RQ.y rfl (Y.len (by kernel_rfl) rfl) ?_
    refine RQ.y rfl (Y.move (v := .slice Aa1 d1.length ca1) s1_1x) ?_
    refine RQ.y rfl (Y.len (by kernel_rfl) rfl) ?_
    refine RQ.y rfl (Y.binI (v := .bool (decide ((d0.length : Int) < (d1.length : Int)))) rfl rfl rfl) ?_
    refine RQ.y rfl (Y.assign (v := .bool (decide ((d0.length : Int) < (d1.length : Int)))) rfl) ?_
    refine RQ.nil ?_
    refine then_n ?_
    refine wp_ret ?_
    obtain rfl := Option.some.inj hm
    exact (ret1 rfl rfl rfl ⟨rfl, T⟩)
  · rintro g f w3 ⟨i2, s0_1, s1_1, s5_1, nn5_1, T, hm⟩
    rcases g with _ | g
    · simp only [m_spec_l12Less_L1] at hm; cases hm
    obtain ⟨rec1, hrec1, hm⟩ : ∃ z, z = m_spec_l12Less_L1 d0 d1 K1 g ∧ m_spec_l12Less_B1 d0 d1 z K1 i2 = some r := ⟨_, rfl, hm⟩
    unfold m_spec_l12Less_B1 at hm
    refine wp_seq ?_
    refine wp_seq ?_
    refine wp_rs rfl ?_
    refine RQ.y rfl (Y.move (v := .int .i64 i2) s5_1) ?_
    refine RQ.y rfl (Y.move (v := .slice Aa0 d0.length ca0) s0_1) ?_
    refine RQ.y rfl (Y.len (by kernel_rfl) rfl) ?_
    refine RQ.y rfl (Y.binI (v := .bool (decide (i2 < (d0.length : Int)))) rfl rfl rfl) ?_
    refine RQ.y rfl (Y.move (v := .bool (decide (i2 < (d0.length : Int)))) rfl) ?_
    rcases bcases (decide (i2 < (d0.length : Int))) with c4 | c4
    · replace hm := cF c4 hm
      have pc4 := of_decide_eq_false c4
      refine RQ.skip (wantN (dj := 10) rfl (vb rfl c4) rfl) ?_
      refine RQ.skip (wantN (dj := 10) rfl (vb rfl c4) rfl) ?_
      refine RQ.skip (wantN (dj := 10) rfl (vb rfl c4) rfl) ?_
      refine RQ.skip (wantN (dj := 10) rfl (vb rfl c4) rfl) ?_
      refine RQ.y rfl (Y.pick (b := false) (v := .bool false) (vb rfl c4) rfl) ?_
      refine RQ.nil ?_
      refine then_n ?_
      refine cond_f rfl rfl ?_
      refine wp_exit ?_
      exact (then_x (then_x (hit_x ⟨_, rfl, ⟨s0_1, s1_1, T, (by rw [hK1] at hm; exact hm)⟩⟩)))
    · replace hm := cT c4 hm
      have pc4 := of_decide_eq_true c4
      refine RQ.y (wantT (dj := 10) rfl (vb rfl c4)) (Y.move (v := .int .i64 i2) s5_1) ?_
      refine RQ.y (wantT (dj := 10) rfl (vb rfl c4)) (Y.move (v := .slice Aa1 d1.length ca1) s1_1) ?_
      refine RQ.y (wantT (dj := 10) rfl (vb rfl c4)) (Y.len (by kernel_rfl) rfl) ?_
      refine RQ.y (wantT (dj := 10) rfl (vb rfl c4)) (Y.binI (v := .bool (decide (i2 < (d1.length : Int)))) rfl rfl rfl) ?_
      refine RQ.y rfl (Y.pick (b := true) (v := .bool (decide (i2 < (d1.length : Int)))) (vb rfl c4) rfl) ?_
      refine RQ.nil ?_
      refine then_n ?_
      rcases bcases (decide (i2 < (d1.length : Int))) with c5 | c5
      · replace hm := cF c5 hm
        have pc5 := of_decide_eq_false c5
        refine cond_f rfl (vb rfl c5) ?_
        refine wp_exit ?_
        exact (then_x (then_x (hit_x ⟨_, rfl, ⟨s0_1, s1_1, T, (by rw [hK1] at hm; exact hm)⟩⟩)))
      · replace hm := cT c5 hm
        have pc5 := of_decide_eq_true c5
        refine cond_t rfl (vb rfl c5) ?_
        refine wp_skip ?_
        refine then_n ?_
        refine wp_seq ?_
        refine wp_block ?_
        refine wp_seq ?_
        refine wp_rbd (by kernel_rfl) (by kernel_rfl) ?_
        refine RQ.y rfl (Y.move (v := .slice Aa0 d0.length ca0) s0_1) ?_
        refine RQ.y rfl (Y.move (v := .int .i64 i2) s5_1) ?_
        obtain ⟨x6, hx9, hm⟩ := bnd hm
        obtain ⟨k7, hk10, hl11, hx9⟩ := getI_some hx9
        obtain ⟨b13, o14, rfl, hbb13⟩ := ha0.addr (by omega)
        obtain ⟨cs8, hRcs8, hc12⟩ := ha0.el hx9
        have hScs8 := hRcs8
        obtain rfl := hRcs8
        refine RQ.y rfl (Y.indexAddr (m := k7) (sz := 1) rfl rfl hk10 hl11 (by kernel_rfl)) ?_
        refine RQ.y rfl (Y.load (v := .int .i64 x6) rfl (by kernel_rfl) (beC (cellT T (hc12 0 _ rfl)))) ?_
        refine RQ.y rfl (Y.move (v := .slice Aa1 d1.length ca1) s1_1) ?_
        refine RQ.y rfl (Y.move (v := .int .i64 i2) s5_1) ?_
        obtain ⟨x15, hx18, hm⟩ := bnd hm
        obtain ⟨k16, hk19, hl20, hx18⟩ := getI_some hx18
        obtain ⟨b22, o23, rfl, hbb22⟩ := ha1.addr (by omega)
        obtain ⟨cs17, hRcs17, hc21⟩ := ha1.el hx18
        have hScs17 := hRcs17
        obtain rfl := hRcs17
        refine RQ.y rfl (Y.indexAddr (m := k16) (sz := 1) rfl rfl hk19 hl20 (by kernel_rfl)) ?_
        refine RQ.y rfl (Y.load (v := .int .i64 x15) rfl (by kernel_rfl) (beC (cellT T (hc21 0 _ rfl)))) ?_
        refine RQ.y rfl (Y.binI (v := .bool (x6 != x15)) rfl rfl rfl) ?_
        refine RQ.nil ?_
        intro w24 hb25
        have szw24 := hb25.size
        have T := Tt T hb25
        refine then_n ?_
        rcases bcases (x6 != x15) with c26 | c26
        · replace hm := cF c26 hm
          refine cond_f rfl (vb rfl c26) ?_
          refine wp_skip ?_
          refine blk_n (then_n ?_)
          refine wp_rs rfl ?_
          refine RQ.y rfl (Y.move (v := .int .i64 i2) s5_1) ?_
          refine RQ.y rfl (Y.binI rfl rfl (binI_add (m := i2) (by omega))) ?_
          refine RQ.y rfl (Y.assign (v := .int .i64 (i2 + 1)) rfl) ?_
          refine RQ.nil ?_
          exact (then_n ⟨g, _, Nat.lt_succ_self _, rfl, ⟨(i2 + 1), s0_1, s1_1, rfl, (by omega), T, (by rw [← hrec1]; exact hm)⟩⟩)
        · replace hm := cT c26 hm
          refine cond_t rfl (vb rfl c26) ?_
          refine wp_seq ?_
          refine wp_rbd (by kernel_rfl) (by kernel_rfl) ?_
          refine RQ.y rfl (Y.move (v := .slice (some ⟨b13, o14, none⟩) d0.length ca0) s0_1) ?_
          refine RQ.y rfl (Y.move (v := .int .i64 i2) s5_1) ?_
          obtain ⟨x27, hx30, hm⟩ := bnd hm
          obtain ⟨k28, hk31, hl32, hx30⟩ := getI_some hx30
          obtain ⟨cs29, hRcs29, hc33⟩ := ha0.el hx30
          have hScs29 := hRcs29
          obtain rfl := hRcs29
          refine RQ.y rfl (Y.indexAddr (m := k28) (sz := 1) rfl rfl hk31 hl32 (by kernel_rfl)) ?_
          refine RQ.y rfl (Y.load (v := .int .i64 x27) rfl (by kernel_rfl) (beC (cellT T (hc33 0 _ rfl)))) ?_
          refine RQ.y rfl (Y.move (v := .slice (some ⟨b22, o23, none⟩) d1.length ca1) s1_1) ?_
          refine RQ.y rfl (Y.move (v := .int .i64 i2) s5_1) ?_
          obtain ⟨x34, hx37, hm⟩ := bnd hm
          obtain ⟨k35, hk38, hl39, hx37⟩ := getI_some hx37
          obtain ⟨cs36, hRcs36, hc40⟩ := ha1.el hx37
          have hScs36 := hRcs36
          obtain rfl := hRcs36
          refine RQ.y rfl (Y.indexAddr (m := k35) (sz := 1) rfl rfl hk38 hl39 (by kernel_rfl)) ?_
          refine RQ.y rfl (Y.load (v := .int .i64 x34) rfl (by kernel_rfl) (beC (cellT T (hc40 0 _ rfl)))) ?_
          refine RQ.y rfl (Y.binI (v := .bool (decide (x27 < x34))) rfl rfl rfl) ?_
          refine RQ.y rfl (Y.assign (v := .bool (decide (x27 < x34))) rfl) ?_
          refine RQ.nil ?_
          intro w41 hb42
          have szw41 := hb42.size
          have T := Tt T hb42
          refine then_n ?_
          refine wp_ret ?_
          obtain rfl := Option.some.inj hm
          exact (blk_r (then_r (then_r (hit_r (blk_r (then_r (ret1 rfl rfl rfl ⟨rfl, T⟩)))))))
def m_impl_Net_leastTraversal_A1 (z10 : DTraversal) : Option DTraversal :=
  some z10
def m_impl_Net_leastTraversal_B1 (d0 : DNet) (d1 : List Int) (rec1 : Int → DTraversal → Option DTraversal) (K1 : DTraversal → Option DTraversal) (i19 : Int) (z20 : DTraversal) : Option DTraversal :=
  (bif (decide (i19 < (d1.length : Int))) then ((getI d1 i19).bind fun x23 => ((m_impl_Net_traverse d0 x23).bind fun y32 => ((m_impl_Net_code d0 y32).bind fun y39 => (bif z20.list.isEmpty then ((getI d1 0).bind fun x76 => ((mustP (y32 ≠ [])).bind fun _ => ((mustP (y39 ≠ [])).bind fun _ => (rec1 (i19 + 1) (⟨y32, y39, x76⟩ : DTraversal))))) else ((m_slices_Compare_int64_int64 y39 z20.code).bind fun y50 => (bif (decide (y50 < 0)) then ((getI d1 0).bind fun x55 => ((mustP (y32 ≠ [])).bind fun _ => ((mustP (y39 ≠ [])).bind fun _ => (rec1 (i19 + 1) (⟨y32, y39, x55⟩ : DTraversal))))) else (rec1 (i19 + 1) z20))))))) else (K1 z20))
def m_impl_Net_leastTraversal_L1 (d0 : DNet) (d1 : List Int) (K1 : DTraversal → Option DTraversal) : Nat → Int → DTraversal → Option DTraversal
  | 0, _, _ => none
  | g + 1, i19, z20 => m_impl_Net_leastTraversal_B1 d0 d1 (m_impl_Net_leastTraversal_L1 d0 d1 K1 g) K1 i19 z20
def m_impl_Net_leastTraversal (d0 : DNet) (d1 : List Int) : Option DTraversal :=
  (m_impl_Net_leastTraversal_L1 d0 d1 m_impl_Net_leastTraversal_A1 (d1.length + 1) 0 (⟨[], [], 0⟩ : DTraversal))
set_option maxHeartbeats 2000000 in
theorem c_m_impl_Net_leastTraversal (d0 : DNet) (d1 : List Int) (r : DTraversal) (hm : m_impl_Net_leastTraversal d0 d1 = some r) (v0 : Value) (v1 : Value) (w : World) (hv0 : Pt netRd w v0 d0) (hv1 : Sl intRd 1 w v1 d1) :
    Calls Tryz.prog 53 #[v0, v1] w fun e w' => (∃ (v0 : Value) (v1 : Value), e = .returned (.agg #[v0, v1, .int .i64 r.least]) ∧ OwF 2 encI 1 w' w.heap.size v0 r.list ∧ OwF 2 encI 1 w' w.heap.size v1 r.code ∧ Dj v0 v1) ∧ Below w.heap.size w w' := by
  obtain ⟨ba0, oa0, csa0, rfl, hba0, hRa0, hca0⟩ := hv0
  have hSa0 := hRa0
  obtain ⟨A1, n1, c1, rfl, ⟨h1, r1⟩⟩ := hRa0
  have e1 := h1.len; subst e1
  have q1 := len_le r1
  obtain ⟨Aa1, na1, ca1, rfl, ha1, ra1⟩ := hv1
  have ea1 := ha1.len; subst ea1
  have qa1 := len_le ra1
  have T := Below.refl w.heap.size w
  unfold m_impl_Net_leastTraversal at hm
  refine enter 40 Tryz.func53 rfl rfl rfl ?_
  intro f hf
  have s0 : f 0 = .pointer (some ⟨ba0, oa0, none⟩) := hf 0 _ rfl
  have s1 : f 1 = .slice Aa1 d1.length ca1 := hf 1 _ rfl
  refine wp_seq ?_
  refine wp_rl rfl ?_
  refine RL.alloc (z := .agg #[.slice none 0 0, .slice none 0 0, .int .i64 0]) rfl (by kernel_rfl) (fun w2 B3 hb4 szw2 => ?_)
  replace B3 : Blk w2 w.heap.size 82 #[.slice none 0 0, .slice none 0 0, .int .i64 0] := B3
  have GB3 : w.heap.size ≤ w.heap.size := T.size
  have T := Tt T hb4
  refine RL.nil ?_
  refine then_n ?_
  refine wp_seq ?_
  refine wp_rl rfl ?_
  refine RL.alloc (z := .agg #[.slice none 0 0, .slice none 0 0, .int .i64 0]) rfl (by kernel_rfl) (fun w6 B7 hb8 szw6 => ?_)
  replace B7 : Blk w6 w2.heap.size 82 #[.slice none 0 0, .slice none 0 0, .int .i64 0] := B7
  have GB7 : w.heap.size ≤ w2.heap.size := T.size
  have Eob9_ob5 := Nat.ne_of_lt B3.lt
  have B3 := blkT B3 hb8
  have T := Tt T hb8
  refine RL.nil ?_
  refine then_n ?_
  refine wp_seq ?_
  refine wp_seq ?_
  refine wp_rs rfl ?_
  refine RQ.y rfl (Y.move (v := .slice Aa1 d1.length ca1) s1) ?_
  refine RQ.y rfl (Y.len (by kernel_rfl) rfl) ?_
  refine RQ.y rfl (Y.move (v := .int .i64 0) rfl) ?_
  refine RQ.nil ?_
  refine then_n ?_
  refine wp_block ?_
  obtain ⟨K1, hK1, hm⟩ : ∃ K, K = m_impl_Net_leastTraversal_A1 ∧ m_impl_Net_leastTraversal_L1 d0 d1 K (d1.length + 1) 0 (⟨[], [], 0⟩ : DTraversal) = some r := ⟨_, rfl, hm⟩
  refine wp_loopX (fun g f w' => ∃ (i19 : Int) (z20 : DTraversal) (uz20_0 : Value) (uz20_1 : Value), f 0 = .pointer (some ⟨ba0, oa0, none⟩) ∧ f 1 = .slice Aa1 d1.length ca1 ∧ f 4 = .pointer (some ⟨w.heap.size, 0, none⟩) ∧ f 5 = .pointer (some ⟨w2.heap.size, 0, none⟩) ∧ f 10 = .slice Aa1 d1.length ca1 ∧ f 11 = .int .i64 (d1.length : Int) ∧ f 12 = .int .i64 i19 ∧ 0 ≤ i19 ∧ Blk w' w2.heap.size 82 #[uz20_0, uz20_1, .int .i64 z20.least] ∧ OwF 2 encI 1 w' w.heap.size uz20_0 z20.list ∧ NilF uz20_0 z20.list ∧ OwF 2 encI 1 w' w.heap.size uz20_1 z20.code ∧ NilF uz20_1 z20.code ∧ Value.ownBlock uz20_0 ≠ some w.heap.size ∧ Value.ownBlock uz20_0 ≠ some w2.heap.size ∧ Dj uz20_1 uz20_0 ∧ Value.ownBlock uz20_1 ≠ some w.heap.size ∧ Value.ownBlock uz20_1 ≠ some w2.heap.size ∧ Blk w' w.heap.size 82 #[.slice none 0 0, .slice none 0 0, .int .i64 0] ∧ Below w.heap.size w w' ∧ m_impl_Net_leastTraversal_L1 d0 d1 K1 g i19 z20 = some r) 0 (fun f w' => ∃ (z10 : DTraversal) (uz10_0 : Value) (uz10_1 : Value), f 4 = .pointer (some ⟨w.heap.size, 0, none⟩) ∧ f 5 = .pointer (some ⟨w2.heap.size, 0, none⟩) ∧ Blk w' w2.heap.size 82 #[uz10_0, uz10_1, .int .i64 z10.least] ∧ OwF 2 encI 1 w' w.heap.size uz10_0 z10.list ∧ NilF uz10_0 z10.list ∧ OwF 2 encI 1 w' w.heap.size uz10_1 z10.code ∧ NilF uz10_1 z10.code ∧ Value.ownBlock uz10_0 ≠ some w.heap.size ∧ Value.ownBlock uz10_0 ≠ some w2.heap.size ∧ Dj uz10_1 uz10_0 ∧ Value.ownBlock uz10_1 ≠ some w.heap.size ∧ Value.ownBlock uz10_1 ≠ some w2.heap.size ∧ Blk w' w.heap.size 82 #[.slice none 0 0, .slice none 0 0, .int .i64 0] ∧ Below w.heap.size w w' ∧ m_impl_Net_leastTraversal_A1 z10 = some r) (d1.length + 1) ⟨0, (⟨[], [], 0⟩ : DTraversal), (.slice none 0 0), (.slice none 0 0), s0, s1, rfl, rfl, rfl, rfl, rfl, (by omega), B7, OwF.nil, (fun _ => rfl), OwF.nil, (fun _ => rfl), nilNe (b := w.heap.size), nilNe (b := w2.heap.size), Dj.nil, nilNe (b := w.heap.size), nilNe (b := w2.heap.size), B3, T, hm⟩ ?_ ?_
  · rintro f w11 ⟨z10, uz10_0, uz10_1, s4_1x, s5_1x, Bz10, Guz10_0, NFuz10_0, Guz10_1, NFuz10_1, Noz10_0_ob5, Noz10_0_ob9, Doz10_1_oz10_0, Noz10_1_ob5, Noz10_1_ob9, B3, T, hm⟩
    unfold m_impl_Net_leastTraversal_A1 at hm
    refine blk_hit (then_n ?_)
    refine wp_seq ?_
    refine wp_rl rfl ?_
    refine RL.y rfl (Y.loadN (cs := [uz10_0, uz10_1, .int .i64 z10.least]) s5_1x (by kernel_rfl) (cells3 (eqC (blkCell Bz10 (i := 0) rfl)) (eqC (blkCell Bz10 (i := 1) rfl)) (eqC (blkCell Bz10 (i := 2) rfl)))) ?_
    obtain ⟨A12, c13, rfl⟩ := OwF.form Guz10_0
    have qbA12 := OwF.bound Guz10_0
    obtain ⟨A14, c15, rfl⟩ := OwF.form Guz10_1
    have qbA14 := OwF.bound Guz10_1
    refine RL.store (v := .agg #[.slice A12 z10.list.length c13, .slice A14 z10.code.length c15, .int .i64 z10.least]) (cs' := #[.slice A12 z10.list.length c13, .slice A14 z10.code.length c15, .int .i64 z10.least]) rfl s4_1x rfl B3 (by kernel_rfl) (by rfl) (by rfl) (by rfl) (fun w16 B17 ho18 => ?_)
    have szw16 := ho18.size
    have Bz10 := Bz10.only_ ho18 (by intro hin; simp at hin; exact Eob9_ob5.symm hin)
    have Guz10_0 := OwF.only Guz10_0 ho18 Noz10_0_ob5
    have Guz10_1 := OwF.only Guz10_1 ho18 Noz10_1_ob5
    have T := T.trans (ho18.below (by first | (simp; done) | (simp; omega)))
    refine RL.nil ?_
    refine then_n ?_
    refine wp_ret ?_
    obtain rfl := Option.some.inj hm
    exact (retc (cs := [.slice A12 z10.list.length c13, .slice A14 z10.code.length c15, .int .i64 z10.least]) rfl rfl s4_1x (by kernel_rfl) (blkCells B17) ⟨⟨_, _, rfl, Guz10_0, Guz10_1, (Ap.dj (Ap.symm (Dj.ap Doz10_1_oz10_0)))⟩, T⟩)
  · rintro g f w21 ⟨i19, z20, uz20_0, uz20_1, s0_1, s1_1, s4_1, s5_1, s10_1, s11_1, s12_1, nn12_1, Bz20, Guz20_0, NFuz20_0, Guz20_1, NFuz20_1, Noz20_0_ob5, Noz20_0_ob9, Doz20_1_oz20_0, Noz20_1_ob5, Noz20_1_ob9, B3, T, hm⟩
    rcases g with _ | g
    · simp only [m_impl_Net_leastTraversal_L1] at hm; cases hm
    obtain ⟨rec1, hrec1, hm⟩ : ∃ z, z = m_impl_Net_leastTraversal_L1 d0 d1 K1 g ∧ m_impl_Net_leastTraversal_B1 d0 d1 z K1 i19 z20 = some r := ⟨_, rfl, hm⟩
    unfold m_impl_Net_leastTraversal_B1 at hm
    refine wp_seq ?_
    refine wp_rs rfl ?_
    refine RQ.y rfl (Y.binI (v := .bool (decide (i19 < (d1.length : Int)))) s12_1 s11_1 rfl) ?_
    refine RQ.nil ?_
    refine then_n ?_
    refine wp_seq ?_
    rcases bcases (decide (i19 < (d1.length : Int))) with c22 | c22
    · replace hm := cF c22 hm
      have pc22 := of_decide_eq_false c22
      refine cond_f rfl (vb rfl c22) ?_
      refine wp_exit ?_
      exact (then_x (then_x (hit_x ⟨_, rfl, ⟨z20, (uz20_0), (uz20_1), s4_1, s5_1, Bz20, Guz20_0, NFuz20_0, Guz20_1, NFuz20_1, (ap_ne (ne_ap Noz20_0_ob5)), (ap_ne (ne_ap Noz20_0_ob9)), (Ap.dj (Dj.ap Doz20_1_oz20_0)), (ap_ne (ne_ap Noz20_1_ob5)), (ap_ne (ne_ap Noz20_1_ob9)), B3, T, (by rw [hK1] at hm; exact hm)⟩⟩)))
    · replace hm := cT c22 hm
      have pc22 := of_decide_eq_true c22
      refine cond_t rfl (vb rfl c22) ?_
      refine wp_skip ?_
      refine then_n ?_
      refine wp_seq ?_
      refine wp_block ?_
      refine wp_seq ?_
      refine wp_rs rfl ?_
      obtain ⟨x23, hx26, hm⟩ := bnd hm
      obtain ⟨k24, hk27, hl28, hx26⟩ := getI_some hx26
      obtain ⟨b30, o31, rfl, hbb30⟩ := ha1.addr (by omega)
      obtain ⟨cs25, hRcs25, hc29⟩ := ha1.el hx26
      have hScs25 := hRcs25
      obtain rfl := hRcs25
      refine RQ.y rfl (Y.indexAddr (m := k24) (sz := 1) s10_1 s12_1 hk27 hl28 (by kernel_rfl)) ?_
      refine RQ.y rfl (Y.load (v := .int .i64 x23) rfl (by kernel_rfl) (eqC (cellT T (hc29 0 _ rfl)))) ?_
      refine RQ.y rfl (Y.assign (v := .int .i64 x23) rfl) ?_
      refine RQ.nil ?_
      refine then_n ?_
      refine wp_seq ?_
      refine wp_rl rfl ?_
      refine RL.y rfl (Y.move (v := .pointer (some ⟨ba0, oa0, none⟩)) s0_1) ?_
      refine RL.y rfl (Y.move (v := .int .i64 x23) rfl) ?_
      obtain ⟨y32, e33, hm⟩ := bnd hm
      refine RL.call rfl (am2 rfl rfl) (by kernel_rfl) ((c_m_impl_Net_traverse d0 x23 _ e33 _ _ (ptArg netRd_ok hba0 hSa0 hca0 T)).mono ?_)
      rintro _ w37 ⟨⟨v34, rfl, G35⟩, hb38⟩
      refine ⟨_, rfl, ?_⟩
      have szw37 := hb38.size
      have T0w37 := T.size
      have Zo36_ob5 := ap_ne (Ap.new (OwF.flo G35) (one_hi B3.lt))
      have Zo36_ob9 := ap_ne (Ap.new (OwF.flo G35) (one_hi Bz20.lt))
      have Zo36_oz20_0 := Ap.dj (Ap.new (OwF.flo G35) (OwF.fhi Guz20_0))
      have Zo36_oz20_1 := Ap.dj (Ap.new (OwF.flo G35) (OwF.fhi Guz20_1))
      have B3 := blkT B3 hb38
      have Bz20 := blkT Bz20 hb38
      have Guz20_0 := OwF.below Guz20_0 hb38
      have Guz20_1 := OwF.below Guz20_1 hb38
      have T := Tt T hb38
      replace G35 := OwF.mono G35 T0w37
      refine RL.y rfl (Y.assign (v := v34) rfl) ?_
      refine RL.nil ?_
      refine then_n ?_
      refine wp_seq ?_
      refine wp_rl rfl ?_
      refine RL.y rfl (Y.move (v := .pointer (some ⟨ba0, oa0, none⟩)) s0_1) ?_
      refine RL.y rfl (Y.move (v := v34) rfl) ?_
      obtain ⟨y39, e40, hm⟩ := bnd hm
      refine RL.call rfl (am2 rfl rfl) (by kernel_rfl) ((c_m_impl_Net_code d0 y32 _ e40 _ _ _ (ptArg netRd_ok hba0 hSa0 hca0 T) (OwF.arg fI G35)).mono ?_)
      rintro _ w44 ⟨⟨v41, rfl, G42⟩, hb45⟩
      refine ⟨_, rfl, ?_⟩
      have szw44 := hb45.size
      have T0w44 := T.size
      have Zo43_ob5 := ap_ne (Ap.new (OwF.flo G42) (one_hi B3.lt))
      have Zo43_ob9 := ap_ne (Ap.new (OwF.flo G42) (one_hi Bz20.lt))
      have Zo43_oz20_0 := Ap.dj (Ap.new (OwF.flo G42) (OwF.fhi Guz20_0))
      have Zo43_oz20_1 := Ap.dj (Ap.new (OwF.flo G42) (OwF.fhi Guz20_1))
      have Zo43_o36 := Ap.dj (Ap.new (OwF.flo G42) (OwF.fhi G35))
      have B3 := blkT B3 hb45
      have Bz20 := blkT Bz20 hb45
      have Guz20_0 := OwF.below Guz20_0 hb45
      have Guz20_1 := OwF.below Guz20_1 hb45
      have G35 := OwF.below G35 hb45
      have T := Tt T hb45
      replace G42 := OwF.mono G42 T0w44
      refine RL.y rfl (Y.assign (v := v41) rfl) ?_
      refine RL.nil ?_
      refine then_n ?_
      refine wp_seq ?_
      refine wp_rb rfl ?_
      refine RQ.y rfl (Y.fieldAddr (off := 0) s5_1 (by kernel_rfl)) ?_
      refine RQ.y rfl (Y.load (v := uz20_0) rfl (by kernel_rfl) (beC (blkCell Bz20 (i := 0) rfl))) ?_
      rcases bcases z20.list.isEmpty with c46 | c46
      · replace hm := cF c46 hm
        obtain ⟨A47, c48, rfl⟩ := OwF.form Guz20_0
        have qbA47 := OwF.bound Guz20_0
        obtain ⟨b49, rfl⟩ := OwF.addr0 Guz20_0 (pos_of_isEmpty c46)
        refine RQ.y rfl (Y.eqNil (e := 2) rfl rfl (by kernel_rfl)) ?_
        refine RQ.y rfl (Y.move (v := .bool false) rfl) ?_
        refine RQ.y rfl (Y.move (v := v41) rfl) ?_
        refine RQ.y rfl (Y.fieldAddr (off := 1) s5_1 (by kernel_rfl)) ?_
        refine RQ.y rfl (Y.load (v := uz20_1) rfl (by kernel_rfl) (beC (blkCell Bz20 (i := 1) rfl))) ?_
        obtain ⟨y50, e51, hm⟩ := bnd hm
        refine RQ.call rfl (am2 rfl rfl) (by kernel_rfl) (v := .int .i64 y50) (bel (K := fun _ => True) fun w' hb' => (c_m_slices_Compare_int64_int64 y39 z20.code _ e51 _ _ w' (OwF.arg fI (OwF.below G42 hb')) (OwF.arg fI (OwF.below Guz20_1 hb')))) ?_
        refine RQ.y rfl (Y.binI (v := .bool (decide (y50 < 0))) rfl rfl rfl) ?_
        refine RQ.y rfl (Y.pick (b := false) (v := .bool (decide (y50 < 0))) rfl rfl) ?_
        refine RQ.nil ?_
        intro w52 hb53
        have szw52 := hb53.size
        have B3 := blkT B3 hb53
        have Bz20 := blkT Bz20 hb53
        have Guz20_0 := OwF.below Guz20_0 hb53
        have Guz20_1 := OwF.below Guz20_1 hb53
        have G35 := OwF.below G35 hb53
        have G42 := OwF.below G42 hb53
        have T := Tt T hb53
        refine then_n ?_
        rcases bcases (decide (y50 < 0)) with c54 | c54
        · replace hm := cF c54 hm
          have pc54 := of_decide_eq_false c54
          refine cond_f rfl (vb rfl c54) ?_
          refine wp_skip ?_
          refine blk_n (then_n ?_)
          refine wp_rs rfl ?_
          refine RQ.y rfl (Y.binI s12_1 rfl (binI_add (m := i19) (by omega))) ?_
          refine RQ.y rfl (Y.move (v := .int .i64 (i19 + 1)) rfl) ?_
          refine RQ.nil ?_
          exact (then_n ⟨g, _, Nat.lt_succ_self _, rfl, ⟨(i19 + 1), z20, (.slice (some ⟨b49, 0, none⟩) z20.list.length c48), (uz20_1), s0_1, s1_1, s4_1, s5_1, s10_1, s11_1, rfl, (by omega), Bz20, Guz20_0, NFuz20_0, Guz20_1, NFuz20_1, (ap_ne (ne_ap Noz20_0_ob5)), (ap_ne (ne_ap Noz20_0_ob9)), (Ap.dj (Dj.ap Doz20_1_oz20_0)), (ap_ne (ne_ap Noz20_1_ob5)), (ap_ne (ne_ap Noz20_1_ob9)), B3, T, (by rw [← hrec1]; exact hm)⟩⟩)
        · replace hm := cT c54 hm
          have pc54 := of_decide_eq_true c54
          refine cond_t rfl (vb rfl c54) ?_
          refine wp_rl rfl ?_
          refine RL.y rfl (Y.move (v := v34) rfl) ?_
          refine RL.y rfl (Y.move (v := v41) rfl) ?_
          refine RL.y rfl (Y.move (v := .slice (some ⟨b30, o31, none⟩) d1.length ca1) s1_1) ?_
          obtain ⟨x55, hx58, hm⟩ := bnd hm
          obtain ⟨k56, hk59, hl60, hx58⟩ := getI_some hx58
          obtain ⟨cs57, hRcs57, hc61⟩ := ha1.el hx58
          have hScs57 := hRcs57
          obtain rfl := hRcs57
          refine RL.y rfl (Y.indexAddr (m := k56) (sz := 1) rfl rfl hk59 hl60 (by kernel_rfl)) ?_
          refine RL.y rfl (Y.load (v := .int .i64 x55) rfl (by kernel_rfl) (eqC (cellT T (hc61 0 _ rfl)))) ?_
          obtain ⟨A62, c63, rfl⟩ := OwF.form G35
          have qbA62 := OwF.bound G35
          obtain ⟨A64, c65, rfl⟩ := OwF.form G42
          have qbA64 := OwF.bound G42
          refine RL.y rfl (Y.build3 (cells := #[.slice A62 y32.length c63, .slice A64 y39.length c65, .int .i64 x55]) rfl rfl rfl (by kernel_rfl) (by kernel_rfl)) ?_
          refine RL.store (v := .agg #[.slice A62 y32.length c63, .slice A64 y39.length c65, .int .i64 x55]) (cs' := #[.slice A62 y32.length c63, .slice A64 y39.length c65, .int .i64 x55]) rfl s5_1 rfl Bz20 (by kernel_rfl) (by rfl) (by rfl) (by rfl) (fun w66 B67 ho68 => ?_)
          have szw66 := ho68.size
          have B3 := B3.only_ ho68 (by intro hin; simp at hin; exact Eob9_ob5 hin)
          have Guz20_0 := OwF.only Guz20_0 ho68 Noz20_0_ob9
          have Guz20_1 := OwF.only Guz20_1 ho68 Noz20_1_ob9
          have G35 := OwF.only G35 ho68 Zo36_ob9
          have G42 := OwF.only G42 ho68 Zo43_ob9
          have T := T.trans (ho68.below (by first | (simp; done) | (simp; omega)))
          refine RL.nil ?_
          refine blk_n (then_n ?_)
          refine wp_rs rfl ?_
          refine RQ.y rfl (Y.binI s12_1 rfl (binI_add (m := i19) (by omega))) ?_
          refine RQ.y rfl (Y.move (v := .int .i64 (i19 + 1)) rfl) ?_
          refine RQ.nil ?_
          obtain ⟨_, m69, hm⟩ := bnd hm
          have hk70 := mustP_some m69
          obtain ⟨_, m71, hm⟩ := bnd hm
          have hk72 := mustP_some m71
          exact (then_n ⟨g, _, Nat.lt_succ_self _, rfl, ⟨(i19 + 1), (⟨y32, y39, x55⟩ : DTraversal), (.slice A62 y32.length c63), (.slice A64 y39.length c65), s0_1, s1_1, s4_1, s5_1, s10_1, s11_1, rfl, (by omega), B67, G35, (fun e => absurd e hk70), G42, (fun e => absurd e hk72), (ap_ne (ne_ap Zo36_ob5)), (ap_ne (ne_ap Zo36_ob9)), (Ap.dj (Dj.ap Zo43_o36)), (ap_ne (ne_ap Zo43_ob5)), (ap_ne (ne_ap Zo43_ob9)), B3, T, (by rw [← hrec1]; exact hm)⟩⟩)
      · replace hm := cT c46 hm
        have hv73 := NFuz20_0 (List.isEmpty_iff.1 c46)
        refine RQ.y rfl (Y.eqNil (A := none) (n := 0) (c := 0) (e := 2) (Eq.trans rfl hv73) rfl (by kernel_rfl)) ?_
        refine RQ.y rfl (Y.move (v := .bool true) rfl) ?_
        refine RQ.skip (wantN (dj := 25) rfl rfl rfl) ?_
        refine RQ.skip (wantN (dj := 25) rfl rfl rfl) ?_
        refine RQ.skip (wantN (dj := 25) rfl rfl rfl) ?_
        refine RQ.skip (wantN (dj := 25) rfl rfl rfl) ?_
        refine RQ.skip (wantN (dj := 25) rfl rfl rfl) ?_
        refine RQ.y rfl (Y.pick (b := true) (v := .bool true) rfl rfl) ?_
        refine RQ.nil ?_
        intro w74 hb75
        have szw74 := hb75.size
        have B3 := blkT B3 hb75
        have Bz20 := blkT Bz20 hb75
        have Guz20_0 := OwF.below Guz20_0 hb75
        have Guz20_1 := OwF.below Guz20_1 hb75
        have G35 := OwF.below G35 hb75
        have G42 := OwF.below G42 hb75
        have T := Tt T hb75
        refine then_n ?_
        refine cond_t rfl rfl ?_
        refine wp_rl rfl ?_
        refine RL.y rfl (Y.move (v := v34) rfl) ?_
        refine RL.y rfl (Y.move (v := v41) rfl) ?_
        refine RL.y rfl (Y.move (v := .slice (some ⟨b30, o31, none⟩) d1.length ca1) s1_1) ?_
        obtain ⟨x76, hx79, hm⟩ := bnd hm
        obtain ⟨k77, hk80, hl81, hx79⟩ := getI_some hx79
        obtain ⟨cs78, hRcs78, hc82⟩ := ha1.el hx79
        have hScs78 := hRcs78
        obtain rfl := hRcs78
        refine RL.y rfl (Y.indexAddr (m := k77) (sz := 1) rfl rfl hk80 hl81 (by kernel_rfl)) ?_
        refine RL.y rfl (Y.load (v := .int .i64 x76) rfl (by kernel_rfl) (eqC (cellT T (hc82 0 _ rfl)))) ?_
        obtain ⟨A83, c84, rfl⟩ := OwF.form G35
        have qbA83 := OwF.bound G35
        obtain ⟨A85, c86, rfl⟩ := OwF.form G42
        have qbA85 := OwF.bound G42
        refine RL.y rfl (Y.build3 (cells := #[.slice A83 y32.length c84, .slice A85 y39.length c86, .int .i64 x76]) rfl rfl rfl (by kernel_rfl) (by kernel_rfl)) ?_
        refine RL.store (v := .agg #[.slice A83 y32.length c84, .slice A85 y39.length c86, .int .i64 x76]) (cs' := #[.slice A83 y32.length c84, .slice A85 y39.length c86, .int .i64 x76]) rfl s5_1 rfl Bz20 (by kernel_rfl) (by rfl) (by rfl) (by rfl) (fun w87 B88 ho89 => ?_)
        have szw87 := ho89.size
        have B3 := B3.only_ ho89 (by intro hin; simp at hin; exact Eob9_ob5 hin)
        have Guz20_0 := OwF.only Guz20_0 ho89 Noz20_0_ob9
        have Guz20_1 := OwF.only Guz20_1 ho89 Noz20_1_ob9
        have G35 := OwF.only G35 ho89 Zo36_ob9
        have G42 := OwF.only G42 ho89 Zo43_ob9
        have T := T.trans (ho89.below (by first | (simp; done) | (simp; omega)))
        refine RL.nil ?_
        refine blk_n (then_n ?_)
        refine wp_rs rfl ?_
        refine RQ.y rfl (Y.binI s12_1 rfl (binI_add (m := i19) (by omega))) ?_
        refine RQ.y rfl (Y.move (v := .int .i64 (i19 + 1)) rfl) ?_
        refine RQ.nil ?_
        obtain ⟨_, m90, hm⟩ := bnd hm
        have hk91 := mustP_some m90
        obtain ⟨_, m92, hm⟩ := bnd hm
        have hk93 := mustP_some m92
        exact (then_n ⟨g, _, Nat.lt_succ_self _, rfl, ⟨(i19 + 1), (⟨y32, y39, x76⟩ : DTraversal), (.slice A83 y32.length c84), (.slice A85 y39.length c86), s0_1, s1_1, s4_1, s5_1, s10_1, s11_1, rfl, (by omega), B88, G35, (fun e => absurd e hk91), G42, (fun e => absurd e hk93), (ap_ne (ne_ap Zo36_ob5)), (ap_ne (ne_ap Zo36_ob9)), (Ap.dj (Dj.ap Zo43_o36)), (ap_ne (ne_ap Zo43_ob5)), (ap_ne (ne_ap Zo43_ob9)), B3, T, (by rw [← hrec1]; exact hm)⟩⟩)
def m_spec_l12Order_A2 (xs47 : List Int) : Option (List Int) :=
  some xs47
def m_spec_l12Order_A3 (d0 : DNet) (xs35 : List Int) (rec2 : List Int → List Bool → Int → Option (List Int)) (xs49 : List Int) (xs50 : List Bool) (i51 : Int) (i54 : Int) : Option (List Int) :=
  ((getI xs50 i54).bind fun x58 => ((getI xs35 i54).bind fun x69 => ((m_spec_l12Traverse d0 x69).bind fun y75 => ((mustP (xs49.length + y75.1.length ≤ 4294967296)).bind fun _ => ((ck (i51 + 1)).bind fun s94 => (rec2 (xs49 ++ y75.1) (setI xs50 i54 true) s94))))))
def m_spec_l12Order_B3 (xs35 : List Int) (xs36 : List (List Int)) (xs50 : List Bool) (rec3 : Int → Int → Option (List Int)) (K3 : Int → Option (List Int)) (i95 : Int) (i96 : Int) : Option (List Int) :=
  (bif (decide (i96 < (xs35.length : Int))) then ((getI xs50 i96).bind fun x101 => (bif x101 then (rec3 i95 (i96 + 1)) else (bif (decide (i95 < 0)) then (rec3 i96 (i96 + 1)) else ((getI xs36 i96).bind fun x111 => ((getI xs36 i95).bind fun x121 => ((m_spec_l12Less x111 x121).bind fun y130 => (bif y130 then (rec3 i96 (i96 + 1)) else (rec3 i95 (i96 + 1))))))))) else (K3 i95))
def m_spec_l12Order_L3 (xs35 : List Int) (xs36 : List (List Int)) (xs50 : List Bool) (K3 : Int → Option (List Int)) : Nat → Int → Int → Option (List Int)
  | 0, _, _ => none
  | g + 1, i95, i96 => m_spec_l12Order_B3 xs35 xs36 xs50 (m_spec_l12Order_L3 xs35 xs36 xs50 K3 g) K3 i95 i96
def m_spec_l12Order_B2 (d0 : DNet) (xs35 : List Int) (xs36 : List (List Int)) (rec2 : List Int → List Bool → Int → Option (List Int)) (K2 : List Int → Option (List Int)) (xs49 : List Int) (xs50 : List Bool) (i51 : Int) : Option (List Int) :=
  (bif (decide (i51 < (xs35.length : Int))) then (m_spec_l12Order_L3 xs35 xs36 xs50 (m_spec_l12Order_A3 d0 xs35 rec2 xs49 xs50 i51) (xs35.length + 1) (-1) 0) else (K2 xs49))
def m_spec_l12Order_L2 (d0 : DNet) (xs35 : List Int) (xs36 : List (List Int)) (K2 : List Int → Option (List Int)) : Nat → List Int → List Bool → Int → Option (List Int)
  | 0, _, _, _ => none
  | g + 1, xs49, xs50, i51 => m_spec_l12Order_B2 d0 xs35 xs36 (m_spec_l12Order_L2 d0 xs35 xs36 K2 g) K2 xs49 xs50 i51
def m_spec_l12Order_A1 (d0 : DNet) (y2 : (List Int) × (List Int)) (xs35 : List Int) (xs36 : List (List Int)) : Option (List Int) :=
  ((mustP (xs35.length ≤ 4294967296)).bind fun _ => (m_spec_l12Order_L2 d0 xs35 xs36 m_spec_l12Order_A2 (xs35.length + 1) y2.1 (List.replicate xs35.length false) 0))
def m_spec_l12Order_A4 (rec1 : List Int → List (List Int) → Int → Option (List Int)) (xs141 : List Int) (xs142 : List (List Int)) (i143 : Int) (i195 : Int) (xs196 : List Int) : Option (List Int) :=
  ((mustP (xs141.length + ([i195]).length ≤ 4294967296)).bind fun _ => ((mustP (xs142.length + ([xs196]).length ≤ 4294967296)).bind fun _ => ((ck (i143 + 1)).bind fun s244 => (rec1 (xs141 ++ [i195]) (xs142 ++ [xs196]) s244))))
def m_spec_l12Order_B4 (d0 : DNet) (y12 : List (List Int)) (i143 : Int) (rec4 : Int → List Int → Int → Option (List Int)) (K4 : Int → List Int → Option (List Int)) (i245 : Int) (xs246 : List Int) (i247 : Int) : Option (List Int) :=
  ((getI y12 i143).bind fun x249 => (bif (decide (i247 < (x249.length : Int))) then ((getI y12 i143).bind fun x259 => ((getI x259 i247).bind fun x268 => ((m_spec_l12Code d0 x268).bind fun y278 => ((m_spec_l12Less y278 xs246).bind fun y285 => (bif y285 then ((getI y12 i143).bind fun x290 => ((getI x290 i247).bind fun x299 => (rec4 x299 y278 (i247 + 1)))) else (rec4 i245 xs246 (i247 + 1))))))) else (K4 i245 xs246)))
def m_spec_l12Order_L4 (d0 : DNet) (y12 : List (List Int)) (i143 : Int) (K4 : Int → List Int → Option (List Int)) : Nat → Int → List Int → Int → Option (List Int)
  | 0, _, _, _ => none
  | g + 1, i245, xs246, i247 => m_spec_l12Order_B4 d0 y12 i143 (m_spec_l12Order_L4 d0 y12 i143 K4 g) K4 i245 xs246 i247
def m_spec_l12Order_B1 (d0 : DNet) (y12 : List (List Int)) (rec1 : List Int → List (List Int) → Int → Option (List Int)) (K1 : List Int → List (List Int) → Option (List Int)) (xs141 : List Int) (xs142 : List (List Int)) (i143 : Int) : Option (List Int) :=
  (bif (decide (i143 < (y12.length : Int))) then ((getI y12 i143).bind fun x148 => ((getI x148 0).bind fun x158 => (bif (x158 == 0) then (rec1 xs141 xs142 (i143 + 1)) else ((getI y12 i143).bind fun x169 => ((getI x169 0).bind fun x178 => ((m_spec_l12Code d0 x178).bind fun y188 => (m_spec_l12Order_L4 d0 y12 i143 (m_spec_l12Order_A4 rec1 xs141 xs142 i143) (((getI y12 i143).getD default).length + 1) x178 y188 1))))))) else (K1 xs141 xs142))
def m_spec_l12Order_L1 (d0 : DNet) (y12 : List (List Int)) (K1 : List Int → List (List Int) → Option (List Int)) : Nat → List Int → List (List Int) → Int → Option (List Int)
  | 0, _, _, _ => none
  | g + 1, xs141, xs142, i143 => m_spec_l12Order_B1 d0 y12 (m_spec_l12Order_L1 d0 y12 K1 g) K1 xs141 xs142 i143
def m_spec_l12Order (d0 : DNet) : Option (List Int) :=
  ((m_spec_l12Traverse d0 0).bind fun y2 => ((m_spec_l12Parts d0).bind fun y12 => (m_spec_l12Order_L1 d0 y12 (m_spec_l12Order_A1 d0 y2) (y12.length + 1) ([] : List Int) ([] : List (List Int)) 0)))
set_option maxHeartbeats 2000000 in
theorem c_m_spec_l12Order (d0 : DNet) (r : List Int) (hm : m_spec_l12Order d0 = some r) (v0 : Value) (w : World) (hv0 : Pt netRd w v0 d0) :
    Calls Tryz.prog 25 #[v0] w fun e w' => (∃ (v0 : Value), e = .returned (v0) ∧ OwF 2 encI 1 w' w.heap.size v0 r) ∧ Below w.heap.size w w' := by
  obtain ⟨ba0, oa0, csa0, rfl, hba0, hRa0, hca0⟩ := hv0
  have hSa0 := hRa0
  obtain ⟨A1, n1, c1, rfl, ⟨h1, r1⟩⟩ := hRa0
  have e1 := h1.len; subst e1
  have q1 := len_le r1
  have T := Below.refl w.heap.size w
  unfold m_spec_l12Order at hm
  refine enter 139 Tryz.func25 rfl rfl rfl ?_
  intro f hf
  have s0 : f 0 = .pointer (some ⟨ba0, oa0, none⟩) := hf 0 _ rfl
  refine wp_seq ?_
  refine wp_rs rfl ?_
  refine RQ.y rfl (Y.assign (v := .slice none 0 0) rfl) ?_
  refine RQ.nil ?_
  refine then_n ?_
  refine wp_seq ?_
  refine wp_rl rfl ?_
  refine RL.y rfl (Y.move (v := .pointer (some ⟨ba0, oa0, none⟩)) s0) ?_
  obtain ⟨y2, e3, hm⟩ := bnd hm
  refine RL.call rfl (am2 rfl rfl) (by kernel_rfl) ((c_m_spec_l12Traverse d0 0 _ e3 _ _ (ptArg netRd_ok hba0 hSa0 hca0 T)).mono ?_)
  rintro _ w10 ⟨⟨v4, v7, rfl, G5, G8, Ro6_o9⟩, hb11⟩
  refine ⟨_, rfl, ?_⟩
  have szw10 := hb11.size
  have T0w10 := T.size
  have T := Tt T hb11
  replace G5 := OwF.mono G5 T0w10
  replace G8 := OwF.mono G8 T0w10
  refine RL.y rfl (Y.move (v := .tuple #[v4, v7]) rfl) ?_
  refine RL.y rfl (Y.extract (i := 0) rfl rfl) ?_
  refine RL.y rfl (Y.extract (i := 1) rfl rfl) ?_
  refine RL.y rfl (Y.assign (v := v4) rfl) ?_
  refine RL.y rfl (Y.assign (v := v7) rfl) ?_
  refine RL.nil ?_
  refine then_n ?_
  refine wp_seq ?_
  refine wp_rl rfl ?_
  refine RL.y rfl (Y.move (v := .pointer (some ⟨ba0, oa0, none⟩)) s0) ?_
  obtain ⟨y12, e13, hm⟩ := bnd hm
  refine RL.call rfl (am1 rfl) (by kernel_rfl) ((c_m_spec_l12Parts d0 _ e13 _ _ (ptArg netRd_ok hba0 hSa0 hca0 T)).mono ?_)
  rintro _ w18 ⟨⟨v14, bs17, rfl, G15⟩, hb19⟩
  refine ⟨_, rfl, ?_⟩
  have szw18 := hb19.size
  have T0w18 := T.size
  have Zo16_o6 : Ap bs17 (fb v4) := (Ap.new (OwN.lo_ G15) (OwF.fhi G5))
  have G5 := OwF.below G5 hb19
  have T := Tt T hb19
  replace G15 := OwN.mono G15 T0w18
  refine RL.y rfl (Y.assign (v := v14) rfl) ?_
  refine RL.nil ?_
  refine then_n ?_
  refine wp_seq ?_
  refine wp_rl rfl ?_
  refine RL.bslice (e := 2) (cells := #[]) rfl pm0 (by kernel_rfl) (fun w20 B21 hb22 szw20 => ?_)
  have ZB21 : w.heap.size ≤ w18.heap.size := T.size
  have Do23_o6 := Dj.new (v := .slice (some ⟨w18.heap.size, 0, none⟩) 0 0) litGe (OwF.hi G5)
  have Do23_o16 : Ap bs17 [w18.heap.size] := Ap.far (OwN.hi G15)
  have G5 := OwF.below G5 hb22
  have G15 := OwN.below (slOw_ok intOw_ok) G15 hb22
  have T := Tt T hb22
  have G24 := OwF.lit (enc := encI) (sz := 1) (xs := ([] : List Int)) B21 ZB21 rfl rfl rfl rfl
  refine RL.y rfl (Y.assign (v := .slice (some ⟨w18.heap.size, 0, none⟩) 0 0) rfl) ?_
  refine RL.nil ?_
  refine then_n ?_
  refine wp_seq ?_
  refine wp_rl rfl ?_
  refine RL.bslice (e := 26) (cells := #[]) rfl pm0 (by kernel_rfl) (fun w26 B27 hb28 szw26 => ?_)
  have ZB27 : w.heap.size ≤ w20.heap.size := T.size
  have z30 := Ap.cons (Ap.farL (OwF.fhi G5)) Ap.nil
  have z31 := Ap.cons (Ap.farL (OwN.hi G15)) Ap.nil
  have z32 := Ap.cons (Ap.farL (OwF.fhi G24)) Ap.nil
  have G5 := OwF.below G5 hb28
  have G15 := OwN.below (slOw_ok intOw_ok) G15 hb28
  have G24 := OwF.below G24 hb28
  have T := Tt T hb28
  have G33 : OwN 26 (slOw intOw 1) 1 w26 w.heap.size (.slice (some ⟨w20.heap.size, 0, none⟩) 0 0) ([] : List (List Int)) [w20.heap.size] := OwN.lit0 B27 ZB27 rfl
  refine RL.y rfl (Y.assign (v := .slice (some ⟨w20.heap.size, 0, none⟩) 0 0) rfl) ?_
  refine RL.nil ?_
  refine then_n ?_
  refine wp_seq ?_
  refine wp_seq ?_
  refine wp_rs rfl ?_
  refine RQ.y rfl (Y.assign (v := .int .i64 0) rfl) ?_
  refine RQ.nil ?_
  refine then_n ?_
  refine wp_block ?_
  obtain ⟨K1, hK1, hm⟩ : ∃ K, K = (m_spec_l12Order_A1 d0 y2) ∧ m_spec_l12Order_L1 d0 y12 K (y12.length + 1) ([] : List Int) ([] : List (List Int)) 0 = some r := ⟨_, rfl, hm⟩
  refine wp_loopX (fun g f w' => ∃ (xs141 : List Int) (xs142 : List (List Int)) (i143 : Int) (uxs141 : Value) (uxs142 : Value) (bsxs142 : List Nat), f 0 = .pointer (some ⟨ba0, oa0, none⟩) ∧ f 3 = v4 ∧ f 5 = v14 ∧ f 6 = uxs141 ∧ OwF 2 encI 1 w' w.heap.size uxs141 xs141 ∧ f 7 = uxs142 ∧ OwN 26 (slOw intOw 1) 1 w' w.heap.size uxs142 xs142 bsxs142 ∧ f 8 = .int .i64 i143 ∧ 0 ≤ i143 ∧ Dj uxs141 v4 ∧ Ap (fb uxs141) bs17 ∧ Ap bsxs142 (fb uxs141) ∧ Ap bsxs142 (fb v4) ∧ Ap bsxs142 bs17 ∧ OwF 2 encI 1 w' w.heap.size v4 y2.1 ∧ OwN 26 (slOw intOw 1) 1 w' w.heap.size v14 y12 bs17 ∧ Below w.heap.size w w' ∧ m_spec_l12Order_L1 d0 y12 K1 g xs141 xs142 i143 = some r) 0 (fun f w' => ∃ (xs35 : List Int) (xs36 : List (List Int)) (uxs35 : Value) (uxs36 : Value) (bsxs36 : List Nat), f 0 = .pointer (some ⟨ba0, oa0, none⟩) ∧ f 3 = v4 ∧ f 6 = uxs35 ∧ OwF 2 encI 1 w' w.heap.size uxs35 xs35 ∧ f 7 = uxs36 ∧ OwN 26 (slOw intOw 1) 1 w' w.heap.size uxs36 xs36 bsxs36 ∧ Dj uxs35 v4 ∧ Ap bsxs36 (fb uxs35) ∧ Ap bsxs36 (fb v4) ∧ OwF 2 encI 1 w' w.heap.size v4 y2.1 ∧ Below w.heap.size w w' ∧ m_spec_l12Order_A1 d0 y2 xs35 xs36 = some r) (y12.length + 1) ⟨([] : List Int), ([] : List (List Int)), 0, (.slice (some ⟨w18.heap.size, 0, none⟩) 0 0), (.slice (some ⟨w20.heap.size, 0, none⟩) 0 0), ([w20.heap.size]), s0, rfl, rfl, rfl, G24, rfl, G33, rfl, (by omega), (Ap.dj (Dj.ap Do23_o6)), (Ap.symm Do23_o16), z32, z30, z31, G5, G15, T, hm⟩ ?_ ?_
  · rintro f w37 ⟨xs35, xs36, uxs35, uxs36, bsxs36, s0_1x, s3_1x, s6_1x, Guxs35, s7_1x, Guxs36, Doxs35_o6, Doxs36_oxs35, Doxs36_o6, G5, T, hm⟩
    unfold m_spec_l12Order_A1 at hm
    refine blk_hit (then_n ?_)
    refine wp_seq ?_
    refine wp_rl rfl ?_
    refine RL.y rfl (Y.move (v := uxs35) s6_1x) ?_
    obtain ⟨A38, c39, rfl⟩ := OwF.form Guxs35
    have qbA38 := OwF.bound Guxs35
    refine RL.y rfl (Y.len (by kernel_rfl) rfl) ?_
    obtain ⟨_, m40, hm⟩ := bnd hm
    have hk41 := mustP_some m40
    refine RL.make (enc := encB) (z0 := false) (n := xs35.length) app_bool (by decide) rfl rfl rfl rfl hk41 (fun w42 G43 hb44 szw42 => ?_)
    replace G43 := OwF.mono G43 T.size
    have Do45_o6 := Dj.new (v := .slice (some ⟨w37.heap.size, 0, none⟩) xs35.length xs35.length) litGe (OwF.hi G5)
    have Do45_oxs35 := Dj.new (v := .slice (some ⟨w37.heap.size, 0, none⟩) xs35.length xs35.length) litGe (OwF.hi Guxs35)
    have Do45_oxs36 : Ap bsxs36 [w37.heap.size] := Ap.far (OwN.hi Guxs36)
    have G5 := OwF.below G5 hb44
    have Guxs35 := OwF.below Guxs35 hb44
    have Guxs36 := OwN.below (slOw_ok intOw_ok) Guxs36 hb44
    have T := Tt T hb44
    refine RL.y rfl (Y.assign (v := .slice (some ⟨w37.heap.size, 0, none⟩) xs35.length xs35.length) rfl) ?_
    refine RL.nil ?_
    refine then_n ?_
    refine wp_seq ?_
    refine wp_seq ?_
    refine wp_rs rfl ?_
    refine RQ.y rfl (Y.assign (v := .int .i64 0) rfl) ?_
    refine RQ.nil ?_
    refine then_n ?_
    refine wp_block ?_
    obtain ⟨K2, hK2, hm⟩ : ∃ K, K = m_spec_l12Order_A2 ∧ m_spec_l12Order_L2 d0 xs35 xs36 K (xs35.length + 1) y2.1 (List.replicate xs35.length false) 0 = some r := ⟨_, rfl, hm⟩
    refine wp_loopX (fun g f w' => ∃ (xs49 : List Int) (xs50 : List Bool) (i51 : Int) (uxs49 : Value) (uxs50 : Value), f 0 = .pointer (some ⟨ba0, oa0, none⟩) ∧ f 6 = .slice A38 xs35.length c39 ∧ f 7 = uxs36 ∧ f 3 = uxs49 ∧ OwF 2 encI 1 w' w.heap.size uxs49 xs49 ∧ f 13 = uxs50 ∧ OwF 4 encB 1 w' w.heap.size uxs50 xs50 ∧ f 14 = .int .i64 i51 ∧ 0 ≤ i51 ∧ Dj uxs49 (.slice A38 xs35.length c39) ∧ Ap (fb uxs49) bsxs36 ∧ Dj uxs50 uxs49 ∧ Dj uxs50 (.slice A38 xs35.length c39) ∧ Ap (fb uxs50) bsxs36 ∧ OwF 2 encI 1 w' w.heap.size (.slice A38 xs35.length c39) xs35 ∧ OwN 26 (slOw intOw 1) 1 w' w.heap.size uxs36 xs36 bsxs36 ∧ Below w.heap.size w w' ∧ m_spec_l12Order_L2 d0 xs35 xs36 K2 g xs49 xs50 i51 = some r) 4 (fun f w' => ∃ (xs47 : List Int) (uxs47 : Value), f 3 = uxs47 ∧ OwF 2 encI 1 w' w.heap.size uxs47 xs47 ∧ Below w.heap.size w w' ∧ m_spec_l12Order_A2 xs47 = some r) (xs35.length + 1) ⟨y2.1, (List.replicate xs35.length false), 0, (v4), (.slice (some ⟨w37.heap.size, 0, none⟩) xs35.length xs35.length), s0_1x, s6_1x, s7_1x, s3_1x, G5, rfl, G43, rfl, (by omega), (Ap.dj (Ap.symm (Dj.ap Doxs35_o6))), (Ap.symm Doxs36_o6), (Ap.dj (Dj.ap Do45_o6)), (Ap.dj (Dj.ap Do45_oxs35)), (Ap.symm Do45_oxs36), Guxs35, Guxs36, T, hm⟩ ?_ ?_
    · rintro f w48 ⟨xs47, uxs47, s3_2x, Guxs47, T, hm⟩
      unfold m_spec_l12Order_A2 at hm
      refine blk_hit (then_n ?_)
      refine wp_seq ?_
      refine wp_rs rfl ?_
      refine RQ.y rfl (Y.move (v := uxs47) s3_2x) ?_
      refine RQ.y rfl (Y.assign (v := uxs47) rfl) ?_
      refine RQ.nil ?_
      refine then_n ?_
      refine wp_ret ?_
      obtain rfl := Option.some.inj hm
      exact (ret1 rfl rfl rfl ⟨⟨_, rfl, Guxs47⟩, T⟩)
    · rintro g f w52 ⟨xs49, xs50, i51, uxs49, uxs50, s0_2, s6_2, s7_2, s3_2, Guxs49, s13_2, Guxs50, s14_2, nn14_2, Doxs49_oxs35, Doxs49_oxs36, Doxs50_oxs49, Doxs50_oxs35, Doxs50_oxs36, Guxs35, Guxs36, T, hm⟩
      rcases g with _ | g
      · simp only [m_spec_l12Order_L2] at hm; cases hm
      obtain ⟨rec2, hrec2, hm⟩ : ∃ z, z = m_spec_l12Order_L2 d0 xs35 xs36 K2 g ∧ m_spec_l12Order_B2 d0 xs35 xs36 z K2 xs49 xs50 i51 = some r := ⟨_, rfl, hm⟩
      unfold m_spec_l12Order_B2 at hm
      refine wp_seq ?_
      refine wp_seq ?_
      refine wp_rs rfl ?_
      refine RQ.y rfl (Y.move (v := .int .i64 i51) s14_2) ?_
      refine RQ.y rfl (Y.move (v := .slice A38 xs35.length c39) s6_2) ?_
      refine RQ.y rfl (Y.len (by kernel_rfl) rfl) ?_
      refine RQ.y rfl (Y.binI (v := .bool (decide (i51 < (xs35.length : Int)))) rfl rfl rfl) ?_
      refine RQ.nil ?_
      refine then_n ?_
      rcases bcases (decide (i51 < (xs35.length : Int))) with c53 | c53
      · replace hm := cF c53 hm
        have pc53 := of_decide_eq_false c53
        refine cond_f rfl (vb rfl c53) ?_
        refine wp_exit ?_
        exact (then_x (then_x (hit_x ⟨_, rfl, ⟨xs49, (uxs49), s3_2, Guxs49, T, (by rw [hK2] at hm; exact hm)⟩⟩)))
      · replace hm := cT c53 hm
        have pc53 := of_decide_eq_true c53
        refine cond_t rfl (vb rfl c53) ?_
        refine wp_skip ?_
        refine then_n ?_
        refine wp_seq ?_
        refine wp_block ?_
        refine wp_seq ?_
        refine wp_rs rfl ?_
        refine RQ.y rfl (Y.assign (v := .int .i64 (-1)) rfl) ?_
        refine RQ.nil ?_
        refine then_n ?_
        refine wp_seq ?_
        refine wp_seq ?_
        refine wp_rs rfl ?_
        refine RQ.y rfl (Y.assign (v := .int .i64 0) rfl) ?_
        refine RQ.nil ?_
        refine then_n ?_
        refine wp_block ?_
        obtain ⟨K3, hK3, hm⟩ : ∃ K, K = (m_spec_l12Order_A3 d0 xs35 rec2 xs49 xs50 i51) ∧ m_spec_l12Order_L3 xs35 xs36 xs50 K (xs35.length + 1) (-1) 0 = some r := ⟨_, rfl, hm⟩
        refine wp_loopX (fun g f w' => ∃ (i95 : Int) (i96 : Int), f 0 = .pointer (some ⟨ba0, oa0, none⟩) ∧ f 3 = uxs49 ∧ f 6 = .slice A38 xs35.length c39 ∧ f 7 = uxs36 ∧ f 13 = uxs50 ∧ f 14 = .int .i64 i51 ∧ f 15 = .int .i64 i95 ∧ f 16 = .int .i64 i96 ∧ 0 ≤ i96 ∧ OwF 2 encI 1 w' w.heap.size uxs49 xs49 ∧ OwF 2 encI 1 w' w.heap.size (.slice A38 xs35.length c39) xs35 ∧ OwN 26 (slOw intOw 1) 1 w' w.heap.size uxs36 xs36 bsxs36 ∧ OwF 4 encB 1 w' w.heap.size uxs50 xs50 ∧ Below w.heap.size w w' ∧ m_spec_l12Order_L3 xs35 xs36 xs50 K3 g i95 i96 = some r) 6 (fun f w' => ∃ (i54 : Int), f 0 = .pointer (some ⟨ba0, oa0, none⟩) ∧ f 3 = uxs49 ∧ f 6 = .slice A38 xs35.length c39 ∧ f 7 = uxs36 ∧ f 13 = uxs50 ∧ f 14 = .int .i64 i51 ∧ f 15 = .int .i64 i54 ∧ OwF 2 encI 1 w' w.heap.size uxs49 xs49 ∧ OwF 2 encI 1 w' w.heap.size (.slice A38 xs35.length c39) xs35 ∧ OwN 26 (slOw intOw 1) 1 w' w.heap.size uxs36 xs36 bsxs36 ∧ OwF 4 encB 1 w' w.heap.size uxs50 xs50 ∧ Below w.heap.size w w' ∧ m_spec_l12Order_A3 d0 xs35 rec2 xs49 xs50 i51 i54 = some r) (xs35.length + 1) ⟨(-1), 0, s0_2, s3_2, s6_2, s7_2, s13_2, s14_2, rfl, rfl, (by omega), Guxs49, Guxs35, Guxs36, Guxs50, T, hm⟩ ?_ ?_
        · rintro f w55 ⟨i54, s0_3x, s3_3x, s6_3x, s7_3x, s13_3x, s14_3x, s15_3x, Guxs49, Guxs35, Guxs36, Guxs50, T, hm⟩
          unfold m_spec_l12Order_A3 at hm
          refine blk_hit (then_n ?_)
          refine wp_seq ?_
          refine wp_rl rfl ?_
          refine RL.y rfl (Y.move (v := uxs50) s13_3x) ?_
          refine RL.y rfl (Y.move (v := .int .i64 i54) s15_3x) ?_
          obtain ⟨A56, c57, rfl⟩ := OwF.form Guxs50
          have qbA56 := OwF.bound Guxs50
          obtain ⟨x58, hx60, hm⟩ := bnd hm
          obtain ⟨k59, hk61, hl62, hx60⟩ := getI_some hx60
          obtain ⟨b63, rfl⟩ := OwF.addr0 Guxs50 (by omega)
          refine RL.y rfl (Y.indexAddr (m := k59) (sz := 1) rfl rfl hk61 hl62 (by kernel_rfl)) ?_
          refine RL.storeF (k := k59) (a := true) fB rfl rfl rfl Guxs50 hl62 rfl (by kernel_rfl) (fun w64 G65 ho66 => ?_)
          have szw64 := ho66.size
          have Guxs49 := OwF.only Guxs49 ho66 (fun e => (Dj.symm Doxs50_oxs49) _ e rfl)
          have Guxs35 := OwF.only Guxs35 ho66 (fun e => (Dj.symm Doxs50_oxs35) _ e rfl)
          have Guxs36 := OwN.only (slOw_ok intOw_ok) Guxs36 ho66 ((show Ap bsxs36 [b63] from (Ap.symm Doxs50_oxs36)).one)
          have T := T.trans (ho66.below (by intro b hb; simp at hb; subst hb; exact OwF.lo_ Guxs50 _ rfl))
          have G65 : OwF 4 encB 1 w64 w.heap.size (.slice (some ⟨b63, 0, none⟩) xs50.length c57) (setI xs50 i54 true) := by rw [hk61, setI_nat]; exact G65
          have hx67 : (setI xs50 i54 true)[k59]? = some true := setI_at hk61 hl62
          have hl68 := lt_of_some hx67
          refine RL.nil ?_
          refine then_n ?_
          refine wp_seq ?_
          refine wp_rl rfl ?_
          refine RL.y rfl (Y.move (v := .pointer (some ⟨ba0, oa0, none⟩)) s0_3x) ?_
          refine RL.y rfl (Y.move (v := .slice A38 xs35.length c39) s6_3x) ?_
          refine RL.y rfl (Y.move (v := .int .i64 i54) s15_3x) ?_
          obtain ⟨x69, hx71, hm⟩ := bnd hm
          obtain ⟨k70, hk72, hl73, hx71⟩ := getI_some hx71
          obtain ⟨b74, rfl⟩ := OwF.addr0 Guxs35 (by omega)
          refine RL.y rfl (Y.indexAddr (m := k70) (sz := 1) rfl rfl hk72 hl73 (by kernel_rfl)) ?_
          refine RL.y rfl (Y.load (v := .int .i64 x69) rfl (by kernel_rfl) (eqC (OwF.cell fI Guxs35 hx71 (j := 0) rfl))) ?_
          obtain ⟨y75, e76, hm⟩ := bnd hm
          refine RL.call rfl (am2 rfl rfl) (by kernel_rfl) ((c_m_spec_l12Traverse d0 x69 _ e76 _ _ (ptArg netRd_ok hba0 hSa0 hca0 T)).mono ?_)
          rintro _ w83 ⟨⟨v77, v80, rfl, G78, G81, Ro79_o82⟩, hb84⟩
          refine ⟨_, rfl, ?_⟩
          have szw83 := hb84.size
          have T0w83 := T.size
          have Zo79_oxs49 := Ap.dj (Ap.new (OwF.flo G78) (OwF.fhi Guxs49))
          have Zo79_oxs35 := Ap.dj (Ap.new (OwF.flo G78) (OwF.fhi Guxs35))
          have Zo79_oxs36 : Ap (fb v77) bsxs36 := (Ap.new (OwF.flo G78) (OwN.hi Guxs36))
          have Zo79_oxs50 := Ap.dj (Ap.new (OwF.flo G78) (OwF.fhi G65))
          have Zo82_oxs49 := Ap.dj (Ap.new (OwF.flo G81) (OwF.fhi Guxs49))
          have Zo82_oxs35 := Ap.dj (Ap.new (OwF.flo G81) (OwF.fhi Guxs35))
          have Zo82_oxs36 : Ap (fb v80) bsxs36 := (Ap.new (OwF.flo G81) (OwN.hi Guxs36))
          have Zo82_oxs50 := Ap.dj (Ap.new (OwF.flo G81) (OwF.fhi G65))
          have Guxs49 := OwF.below Guxs49 hb84
          have Guxs35 := OwF.below Guxs35 hb84
          have Guxs36 := OwN.below (slOw_ok intOw_ok) Guxs36 hb84
          have G65 := OwF.below G65 hb84
          have T := Tt T hb84
          replace G78 := OwF.mono G78 T0w83
          replace G81 := OwF.mono G81 T0w83
          refine RL.y rfl (Y.move (v := .tuple #[v77, v80]) rfl) ?_
          refine RL.y rfl (Y.extract (i := 0) rfl rfl) ?_
          refine RL.y rfl (Y.extract (i := 1) rfl rfl) ?_
          refine RL.y rfl (Y.assign (v := v77) rfl) ?_
          refine RL.y rfl (Y.assign (v := v80) rfl) ?_
          refine RL.nil ?_
          refine then_n ?_
          refine wp_rl rfl ?_
          refine RL.y rfl (Y.move (v := uxs49) s3_3x) ?_
          refine RL.y rfl (Y.move (v := v77) rfl) ?_
          obtain ⟨_, m85, hm⟩ := bnd hm
          have hk86 := mustP_some m85
          refine RL.append fI app_int64 rfl rfl rfl Guxs49 (OwF.arg fI G78) T.size hk86 (fun v87 w88 G89 hgr90 hbl91 hnb92 => ?_)
          have szw88 := hbl91.size
          have Do93_oxs35 := Dj.app Doxs49_oxs35 hnb92 (OwF.hi Guxs35)
          have Do93_oxs36 := Ap.appF (Ap.symm Doxs49_oxs36) hnb92 (OwN.hi Guxs36)
          have Do93_oxs50 := Dj.app (Dj.symm Doxs50_oxs49) hnb92 (OwF.hi G65)
          have Guxs35 := OwF.keptD Guxs35 hgr90 (Dj.symm Doxs49_oxs35)
          have Guxs36 := OwN.grown (slOw_ok intOw_ok) Guxs36 hgr90 (Ap.symm Doxs49_oxs36)
          have G65 := OwF.keptD G65 hgr90 Doxs50_oxs49
          have T := T.trans hbl91
          refine RL.y rfl (Y.assign (v := v87) rfl) ?_
          refine RL.nil ?_
          refine blk_n (then_n ?_)
          refine wp_rs rfl ?_
          refine RQ.y rfl (Y.move (v := .int .i64 i51) s14_3x) ?_
          obtain ⟨s94, ks94, hm⟩ := bnd hm
          replace ks94 := ck_some ks94
          refine RQ.y rfl (Y.binI (v := .int .i64 s94) rfl rfl (by rw [binI_add ks94.2, ks94.1])) ?_
          refine RQ.y rfl (Y.assign (v := .int .i64 s94) rfl) ?_
          refine RQ.nil ?_
          exact (then_n ⟨g, _, Nat.lt_succ_self _, rfl, ⟨(xs49 ++ y75.1), (setI xs50 i54 true), s94, (v87), (.slice (some ⟨b63, 0, none⟩) xs50.length c57), s0_3x, s6_3x, s7_3x, rfl, G89, s13_3x, G65, rfl, (by omega), (Ap.dj (Dj.ap Do93_oxs35)), (Ap.symm Do93_oxs36), (Ap.dj (Ap.symm (Dj.ap Do93_oxs50))), (Ap.dj (Dj.ap Doxs50_oxs35)), Doxs50_oxs36, Guxs35, Guxs36, T, (by rw [← hrec2]; exact hm)⟩⟩)
        · rintro g f w97 ⟨i95, i96, s0_3, s3_3, s6_3, s7_3, s13_3, s14_3, s15_3, s16_3, nn16_3, Guxs49, Guxs35, Guxs36, Guxs50, T, hm⟩
          rcases g with _ | g
          · simp only [m_spec_l12Order_L3] at hm; cases hm
          obtain ⟨rec3, hrec3, hm⟩ : ∃ z, z = m_spec_l12Order_L3 xs35 xs36 xs50 K3 g ∧ m_spec_l12Order_B3 xs35 xs36 xs50 z K3 i95 i96 = some r := ⟨_, rfl, hm⟩
          unfold m_spec_l12Order_B3 at hm
          refine wp_seq ?_
          refine wp_seq ?_
          refine wp_rs rfl ?_
          refine RQ.y rfl (Y.move (v := .int .i64 i96) s16_3) ?_
          refine RQ.y rfl (Y.move (v := .slice A38 xs35.length c39) s6_3) ?_
          refine RQ.y rfl (Y.len (by kernel_rfl) rfl) ?_
          refine RQ.y rfl (Y.binI (v := .bool (decide (i96 < (xs35.length : Int)))) rfl rfl rfl) ?_
          refine RQ.nil ?_
          refine then_n ?_
          rcases bcases (decide (i96 < (xs35.length : Int))) with c98 | c98
          · replace hm := cF c98 hm
            have pc98 := of_decide_eq_false c98
            refine cond_f rfl (vb rfl c98) ?_
            refine wp_exit ?_
            exact (then_x (then_x (hit_x ⟨_, rfl, ⟨i95, s0_3, s3_3, s6_3, s7_3, s13_3, s14_3, s15_3, Guxs49, Guxs35, Guxs36, Guxs50, T, (by rw [hK3] at hm; exact hm)⟩⟩)))
          · replace hm := cT c98 hm
            have pc98 := of_decide_eq_true c98
            refine cond_t rfl (vb rfl c98) ?_
            refine wp_skip ?_
            refine then_n ?_
            refine wp_seq ?_
            refine wp_block ?_
            refine wp_seq ?_
            refine wp_rbd (by kernel_rfl) (by kernel_rfl) ?_
            refine RQ.y rfl (Y.move (v := uxs50) s13_3) ?_
            refine RQ.y rfl (Y.move (v := .int .i64 i96) s16_3) ?_
            obtain ⟨A99, c100, rfl⟩ := OwF.form Guxs50
            have qbA99 := OwF.bound Guxs50
            obtain ⟨x101, hx103, hm⟩ := bnd hm
            obtain ⟨k102, hk104, hl105, hx103⟩ := getI_some hx103
            obtain ⟨b106, rfl⟩ := OwF.addr0 Guxs50 (by omega)
            refine RQ.y rfl (Y.indexAddr (m := k102) (sz := 1) rfl rfl hk104 hl105 (by kernel_rfl)) ?_
            refine RQ.y rfl (Y.load (v := .bool x101) rfl (by kernel_rfl) (beC (OwF.cell fB Guxs50 hx103 (j := 0) rfl))) ?_
            refine RQ.y rfl (Y.not (b' := (!x101)) rfl rfl) ?_
            refine RQ.y rfl (Y.move (v := .bool (!x101)) rfl) ?_
            rcases bcases x101 with c107 | c107
            · replace hm := cF c107 hm
              refine RQ.y (wantT (dj := 107) rfl (vbn rfl c107 rfl)) (Y.move (v := .int .i64 i95) s15_3) ?_
              refine RQ.y (wantT (dj := 107) rfl (vbn rfl c107 rfl)) (Y.binI (v := .bool (decide (i95 < 0))) rfl rfl rfl) ?_
              refine RQ.y (wantT (dj := 107) rfl (vbn rfl c107 rfl)) (Y.move (v := .bool (decide (i95 < 0))) rfl) ?_
              rcases bcases (decide (i95 < 0)) with c108 | c108
              · replace hm := cF c108 hm
                have pc108 := of_decide_eq_false c108
                refine RQ.y (wantT (dj := 110) rfl (vb rfl c108)) (Y.move (v := uxs36) s7_3) ?_
                refine RQ.y (wantT (dj := 110) rfl (vb rfl c108)) (Y.move (v := .int .i64 i96) s16_3) ?_
                obtain ⟨A109, c110, rfl⟩ := OwN.form Guxs36
                have qbA109 := OwN.bound Guxs36
                obtain ⟨x111, hx113, hm⟩ := bnd hm
                obtain ⟨k112, hk114, hl115, hx113⟩ := getI_some hx113
                obtain ⟨b116, rfl⟩ := OwN.addr0 Guxs36 (by omega)
                refine RQ.y (wantT (dj := 110) rfl (vb rfl c108)) (Y.indexAddr (m := k112) (sz := 1) rfl rfl hk114 hl115 (by kernel_rfl)) ?_
                obtain ⟨cs117, hR118, hc119⟩ := OwN.rd (slOw_ok intOw_ok) (slOw_reads (intOw_reads _)) Guxs36 hx113
                obtain ⟨A120, n120, c120, rfl, h120, r120⟩ := hR118
                have e120 := h120.len; subst e120
                have q120 := len_le r120
                refine RQ.y (wantT (dj := 110) rfl (vb rfl c108)) (Y.load (v := .slice A120 x111.length c120) rfl (by kernel_rfl) (beC (hc119 0 _ rfl))) ?_
                refine RQ.y (wantT (dj := 110) rfl (vb rfl c108)) (Y.move (v := .slice (some ⟨b116, 0, none⟩) xs36.length c110) s7_3) ?_
                refine RQ.y (wantT (dj := 110) rfl (vb rfl c108)) (Y.move (v := .int .i64 i95) s15_3) ?_
                obtain ⟨x121, hx123, hm⟩ := bnd hm
                obtain ⟨k122, hk124, hl125, hx123⟩ := getI_some hx123
                refine RQ.y (wantT (dj := 110) rfl (vb rfl c108)) (Y.indexAddr (m := k122) (sz := 1) rfl rfl hk124 hl125 (by kernel_rfl)) ?_
                obtain ⟨cs126, hR127, hc128⟩ := OwN.rd (slOw_ok intOw_ok) (slOw_reads (intOw_reads _)) Guxs36 hx123
                obtain ⟨A129, n129, c129, rfl, h129, r129⟩ := hR127
                have e129 := h129.len; subst e129
                have q129 := len_le r129
                refine RQ.y (wantT (dj := 110) rfl (vb rfl c108)) (Y.load (v := .slice A129 x121.length c129) rfl (by kernel_rfl) (beC (hc128 0 _ rfl))) ?_
                obtain ⟨y130, e131, hm⟩ := bnd hm
                refine RQ.call (wantT (dj := 110) rfl (vb rfl c108)) (am2 rfl rfl) (by kernel_rfl) (v := .bool y130) (bel (K := fun _ => True) fun w' hb' => (c_m_spec_l12Less x111 x121 _ e131 _ _ w' (slArg intRd_ok h120 r120 hb') (slArg intRd_ok h129 r129 hb'))) ?_
                refine RQ.y (wantT (dj := 107) rfl (vbn rfl c107 rfl)) (Y.pick (b := false) (v := .bool y130) (vb rfl c108) rfl) ?_
                refine RQ.y rfl (Y.pick (b := true) (v := .bool y130) (vbn rfl c107 rfl) rfl) ?_
                refine RQ.nil ?_
                intro w132 hb133
                have szw132 := hb133.size
                have Guxs49 := OwF.below Guxs49 hb133
                have Guxs35 := OwF.below Guxs35 hb133
                have Guxs36 := OwN.below (slOw_ok intOw_ok) Guxs36 hb133
                have Guxs50 := OwF.below Guxs50 hb133
                have T := Tt T hb133
                refine then_n ?_
                rcases bcases y130 with c134 | c134
                · replace hm := cF c134 hm
                  refine cond_f rfl (vb rfl c134) ?_
                  refine wp_skip ?_
                  refine blk_n (then_n ?_)
                  refine wp_rs rfl ?_
                  refine RQ.y rfl (Y.move (v := .int .i64 i96) s16_3) ?_
                  refine RQ.y rfl (Y.binI rfl rfl (binI_add (m := i96) (by omega))) ?_
                  refine RQ.y rfl (Y.assign (v := .int .i64 (i96 + 1)) rfl) ?_
                  refine RQ.nil ?_
                  exact (then_n ⟨g, _, Nat.lt_succ_self _, rfl, ⟨i95, (i96 + 1), s0_3, s3_3, s6_3, s7_3, s13_3, s14_3, s15_3, rfl, (by omega), Guxs49, Guxs35, Guxs36, Guxs50, T, (by rw [← hrec3]; exact hm)⟩⟩)
                · replace hm := cT c134 hm
                  refine cond_t rfl (vb rfl c134) ?_
                  refine wp_rs rfl ?_
                  refine RQ.y rfl (Y.move (v := .int .i64 i96) s16_3) ?_
                  refine RQ.y rfl (Y.assign (v := .int .i64 i96) rfl) ?_
                  refine RQ.nil ?_
                  refine blk_n (then_n ?_)
                  refine wp_rs rfl ?_
                  refine RQ.y rfl (Y.move (v := .int .i64 i96) s16_3) ?_
                  refine RQ.y rfl (Y.binI rfl rfl (binI_add (m := i96) (by omega))) ?_
                  refine RQ.y rfl (Y.assign (v := .int .i64 (i96 + 1)) rfl) ?_
                  refine RQ.nil ?_
                  exact (then_n ⟨g, _, Nat.lt_succ_self _, rfl, ⟨i96, (i96 + 1), s0_3, s3_3, s6_3, s7_3, s13_3, s14_3, rfl, rfl, (by omega), Guxs49, Guxs35, Guxs36, Guxs50, T, (by rw [← hrec3]; exact hm)⟩⟩)
              · replace hm := cT c108 hm
                have pc108 := of_decide_eq_true c108
                refine RQ.skip (wantN (dj := 110) rfl (vb rfl c108) rfl) ?_
                refine RQ.skip (wantN (dj := 110) rfl (vb rfl c108) rfl) ?_
                refine RQ.skip (wantN (dj := 110) rfl (vb rfl c108) rfl) ?_
                refine RQ.skip (wantN (dj := 110) rfl (vb rfl c108) rfl) ?_
                refine RQ.skip (wantN (dj := 110) rfl (vb rfl c108) rfl) ?_
                refine RQ.skip (wantN (dj := 110) rfl (vb rfl c108) rfl) ?_
                refine RQ.skip (wantN (dj := 110) rfl (vb rfl c108) rfl) ?_
                refine RQ.skip (wantN (dj := 110) rfl (vb rfl c108) rfl) ?_
                refine RQ.skip (wantN (dj := 110) rfl (vb rfl c108) rfl) ?_
                refine RQ.y (wantT (dj := 107) rfl (vbn rfl c107 rfl)) (Y.pick (b := true) (v := .bool true) (vb rfl c108) rfl) ?_
                refine RQ.y rfl (Y.pick (b := true) (v := .bool true) (vbn rfl c107 rfl) rfl) ?_
                refine RQ.nil ?_
                intro w135 hb136
                have szw135 := hb136.size
                have Guxs49 := OwF.below Guxs49 hb136
                have Guxs35 := OwF.below Guxs35 hb136
                have Guxs36 := OwN.below (slOw_ok intOw_ok) Guxs36 hb136
                have Guxs50 := OwF.below Guxs50 hb136
                have T := Tt T hb136
                refine then_n ?_
                refine cond_t rfl rfl ?_
                refine wp_rs rfl ?_
                refine RQ.y rfl (Y.move (v := .int .i64 i96) s16_3) ?_
                refine RQ.y rfl (Y.assign (v := .int .i64 i96) rfl) ?_
                refine RQ.nil ?_
                refine blk_n (then_n ?_)
                refine wp_rs rfl ?_
                refine RQ.y rfl (Y.move (v := .int .i64 i96) s16_3) ?_
                refine RQ.y rfl (Y.binI rfl rfl (binI_add (m := i96) (by omega))) ?_
                refine RQ.y rfl (Y.assign (v := .int .i64 (i96 + 1)) rfl) ?_
                refine RQ.nil ?_
                exact (then_n ⟨g, _, Nat.lt_succ_self _, rfl, ⟨i96, (i96 + 1), s0_3, s3_3, s6_3, s7_3, s13_3, s14_3, rfl, rfl, (by omega), Guxs49, Guxs35, Guxs36, Guxs50, T, (by rw [← hrec3]; exact hm)⟩⟩)
            · replace hm := cT c107 hm
              refine RQ.skip (wantN (dj := 107) rfl (vbn rfl c107 rfl) rfl) ?_
              refine RQ.skip (wantN (dj := 107) rfl (vbn rfl c107 rfl) rfl) ?_
              refine RQ.skip (wantN (dj := 107) rfl (vbn rfl c107 rfl) rfl) ?_
              refine RQ.skip rfl ?_
              refine RQ.skip rfl ?_
              refine RQ.skip rfl ?_
              refine RQ.skip rfl ?_
              refine RQ.skip rfl ?_
              refine RQ.skip rfl ?_
              refine RQ.skip rfl ?_
              refine RQ.skip rfl ?_
              refine RQ.skip rfl ?_
              refine RQ.skip (wantN (dj := 107) rfl (vbn rfl c107 rfl) rfl) ?_
              refine RQ.y rfl (Y.pick (b := false) (v := .bool false) (vbn rfl c107 rfl) rfl) ?_
              refine RQ.nil ?_
              intro w137 hb138
              have szw137 := hb138.size
              have Guxs49 := OwF.below Guxs49 hb138
              have Guxs35 := OwF.below Guxs35 hb138
              have Guxs36 := OwN.below (slOw_ok intOw_ok) Guxs36 hb138
              have Guxs50 := OwF.below Guxs50 hb138
              have T := Tt T hb138
              refine then_n ?_
              refine cond_f rfl rfl ?_
              refine wp_skip ?_
              refine blk_n (then_n ?_)
              refine wp_rs rfl ?_
              refine RQ.y rfl (Y.move (v := .int .i64 i96) s16_3) ?_
              refine RQ.y rfl (Y.binI rfl rfl (binI_add (m := i96) (by omega))) ?_
              refine RQ.y rfl (Y.assign (v := .int .i64 (i96 + 1)) rfl) ?_
              refine RQ.nil ?_
              exact (then_n ⟨g, _, Nat.lt_succ_self _, rfl, ⟨i95, (i96 + 1), s0_3, s3_3, s6_3, s7_3, s13_3, s14_3, s15_3, rfl, (by omega), Guxs49, Guxs35, Guxs36, Guxs50, T, (by rw [← hrec3]; exact hm)⟩⟩)
  · rintro g f w144 ⟨xs141, xs142, i143, uxs141, uxs142, bsxs142, s0_1, s3_1, s5_1, s6_1, Guxs141, s7_1, Guxs142, s8_1, nn8_1, Doxs141_o6, Doxs141_o16, Doxs142_oxs141, Doxs142_o6, Doxs142_o16, G5, G15, T, hm⟩
    rcases g with _ | g
    · simp only [m_spec_l12Order_L1] at hm; cases hm
    obtain ⟨rec1, hrec1, hm⟩ : ∃ z, z = m_spec_l12Order_L1 d0 y12 K1 g ∧ m_spec_l12Order_B1 d0 y12 z K1 xs141 xs142 i143 = some r := ⟨_, rfl, hm⟩
    unfold m_spec_l12Order_B1 at hm
    refine wp_seq ?_
    refine wp_seq ?_
    refine wp_rs rfl ?_
    refine RQ.y rfl (Y.move (v := .int .i64 i143) s8_1) ?_
    refine RQ.y rfl (Y.move (v := v14) s5_1) ?_
    obtain ⟨A145, c146, rfl⟩ := OwN.form G15
    have qbA145 := OwN.bound G15
    refine RQ.y rfl (Y.len (by kernel_rfl) rfl) ?_
    refine RQ.y rfl (Y.binI (v := .bool (decide (i143 < (y12.length : Int)))) rfl rfl rfl) ?_
    refine RQ.nil ?_
    refine then_n ?_
    rcases bcases (decide (i143 < (y12.length : Int))) with c147 | c147
    · replace hm := cF c147 hm
      have pc147 := of_decide_eq_false c147
      refine cond_f rfl (vb rfl c147) ?_
      refine wp_exit ?_
      exact (then_x (then_x (hit_x ⟨_, rfl, ⟨xs141, xs142, (uxs141), (uxs142), bsxs142, s0_1, s3_1, s6_1, Guxs141, s7_1, Guxs142, (Ap.dj (Dj.ap Doxs141_o6)), Doxs142_oxs141, Doxs142_o6, G5, T, (by rw [hK1] at hm; exact hm)⟩⟩)))
    · replace hm := cT c147 hm
      have pc147 := of_decide_eq_true c147
      refine cond_t rfl (vb rfl c147) ?_
      refine wp_skip ?_
      refine then_n ?_
      refine wp_seq ?_
      refine wp_block ?_
      refine wp_seq ?_
      refine wp_seq ?_
      refine wp_rs rfl ?_
      refine RQ.y rfl (Y.move (v := .slice A145 y12.length c146) s5_1) ?_
      refine RQ.y rfl (Y.move (v := .int .i64 i143) s8_1) ?_
      obtain ⟨x148, hx150, hm⟩ := bnd hm
      obtain ⟨k149, hk151, hl152, hx150⟩ := getI_some hx150
      obtain ⟨b153, rfl⟩ := OwN.addr0 G15 (by omega)
      refine RQ.y rfl (Y.indexAddr (m := k149) (sz := 1) rfl rfl hk151 hl152 (by kernel_rfl)) ?_
      obtain ⟨cs154, hR155, hc156⟩ := OwN.rd (slOw_ok intOw_ok) (slOw_reads (intOw_reads _)) G15 hx150
      obtain ⟨A157, n157, c157, rfl, h157, r157⟩ := hR155
      have e157 := h157.len; subst e157
      have q157 := len_le r157
      refine RQ.y rfl (Y.load (v := .slice A157 x148.length c157) rfl (by kernel_rfl) (eqC (hc156 0 _ rfl))) ?_
      obtain ⟨x158, hx161, hm⟩ := bnd hm
      obtain ⟨k159, hk162, hl163, hx161⟩ := getI_some hx161
      have hl165 : k159 < x148.length := by have := h157.len; omega
      obtain ⟨b166, o167, rfl, hbb166⟩ := h157.addr (by omega)
      obtain ⟨cs160, hRcs160, hc164⟩ := h157.el hx161
      have hScs160 := hRcs160
      obtain rfl := hRcs160
      refine RQ.y rfl (Y.indexAddr (m := k159) (sz := 1) rfl rfl hk162 hl163 (by kernel_rfl)) ?_
      refine RQ.y rfl (Y.load (v := .int .i64 x158) rfl (by kernel_rfl) (eqC (hc164 0 _ rfl))) ?_
      refine RQ.y rfl (Y.binI (v := .bool (x158 == 0)) rfl rfl rfl) ?_
      refine RQ.nil ?_
      refine then_n ?_
      rcases bcases (x158 == 0) with c168 | c168
      · replace hm := cF c168 hm
        refine cond_f rfl (vb rfl c168) ?_
        refine wp_skip ?_
        refine then_n ?_
        refine wp_seq ?_
        refine wp_rs rfl ?_
        refine RQ.y rfl (Y.move (v := .slice (some ⟨b153, 0, none⟩) y12.length c146) s5_1) ?_
        refine RQ.y rfl (Y.move (v := .int .i64 i143) s8_1) ?_
        obtain ⟨x169, hx171, hm⟩ := bnd hm
        obtain ⟨k170, hk172, hl173, hx171⟩ := getI_some hx171
        refine RQ.y rfl (Y.indexAddr (m := k170) (sz := 1) rfl rfl hk172 hl173 (by kernel_rfl)) ?_
        obtain ⟨cs174, hR175, hc176⟩ := OwN.rd (slOw_ok intOw_ok) (slOw_reads (intOw_reads _)) G15 hx171
        obtain ⟨A177, n177, c177, rfl, h177, r177⟩ := hR175
        have e177 := h177.len; subst e177
        have q177 := len_le r177
        refine RQ.y rfl (Y.load (v := .slice A177 x169.length c177) rfl (by kernel_rfl) (eqC (hc176 0 _ rfl))) ?_
        obtain ⟨x178, hx181, hm⟩ := bnd hm
        obtain ⟨k179, hk182, hl183, hx181⟩ := getI_some hx181
        have hl185 : k179 < x169.length := by have := h177.len; omega
        obtain ⟨b186, o187, rfl, hbb186⟩ := h177.addr (by omega)
        obtain ⟨cs180, hRcs180, hc184⟩ := h177.el hx181
        have hScs180 := hRcs180
        obtain rfl := hRcs180
        refine RQ.y rfl (Y.indexAddr (m := k179) (sz := 1) rfl rfl hk182 hl183 (by kernel_rfl)) ?_
        refine RQ.y rfl (Y.load (v := .int .i64 x178) rfl (by kernel_rfl) (eqC (hc184 0 _ rfl))) ?_
        refine RQ.y rfl (Y.assign (v := .int .i64 x178) rfl) ?_
        refine RQ.nil ?_
        refine then_n ?_
        refine wp_seq ?_
        refine wp_rl rfl ?_
        refine RL.y rfl (Y.move (v := .pointer (some ⟨ba0, oa0, none⟩)) s0_1) ?_
        refine RL.y rfl (Y.move (v := .int .i64 x178) rfl) ?_
        obtain ⟨y188, e189, hm⟩ := bnd hm
        refine RL.call rfl (am2 rfl rfl) (by kernel_rfl) ((c_m_spec_l12Code d0 x178 _ e189 _ _ (ptArg netRd_ok hba0 hSa0 hca0 T)).mono ?_)
        rintro _ w193 ⟨⟨v190, rfl, G191⟩, hb194⟩
        refine ⟨_, rfl, ?_⟩
        have szw193 := hb194.size
        have T0w193 := T.size
        have Zo192_o6 := Ap.dj (Ap.new (OwF.flo G191) (OwF.fhi G5))
        have Zo192_o16 : Ap (fb v190) bs17 := (Ap.new (OwF.flo G191) (OwN.hi G15))
        have Zo192_oxs141 := Ap.dj (Ap.new (OwF.flo G191) (OwF.fhi Guxs141))
        have Zo192_oxs142 : Ap (fb v190) bsxs142 := (Ap.new (OwF.flo G191) (OwN.hi Guxs142))
        have G5 := OwF.below G5 hb194
        have G15 := OwN.below (slOw_ok intOw_ok) G15 hb194
        have Guxs141 := OwF.below Guxs141 hb194
        have Guxs142 := OwN.below (slOw_ok intOw_ok) Guxs142 hb194
        have T := Tt T hb194
        replace G191 := OwF.mono G191 T0w193
        refine RL.y rfl (Y.assign (v := v190) rfl) ?_
        refine RL.nil ?_
        refine then_n ?_
        refine wp_seq ?_
        refine wp_seq ?_
        refine wp_rs rfl ?_
        refine RQ.y rfl (Y.assign (v := .int .i64 1) rfl) ?_
        refine RQ.nil ?_
        refine then_n ?_
        refine wp_block ?_
        obtain ⟨K4, hK4, hm⟩ : ∃ K, K = (m_spec_l12Order_A4 rec1 xs141 xs142 i143) ∧ m_spec_l12Order_L4 d0 y12 i143 K (((getI y12 i143).getD default).length + 1) x178 y188 1 = some r := ⟨_, rfl, hm⟩
        refine wp_loopX (fun g f w' => ∃ (i245 : Int) (xs246 : List Int) (i247 : Int) (uxs246 : Value), f 0 = .pointer (some ⟨ba0, oa0, none⟩) ∧ f 3 = v4 ∧ f 5 = .slice (some ⟨b153, 0, none⟩) y12.length c146 ∧ f 6 = uxs141 ∧ f 7 = uxs142 ∧ f 8 = .int .i64 i143 ∧ f 9 = .int .i64 i245 ∧ f 10 = uxs246 ∧ OwF 2 encI 1 w' w.heap.size uxs246 xs246 ∧ f 11 = .int .i64 i247 ∧ 0 ≤ i247 ∧ Dj uxs246 v4 ∧ Ap (fb uxs246) bs17 ∧ Dj uxs246 uxs141 ∧ Ap (fb uxs246) bsxs142 ∧ OwF 2 encI 1 w' w.heap.size v4 y2.1 ∧ OwN 26 (slOw intOw 1) 1 w' w.heap.size (.slice (some ⟨b153, 0, none⟩) y12.length c146) y12 bs17 ∧ OwF 2 encI 1 w' w.heap.size uxs141 xs141 ∧ OwN 26 (slOw intOw 1) 1 w' w.heap.size uxs142 xs142 bsxs142 ∧ Below w.heap.size w w' ∧ m_spec_l12Order_L4 d0 y12 i143 K4 g i245 xs246 i247 = some r) 2 (fun f w' => ∃ (i195 : Int) (xs196 : List Int) (uxs196 : Value), f 0 = .pointer (some ⟨ba0, oa0, none⟩) ∧ f 3 = v4 ∧ f 5 = .slice (some ⟨b153, 0, none⟩) y12.length c146 ∧ f 6 = uxs141 ∧ f 7 = uxs142 ∧ f 8 = .int .i64 i143 ∧ f 9 = .int .i64 i195 ∧ f 10 = uxs196 ∧ OwF 2 encI 1 w' w.heap.size uxs196 xs196 ∧ Dj uxs196 v4 ∧ Ap (fb uxs196) bs17 ∧ Dj uxs196 uxs141 ∧ Ap (fb uxs196) bsxs142 ∧ OwF 2 encI 1 w' w.heap.size v4 y2.1 ∧ OwN 26 (slOw intOw 1) 1 w' w.heap.size (.slice (some ⟨b153, 0, none⟩) y12.length c146) y12 bs17 ∧ OwF 2 encI 1 w' w.heap.size uxs141 xs141 ∧ OwN 26 (slOw intOw 1) 1 w' w.heap.size uxs142 xs142 bsxs142 ∧ Below w.heap.size w w' ∧ m_spec_l12Order_A4 rec1 xs141 xs142 i143 i195 xs196 = some r) (((getI y12 i143).getD default).length + 1) ⟨x178, y188, 1, (v190), s0_1, s3_1, s5_1, s6_1, s7_1, s8_1, rfl, rfl, G191, rfl, (by omega), (Ap.dj (Dj.ap Zo192_o6)), Zo192_o16, (Ap.dj (Dj.ap Zo192_oxs141)), Zo192_oxs142, G5, G15, Guxs141, Guxs142, T, hm⟩ ?_ ?_
        · rintro f w197 ⟨i195, xs196, uxs196, s0_4x, s3_4x, s5_4x, s6_4x, s7_4x, s8_4x, s9_4x, s10_4x, Guxs196, Doxs196_o6, Doxs196_o16, Doxs196_oxs141, Doxs196_oxs142, G5, G15, Guxs141, Guxs142, T, hm⟩
          unfold m_spec_l12Order_A4 at hm
          refine blk_hit (then_n ?_)
          refine wp_seq ?_
          refine wp_rl rfl ?_
          refine RL.y rfl (Y.move (v := uxs141) s6_4x) ?_
          refine RL.y rfl (Y.move (v := .int .i64 i195) s9_4x) ?_
          refine RL.bslice (e := 2) (cells := #[.int .i64 i195]) rfl (pm1 rfl) (by kernel_rfl) (fun w198 B199 hb200 szw198 => ?_)
          have ZB199 : w.heap.size ≤ w197.heap.size := T.size
          have Do201_o6 := Dj.new (v := .slice (some ⟨w197.heap.size, 0, none⟩) 1 1) litGe (OwF.hi G5)
          have Do201_o16 : Ap bs17 [w197.heap.size] := Ap.far (OwN.hi G15)
          have Do201_oxs141 := Dj.new (v := .slice (some ⟨w197.heap.size, 0, none⟩) 1 1) litGe (OwF.hi Guxs141)
          have Do201_oxs142 : Ap bsxs142 [w197.heap.size] := Ap.far (OwN.hi Guxs142)
          have Do201_oxs196 := Dj.new (v := .slice (some ⟨w197.heap.size, 0, none⟩) 1 1) litGe (OwF.hi Guxs196)
          have G5 := OwF.below G5 hb200
          have G15 := OwN.below (slOw_ok intOw_ok) G15 hb200
          have Guxs141 := OwF.below Guxs141 hb200
          have Guxs142 := OwN.below (slOw_ok intOw_ok) Guxs142 hb200
          have Guxs196 := OwF.below Guxs196 hb200
          have T := Tt T hb200
          have G202 := OwF.lit (enc := encI) (sz := 1) (xs := [i195]) B199 ZB199 rfl rfl rfl rfl
          obtain ⟨_, m204, hm⟩ := bnd hm
          have hk205 := mustP_some m204
          refine RL.append fI app_int64 rfl rfl rfl Guxs141 (OwF.arg fI G202) T.size hk205 (fun v206 w207 G208 hgr209 hbl210 hnb211 => ?_)
          have szw207 := hbl210.size
          have Do212_o6 := Dj.app Doxs141_o6 hnb211 (OwF.hi G5)
          have Do212_o16 := Ap.appF (Ap.symm Doxs141_o16) hnb211 (OwN.hi G15)
          have Do212_oxs142 := Ap.appF Doxs142_oxs141 hnb211 (OwN.hi Guxs142)
          have Do212_oxs196 := Dj.app (Dj.symm Doxs196_oxs141) hnb211 (OwF.hi Guxs196)
          have G5 := OwF.keptD G5 hgr209 (Dj.symm Doxs141_o6)
          have G15 := OwN.grown (slOw_ok intOw_ok) G15 hgr209 (Ap.symm Doxs141_o16)
          have Guxs142 := OwN.grown (slOw_ok intOw_ok) Guxs142 hgr209 Doxs142_oxs141
          have Guxs196 := OwF.keptD Guxs196 hgr209 Doxs196_oxs141
          have T := T.trans hbl210
          refine RL.y rfl (Y.assign (v := v206) rfl) ?_
          refine RL.nil ?_
          refine then_n ?_
          refine wp_rl rfl ?_
          refine RL.y rfl (Y.move (v := uxs142) s7_4x) ?_
          refine RL.y rfl (Y.move (v := uxs196) s10_4x) ?_
          obtain ⟨A217, c218, rfl⟩ := OwF.form Guxs196
          have qbA217 := OwF.bound Guxs196
          refine RL.bslice (e := 26) (cells := #[.slice A217 xs196.length c218]) rfl (pm1 rfl) (by kernel_rfl) (fun w213 B214 hb215 szw213 => ?_)
          have ZB214 : w.heap.size ≤ w207.heap.size := T.size
          have q219 := OwF.fboth Guxs196 (Nat.le_refl _)
          have z220 := Ap.cons (Ap.farL (OwF.fhi G5)) (Dj.ap Doxs196_o6)
          have z221 := Ap.cons (Ap.farL (OwN.hi G15)) Doxs196_o16
          have z222 := Ap.cons (Ap.farL (OwN.hi Guxs142)) Doxs196_oxs142
          have z223 := Ap.cons (Ap.farL (OwF.fhi G208)) (Ap.symm (Dj.ap Do212_oxs196))
          have G5 := OwF.below G5 hb215
          have G15 := OwN.below (slOw_ok intOw_ok) G15 hb215
          have Guxs142 := OwN.below (slOw_ok intOw_ok) Guxs142 hb215
          have Guxs196 := OwF.below Guxs196 hb215
          have G208 := OwF.below G208 hb215
          have T := Tt T hb215
          obtain ⟨l225, a224, nd226, sb227, r228⟩ := OwF.own2 fI Guxs196
          have G229 : OwN 26 (slOw intOw 1) 1 w213 w.heap.size (.slice (some ⟨w207.heap.size, 0, none⟩) 1 1) [xs196] (w207.heap.size :: (fb (.slice A217 xs196.length c218))) := OwN.lit1 (b1 := l225) B214 ZB214 ⟨_, _, _, rfl, a224, r228⟩ (slOw_ok intOw_ok) nd226 sb227 q219
          obtain ⟨_, m231, hm⟩ := bnd hm
          have hk232 := mustP_some m231
          refine RL.appendN (slOw_ok intOw_ok) slOw_one (by decide) app_int64_ rfl rfl rfl Guxs142 G229 (Ap.symm z222) T.size hk232 (fun v233 w234 bs235 G236 hgr237 hbl238 hnb239 => ?_)
          have szw234 := hbl238.size
          have z241 := Ap.app hnb239 Doxs142_o6 z220 (OwF.fhi G5)
          have z242 := Ap.app hnb239 Doxs142_o16 z221 (OwN.hi G15)
          have z243 := Ap.app hnb239 Do212_oxs142 z223 (OwF.fhi G208)
          have G5 := OwF.keptD G5 hgr237 (OwN.dj Guxs142 Doxs142_o6)
          have G15 := OwN.grown (slOw_ok intOw_ok) G15 hgr237 (OwN.apRow Guxs142 Doxs142_o16)
          have G208 := OwF.keptD G208 hgr237 (OwN.dj Guxs142 Do212_oxs142)
          have T := T.trans hbl238
          refine RL.y rfl (Y.assign (v := v233) rfl) ?_
          refine RL.nil ?_
          refine blk_n (then_n ?_)
          refine wp_rs rfl ?_
          refine RQ.y rfl (Y.move (v := .int .i64 i143) s8_4x) ?_
          obtain ⟨s244, ks244, hm⟩ := bnd hm
          replace ks244 := ck_some ks244
          refine RQ.y rfl (Y.binI (v := .int .i64 s244) rfl rfl (by rw [binI_add ks244.2, ks244.1])) ?_
          refine RQ.y rfl (Y.assign (v := .int .i64 s244) rfl) ?_
          refine RQ.nil ?_
          exact (then_n ⟨g, _, Nat.lt_succ_self _, rfl, ⟨(xs141 ++ [i195]), (xs142 ++ [xs196]), s244, (v206), (v233), bs235, s0_4x, s3_4x, s5_4x, rfl, G208, rfl, G236, rfl, (by omega), (Ap.dj (Dj.ap Do212_o6)), (Ap.symm Do212_o16), z243, z241, z242, G5, G15, T, (by rw [← hrec1]; exact hm)⟩⟩)
        · rintro g f w248 ⟨i245, xs246, i247, uxs246, s0_4, s3_4, s5_4, s6_4, s7_4, s8_4, s9_4, s10_4, Guxs246, s11_4, nn11_4, Doxs246_o6, Doxs246_o16, Doxs246_oxs141, Doxs246_oxs142, G5, G15, Guxs141, Guxs142, T, hm⟩
          rcases g with _ | g
          · simp only [m_spec_l12Order_L4] at hm; cases hm
          obtain ⟨rec4, hrec4, hm⟩ : ∃ z, z = m_spec_l12Order_L4 d0 y12 i143 K4 g ∧ m_spec_l12Order_B4 d0 y12 i143 z K4 i245 xs246 i247 = some r := ⟨_, rfl, hm⟩
          unfold m_spec_l12Order_B4 at hm
          refine wp_seq ?_
          refine wp_seq ?_
          refine wp_rs rfl ?_
          refine RQ.y rfl (Y.move (v := .int .i64 i247) s11_4) ?_
          refine RQ.y rfl (Y.move (v := .slice (some ⟨b153, 0, none⟩) y12.length c146) s5_4) ?_
          refine RQ.y rfl (Y.move (v := .int .i64 i143) s8_4) ?_
          obtain ⟨x249, hx251, hm⟩ := bnd hm
          obtain ⟨k250, hk252, hl253, hx251⟩ := getI_some hx251
          refine RQ.y rfl (Y.indexAddr (m := k250) (sz := 1) rfl rfl hk252 hl253 (by kernel_rfl)) ?_
          obtain ⟨cs254, hR255, hc256⟩ := OwN.rd (slOw_ok intOw_ok) (slOw_reads (intOw_reads _)) G15 hx251
          obtain ⟨A257, n257, c257, rfl, h257, r257⟩ := hR255
          have e257 := h257.len; subst e257
          have q257 := len_le r257
          refine RQ.y rfl (Y.load (v := .slice A257 x249.length c257) rfl (by kernel_rfl) (eqC (hc256 0 _ rfl))) ?_
          refine RQ.y rfl (Y.len (by kernel_rfl) rfl) ?_
          refine RQ.y rfl (Y.binI (v := .bool (decide (i247 < (x249.length : Int)))) rfl rfl rfl) ?_
          refine RQ.nil ?_
          refine then_n ?_
          rcases bcases (decide (i247 < (x249.length : Int))) with c258 | c258
          · replace hm := cF c258 hm
            have pc258 := of_decide_eq_false c258
            refine cond_f rfl (vb rfl c258) ?_
            refine wp_exit ?_
            exact (then_x (then_x (hit_x ⟨_, rfl, ⟨i245, xs246, (uxs246), s0_4, s3_4, s5_4, s6_4, s7_4, s8_4, s9_4, s10_4, Guxs246, (Ap.dj (Dj.ap Doxs246_o6)), Doxs246_o16, (Ap.dj (Dj.ap Doxs246_oxs141)), Doxs246_oxs142, G5, G15, Guxs141, Guxs142, T, (by rw [hK4] at hm; exact hm)⟩⟩)))
          · replace hm := cT c258 hm
            have pc258 := of_decide_eq_true c258
            refine cond_t rfl (vb rfl c258) ?_
            refine wp_skip ?_
            refine then_n ?_
            refine wp_seq ?_
            refine wp_block ?_
            refine wp_seq ?_
            refine wp_rl rfl ?_
            refine RL.y rfl (Y.move (v := .pointer (some ⟨ba0, oa0, none⟩)) s0_4) ?_
            refine RL.y rfl (Y.move (v := .slice (some ⟨b153, 0, none⟩) y12.length c146) s5_4) ?_
            refine RL.y rfl (Y.move (v := .int .i64 i143) s8_4) ?_
            obtain ⟨x259, hx261, hm⟩ := bnd hm
            obtain ⟨k260, hk262, hl263, hx261⟩ := getI_some hx261
            refine RL.y rfl (Y.indexAddr (m := k260) (sz := 1) rfl rfl hk262 hl263 (by kernel_rfl)) ?_
            obtain ⟨cs264, hR265, hc266⟩ := OwN.rd (slOw_ok intOw_ok) (slOw_reads (intOw_reads _)) G15 hx261
            obtain ⟨A267, n267, c267, rfl, h267, r267⟩ := hR265
            have e267 := h267.len; subst e267
            have q267 := len_le r267
            refine RL.y rfl (Y.load (v := .slice A267 x259.length c267) rfl (by kernel_rfl) (eqC (hc266 0 _ rfl))) ?_
            refine RL.y rfl (Y.move (v := .int .i64 i247) s11_4) ?_
            obtain ⟨x268, hx271, hm⟩ := bnd hm
            obtain ⟨k269, hk272, hl273, hx271⟩ := getI_some hx271
            have hl275 : k269 < x259.length := by have := h267.len; omega
            obtain ⟨b276, o277, rfl, hbb276⟩ := h267.addr (by omega)
            obtain ⟨cs270, hRcs270, hc274⟩ := h267.el hx271
            have hScs270 := hRcs270
            obtain rfl := hRcs270
            refine RL.y rfl (Y.indexAddr (m := k269) (sz := 1) rfl rfl hk272 hl273 (by kernel_rfl)) ?_
            refine RL.y rfl (Y.load (v := .int .i64 x268) rfl (by kernel_rfl) (eqC (hc274 0 _ rfl))) ?_
            obtain ⟨y278, e279, hm⟩ := bnd hm
            refine RL.call rfl (am2 rfl rfl) (by kernel_rfl) ((c_m_spec_l12Code d0 x268 _ e279 _ _ (ptArg netRd_ok hba0 hSa0 hca0 T)).mono ?_)
            rintro _ w283 ⟨⟨v280, rfl, G281⟩, hb284⟩
            refine ⟨_, rfl, ?_⟩
            have szw283 := hb284.size
            have T0w283 := T.size
            have Zo282_o6 := Ap.dj (Ap.new (OwF.flo G281) (OwF.fhi G5))
            have Zo282_o16 : Ap (fb v280) bs17 := (Ap.new (OwF.flo G281) (OwN.hi G15))
            have Zo282_oxs141 := Ap.dj (Ap.new (OwF.flo G281) (OwF.fhi Guxs141))
            have Zo282_oxs142 : Ap (fb v280) bsxs142 := (Ap.new (OwF.flo G281) (OwN.hi Guxs142))
            have Zo282_oxs246 := Ap.dj (Ap.new (OwF.flo G281) (OwF.fhi Guxs246))
            have G5 := OwF.below G5 hb284
            have G15 := OwN.below (slOw_ok intOw_ok) G15 hb284
            have Guxs141 := OwF.below Guxs141 hb284
            have Guxs142 := OwN.below (slOw_ok intOw_ok) Guxs142 hb284
            have Guxs246 := OwF.below Guxs246 hb284
            have T := Tt T hb284
            replace G281 := OwF.mono G281 T0w283
            refine RL.y rfl (Y.assign (v := v280) rfl) ?_
            refine RL.nil ?_
            refine then_n ?_
            refine wp_seq ?_
            refine wp_rb rfl ?_
            refine RQ.y rfl (Y.move (v := v280) rfl) ?_
            refine RQ.y rfl (Y.move (v := uxs246) s10_4) ?_
            obtain ⟨y285, e286, hm⟩ := bnd hm
            refine RQ.call rfl (am2 rfl rfl) (by kernel_rfl) (v := .bool y285) (bel (K := fun _ => True) fun w' hb' => (c_m_spec_l12Less y278 xs246 _ e286 _ _ w' (OwF.arg fI (OwF.below G281 hb')) (OwF.arg fI (OwF.below Guxs246 hb')))) ?_
            refine RQ.nil ?_
            intro w287 hb288
            have szw287 := hb288.size
            have G5 := OwF.below G5 hb288
            have G15 := OwN.below (slOw_ok intOw_ok) G15 hb288
            have Guxs141 := OwF.below Guxs141 hb288
            have Guxs142 := OwN.below (slOw_ok intOw_ok) Guxs142 hb288
            have Guxs246 := OwF.below Guxs246 hb288
            have G281 := OwF.below G281 hb288
            have T := Tt T hb288
            refine then_n ?_
            rcases bcases y285 with c289 | c289
            · replace hm := cF c289 hm
              refine cond_f rfl (vb rfl c289) ?_
              refine wp_skip ?_
              refine blk_n (then_n ?_)
              refine wp_rs rfl ?_
              refine RQ.y rfl (Y.move (v := .int .i64 i247) s11_4) ?_
              refine RQ.y rfl (Y.binI rfl rfl (binI_add (m := i247) (by omega))) ?_
              refine RQ.y rfl (Y.assign (v := .int .i64 (i247 + 1)) rfl) ?_
              refine RQ.nil ?_
              exact (then_n ⟨g, _, Nat.lt_succ_self _, rfl, ⟨i245, xs246, (i247 + 1), (uxs246), s0_4, s3_4, s5_4, s6_4, s7_4, s8_4, s9_4, s10_4, Guxs246, rfl, (by omega), (Ap.dj (Dj.ap Doxs246_o6)), Doxs246_o16, (Ap.dj (Dj.ap Doxs246_oxs141)), Doxs246_oxs142, G5, G15, Guxs141, Guxs142, T, (by rw [← hrec4]; exact hm)⟩⟩)
            · replace hm := cT c289 hm
              refine cond_t rfl (vb rfl c289) ?_
              refine wp_seq ?_
              refine wp_rs rfl ?_
              refine RQ.y rfl (Y.move (v := v280) rfl) ?_
              refine RQ.y rfl (Y.assign (v := v280) rfl) ?_
              refine RQ.nil ?_
              refine then_n ?_
              refine wp_rs rfl ?_
              refine RQ.y rfl (Y.move (v := .slice (some ⟨b153, 0, none⟩) y12.length c146) s5_4) ?_
              refine RQ.y rfl (Y.move (v := .int .i64 i143) s8_4) ?_
              obtain ⟨x290, hx292, hm⟩ := bnd hm
              obtain ⟨k291, hk293, hl294, hx292⟩ := getI_some hx292
              refine RQ.y rfl (Y.indexAddr (m := k291) (sz := 1) rfl rfl hk293 hl294 (by kernel_rfl)) ?_
              obtain ⟨cs295, hR296, hc297⟩ := OwN.rd (slOw_ok intOw_ok) (slOw_reads (intOw_reads _)) G15 hx292
              obtain ⟨A298, n298, c298, rfl, h298, r298⟩ := hR296
              have e298 := h298.len; subst e298
              have q298 := len_le r298
              refine RQ.y rfl (Y.load (v := .slice A298 x290.length c298) rfl (by kernel_rfl) (eqC (hc297 0 _ rfl))) ?_
              refine RQ.y rfl (Y.move (v := .int .i64 i247) s11_4) ?_
              obtain ⟨x299, hx302, hm⟩ := bnd hm
              obtain ⟨k300, hk303, hl304, hx302⟩ := getI_some hx302
              have hl306 : k300 < x290.length := by have := h298.len; omega
              obtain ⟨b307, o308, rfl, hbb307⟩ := h298.addr (by omega)
              obtain ⟨cs301, hRcs301, hc305⟩ := h298.el hx302
              have hScs301 := hRcs301
              obtain rfl := hRcs301
              refine RQ.y rfl (Y.indexAddr (m := k300) (sz := 1) rfl rfl hk303 hl304 (by kernel_rfl)) ?_
              refine RQ.y rfl (Y.load (v := .int .i64 x299) rfl (by kernel_rfl) (eqC (hc305 0 _ rfl))) ?_
              refine RQ.y rfl (Y.assign (v := .int .i64 x299) rfl) ?_
              refine RQ.nil ?_
              refine blk_n (then_n ?_)
              refine wp_rs rfl ?_
              refine RQ.y rfl (Y.move (v := .int .i64 i247) s11_4) ?_
              refine RQ.y rfl (Y.binI rfl rfl (binI_add (m := i247) (by omega))) ?_
              refine RQ.y rfl (Y.assign (v := .int .i64 (i247 + 1)) rfl) ?_
              refine RQ.nil ?_
              exact (then_n ⟨g, _, Nat.lt_succ_self _, rfl, ⟨x299, y278, (i247 + 1), (v280), s0_4, s3_4, s5_4, s6_4, s7_4, s8_4, rfl, rfl, G281, rfl, (by omega), (Ap.dj (Dj.ap Zo282_o6)), Zo282_o16, (Ap.dj (Dj.ap Zo282_oxs141)), Zo282_oxs142, G5, G15, Guxs141, Guxs142, T, (by rw [← hrec4]; exact hm)⟩⟩)
      · replace hm := cT c168 hm
        refine cond_t rfl (vb rfl c168) ?_
        refine wp_exit ?_
        refine then_x (blk_hit (then_n ?_))
        refine wp_rs rfl ?_
        refine RQ.y rfl (Y.move (v := .int .i64 i143) s8_1) ?_
        refine RQ.y rfl (Y.binI rfl rfl (binI_add (m := i143) (by omega))) ?_
        refine RQ.y rfl (Y.assign (v := .int .i64 (i143 + 1)) rfl) ?_
        refine RQ.nil ?_
        exact (then_n ⟨g, _, Nat.lt_succ_self _, rfl, ⟨xs141, xs142, (i143 + 1), (uxs141), (uxs142), bsxs142, s0_1, s3_1, s5_1, s6_1, Guxs141, s7_1, Guxs142, rfl, (by omega), (Ap.dj (Dj.ap Doxs141_o6)), Doxs141_o16, Doxs142_oxs141, Doxs142_o6, Doxs142_o16, G5, G15, T, (by rw [← hrec1]; exact hm)⟩⟩)
end
section
open Go.RowKit Go.Shelf
set_option linter.unusedVariables false
set_option linter.unusedSimpArgs false
section
variable {α : Type} [Inhabited α]
omit [Inhabited α] in
theorem flat_get {enc : α → List Value} {k : Nat} (hk : ∀ x, (enc x).length = k) : ∀ (l : List α) (t : Nat), t < l.length * k → (l.flatMap enc)[t]? = (l[t / k]?).bind fun x => (enc x)[t % k]?
  | [], t, h => by simp at h
  | x :: l, t, h => by
    have k0 : 0 < k := by rcases Nat.eq_zero_or_pos k with h0 | h0
                          · subst h0; simp at h
                          · exact h0
    rw [List.flatMap_cons]
    by_cases ht : t < k
    · rw [List.getElem?_append_left (by rw [hk]; exact ht), Nat.div_eq_of_lt ht, Nat.mod_eq_of_lt ht]; rfl
    · have ht : k ≤ t := by omega
      obtain ⟨s, rfl⟩ : ∃ s, t = s + k := ⟨t - k, by omega⟩
      rw [List.length_cons, Nat.add_mul, Nat.one_mul] at h
      rw [List.getElem?_append_right (by rw [hk]; omega), hk, Nat.add_sub_cancel, flat_get hk l s (by omega), Nat.add_div_right _ k0, Nat.add_mod_right]; rfl
theorem flatK_toList {enc : α → List Value} {k : Nat} (hk : ∀ x, (enc x).length = k) (d : Array α) : (Go.Sort.flatK enc k d).toList = d.toList.flatMap enc := by
  apply List.ext_getElem?
  intro t
  have hl : ∀ l : List α, (l.flatMap enc).length = l.length * k := fun l => by
    induction l with
    | nil => simp
    | cons x l ih => rw [List.flatMap_cons, List.length_append, ih, hk, List.length_cons, Nat.add_mul]; omega
  by_cases ht : t < d.size * k
  · have k0 : 0 < k := by rcases Nat.eq_zero_or_pos k with h0 | h0
                          · subst h0; simp at ht
                          · exact h0
    have h1 : t / k < d.size := Nat.div_lt_of_lt_mul (by rwa [Nat.mul_comm])
    have h2 : t % k < k := Nat.mod_lt _ k0
    rw [flat_get hk _ _ (by simpa using ht)]
    have e := Go.Sort.get_flatK enc k d t ht
    rw [getElem!_pos _ t (by simpa using ht)] at e
    rw [Array.getElem?_toList, Array.getElem?_eq_getElem (by simpa using ht), e, Array.getElem?_toList, Array.getElem?_eq_getElem h1, Option.bind_some, getElem!_pos d _ h1, getElem!_pos _ _ (by rw [hk]; exact h2), List.getElem?_eq_getElem]
  · rw [List.getElem?_eq_none (by simp; omega), List.getElem?_eq_none (by rw [hl]; simp; omega)]
theorem grownBy_putRow {w : World} {g n : Nat} {os : Array Obj} (F : Array Value) : w.grownBy (Go.Sort.grow (Go.Sort.putRow id (Go.Sort.ahead w n) g 0 F) os) (some g) := by
  refine ⟨rfl, rfl, rfl, by simp, fun k hk hne => ?_⟩
  rw [Go.Sort.heap_grow_old _ _ (by simpa using hk)]
  have : g ≠ k := fun e => hne (by rw [e])
  simp [Go.Sort.putRow, Go.Sort.mapBlock, Go.Sort.ahead, Array.getElem?_modify, this]
theorem heap_putRow {w : World} {g n : Nat} {os : Array Obj} {cur : Array Value} {e : TypeId} {fr : Nat × Nat} (F : Array Value) (hb : w.heap[g]? = some (.cells cur e fr)) :
    (Go.Sort.grow (Go.Sort.putRow id (Go.Sort.ahead w n) g 0 F) os).heap[g]? = some (.cells (Go.Sort.putCells id 0 F cur) e fr) := by
  have hg : g < w.heap.size := (Array.getElem?_eq_some_iff.1 hb).1
  rw [Go.Sort.heap_grow_old _ _ (by simpa using hg)]
  simp [Go.Sort.putRow, Go.Sort.mapBlock, Go.Sort.ahead, Array.getElem?_modify, hb, Go.Sort.onCells]
theorem take_putCells (cur F : Array Value) (h : F.size ≤ cur.size) : (Go.Sort.putCells id 0 F cur).toList.take F.size = F.toList := by
  apply List.ext_getElem?
  intro j
  by_cases hj : j < F.size
  · rw [List.getElem?_take_of_lt hj, Array.getElem?_toList]
    simp [Go.Sort.putCells, hj, show j < cur.size by omega]
  · rw [List.getElem?_take_eq_none (by omega), List.getElem?_eq_none (by simp; omega)]
theorem holds_of_take {w : World} {g : Nat} {cur F : Array Value} {e : TypeId} (hb : w.heap[g]? = some (.cells cur e (0, 0))) (ht : cur.toList.take F.size = F.toList) : Go.Sort.Holds id w g 0 F := by
  intro j hj
  refine ⟨?_, by simp [World.frozen?, hb]⟩
  have h1 : (cur.toList.take F.size)[j]? = F.toList[j]? := by rw [ht]
  rw [List.getElem?_take_of_lt hj] at h1
  simp only [World.cell?, hb, Nat.zero_add]
  simp only [Option.isSome_none, Bool.false_eq_true, if_false]
  rw [← Array.getElem?_toList, h1]
  simp [hj]
end
/-- An element with its cells and blocks, as the world w lays it; none of the blocks is g. -/
abbrev Sub (w : World) (g : Nat) := { t : List Value × DTraversal × List Nat // traversalOw w t.1 t.2.1 t.2.2 ∧ ∀ b ∈ t.2.2, b < w.heap.size ∧ b ≠ g }
instance (w : World) (g : Nat) : Inhabited (Sub w g) := ⟨⟨([.slice none 0 0, .slice none 0 0, .int .i64 0], ⟨[], [], 0⟩, []), ⟨none, 0, 0, none, 0, 0, [], [], rfl, ⟨⟨rfl, .inl ⟨rfl, rfl⟩⟩, Nat.le_refl _, Nat.zero_le _⟩, ⟨⟨rfl, .inl ⟨rfl, rfl⟩⟩, Nat.le_refl _, Nat.zero_le _⟩, rfl⟩, fun b hb => by simp at hb⟩⟩
section
variable {w w' : World} {g : Nat}
def Sub.enc (t : Sub w g) : List Value := t.1.1
def Sub.dat (t : Sub w g) : DTraversal := t.1.2.1
def Sub.bls (t : Sub w g) : List Nat := t.1.2.2
theorem Parts.subs : ∀ {xs : List DTraversal} {cells : List Value} {ib : List Nat}, Parts traversalOw w cells xs ib → (∀ b ∈ ib, b < w.heap.size ∧ b ≠ g) → ∃ ts : List (Sub w g), ts.map Sub.dat = xs ∧ ts.flatMap Sub.enc = cells ∧ ts.flatMap Sub.bls = ib
  | [], _, _, ⟨e1, e2⟩, _ => ⟨[], rfl, by rw [e1]; rfl, by rw [e2]; rfl⟩
  | x :: xs, _, _, ⟨cs, rest, b1, b2, e1, hO, e2, hr⟩, hb => by
    subst e1 e2
    obtain ⟨ts, h1, h2, h3⟩ := Parts.subs hr (fun b h => hb b (by simp [h]))
    refine ⟨⟨(cs, x, b1), hO, fun b h => hb b (by simp [h])⟩ :: ts, ?_, ?_, ?_⟩
    · rw [List.map_cons, h1]; rfl
    · rw [List.flatMap_cons, h2]; rfl
    · rw [List.flatMap_cons, h3]; rfl
theorem Parts.of_subs : ∀ {ts : List (Sub w g)}, (∀ t ∈ ts, ∀ b ∈ t.bls, w'.heap[b]? = w.heap[b]?) → Parts traversalOw w' (ts.flatMap Sub.enc) (ts.map Sub.dat) (ts.flatMap Sub.bls)
  | [], _ => ⟨rfl, rfl⟩
  | t :: ts, h => ⟨t.enc, ts.flatMap Sub.enc, t.bls, ts.flatMap Sub.bls, by rw [List.flatMap_cons], traversalOw_ok.keep (h t (by simp)) t.2.1, by rw [List.flatMap_cons], Parts.of_subs (fun u hu => h u (by simp [hu]))⟩
end
theorem sortT_own {P : Program} {ρ : Ren} (L : Go.Proofs.SlLaysF0.n6 P ρ) (aE : ∀ w, (isAgg (ρ.t 24)).run P w = .ok true w) (zE : ∀ w, (Go.sizeOf (ρ.t 24)).run P w = .ok 3 w) (fn : Nat)
    (eg : ∀ args w, (callFunc fn args).run P w = .ok (.enter fn args) w)
    (hcl : ∀ (W : World) (c1 c2 : List Value) (x y : DTraversal), traversalRd W W.heap.size c1 x → traversalRd W W.heap.size c2 y → Calls P fn #[.agg c1.toArray, .agg c2.toArray] W fun e w' => e = .returned (.int .i64 (cmpT x y)) ∧ ∃ q os', w' = Go.Sort.grow (W.drewN q) os')
    {w : World} {lo : Nat} {e : TypeId} {v : Value} {xs : List DTraversal} {bs : List Nat} (h : OwN e traversalOw 3 w lo v xs bs) (hlo : lo ≤ w.heap.size) (hk : xs.length ≤ 4294967296) (hn : (xs.map (·.least)).Nodup) :
    Calls P (ρ.f 6) #[v, .func (.func fn) #[] #[]] w fun r w' => r = .returned (.tuple #[]) ∧ OwN e traversalOw 3 w' lo v (srtT xs) bs ∧ w.grownBy w' v.ownBlock ∧ Below lo w w' := by
  obtain ⟨cells, ib, h1, h2, h3, h4, h5, h6⟩ := h
  rcases h1.2 with ⟨rfl, h0⟩ | ⟨g, cap, cur, rfl, hg, hb, hnc, hcap, hsz, htk⟩
  · have hx : xs = [] := List.eq_nil_of_length_eq_zero h0
    subst hx
    refine (Go.Proofs.AnyF.slices_SortFunc_none L none 0 _ w).mono ?_
    rintro r w' ⟨rfl, rfl⟩
    have e0 : srtT [] = [] := List.eq_nil_of_length_eq_zero (by simpa using (srtT_perm []).length_eq)
    exact ⟨rfl, by rw [e0]; exact ⟨cells, ib, h1, h2, h3, h4, h5, h6⟩, World.grownBy.refl _ _, Below.refl _ _⟩
  · have hgs : g < w.heap.size := (Array.getElem?_eq_some_iff.1 hb).1
    obtain ⟨ts, t1, t2, t3⟩ := Parts.subs (g := g) h2 (fun b hin => ⟨(h6 b (h4 b hin)).2, fun e1 => (h5 g rfl).2 (e1 ▸ hin)⟩)
    have hlen : ts.length = xs.length := by rw [← t1, List.length_map]
    have hk3 : ∀ t : Sub w g, t.enc.length = 3 := fun t => traversalOw_ok.len t.2.1
    have hF : (Go.Sort.flatK Sub.enc 3 ts.toArray).toList = cells := by rw [flatK_toList hk3, ← t2]
    have hFs : (Go.Sort.flatK (Sub.enc (w := w) (g := g)) 3 ts.toArray).size = xs.length * 3 := by rw [Go.Sort.size_flatK]; simp [hlen]
    have hH : Go.Sort.HoldsK (Sub.enc (w := w) (g := g)) 3 w g 0 ts.toArray := holds_of_take hb (by rw [hFs, hF]; exact htk)
    have hkeep : ∀ (m : Nat) (os : Array Obj) (dk : Array (Sub w g)), w.grownBy (Go.Proofs.sortWorldK Sub.enc 3 w g 0 m dk os) (some g) := fun m os dk => grownBy_putRow _
    have hcmp : Go.Proofs.CmpLays P fn #[] (Sub.enc (w := w) (g := g)) 3 (fun x y => cmpT x.dat y.dat) g 0 ts.toArray.size w := fun m os dk hs x y => by
      have K := hkeep m os dk
      have rd : ∀ t : Sub w g, traversalRd (Go.Proofs.sortWorldK Sub.enc 3 w g 0 m dk os) (Go.Proofs.sortWorldK Sub.enc 3 w g 0 m dk os).heap.size t.enc t.dat := fun t =>
        traversalOw_reads _ _ _ _ _ (traversalOw_ok.keep (fun b hin => K.block b (t.2.2 b hin).1 (fun e1 => (t.2.2 b hin).2 (by injection e1))) t.2.1) (fun b hin => Nat.lt_of_lt_of_le (t.2.2 b hin).1 K.size)
      have := hcl _ _ _ _ _ (rd x) (rd y)
      simpa using this
    have hc := Go.Proofs.AnyQ.slices_SortFunc L 3 aE zE (Sub.enc (w := w) (g := g)) hk3 (fun t u hu => traversalOw_one t.2.1 u hu) (fun x y => cmpT x.dat y.dat) (swoT Sub.dat) fn #[] g 0 cap ts.toArray w eg hcmp hH hgs (by simp; omega)
    rw [show ts.toArray.size = xs.length by simp [hlen]] at hc
    refine hc.mono ?_
    rintro r w' ⟨rfl, d', n, os, hp, hs, rfl⟩
    have hd : d'.size = xs.length := hp.1.trans (by simp [hlen])
    have hperm : d'.toList.Perm ts := by
      have := hp.2.2
      rwa [Array.extract_eq_self_of_le (by omega), Array.extract_eq_self_of_le (by simp [hlen]), show ts.toArray.toList = ts by simp] at this
    have hpd : (d'.toList.map Sub.dat).Perm xs := by rw [← t1]; exact hperm.map _
    have hsort : (d'.toList.map Sub.dat).Pairwise (fun x y => 0 ≤ cmpT y x) := by
      rw [List.pairwise_map, List.pairwise_iff_getElem]
      intro i j hi hj hij
      have hi' : i < d'.size := by simpa using hi
      have hj' : j < d'.size := by simpa using hj
      have := hs i j (Nat.zero_le _) hij (by omega)
      unfold Go.Proofs.ltOf at this
      rw [getElem!_pos d' i hi', getElem!_pos d' j hj'] at this
      simpa using this
    have hE : d'.toList.map Sub.dat = srtT xs := srtT_unique hn hpd hsort
    have K := hkeep n os d'
    have hl2 : (srtT xs).length = xs.length := (srtT_perm xs).length_eq
    have hib : (d'.toList.flatMap Sub.bls).Perm ib := by rw [← t3]; exact hperm.flatMap_right _
    have hF2 : (Go.Sort.flatK Sub.enc 3 d').toList = d'.toList.flatMap Sub.enc := flatK_toList hk3 d'
    have hFs2 : (Go.Sort.flatK (Sub.enc (w := w) (g := g)) 3 d').size = xs.length * 3 := by rw [Go.Sort.size_flatK, hd]
    have hcs : xs.length * 3 ≤ cur.size := by rw [hsz]; exact Nat.mul_le_mul_right _ hnc
    refine ⟨rfl, ⟨d'.toList.flatMap Sub.enc, d'.toList.flatMap Sub.bls, ⟨?_, .inr ⟨g, cap, _, by rw [hl2], hg, heap_putRow _ hb, by omega, hcap, by simp [Go.Sort.putCells, hsz], ?_⟩⟩, ?_, ?_, ?_, ?_, ?_⟩, K, ?_⟩
    · rw [← hF2, Array.length_toList, hFs2, hl2]
    · have ht := take_putCells cur (Go.Sort.flatK Sub.enc 3 d') (by rw [hFs2]; exact hcs)
      rw [hFs2, hF2] at ht
      rw [hl2]; exact ht
    · rw [← hE]
      exact Parts.of_subs (fun t _ b hin => K.block b (t.2.2 b hin).1 (fun e1 => (t.2.2 b hin).2 (by injection e1)))
    · exact hib.nodup_iff.2 h3
    · exact fun b hin => h4 b (hib.mem_iff.1 hin)
    · intro b hbk
      obtain ⟨q1, q2⟩ := h5 b hbk
      exact ⟨q1, fun hin => q2 (hib.mem_iff.1 hin)⟩
    · intro b hin
      obtain ⟨q1, q2⟩ := h6 b hin
      exact ⟨q1, Nat.lt_of_lt_of_le q2 K.size⟩
    · exact (Below.refl lo w).grown K hlo (by intro b hbk; cases hbk; exact hg)
end
section
open Go.RowKit
set_option linter.unusedVariables false
set_option linter.unusedSimpArgs false
theorem dropS {α : Type} {l : List α} {k : Nat} {x : α} (h : l[k]? = some x) : l.drop k = x :: l.drop (k + 1) := by
  obtain ⟨hk, e⟩ := List.getElem?_eq_some_iff.1 h
  rw [← e]; exact List.drop_eq_getElem_cons hk
theorem cmpL_cons (x y : Int) (xs ys : List Int) : cmpL (x :: xs) (y :: ys) = if Lib.compareInt x y = 0 then cmpL xs ys else Lib.compareInt x y := by rw [cmpL]
theorem Compare_q (v u : Value) (xs ys : List Int) (w : World) {B B' : Nat} (h : RdS intRd 1 w B v xs) (h' : RdS intRd 1 w B' u ys) :
    Calls Tryz.prog 57 #[v, u] w fun e w' => e = .returned (.int .i64 (cmpL xs ys)) ∧ w' = w := by
  obtain ⟨A, n, c, rfl, hx, hnc, hcm⟩ := h
  obtain ⟨C, m, d, rfl, hy, hmd, hdm⟩ := h'
  unfold maxLen at hcm hdm
  have lx := Lib.hid hx.len
  have ly := Lib.hid hy.len
  have hcon := fun x y W => Go.Proofs.AnyG.cmp_Compare_int layCmp x y W
  change ∀ x y W, Calls Tryz.prog 58 #[.int .i64 x, .int .i64 y] W _ at hcon
  go_enter Tryz.func57, Tryz.ntmps57
  go_wp2_with fail
  go_loopw [11] (fun i wr => ∃ k : Nat, k ≤ n ∧ i = .int .i64 k ∧ Hid (cmpL xs ys = cmpL (xs.drop k) (ys.drop k)) ∧ Hid (wr = w)) (fun i _ => n - (intOf i).toNat)
  case atStart => exact ⟨0, by omega, rfl, rfl, rfl⟩
  case round =>
    obtain ⟨k, hk, rfl, ht, hq⟩ := hrel
    obtain rfl := hq.out
    clear hq
    by_cases hlt : k < n
    · obtain ⟨b, off, x, rfl, hb, hxk, hc⟩ := hx.int hlt
      have Hxk := Lib.hid hxk
      clear hxk
      by_cases hkm : k < m
      · obtain ⟨b', off', y, rfl, hb', hyk, hc'⟩ := hy.int hkm
        have Hyk := Lib.hid hyk
        clear hyk
        by_cases h0 : Lib.compareInt x y = 0
        · have H0 := Lib.hid h0
          have hcon1 := hcon x y wr
          rw [h0] at hcon1
          clear h0
          go_wp2_with (go_at_call 58; refine hcon1.mono ?_; rintro e w' ⟨rfl, rfl⟩)
          go_roundw
          case rel =>
            refine ⟨k + 1, by omega, by go_num, ?_, trivial⟩
            show cmpL xs ys = _
            rw [ht.out, dropS Hxk.out, dropS Hyk.out, cmpL_cons, if_pos H0.out]
          case measure => simp [intOf]; omega
        · have H0 := Lib.hid h0
          have hcon1 := hcon x y wr
          obtain ⟨r, hr⟩ : ∃ r, r = Lib.compareInt x y := ⟨_, rfl⟩
          rw [← hr] at hcon1
          have hr0 : (r != 0) = true := by rw [hr]; simpa using h0
          have HR := Lib.hid hr
          clear h0 hr
          go_wp2_with (go_at_call 58; refine hcon1.mono ?_; rintro e w' ⟨rfl, rfl⟩)
          go_ret
          have hfin : cmpL xs ys = r := by rw [ht.out, dropS Hxk.out, dropS Hyk.out, cmpL_cons, if_neg H0.out, HR.out]
          exact ⟨by rw [hfin]; rfl, rfl⟩
      · go_wp2_with fail
        go_ret
        have hys : ys.drop k = [] := List.drop_eq_nil_of_le (by have := ly.out; omega)
        have hfin : cmpL xs ys = 1 := by rw [ht.out, dropS Hxk.out, hys]; rfl
        exact ⟨by rw [hfin]; rfl, rfl⟩
    · have hxs := Lib.hid (show xs.drop k = [] from List.drop_eq_nil_of_le (by have := lx.out; omega))
      by_cases hnm : n < m
      · go_wp2_with fail
        go_ret
        have hfin : cmpL xs ys = -1 := by
          obtain ⟨y, hy1⟩ : ∃ y, ys[k]? = some y := ⟨ys[k]'(by have := ly.out; omega), List.getElem?_eq_getElem _⟩
          rw [ht.out, hxs.out, dropS hy1]; rfl
        exact ⟨by rw [hfin]; rfl, rfl⟩
      · go_wp2_with fail
        go_ret
        have hfin : cmpL xs ys = 0 := by rw [ht.out, hxs.out, show ys.drop k = [] from List.drop_eq_nil_of_le (by have := ly.out; omega)]; rfl
        exact ⟨by rw [hfin]; rfl, rfl⟩
theorem Or_q (a b : Int) (g : Nat) (cap : Nat) (w : World) (h0 : w.cell? ⟨g, 0, none⟩ = some (.int .i64 a)) (h1 : w.cell? ⟨g, 1, none⟩ = some (.int .i64 b)) :
    Calls Tryz.prog 56 #[.slice (some ⟨g, 0, none⟩) 2 cap] w fun e w' => e = .returned (.int .i64 (if a = 0 then b else a)) ∧ w' = w := by
  by_cases ha : a = 0
  · subst ha
    by_cases hb : b = 0
    · subst hb
      go_enter Tryz.func56, Tryz.ntmps56
      go_wp2_with fail
      refine wp_loop_rounds 3 ?_
      rw [rounds_succ]
      go_wp2_with fail
      rw [rounds_succ]
      go_wp2_with fail
      rw [rounds_succ]
      go_wp2_with fail
      go_ret
      exact ⟨rfl, rfl⟩
    · have hb' : (b != 0) = true := by simpa using hb
      go_enter Tryz.func56, Tryz.ntmps56
      go_wp2_with fail
      refine wp_loop_rounds 3 ?_
      rw [rounds_succ]
      go_wp2_with fail
      rw [rounds_succ]
      go_wp2_with fail
      go_ret
      exact ⟨rfl, rfl⟩
  · have ha' : (a != 0) = true := by simpa using ha
    go_enter Tryz.func56, Tryz.ntmps56
    go_wp2_with fail
    refine wp_loop_rounds 3 ?_
    rw [rounds_succ]
    go_wp2_with fail
    go_ret
    exact ⟨rfl, rfl⟩
/-- The world has gone on: draws, blocks of its own. -/
def Gr (w w' : World) : Prop := ∃ q os, w' = Go.Sort.grow (w.drewN q) os
theorem Gr.refl (w : World) : Gr w w := ⟨0, #[], by unfold Go.Sort.grow; simp; rfl⟩
theorem Gr.alloc {w w' : World} (h : Gr w w') (o : Obj) : Gr w (w'.alloc o) := by
  obtain ⟨q, os, rfl⟩ := h
  exact ⟨q, os ++ #[o], by rw [Go.Sort.alloc_eq_grow, Go.Sort.grow_grow]⟩
theorem Gr.drew {w w' : World} (h : Gr w w') : Gr w w'.drew := by
  obtain ⟨q, os, rfl⟩ := h
  exact ⟨q + 1, os, rfl⟩
section
variable {P : Program} {ops : Array Oper} {f : Nat → Value} {rest : List Oper} {Q : (Nat → Value) → World → Prop} {w w0 : World} {d : Option Tmp} {ty : TypeId} {pos : String} {af : Array Edge} {g : Option (Nat × Bool)} {x : Operand} {t : TypeId} {v : Value}
theorem RL.boxG (hg : wantF f ops ⟨d, .box t x, ty, pos, af, g⟩ = true) (hx : ev f x = v) (hG : Gr w0 w)
    (h : ∀ w1, Blk w1 w.heap.size t v.cells → Below w.heap.size w w1 → w1.heap.size = w.heap.size + 1 → Gr w0 w1 → RL P ops Q rest (upo f d (.pointer (some ⟨w.heap.size, 0, none⟩))) w1) : RL P ops Q (⟨d, .box t x, ty, pos, af, g⟩ :: rest) f w := by
  refine .inl ⟨hg, ?_⟩
  have hr : (execOp (ev f) ⟨d, .box t x, ty, pos, af, g⟩).run P w = .ok (.value (.pointer (some ⟨w.heap.size, 0, none⟩))) (w.alloc (.cells v.cells t)) := by
    simp [execOp, hx, Instr.box, newVar, newRow]
  rw [hr]
  exact h _ (Blk.new _ _ _) (below_alloc _ _) (World.size_alloc _ _) (hG.alloc _)
theorem RL.bsliceG {len : Nat} {parts : Array (Nat × Operand)} {pv : Array (Nat × Value)} {e : TypeId} {cells : Array Value} (hg : wantF f ops ⟨d, .buildSlice t len parts, ty, pos, af, g⟩ = true)
    (hp : parts.map (fun p => (p.1, ev f p.2)) = pv) (hb : bslO P t len pv.toList = some (e, cells)) (hG : Gr w0 w)
    (h : ∀ w1, Blk w1 w.heap.size e cells → Below w.heap.size w w1 → w1.heap.size = w.heap.size + 1 → Gr w0 w1 → RL P ops Q rest (upo f d (.slice (some ⟨w.heap.size, 0, none⟩) len len)) w1) : RL P ops Q (⟨d, .buildSlice t len parts, ty, pos, af, g⟩ :: rest) f w := by
  refine .inl ⟨hg, ?_⟩
  have hr : (execOp (ev f) ⟨d, .buildSlice t len parts, ty, pos, af, g⟩).run P w = .ok (.value (.slice (some ⟨w.heap.size, 0, none⟩) len len)) (w.alloc (.cells cells e)) := by
    have := run_bsl (P := P) (w := w) (parts := pv) hb
    subst hp
    simp [execOp, this]
  rw [hr]
  exact h _ (Blk.new _ _ _) (below_alloc _ _) (World.size_alloc _ _) (hG.alloc _)
theorem wp_rgG {id n : Nat} {l : List Oper} {f : Nat → Value} {w w0 : World} {Q : Exit → Act → World → Prop} (S : World → Prop) (ord : List (Nat × Bool)) (hm : P.follows .mixedOrders = true)
    (hin : (okAll n l && Region.noSelect l.toArray && decide (ord.length = l.length) && ordB l.toArray ord (Array.replicate l.length false)) = true) (hG : Gr w0 w)
    (h : ∀ w1, Below w.heap.size w w1 → w1.heap.size = w.heap.size → Gr w0 w1 → S w1 ∧ RG P l.toArray S (fun f' w' => Q .normal (Fr n f') w') ord f w1) : (Code.region id l.toArray true).wp P Q (Fr n f) w := by
  simp only [Bool.and_eq_true, decide_eq_true_eq] at hin
  obtain ⟨⟨⟨h1, h2⟩, h3⟩, h4⟩ := hin
  refine Code.wp_mono (Q := noP Q) (fun e a w hq => by cases e <;> first | exact hq | exact hq.elim) ?_
  refine wp_region_held (S := S) hm ?_
  obtain ⟨hS, hR⟩ := h { w with drawn := w.drawn + 1 } ⟨rfl, rfl, rfl, Nat.le_refl _, fun _ _ => rfl⟩ rfl hG.drew
  have := RG_H (Q' := noP Q) (n := n) (fun f w h => h) (fun c a w h => h) h2 (fun i o ho => List.all_eq_true.1 h1 o (by
    have : l[i]? = some o := by simpa using ho
    exact List.mem_of_getElem? this)) ord _ f _ h4 hS hR
  rw [h3] at this
  simpa using this
end
theorem cmpT_call (d0 d1 : DTraversal) (v0 v1 : Value) (w : World) (hv0 : St traversalRd w v0 d0) (hv1 : St traversalRd w v1 d1) :
    Calls Tryz.prog 55 #[v0, v1] w fun e w' => e = .returned (.int .i64 (cmpT d0 d1)) ∧ ∃ q os', w' = Go.Sort.grow (w.drewN q) os' := by
  obtain ⟨csa0, rfl, ⟨A1, n1, c1, A2, n2, c2, rfl, ⟨h1, r1⟩, ⟨h2, r2⟩⟩⟩ := hv0
  obtain ⟨csa1, rfl, ⟨A3, n3, c3, A4, n4, c4, rfl, ⟨h3, r3⟩, ⟨h4, r4⟩⟩⟩ := hv1
  have T := Below.refl w.heap.size w
  have hcon := fun x y W => Go.Proofs.AnyG.cmp_Compare_int layCmp x y W
  change ∀ x y W, Calls Tryz.prog 58 #[.int .i64 x, .int .i64 y] W _ at hcon
  refine enter 17 Tryz.func55 rfl rfl rfl ?_
  intro f hf
  have s0 : f 0 = .agg #[.slice A1 n1 c1, .slice A2 n2 c2, .int .i64 d0.least] := hf 0 _ rfl
  have s1 : f 1 = .agg #[.slice A3 n3 c3, .slice A4 n4 c4, .int .i64 d1.least] := hf 1 _ rfl
  refine wp_seq ?_
  refine wp_rl rfl ?_
  refine RL.boxG rfl s0 (Gr.refl w) (fun w5 B6 hb7 szw5 K5 => ?_)
  replace B6 : Blk w5 w.heap.size 82 #[.slice A1 n1 c1, .slice A2 n2 c2, .int .i64 d0.least] := B6
  have T := Tt T hb7
  refine RL.boxG rfl s1 K5 (fun w9 B10 hb11 szw9 K9 => ?_)
  replace B10 : Blk w9 w5.heap.size 82 #[.slice A3 n3 c3, .slice A4 n4 c4, .int .i64 d1.least] := B10
  have B6 := blkT B6 hb11
  have T := Tt T hb11
  refine RL.y rfl (Y.assign (v := .int .i64 0) rfl) ?_
  refine RL.nil ?_
  refine then_n ?_
  refine wp_seq ?_
  refine wp_rgG (fun w' => Below w.heap.size w w' ∧ Blk w' w.heap.size 82 #[.slice A1 n1 c1, .slice A2 n2 c2, .int .i64 d0.least] ∧ Blk w' w5.heap.size 82 #[.slice A3 n3 c3, .slice A4 n4 c4, .int .i64 d1.least]) [(0, true), (1, true), (2, true), (3, true), (5, true), (6, true), (7, true), (8, true), (4, false), (9, false), (10, false), (11, false), (12, true)] (by kernel_rfl) (by kernel_rfl) K9 (fun w13 hb14 szw13 K13 => ?_)
  have B6 := blkT B6 hb14
  have B10 := blkT B10 hb14
  have T := Tt T hb14
  refine ⟨⟨T, B6, B10⟩, ?_⟩
  refine RG.y rfl rfl (Y.fieldAddr (off := 1) rfl (by kernel_rfl)) ?_
  refine RG.y rfl rfl (Y.load (v := .slice A2 n2 c2) rfl (by kernel_rfl) (fun w' hS => (blkCell hS.2.1 (i := 1) rfl))) ?_
  refine RG.y rfl rfl (Y.fieldAddr (off := 1) rfl (by kernel_rfl)) ?_
  refine RG.y rfl rfl (Y.load (v := .slice A4 n4 c4) rfl (by kernel_rfl) (fun w' hS => (blkCell hS.2.2 (i := 1) rfl))) ?_
  refine RG.y rfl rfl (Y.fieldAddr (off := 2) rfl (by kernel_rfl)) ?_
  refine RG.y rfl rfl (Y.load (v := .int .i64 d0.least) rfl (by kernel_rfl) (fun w' hS => (blkCell hS.2.1 (i := 2) rfl))) ?_
  refine RG.y rfl rfl (Y.fieldAddr (off := 2) rfl (by kernel_rfl)) ?_
  refine RG.y rfl rfl (Y.load (v := .int .i64 d1.least) rfl (by kernel_rfl) (fun w' hS => (blkCell hS.2.2 (i := 2) rfl))) ?_
  refine RG.act rfl ?_
  have a2 : RdS intRd 1 w13 w.heap.size (.slice A2 n2 c2) d0.code := ⟨A2, n2, c2, rfl, h2.below intRd_ok T, r2⟩
  have a4 : RdS intRd 1 w13 w.heap.size (.slice A4 n4 c4) d1.code := ⟨A4, n4, c4, rfl, h4.below intRd_ok T, r4⟩
  refine RL.call rfl (am2 rfl rfl) (by kernel_rfl) ((Compare_q _ _ d0.code d1.code w13 a2 a4).mono ?_)
  rintro _ w17 ⟨rfl, rfl⟩
  refine ⟨_, rfl, ?_⟩
  refine RL.nil ⟨⟨T, B6, B10⟩, ?_⟩
  refine RG.act rfl ?_
  refine RL.call rfl (am2 rfl rfl) (by kernel_rfl) ((hcon d0.least d1.least w17).mono ?_)
  rintro _ w21 ⟨rfl, rfl⟩
  refine ⟨_, rfl, ?_⟩
  refine RL.nil ⟨⟨T, B6, B10⟩, ?_⟩
  refine RG.act rfl ?_
  refine RL.bsliceG (e := 3) (cells := #[.int .i64 (cmpL d0.code d1.code), .int .i64 (Lib.compareInt d0.least d1.least)]) rfl (pm2 rfl rfl) (by kernel_rfl) K13 (fun w25 B26 hb27 szw25 K25 => ?_)
  have B6 := blkT B6 hb27
  have B10 := blkT B10 hb27
  have T := Tt T hb27
  refine RL.nil ⟨⟨T, B6, B10⟩, ?_⟩
  refine RG.act rfl ?_
  refine RL.call rfl (am1 rfl) (by kernel_rfl) ((Or_q _ _ _ 2 w25 (by rw [B26.cell]; rfl) (by rw [B26.cell]; rfl)).mono ?_)
  rintro _ w31 ⟨rfl, rfl⟩
  refine ⟨_, rfl, ?_⟩
  refine RL.nil ⟨⟨T, B6, B10⟩, ?_⟩
  refine RG.y rfl rfl (Y.assign rfl) ?_
  refine RG.nil ?_
  refine then_n ?_
  refine wp_ret ?_
  exact ret1 rfl rfl rfl ⟨rfl, K25⟩
end
section
open Go.RowKit Go.Shelf
set_option linter.unusedVariables false
theorem sortf_own {w : World} {lo : Nat} {v : Value} {xs : List DTraversal} {bs : List Nat} (h : OwN 82 traversalOw 3 w lo v xs bs) (hlo : lo ≤ w.heap.size) (hk : xs.length ≤ 4294967296) (hn : (xs.map (·.least)).Nodup) :
    Calls Tryz.prog 54 #[v, .func (.func 55) #[] #[]] w fun r w' => r = .returned (.tuple #[]) ∧ OwN 82 traversalOw 3 w' lo v (srtT xs) bs ∧ w.grownBy w' v.ownBlock ∧ Below lo w w' :=
  sortT_own layF Tryz.isAgg82 Tryz.sizeOf82 55 (enters_of Tryz.func55 (by kernel_rfl) rfl)
    (fun W c1 c2 x y h1 h2 => cmpT_call x y _ _ W ⟨c1, rfl, h1⟩ ⟨c2, rfl, h2⟩) h hlo hk hn
end
section
open Go.RowKit
set_option linter.unusedVariables false
set_option linter.unusedSimpArgs false
set_option maxRecDepth 100000
def m_impl_Net_canonicalOrder_A2 (xs35 : List Int) : Option (List Int) :=
  some xs35
def m_impl_Net_canonicalOrder_B2 (xs23 : List DTraversal) (rec2 : List Int → Int → Option (List Int)) (K2 : List Int → Option (List Int)) (xs37 : List Int) (i38 : Int) : Option (List Int) :=
  (bif (decide (i38 < ((srtT xs23).length : Int))) then ((getI (srtT xs23) i38).bind fun x41 => ((mustP (xs37.length + x41.list.length ≤ 4294967296)).bind fun _ => (rec2 (xs37 ++ x41.list) (i38 + 1)))) else (K2 xs37))
def m_impl_Net_canonicalOrder_L2 (xs23 : List DTraversal) (K2 : List Int → Option (List Int)) : Nat → List Int → Int → Option (List Int)
  | 0, _, _ => none
  | g + 1, xs37, i38 => m_impl_Net_canonicalOrder_B2 xs23 (m_impl_Net_canonicalOrder_L2 xs23 K2 g) K2 xs37 i38
def m_impl_Net_canonicalOrder_A1 (y2 : List Int) (xs23 : List DTraversal) : Option (List Int) :=
  ((mustP (xs23.length ≤ 4294967296)).bind fun _ => ((mustP ((xs23.map (·.least)).Nodup)).bind fun _ => (m_impl_Net_canonicalOrder_L2 xs23 m_impl_Net_canonicalOrder_A2 ((srtT xs23).length + 1) y2 0)))
def m_impl_Net_canonicalOrder_B1 (d0 : DNet) (y9 : List (List Int)) (rec1 : List DTraversal → Int → Option (List Int)) (K1 : List DTraversal → Option (List Int)) (xs70 : List DTraversal) (i71 : Int) : Option (List Int) :=
  (bif (decide (i71 < (((y9.length - 1) : Nat) : Int))) then ((getI (y9.drop 1) i71).bind fun x76 => ((m_impl_Net_leastTraversal d0 x76).bind fun y87 => ((mustP (xs70.length + ([y87]).length ≤ 4294967296)).bind fun _ => (rec1 (xs70 ++ [y87]) (i71 + 1))))) else (K1 xs70))
def m_impl_Net_canonicalOrder_L1 (d0 : DNet) (y9 : List (List Int)) (K1 : List DTraversal → Option (List Int)) : Nat → List DTraversal → Int → Option (List Int)
  | 0, _, _ => none
  | g + 1, xs70, i71 => m_impl_Net_canonicalOrder_B1 d0 y9 (m_impl_Net_canonicalOrder_L1 d0 y9 K1 g) K1 xs70 i71
def m_impl_Net_canonicalOrder (d0 : DNet) : Option (List Int) :=
  ((m_impl_Net_traverse d0 0).bind fun y2 => ((m_impl_Net_components d0).bind fun y9 => ((mustP (1 ≤ y9.length)).bind fun _ => (m_impl_Net_canonicalOrder_L1 d0 y9 (m_impl_Net_canonicalOrder_A1 y2) (((y9.length - 1) : Nat) + 1) ([]) 0))))
set_option maxHeartbeats 2000000 in
theorem c_m_impl_Net_canonicalOrder (d0 : DNet) (r : List Int) (hm : m_impl_Net_canonicalOrder d0 = some r) (v0 : Value) (w : World) (hv0 : Pt netRd w v0 d0) :
    Calls Tryz.prog 28 #[v0] w fun e w' => (∃ (v0 : Value), e = .returned (v0) ∧ OwF 2 encI 1 w' w.heap.size v0 r) ∧ Below w.heap.size w w' := by
  obtain ⟨ba0, oa0, csa0, rfl, hba0, hRa0, hca0⟩ := hv0
  have hSa0 := hRa0
  obtain ⟨A1, n1, c1, rfl, ⟨h1, r1⟩⟩ := hRa0
  have e1 := h1.len; subst e1
  have q1 := len_le r1
  have T := Below.refl w.heap.size w
  unfold m_impl_Net_canonicalOrder at hm
  refine enter 40 Tryz.func28 rfl rfl rfl ?_
  intro f hf
  have s0 : f 0 = .pointer (some ⟨ba0, oa0, none⟩) := hf 0 _ rfl
  refine wp_seq ?_
  refine wp_rs rfl ?_
  refine RQ.y rfl (Y.assign (v := .slice none 0 0) rfl) ?_
  refine RQ.nil ?_
  refine then_n ?_
  refine wp_seq ?_
  refine wp_rl rfl ?_
  refine RL.y rfl (Y.move (v := .pointer (some ⟨ba0, oa0, none⟩)) s0) ?_
  obtain ⟨y2, e3, hm⟩ := bnd hm
  refine RL.call rfl (am2 rfl rfl) (by kernel_rfl) ((c_m_impl_Net_traverse d0 0 _ e3 _ _ (ptArg netRd_ok hba0 hSa0 hca0 T)).mono ?_)
  rintro _ w7 ⟨⟨v4, rfl, G5⟩, hb8⟩
  refine ⟨_, rfl, ?_⟩
  have szw7 := hb8.size
  have T0w7 := T.size
  have T := Tt T hb8
  replace G5 := OwF.mono G5 T0w7
  refine RL.y rfl (Y.assign (v := v4) rfl) ?_
  refine RL.nil ?_
  refine then_n ?_
  refine wp_seq ?_
  refine wp_rs rfl ?_
  refine RQ.y rfl (Y.assign (v := .slice none 0 0) rfl) ?_
  refine RQ.nil ?_
  refine then_n ?_
  refine wp_seq ?_
  refine wp_seq ?_
  refine wp_rl rfl ?_
  refine RL.y rfl (Y.move (v := .pointer (some ⟨ba0, oa0, none⟩)) s0) ?_
  obtain ⟨y9, e10, hm⟩ := bnd hm
  refine RL.call rfl (am1 rfl) (by kernel_rfl) ((c_m_impl_Net_components d0 _ e10 _ _ (ptArg netRd_ok hba0 hSa0 hca0 T)).mono ?_)
  rintro _ w15 ⟨⟨v11, bs14, rfl, G12⟩, hb16⟩
  refine ⟨_, rfl, ?_⟩
  have szw15 := hb16.size
  have T0w15 := T.size
  have Zo13_o6 : Ap bs14 (fb v4) := (Ap.new (OwN.lo_ G12) (OwF.fhi G5))
  have G5 := OwF.below G5 hb16
  have T := Tt T hb16
  replace G12 := OwN.mono G12 T0w15
  obtain ⟨A21, c22, rfl⟩ := OwN.form G12
  have qbA21 := OwN.bound G12
  obtain ⟨_, m17, hm⟩ := bnd hm
  have hk18 := mustP_some m17
  obtain ⟨Av19, eA20⟩ : ∃ Av, (if c22 = 1 then A21 else (A21 : Option Addr).map (·.add (1 * 1))) = Av := ⟨_, rfl⟩
  refine RL.y rfl (Y.sliceL (l := 1) (sz := 1) rfl rfl rfl hk18 (by kernel_rfl) eA20) ?_
  refine RL.y rfl (Y.len (by kernel_rfl) rfl) ?_
  refine RL.y rfl (Y.move (v := .int .i64 0) rfl) ?_
  refine RL.nil ?_
  refine then_n ?_
  refine wp_block ?_
  obtain ⟨K1, hK1, hm⟩ : ∃ K, K = (m_impl_Net_canonicalOrder_A1 y2) ∧ m_impl_Net_canonicalOrder_L1 d0 y9 K (((y9.length - 1) : Nat) + 1) ([]) 0 = some r := ⟨_, rfl, hm⟩
  refine wp_loopX (fun g f w' => ∃ (xs70 : List DTraversal) (i71 : Int) (uxs70 : Value) (bsxs70 : List Nat), f 0 = .pointer (some ⟨ba0, oa0, none⟩) ∧ f 3 = v4 ∧ f 13 = .slice Av19 (y9.length - 1) (c22 - 1) ∧ f 14 = .int .i64 (((y9.length - 1) : Nat) : Int) ∧ f 4 = uxs70 ∧ OwN 82 traversalOw 3 w' w.heap.size uxs70 xs70 bsxs70 ∧ f 15 = .int .i64 i71 ∧ 0 ≤ i71 ∧ Ap bsxs70 (fb v4) ∧ Ap bsxs70 bs14 ∧ OwF 2 encI 1 w' w.heap.size v4 y2 ∧ OwN 26 (slOw intOw 1) 1 w' w.heap.size (.slice A21 y9.length c22) y9 bs14 ∧ Below w.heap.size w w' ∧ m_impl_Net_canonicalOrder_L1 d0 y9 K1 g xs70 i71 = some r) 0 (fun f w' => ∃ (xs23 : List DTraversal) (uxs23 : Value) (bsxs23 : List Nat), f 3 = v4 ∧ f 4 = uxs23 ∧ OwN 82 traversalOw 3 w' w.heap.size uxs23 xs23 bsxs23 ∧ Ap bsxs23 (fb v4) ∧ OwF 2 encI 1 w' w.heap.size v4 y2 ∧ Below w.heap.size w w' ∧ m_impl_Net_canonicalOrder_A1 y2 xs23 = some r) (((y9.length - 1) : Nat) + 1) ⟨([]), 0, (.slice none 0 0), [], s0, rfl, rfl, rfl, rfl, OwN.nil, rfl, (by omega), Ap.nil, Ap.nil, G5, G12, T, hm⟩ ?_ ?_
  · rintro f w24 ⟨xs23, uxs23, bsxs23, s3_1x, s4_1x, Guxs23, Doxs23_o6, G5, T, hm⟩
    unfold m_impl_Net_canonicalOrder_A1 at hm
    refine blk_hit (then_n ?_)
    refine wp_seq ?_
    refine wp_rl rfl ?_
    refine RL.y rfl (Y.move (v := uxs23) s4_1x) ?_
    obtain ⟨_, m25, hm⟩ := bnd hm
    have hk26 := mustP_some m25
    obtain ⟨_, m27, hm⟩ := bnd hm
    have hk28 := mustP_some m27
    refine RL.call rfl (am2 rfl rfl) (by kernel_rfl) ((sortf_own Guxs23 T.size hk26 hk28).mono ?_)
    rintro _ w29 ⟨rfl, G30, hgr31, hbl32⟩
    refine ⟨_, rfl, ?_⟩
    have szw29 := hbl32.size
    have G5 := OwF.keptD G5 hgr31 (OwN.dj Guxs23 Doxs23_o6)
    have T := T.trans hbl32
    refine RL.nil ?_
    refine then_n ?_
    refine wp_seq ?_
    refine wp_seq ?_
    refine wp_rs rfl ?_
    refine RQ.y rfl (Y.move (v := uxs23) s4_1x) ?_
    obtain ⟨A33, c34, rfl⟩ := OwN.form G30
    have qbA33 := OwN.bound G30
    refine RQ.y rfl (Y.len (by kernel_rfl) rfl) ?_
    refine RQ.y rfl (Y.move (v := .int .i64 0) rfl) ?_
    refine RQ.nil ?_
    refine then_n ?_
    refine wp_block ?_
    obtain ⟨K2, hK2, hm⟩ : ∃ K, K = m_impl_Net_canonicalOrder_A2 ∧ m_impl_Net_canonicalOrder_L2 xs23 K ((srtT xs23).length + 1) y2 0 = some r := ⟨_, rfl, hm⟩
    refine wp_loopX (fun g f w' => ∃ (xs37 : List Int) (i38 : Int) (uxs37 : Value), f 28 = .slice A33 ((srtT xs23).length) c34 ∧ f 29 = .int .i64 ((srtT xs23).length : Int) ∧ f 3 = uxs37 ∧ OwF 2 encI 1 w' w.heap.size uxs37 xs37 ∧ f 30 = .int .i64 i38 ∧ 0 ≤ i38 ∧ Ap (fb uxs37) bsxs23 ∧ OwN 82 traversalOw 3 w' w.heap.size (.slice A33 ((srtT xs23).length) c34) (srtT xs23) bsxs23 ∧ Below w.heap.size w w' ∧ m_impl_Net_canonicalOrder_L2 xs23 K2 g xs37 i38 = some r) 2 (fun f w' => ∃ (xs35 : List Int) (uxs35 : Value), f 3 = uxs35 ∧ OwF 2 encI 1 w' w.heap.size uxs35 xs35 ∧ Below w.heap.size w w' ∧ m_impl_Net_canonicalOrder_A2 xs35 = some r) ((srtT xs23).length + 1) ⟨y2, 0, (v4), rfl, rfl, s3_1x, G5, rfl, (by omega), (Ap.symm Doxs23_o6), G30, T, hm⟩ ?_ ?_
    · rintro f w36 ⟨xs35, uxs35, s3_2x, Guxs35, T, hm⟩
      unfold m_impl_Net_canonicalOrder_A2 at hm
      refine blk_hit (then_n ?_)
      refine wp_seq ?_
      refine wp_rs rfl ?_
      refine RQ.y rfl (Y.move (v := uxs35) s3_2x) ?_
      refine RQ.y rfl (Y.assign (v := uxs35) rfl) ?_
      refine RQ.nil ?_
      refine then_n ?_
      refine wp_ret ?_
      obtain rfl := Option.some.inj hm
      exact (ret1 rfl rfl rfl ⟨⟨_, rfl, Guxs35⟩, T⟩)
    · rintro g f w39 ⟨xs37, i38, uxs37, s28_2, s29_2, s3_2, Guxs37, s30_2, nn30_2, Doxs37_oxs23, G30, T, hm⟩
      rcases g with _ | g
      · simp only [m_impl_Net_canonicalOrder_L2] at hm; cases hm
      obtain ⟨rec2, hrec2, hm⟩ : ∃ z, z = m_impl_Net_canonicalOrder_L2 xs23 K2 g ∧ m_impl_Net_canonicalOrder_B2 xs23 z K2 xs37 i38 = some r := ⟨_, rfl, hm⟩
      unfold m_impl_Net_canonicalOrder_B2 at hm
      refine wp_seq ?_
      refine wp_rs rfl ?_
      refine RQ.y rfl (Y.binI (v := .bool (decide (i38 < ((srtT xs23).length : Int)))) s30_2 s29_2 rfl) ?_
      refine RQ.nil ?_
      refine then_n ?_
      refine wp_seq ?_
      rcases bcases (decide (i38 < ((srtT xs23).length : Int))) with c40 | c40
      · replace hm := cF c40 hm
        have pc40 := of_decide_eq_false c40
        refine cond_f rfl (vb rfl c40) ?_
        refine wp_exit ?_
        exact (then_x (then_x (hit_x ⟨_, rfl, ⟨xs37, (uxs37), s3_2, Guxs37, T, (by rw [hK2] at hm; exact hm)⟩⟩)))
      · replace hm := cT c40 hm
        have pc40 := of_decide_eq_true c40
        refine cond_t rfl (vb rfl c40) ?_
        refine wp_skip ?_
        refine then_n ?_
        refine wp_seq ?_
        refine wp_block ?_
        refine wp_seq ?_
        refine wp_rl rfl ?_
        obtain ⟨x41, hx43, hm⟩ := bnd hm
        obtain ⟨k42, hk44, hl45, hx43⟩ := getI_some hx43
        obtain ⟨b46, rfl⟩ := OwN.addr0 G30 (by omega)
        refine RL.y rfl (Y.indexAddr (m := k42) (sz := 3) s28_2 s30_2 hk44 hl45 (by kernel_rfl)) ?_
        obtain ⟨cs47, hR48, hc49⟩ := OwN.rd traversalOw_ok (traversalOw_reads _) G30 hx43
        obtain ⟨A50, n50, c50, A51, n51, c51, rfl, ⟨h50, r50⟩, ⟨h51, r51⟩⟩ := hR48
        have e50 := h50.len; subst e50
        have q50 := len_le r50
        have e51 := h51.len; subst e51
        have q51 := len_le r51
        have U52 := Below.refl w39.heap.size w39
        refine RL.y rfl (Y.loadN (cs := [.slice A50 x41.list.length c50, .slice A51 x41.code.length c51, .int .i64 x41.least]) rfl (by kernel_rfl) (cells3 (eqC (hc49 0 _ rfl)) (eqC (hc49 1 _ rfl)) (eqC (hc49 2 _ rfl)))) ?_
        refine RL.alloc (z := .agg #[.slice none 0 0, .slice none 0 0, .int .i64 0]) rfl (by kernel_rfl) (fun w53 B54 hb55 szw53 => ?_)
        replace B54 : Blk w53 w39.heap.size 82 #[.slice none 0 0, .slice none 0 0, .int .i64 0] := B54
        have GB54 : w.heap.size ≤ w39.heap.size := T.size
        have Noxs23_ob56 := Ap.far (OwN.hi G30)
        have Noxs37_ob56 := OwF.far Guxs37 (Nat.le_refl _)
        have G30 := OwN.below traversalOw_ok G30 hb55
        have Guxs37 := OwF.below Guxs37 hb55
        try have U52 := Tt U52 hb55
        have T := Tt T hb55
        refine RL.store (v := .agg #[.slice A50 x41.list.length c50, .slice A51 x41.code.length c51, .int .i64 x41.least]) (cs' := #[.slice A50 x41.list.length c50, .slice A51 x41.code.length c51, .int .i64 x41.least]) rfl rfl rfl B54 (by kernel_rfl) (by rfl) (by rfl) (by rfl) (fun w57 B58 ho59 => ?_)
        have szw57 := ho59.size
        have G30 := OwN.only traversalOw_ok G30 ho59 (Ap.one Noxs23_ob56)
        have Guxs37 := OwF.only Guxs37 ho59 Noxs37_ob56
        try have U52 := U52.trans (ho59.below (by first | (simp; done) | (simp; omega)))
        have T := T.trans (ho59.below (by first | (simp; done) | (simp; omega)))
        refine RL.nil ?_
        refine then_n ?_
        refine wp_rl rfl ?_
        refine RL.y rfl (Y.move (v := uxs37) s3_2) ?_
        refine RL.y rfl (Y.fieldAddr (off := 0) rfl (by kernel_rfl)) ?_
        refine RL.y rfl (Y.load (v := .slice A50 x41.list.length c50) rfl (by kernel_rfl) (eqC (blkCell B58 (i := 0) rfl))) ?_
        obtain ⟨_, m60, hm⟩ := bnd hm
        have hk61 := mustP_some m60
        refine RL.append fI app_int64 rfl rfl rfl Guxs37 (slArg intRd_ok h50 r50 U52) T.size hk61 (fun v62 w63 G64 hgr65 hbl66 hnb67 => ?_)
        have szw63 := hbl66.size
        have No68_ob56 := ne_app hnb67 Noxs37_ob56 B58.lt
        have Do68_oxs23 := Ap.appF (Ap.symm Doxs37_oxs23) hnb67 (OwN.hi G30)
        have B58 := Blk.kept B58 hgr65 Noxs37_ob56
        have G30 := OwN.grown traversalOw_ok G30 hgr65 (Ap.symm Doxs37_oxs23)
        have T := T.trans hbl66
        refine RL.y rfl (Y.assign (v := v62) rfl) ?_
        refine RL.nil ?_
        refine blk_n (then_n ?_)
        refine wp_rs rfl ?_
        refine RQ.y rfl (Y.binI s30_2 rfl (binI_add (m := i38) (by omega))) ?_
        refine RQ.y rfl (Y.move (v := .int .i64 (i38 + 1)) rfl) ?_
        refine RQ.nil ?_
        exact (then_n ⟨g, _, Nat.lt_succ_self _, rfl, ⟨(xs37 ++ x41.list), (i38 + 1), (v62), s28_2, s29_2, rfl, G64, rfl, (by omega), (Ap.symm Do68_oxs23), G30, T, (by rw [← hrec2]; exact hm)⟩⟩)
  · rintro g f w72 ⟨xs70, i71, uxs70, bsxs70, s0_1, s3_1, s13_1, s14_1, s4_1, Guxs70, s15_1, nn15_1, Doxs70_o6, Doxs70_o13, G5, G12, T, hm⟩
    rcases g with _ | g
    · simp only [m_impl_Net_canonicalOrder_L1] at hm; cases hm
    obtain ⟨rec1, hrec1, hm⟩ : ∃ z, z = m_impl_Net_canonicalOrder_L1 d0 y9 K1 g ∧ m_impl_Net_canonicalOrder_B1 d0 y9 z K1 xs70 i71 = some r := ⟨_, rfl, hm⟩
    unfold m_impl_Net_canonicalOrder_B1 at hm
    refine wp_seq ?_
    refine wp_rs rfl ?_
    refine RQ.y rfl (Y.binI (v := .bool (decide (i71 < (((y9.length - 1) : Nat) : Int)))) s15_1 s14_1 rfl) ?_
    refine RQ.nil ?_
    refine then_n ?_
    refine wp_seq ?_
    rcases bcases (decide (i71 < (((y9.length - 1) : Nat) : Int))) with c73 | c73
    · replace hm := cF c73 hm
      have pc73 := of_decide_eq_false c73
      refine cond_f rfl (vb rfl c73) ?_
      refine wp_exit ?_
      exact (then_x (then_x (hit_x ⟨_, rfl, ⟨xs70, (uxs70), bsxs70, s3_1, s4_1, Guxs70, Doxs70_o6, G5, T, (by rw [hK1] at hm; exact hm)⟩⟩)))
    · replace hm := cT c73 hm
      have pc73 := of_decide_eq_true c73
      refine cond_t rfl (vb rfl c73) ?_
      refine wp_skip ?_
      refine then_n ?_
      refine wp_seq ?_
      refine wp_block ?_
      refine wp_seq ?_
      refine wp_rs rfl ?_
      have ⟨h74, r75⟩ := (OwN.view (slOw_ok intOw_ok) (slOw_reads (intOw_reads _)) G12 (l := 1) hk18 eA20)
      obtain ⟨x76, hx79, hm⟩ := bnd hm
      obtain ⟨k77, hk80, hl81, hx79⟩ := getI_some hx79
      have hl83 : k77 < (y9.length - 1) := by have := h74.len; omega
      obtain ⟨b84, o85, rfl, hbb84⟩ := h74.addr (by omega)
      obtain ⟨cs78, hRcs78, hc82⟩ := h74.el hx79
      have hScs78 := hRcs78
      obtain ⟨A86, n86, c86, rfl, h86, r86⟩ := hRcs78
      have e86 := h86.len; subst e86
      have q86 := len_le r86
      refine RQ.y rfl (Y.indexAddr (m := k77) (sz := 1) s13_1 s15_1 hk80 hl83 (by kernel_rfl)) ?_
      refine RQ.y rfl (Y.load (v := .slice A86 x76.length c86) rfl (by kernel_rfl) (eqC (hc82 0 _ rfl))) ?_
      refine RQ.y rfl (Y.assign (v := .slice A86 x76.length c86) rfl) ?_
      refine RQ.nil ?_
      refine then_n ?_
      refine wp_rl rfl ?_
      refine RL.y rfl (Y.move (v := uxs70) s4_1) ?_
      refine RL.y rfl (Y.move (v := .pointer (some ⟨ba0, oa0, none⟩)) s0_1) ?_
      refine RL.y rfl (Y.move (v := .slice A86 x76.length c86) rfl) ?_
      obtain ⟨y87, e88, hm⟩ := bnd hm
      refine RL.call rfl (am2 rfl rfl) (by kernel_rfl) ((c_m_impl_Net_leastTraversal d0 x76 _ e88 _ _ _ (ptArg netRd_ok hba0 hSa0 hca0 T) (slArg intRd_ok h86 r86 (Below.refl _ _))).mono ?_)
      rintro _ w95 ⟨⟨v89, v92, rfl, G90, G93, Ro91_o94⟩, hb96⟩
      refine ⟨_, rfl, ?_⟩
      have szw95 := hb96.size
      have T0w95 := T.size
      have Zo91_o6 := Ap.dj (Ap.new (OwF.flo G90) (OwF.fhi G5))
      have Zo91_o13 : Ap (fb v89) bs14 := (Ap.new (OwF.flo G90) (OwN.hi G12))
      have Zo91_oxs70 : Ap (fb v89) bsxs70 := (Ap.new (OwF.flo G90) (OwN.hi Guxs70))
      have Zo94_o6 := Ap.dj (Ap.new (OwF.flo G93) (OwF.fhi G5))
      have Zo94_o13 : Ap (fb v92) bs14 := (Ap.new (OwF.flo G93) (OwN.hi G12))
      have Zo94_oxs70 : Ap (fb v92) bsxs70 := (Ap.new (OwF.flo G93) (OwN.hi Guxs70))
      have G5 := OwF.below G5 hb96
      have G12 := OwN.below (slOw_ok intOw_ok) G12 hb96
      have Guxs70 := OwN.below traversalOw_ok Guxs70 hb96
      have T := Tt T hb96
      replace G90 := OwF.mono G90 T0w95
      replace G93 := OwF.mono G93 T0w95
      obtain ⟨A101, c102, rfl⟩ := OwF.form G90
      have qbA101 := OwF.bound G90
      obtain ⟨A103, c104, rfl⟩ := OwF.form G93
      have qbA103 := OwF.bound G93
      refine RL.bslice (e := 82) (cells := #[.slice A101 y87.list.length c102, .slice A103 y87.code.length c104, .int .i64 y87.least]) rfl (pm1 rfl) (by kernel_rfl) (fun w97 B98 hb99 szw97 => ?_)
      have ZB98 : w.heap.size ≤ w95.heap.size := T.size
      have q105 := OwF.fboth G90 (Nat.le_refl _)
      have q106 := OwF.fboth G93 (Nat.le_refl _)
      have z107 := Ap.cons (Ap.farL (OwF.fhi G5)) (Ap.append (Dj.ap Zo91_o6) (Dj.ap Zo94_o6))
      have z108 := Ap.cons (Ap.farL (OwN.hi G12)) (Ap.append Zo91_o13 Zo94_o13)
      have z109 := Ap.cons (Ap.farL (OwN.hi Guxs70)) (Ap.append Zo91_oxs70 Zo94_oxs70)
      have G5 := OwF.below G5 hb99
      have G12 := OwN.below (slOw_ok intOw_ok) G12 hb99
      have Guxs70 := OwN.below traversalOw_ok Guxs70 hb99
      have G90 := OwF.below G90 hb99
      have G93 := OwF.below G93 hb99
      have T := Tt T hb99
      obtain ⟨l111, a110, nd112, sb113, r114⟩ := OwF.own2 fI G90
      obtain ⟨l116, a115, nd117, sb118, r119⟩ := OwF.own2 fI G93
      have G120 : OwN 82 traversalOw 3 w97 w.heap.size (.slice (some ⟨w95.heap.size, 0, none⟩) 1 1) [y87] (w95.heap.size :: ((fb (.slice A101 y87.list.length c102)) ++ (fb (.slice A103 y87.code.length c104)))) := OwN.lit1 (b1 := (l111 ++ l116)) B98 ZB98 ⟨_, _, _, _, _, _, l111, l116, rfl, ⟨a110, r114⟩, ⟨a115, r119⟩, rfl⟩ traversalOw_ok (nodup2 nd112 nd117 sb113 sb118 (Dj.ap Ro91_o94)) (sub2 sb113 sb118) (all2 q105 q106)
      obtain ⟨_, m122, hm⟩ := bnd hm
      have hk123 := mustP_some m122
      refine RL.appendN traversalOw_ok traversalOw_one (by decide) app_impl_traversal rfl rfl rfl Guxs70 G120 (Ap.symm z109) T.size hk123 (fun v124 w125 bs126 G127 hgr128 hbl129 hnb130 => ?_)
      have szw125 := hbl129.size
      have z132 := Ap.app hnb130 Doxs70_o6 z107 (OwF.fhi G5)
      have z133 := Ap.app hnb130 Doxs70_o13 z108 (OwN.hi G12)
      have G5 := OwF.keptD G5 hgr128 (OwN.dj Guxs70 Doxs70_o6)
      have G12 := OwN.grown (slOw_ok intOw_ok) G12 hgr128 (OwN.apRow Guxs70 Doxs70_o13)
      have T := T.trans hbl129
      refine RL.y rfl (Y.assign (v := v124) rfl) ?_
      refine RL.nil ?_
      refine blk_n (then_n ?_)
      refine wp_rs rfl ?_
      refine RQ.y rfl (Y.binI s15_1 rfl (binI_add (m := i71) (by omega))) ?_
      refine RQ.y rfl (Y.move (v := .int .i64 (i71 + 1)) rfl) ?_
      refine RQ.nil ?_
      exact (then_n ⟨g, _, Nat.lt_succ_self _, rfl, ⟨(xs70 ++ [y87]), (i71 + 1), (v124), bs126, s0_1, s3_1, s13_1, s14_1, rfl, G127, rfl, (by omega), z132, z133, G5, G12, T, (by rw [← hrec1]; exact hm)⟩⟩)
end
section
open Go.RowKit
set_option linter.unusedVariables false
set_option linter.unusedSimpArgs false
theorem p_cmpI (x y : Int) : m_cmp_Compare_int64 x y = some (cmpI x y) := by
  unfold m_cmp_Compare_int64
  simp -implicitDefEqProofs only [m_cmp_isNaN_int64]
  rw [cmpI_eq]
  by_cases h1 : x < y
  · simp [h1]
  · by_cases h2 : y < x
    · simp [h1, h2]
    · simp [h1, h2]
theorem dropC {α : Type} {l : List α} {k : Nat} {x : α} (h : l[k]? = some x) : l.drop k = x :: l.drop (k + 1) := by
  obtain ⟨hk, e⟩ := List.getElem?_eq_some_iff.1 h
  rw [← e]; exact List.drop_eq_getElem_cons hk
theorem cmpL_cons' (x y : Int) (xs ys : List Int) : cmpL (x :: xs) (y :: ys) = if cmpI x y = 0 then cmpL xs ys else cmpI x y := by rw [cmpL]
theorem p_cmpL (xs ys : List Int) : m_slices_Compare_int64_int64 xs ys = some (cmpL xs ys) := by
  unfold m_slices_Compare_int64_int64
  have key : ∀ (m k g : Nat), k + m = xs.length → m < g → m_slices_Compare_int64_int64_L1 xs ys (m_slices_Compare_int64_int64_A1 xs ys) g (k : Int) = some (cmpL (xs.drop k) (ys.drop k)) := by
    intro m
    induction m with
    | zero =>
      intro k g hk hg
      obtain ⟨g, rfl⟩ : ∃ g', g = g' + 1 := ⟨g - 1, by omega⟩
      obtain rfl : k = xs.length := by omega
      simp -implicitDefEqProofs only [m_slices_Compare_int64_int64_L1, m_slices_Compare_int64_int64_B1, dge, cond_false, m_slices_Compare_int64_int64_A1]
      rw [List.drop_length]
      by_cases h : xs.length < ys.length
      · rw [dlt h, cond_true, dropC (List.getElem?_eq_getElem h)]; rfl
      · rw [show decide ((xs.length : Int) < (ys.length : Int)) = false by simp; omega, cond_false, List.drop_eq_nil_of_le (by omega)]; rfl
    | succ m ih =>
      intro k g hk hg
      obtain ⟨g, rfl⟩ : ∃ g', g = g' + 1 := ⟨g - 1, by omega⟩
      have hx := List.getElem?_eq_getElem (show k < xs.length by omega)
      simp -implicitDefEqProofs only [m_slices_Compare_int64_int64_L1, m_slices_Compare_int64_int64_B1, dlt (show k < xs.length by omega), cond_true, getI_nat hx, Option.bind_some]
      rw [dropC hx]
      by_cases h : k < ys.length
      · have hy := List.getElem?_eq_getElem h
        rw [show decide ((k : Int) ≥ (ys.length : Int)) = false by simp; omega, cond_false, getI_nat hy, Option.bind_some, p_cmpI, Option.bind_some, dropC hy, cmpL_cons']
        by_cases h0 : cmpI xs[k] ys[k] = 0
        · rw [show (cmpI xs[k] ys[k] != 0) = false by rw [h0]; rfl, cond_false, if_pos h0]
          have := ih (k + 1) g (by omega) (by omega)
          rwa [show ((k + 1 : Nat) : Int) = (k : Int) + 1 by omega] at this
        · rw [show (cmpI xs[k] ys[k] != 0) = true by simpa using h0, cond_true, if_neg h0]
      · rw [show decide ((k : Int) ≥ (ys.length : Int)) = true by simp; omega, cond_true, show ys.drop k = [] from List.drop_eq_nil_of_le (by omega)]; rfl
  exact key xs.length 0 (xs.length + 1) (by omega) (by omega)
theorem p_less (xs ys : List Int) : m_spec_l12Less xs ys = some (decide (cmpL xs ys < 0)) := by
  unfold m_spec_l12Less
  have key : ∀ (m k g : Nat), k + m = xs.length → m < g → m_spec_l12Less_L1 xs ys (m_spec_l12Less_A1 xs ys) g (k : Int) = some (decide (cmpL (xs.drop k) (ys.drop k) < 0)) ∨ ys.length < k := by
    intro m
    induction m with
    | zero =>
      intro k g hk hg
      obtain ⟨g, rfl⟩ : ∃ g', g = g' + 1 := ⟨g - 1, by omega⟩
      obtain rfl : k = xs.length := by omega
      left
      simp -implicitDefEqProofs only [m_spec_l12Less_L1, m_spec_l12Less_B1, dge, cond_false, m_spec_l12Less_A1]
      rw [List.drop_length]
      by_cases h : xs.length < ys.length
      · rw [dropC (List.getElem?_eq_getElem h)]; simp [cmpL]; omega
      · rw [show ys.drop xs.length = [] from List.drop_eq_nil_of_le (by omega)]; simp [cmpL]; omega
    | succ m ih =>
      intro k g hk hg
      obtain ⟨g, rfl⟩ : ∃ g', g = g' + 1 := ⟨g - 1, by omega⟩
      by_cases hky : ys.length < k
      · exact .inr hky
      left
      have hx := List.getElem?_eq_getElem (show k < xs.length by omega)
      simp -implicitDefEqProofs only [m_spec_l12Less_L1, m_spec_l12Less_B1, dlt (show k < xs.length by omega), cond_true]
      rw [dropC hx]
      by_cases h : k < ys.length
      · have hy := List.getElem?_eq_getElem h
        rw [dlt h, cond_true, getI_nat hx, Option.bind_some, getI_nat hy, Option.bind_some, dropC hy, cmpL_cons']
        by_cases h0 : xs[k] = ys[k]
        · rw [show (xs[k] != ys[k]) = false by simpa using h0, cond_false, if_pos (cmpI_zero.2 h0)]
          have := (ih (k + 1) g (by omega) (by omega)).resolve_right (by omega)
          rwa [show ((k + 1 : Nat) : Int) = (k : Int) + 1 by omega] at this
        · rw [show (xs[k] != ys[k]) = true by simpa using h0, cond_true, Option.bind_some, Option.bind_some, if_neg (fun e => h0 (cmpI_zero.1 e))]
          congr 1
          exact decide_eq_decide.2 cmpI_neg.symm
      · have : ys.drop k = [] := List.drop_eq_nil_of_le (by omega)
        rw [show decide ((k : Int) < (ys.length : Int)) = false by simp; omega, cond_false, this]
        simp -implicitDefEqProofs only [m_spec_l12Less_A1]
        have e : decide ((xs.length : Int) < (ys.length : Int)) = false := by simp; omega
        rw [e]
        simp [cmpL]
  exact (key xs.length 0 (xs.length + 1) (by omega) (by omega)).resolve_right (by omega)
end
section
open Go.RowKit
set_option linter.unusedVariables false
set_option linter.unusedSimpArgs false
section
variable {xs : List DAgent}
def cdf (xs : List DAgent) (k : Int) : List Int := codeL xs (tr xs k xs.length)
def bstep (xs : List DAgent) (b k : Int) : Int := if cmpL (cdf xs k) (cdf xs b) < 0 then k else b
def best (xs : List DAgent) : List Int → Int
  | [] => 0
  | a :: l => l.foldl (bstep xs) a
theorem bfold_mem : ∀ (l : List Int) (a : Int), l.foldl (bstep xs) a ∈ a :: l
  | [], a => by simp
  | k :: l, a => by
    rw [List.foldl_cons]
    have := bfold_mem l (bstep xs a k)
    rcases List.mem_cons.1 this with h | h
    · rw [h]; unfold bstep; split <;> simp
    · simp [h]
theorem best_mem {c : List Int} {a : Int} {l : List Int} (h : c = a :: l) : best xs c ∈ c := by subst h; exact bfold_mem l a
theorem codeL_ne {s : Int} : codeL xs (tr xs s xs.length) ≠ [] := fun e => by
  have := List.flatMap_eq_nil_iff.1 e s (tr_self s _)
  simp [piece] at this
theorem tr_ne {s : Int} : tr xs s xs.length ≠ [] := fun e => by have := tr_self (xs := xs) s xs.length; rw [e] at this; cases this
def tv (xs : List DAgent) (i k : Int) : DTraversal := ⟨tr xs k xs.length, cdf xs k, i⟩
def tstep (xs : List DAgent) (i : Int) (z : DTraversal) (k : Int) : DTraversal := bif z.list.isEmpty then tv xs i k else bif decide (cmpL (cdf xs k) z.code < 0) then tv xs i k else z
theorem tfold (i : Int) : ∀ (l : List Int) (b : Int), l.foldl (tstep xs i) (tv xs i b) = tv xs i (l.foldl (bstep xs) b)
  | [], b => rfl
  | k :: l, b => by
    rw [List.foldl_cons, List.foldl_cons, ← tfold i l]
    congr 1
    unfold tstep bstep
    have : (tv xs i b).list.isEmpty = false := by
      cases h : (tv xs i b).list with
      | nil => exact absurd h tr_ne
      | cons x l => rfl
    rw [this, cond_false]
    by_cases h : cmpL (cdf xs k) (cdf xs b) < 0
    · rw [show decide (cmpL (cdf xs k) (tv xs i b).code < 0) = true from decide_eq_true h, cond_true, if_pos h]
    · rw [show decide (cmpL (cdf xs k) (tv xs i b).code < 0) = false from decide_eq_false h, cond_false, if_neg h]
theorem p_iLeast (G : Good xs) (hs : Small xs) {c : List Int} {i : Int} {l : List Int} (hc : c = i :: l) (hr : ∀ a ∈ c, 0 ≤ a ∧ a < xs.length) : m_impl_Net_leastTraversal ⟨xs⟩ c = some (tv xs i (best xs c)) := by
  unfold m_impl_Net_leastTraversal
  have h0 : getI c 0 = some i := by rw [hc]; rfl
  have key := (foldL (L := fun g s k => m_impl_Net_leastTraversal_L1 ⟨xs⟩ c m_impl_Net_leastTraversal_A1 g k s) (d := c) (f := tstep xs i) (I := fun _ _ => True) (K := some)
    (fun g k x s hx _ => by
      have hk := lt_of_some hx
      obtain ⟨r0, r1⟩ := hr x (List.mem_of_getElem? hx)
      refine ⟨?_, trivial⟩
      simp -implicitDefEqProofs only [m_impl_Net_leastTraversal_L1, m_impl_Net_leastTraversal_B1, dlt hk, cond_true, getI_nat hx, Option.bind_some, h0]
      rw [p_iTraverse G r0 r1, Option.bind_some, p_iCode G hs r0 r1, Option.bind_some, mustP_ok tr_ne, mustP_ok codeL_ne]
      unfold tstep
      cases s.list.isEmpty with
      | true => simp only [cond_true, Option.bind_some]; rfl
      | false =>
        simp only [cond_false, Option.bind_some]
        rw [p_cmpL, Option.bind_some]
        show (bif decide (cmpL (cdf xs x) s.code < 0) then _ else _) = _
        cases decide (cmpL (cdf xs x) s.code < 0) with
        | true => simp only [cond_true]; rfl
        | false => simp only [cond_false])
    (fun g s _ => by simp -implicitDefEqProofs only [m_impl_Net_leastTraversal_L1, m_impl_Net_leastTraversal_B1, dge, cond_false, m_impl_Net_leastTraversal_A1]) (c.length + 1) ⟨[], [], 0⟩ (Nat.lt_succ_self _) trivial).1
  rw [key, hc, List.foldl_cons]
  show some (l.foldl (tstep xs i) (tv xs i i)) = _
  rw [tfold]; rfl
def B (xs : List DAgent) (i : Nat) : Int := best xs (comp xs i)
def Tt_ (xs : List DAgent) (i : Nat) : DTraversal := tv xs (i : Int) (B xs i)
theorem B_in (G : Good xs) {i : Nat} (hi : i < xs.length) {a : Int} {l : List Int} (h : comp xs i = a :: l) : 0 ≤ B xs i ∧ B xs i < xs.length := (comp_in G hi).inr _ (best_mem h)
noncomputable def sorted (xs : List DAgent) (t : List Nat) : List DTraversal := srtT (t.map (Tt_ xs))
noncomputable def canonL (xs : List DAgent) (t : List Nat) : List Int := tr xs 0 xs.length ++ (sorted xs t).flatMap (·.list)
theorem leasts (t : List Nat) : (t.map (Tt_ xs)).map (·.least) = t.map fun i : Nat => (i : Int) := by rw [List.map_map]; rfl
theorem pw_nodup {t : List Nat} (h : t.Pairwise (· < ·)) : ((t.map (Tt_ xs)).map (·.least)).Nodup := by
  rw [leasts]
  unfold List.Nodup
  rw [List.pairwise_map]
  exact h.imp fun h => by omega
theorem sorted_list {t : List Nat} {s : DTraversal} (hs : s ∈ sorted xs t) : ∃ i ∈ t, s = Tt_ xs i := by
  have := (srtT_perm _).mem_iff.1 hs
  obtain ⟨i, hi, rfl⟩ := List.mem_map.1 this
  exact ⟨i, hi, rfl⟩
theorem flat_len (G : Good xs) {t : List Nat} (ht : ∀ i ∈ t, i < xs.length ∧ ∃ l, comp xs i = (i : Int) :: l) : ∀ L : List DTraversal, (∀ s ∈ L, ∃ i ∈ t, s = Tt_ xs i) → (L.flatMap (·.list)).length ≤ L.length * 600
  | [], _ => by simp
  | s :: L, h => by
    have ih := flat_len G ht L (fun s hs => h s (by simp [hs]))
    obtain ⟨i, hi, rfl⟩ := h s (by simp)
    obtain ⟨h1, l, h2⟩ := ht i hi
    have hb := B_in G h1 h2
    have := (tr_ok G hb.1 hb.2 xs.length).len
    have hn := G.len
    rw [List.flatMap_cons, List.length_append, List.length_cons]
    have e : (Tt_ xs i).list = tr xs (B xs i) xs.length := rfl
    rw [e]
    omega
theorem pw_len : ∀ (t : List Nat) (lo n : Nat), t.Pairwise (· < ·) → (∀ i ∈ t, lo ≤ i ∧ i < n) → t.length ≤ n - lo
  | [], _, _, _, _ => by simp
  | a :: t, lo, n, h, hi => by
    have h2 := List.pairwise_cons.1 h
    have h3 := hi a (by simp)
    have := pw_len t (a + 1) n h2.2 (fun i hi' => ⟨h2.1 i hi', (hi i (by simp [hi'])).2⟩)
    rw [List.length_cons]; omega
theorem p_iCOrder (G : Good xs) (hs : Small xs) {t : List Nat} (hp : (part xs xs.length).1 = comp xs 0 :: t.map (comp xs)) (hpw : t.Pairwise (· < ·)) (ht : ∀ i ∈ t, 0 < i ∧ i < xs.length ∧ ∃ l, comp xs i = (i : Int) :: l) : m_impl_Net_canonicalOrder ⟨xs⟩ = some (canonL xs t) := by
  have h6 := G.len
  have h1 := G.one
  have htl : t.length ≤ 600 := by have := pw_len t 0 xs.length hpw (fun i hi => ⟨Nat.zero_le _, (ht i hi).2.1⟩); omega
  unfold m_impl_Net_canonicalOrder
  rw [p_iTraverse G (Int.le_refl 0) (by omega), Option.bind_some, p_iParts G, Option.bind_some, hp, mustP_ok (by simp), Option.bind_some]
  have hl : (comp xs 0 :: t.map (comp xs)).length - 1 = t.length := by simp
  have hd : (comp xs 0 :: t.map (comp xs)).drop 1 = t.map (comp xs) := rfl
  have key := traj (L := fun g (s : List DTraversal × Int) => m_impl_Net_canonicalOrder_L1 ⟨xs⟩ (comp xs 0 :: t.map (comp xs)) (m_impl_Net_canonicalOrder_A1 (tr xs 0 xs.length)) g s.1 s.2) (st := fun k => ((t.take k).map (Tt_ xs), (k : Int))) (n := t.length) (r := m_impl_Net_canonicalOrder_A1 (tr xs 0 xs.length) (t.map (Tt_ xs)))
    (fun g k hk => by
      have hx := List.getElem?_eq_getElem hk
      obtain ⟨p0, p1, l, p2⟩ := ht _ (List.getElem_mem hk)
      simp -implicitDefEqProofs only [m_impl_Net_canonicalOrder_L1, m_impl_Net_canonicalOrder_B1, hl, hd, dlt hk, cond_true]
      rw [getI_nat (xs := t.map (comp xs)) (x := comp xs t[k]) (by rw [List.getElem?_map, hx]; rfl), Option.bind_some, p_iLeast G hs p2 (comp_in G p1).inr, Option.bind_some, mustP_ok (by simp; omega), Option.bind_some, take_succ_some hx, List.map_append]
      simp only [Int.natCast_add, Int.cast_ofNat_Int]
      rfl)
    (fun g => by simp -implicitDefEqProofs only [m_impl_Net_canonicalOrder_L1, m_impl_Net_canonicalOrder_B1, hl, dge, cond_false, List.take_length]) (t.length + 1) (Nat.lt_succ_self _)
  simp only [List.take_zero, List.map_nil] at key
  rw [hl]
  refine key.trans ?_
  unfold m_impl_Net_canonicalOrder_A1
  rw [mustP_ok (by simp; omega), Option.bind_some, mustP_ok (pw_nodup hpw), Option.bind_some]
  have hSl : (sorted xs t).length = t.length := by unfold sorted; rw [(srtT_perm _).length_eq, List.length_map]
  show m_impl_Net_canonicalOrder_L2 (t.map (Tt_ xs)) m_impl_Net_canonicalOrder_A2 ((sorted xs t).length + 1) (tr xs 0 xs.length) 0 = _
  have key2 := traj (L := fun g (s : List Int × Int) => m_impl_Net_canonicalOrder_L2 (t.map (Tt_ xs)) m_impl_Net_canonicalOrder_A2 g s.1 s.2) (st := fun k => (tr xs 0 xs.length ++ ((sorted xs t).take k).flatMap (·.list), (k : Int))) (n := (sorted xs t).length) (r := some (canonL xs t))
    (fun g k hk => by
      have hx := List.getElem?_eq_getElem hk
      have hfl := flat_len G (fun i hi => (ht i hi).2) ((sorted xs t).take (k + 1)) (fun s hs' => sorted_list (List.mem_of_mem_take hs'))
      have h0 := (tr_ok G (Int.le_refl 0) (by omega) xs.length).len
      rw [take_succ_some hx, List.flatMap_append, List.length_append, List.length_append, List.length_take] at hfl
      simp only [List.flatMap_cons, List.flatMap_nil, List.append_nil, List.length_cons, List.length_nil] at hfl
      have e1 : (srtT (t.map (Tt_ xs))) = sorted xs t := rfl
      simp -implicitDefEqProofs only [m_impl_Net_canonicalOrder_L2, m_impl_Net_canonicalOrder_B2, e1, dlt hk, cond_true, getI_nat hx, Option.bind_some]
      rw [mustP_ok (by rw [List.length_append]; omega), Option.bind_some, take_succ_some hx, List.flatMap_append]
      simp only [Int.natCast_add, Int.cast_ofNat_Int, List.flatMap_cons, List.flatMap_nil, List.append_nil, List.append_assoc])
    (fun g => by
      have e1 : (srtT (t.map (Tt_ xs))) = sorted xs t := rfl
      simp -implicitDefEqProofs only [m_impl_Net_canonicalOrder_L2, m_impl_Net_canonicalOrder_B2, e1, dge, cond_false, m_impl_Net_canonicalOrder_A2, List.take_length]; rfl) ((sorted xs t).length + 1) (Nat.lt_succ_self _)
  simpa using key2
end
end
section
open Go.RowKit
set_option linter.unusedVariables false
set_option linter.unusedSimpArgs false
section
variable {xs : List DAgent}
theorem p_sInner (G : Good xs) (hs : Small xs) {y : List (List Int)} {j : Int} {c : List Int} (hy : getI y j = some c) (hr : ∀ a ∈ c, 0 ≤ a ∧ a < xs.length) (K : Int → List Int → Option (List Int)) :
    ∀ (m k g : Nat) (b : Int), k + m = c.length → m < g → m_spec_l12Order_L4 ⟨xs⟩ y j K g b (cdf xs b) (k : Int) = K ((c.drop k).foldl (bstep xs) b) (cdf xs ((c.drop k).foldl (bstep xs) b)) := by
  intro m
  induction m with
  | zero =>
    intro k g b hk hg
    obtain ⟨g, rfl⟩ : ∃ g', g = g' + 1 := ⟨g - 1, by omega⟩
    obtain rfl : k = c.length := by omega
    simp -implicitDefEqProofs only [m_spec_l12Order_L4, m_spec_l12Order_B4, hy, Option.bind_some, dge, cond_false, List.drop_length, List.foldl_nil]
  | succ m ih =>
    intro k g b hk hg
    obtain ⟨g, rfl⟩ : ∃ g', g = g' + 1 := ⟨g - 1, by omega⟩
    have hk' : k < c.length := by omega
    have hx := List.getElem?_eq_getElem hk'
    obtain ⟨r0, r1⟩ := hr _ (List.getElem_mem hk')
    simp -implicitDefEqProofs only [m_spec_l12Order_L4, m_spec_l12Order_B4, hy, Option.bind_some, dlt hk', cond_true, getI_nat hx]
    rw [p_sCode G hs r0 r1, Option.bind_some, p_less, Option.bind_some, dropC hx, List.foldl_cons]
    have := ih (k + 1) g (bstep xs b c[k]) (by omega) (by omega)
    rw [show ((k + 1 : Nat) : Int) = (k : Int) + 1 by omega] at this
    rw [← this]
    show (bif decide (cmpL (cdf xs c[k]) (cdf xs b) < 0) then _ else _) = _
    unfold bstep
    by_cases h : cmpL (cdf xs c[k]) (cdf xs b) < 0
    · rw [decide_eq_true h, cond_true, if_pos h]; rfl
    · rw [decide_eq_false h, cond_false, if_neg h]
/-- What the picking has found among the first p that are not used. -/
def Pick (xs : List DAgent) (t : List Nat) (used : Nat → Bool) (p : Nat) (nx : Int) : Prop :=
  (nx = -1 ∧ ∀ q, q < p → used q = true) ∨ ∃ (m : Nat) (a : Nat), nx = (m : Int) ∧ m < p ∧ t[m]? = some a ∧ used m = false ∧ ∀ q b, q < p → t[q]? = some b → used q = false → 0 ≤ cmpT (Tt_ xs b) (Tt_ xs a)
theorem pick_step {t : List Nat} (hpw : t.Pairwise (· < ·)) {used : Nat → Bool} {p : Nat} {nx : Int} (h : Pick xs t used p nx) {a : Nat} (ha : t[p]? = some a) :
    Pick xs t used (p + 1) (if used p = true then nx else if nx < 0 then (p : Int) else if cmpL (cdf xs (B xs a)) (cdf xs (B xs (t.getD nx.toNat 0))) < 0 then (p : Int) else nx) := by
  by_cases hu : used p = true
  · rw [if_pos hu]
    rcases h with ⟨e, h⟩ | ⟨m, b, e, hm, hb, hum, h⟩
    · exact .inl ⟨e, fun q hq => by
        by_cases e2 : q = p
        · rw [e2]; exact hu
        · exact h q (by omega)⟩
    · exact .inr ⟨m, b, e, by omega, hb, hum, fun q c hq hc huq => by
        by_cases e2 : q = p
        · rw [e2, hu] at huq; cases huq
        · exact h q c (by omega) hc huq⟩
  · have hu' : used p = false := by simpa using hu
    rw [if_neg hu]
    have self : 0 ≤ cmpT (Tt_ xs a) (Tt_ xs a) := by rw [cmpT_self]; omega
    rcases h with ⟨e, h⟩ | ⟨m, b, e, hm, hb, hum, h⟩
    · rw [if_pos (by omega)]
      refine .inr ⟨p, a, rfl, by omega, ha, hu', fun q c hq hc huq => ?_⟩
      by_cases e2 : q = p
      · rw [e2, ha] at hc; injection hc with hc; rw [← hc]; exact self
      · rw [h q (by omega)] at huq; cases huq
    · subst e
      have hmb : t.getD (m : Int).toNat 0 = b := by simp [List.getD, hb]
      rw [if_neg (by omega), hmb]
      by_cases hc : cmpL (cdf xs (B xs a)) (cdf xs (B xs b)) < 0
      · rw [if_pos hc]
        have h1 : cmpT (Tt_ xs a) (Tt_ xs b) < 0 := by
          have : cmpL (Tt_ xs a).code (Tt_ xs b).code < 0 := hc
          unfold cmpT
          rw [if_neg (by omega)]; exact this
        have h2 := cmpT_swap (Tt_ xs a) (Tt_ xs b)
        refine .inr ⟨p, a, rfl, by omega, ha, hu', fun q c hq hqc huq => ?_⟩
        by_cases e2 : q = p
        · rw [e2, ha] at hqc; injection hqc with hqc; rw [← hqc]; exact self
        · exact cmpT_le (h q c (by omega) hqc huq) (by omega)
      · rw [if_neg hc]
        refine .inr ⟨m, b, rfl, by omega, hb, hum, fun q c hq hqc huq => ?_⟩
        by_cases e2 : q = p
        · rw [e2, ha] at hqc; injection hqc with hqc; rw [← hqc]
          have hab : b < a := by
            obtain ⟨i1, e1⟩ := List.getElem?_eq_some_iff.1 hb
            obtain ⟨i2, e3⟩ := List.getElem?_eq_some_iff.1 ha
            have := List.pairwise_iff_getElem.1 hpw m p i1 i2 hm
            omega
          have hc' : ¬ cmpL (Tt_ xs a).code (Tt_ xs b).code < 0 := hc
          unfold cmpT
          split
          · have : (b : Int) < a := by omega
            have e4 := cmpI_neg.2 this
            have e5 := cmpI_swap (b : Int) a
            show 0 ≤ cmpI (a : Int) b
            omega
          · omega
        · exact h q c (by omega) hqc huq
theorem p_sPick {t : List Nat} (hpw : t.Pairwise (· < ·)) {ul : List Bool} (hul : ul.length = t.length) (K : Int → Option (List Int)) :
    ∀ (m p g : Nat) (nx : Int), p + m = t.length → m < g → Pick xs t (fun q => ul.getD q false) p nx → ∃ nx', Pick xs t (fun q => ul.getD q false) t.length nx' ∧ m_spec_l12Order_L3 (t.map (B xs)) (t.map fun i => cdf xs (B xs i)) ul K g nx (p : Int) = K nx' := by
  intro m
  induction m with
  | zero =>
    intro p g nx hp hg h
    obtain ⟨g, rfl⟩ : ∃ g', g = g' + 1 := ⟨g - 1, by omega⟩
    obtain rfl : p = t.length := by omega
    refine ⟨nx, h, ?_⟩
    have e : (t.map (B xs)).length = t.length := List.length_map _
    simp -implicitDefEqProofs only [m_spec_l12Order_L3, m_spec_l12Order_B3, e, dge, cond_false]
  | succ m ih =>
    intro p g nx hp hg h
    obtain ⟨g, rfl⟩ : ∃ g', g = g' + 1 := ⟨g - 1, by omega⟩
    have hpl : p < t.length := by omega
    have hx := List.getElem?_eq_getElem hpl
    have hu := List.getElem?_eq_getElem (show p < ul.length by omega)
    have hug : ul.getD p false = ul[p] := by simp [List.getD, hu]
    have hst := pick_step hpw h hx
    obtain ⟨nx', h1, h2⟩ := ih (p + 1) g _ (by omega) (by omega) hst
    refine ⟨nx', h1, ?_⟩
    rw [← h2, show ((p + 1 : Nat) : Int) = (p : Int) + 1 by omega]
    have e : (t.map (B xs)).length = t.length := List.length_map _
    simp -implicitDefEqProofs only [m_spec_l12Order_L3, m_spec_l12Order_B3, e, dlt hpl, cond_true, getI_nat hu, Option.bind_some, hug]
    cases hb : ul[p] with
    | true => simp only [cond_true, if_true]
    | false =>
      simp only [cond_false, Bool.false_eq_true, if_false]
      by_cases hn : nx < 0
      · rw [decide_eq_true hn, cond_true, if_pos hn]
      · rw [decide_eq_false hn, cond_false, if_neg hn]
        rcases h with ⟨e1, _⟩ | ⟨q, b, e1, hq, hqb, _, _⟩
        · omega
        · subst e1
          have hqb' : t.getD (q : Int).toNat 0 = b := by simp [List.getD, hqb]
          rw [getI_nat (xs := t.map fun i => cdf xs (B xs i)) (x := cdf xs (B xs t[p])) (by rw [List.getElem?_map, hx]; rfl), Option.bind_some,
            getI_nat (xs := t.map fun i => cdf xs (B xs i)) (x := cdf xs (B xs b)) (by rw [List.getElem?_map, hqb]; rfl), Option.bind_some, p_less, Option.bind_some, hqb']
          by_cases hc : cmpL (cdf xs (B xs t[p])) (cdf xs (B xs b)) < 0
          · rw [decide_eq_true hc, cond_true, if_pos hc]
          · rw [decide_eq_false hc, cond_false, if_neg hc]
/-- Which components have been listed behind r rounds. -/
noncomputable def usedL (xs : List DAgent) (t : List Nat) (r : Nat) : List Bool := t.map fun i : Nat => decide ((i : Int) ∈ ((sorted xs t).take r).map (·.least))
theorem sorted_nd {t : List Nat} (hpw : t.Pairwise (· < ·)) : ((sorted xs t).map (·.least)).Nodup := ((srtT_perm _).map _).nodup_iff.2 (pw_nodup hpw)
theorem sorted_pw {t : List Nat} (hpw : t.Pairwise (· < ·)) : (sorted xs t).Pairwise (fun x y => 0 ≤ cmpT y x) := by
  have tr : ∀ a b c : DTraversal, decide (0 ≤ cmpT b a) = true → decide (0 ≤ cmpT c b) = true → decide (0 ≤ cmpT c a) = true := fun a b c h1 h2 => by simp only [decide_eq_true_eq] at *; exact cmpT_le h2 h1
  have to : ∀ a b : DTraversal, (decide (0 ≤ cmpT b a) || decide (0 ≤ cmpT a b)) = true := fun a b => by
    simp only [Bool.or_eq_true, decide_eq_true_eq]; have := cmpT_swap a b; omega
  exact (List.pairwise_mergeSort tr to _).imp fun h => of_decide_eq_true h
/-- A pick at the end of a round finds the next in order. -/
theorem pick_next {t : List Nat} (hpw : t.Pairwise (· < ·)) {r : Nat} (hr : r < (sorted xs t).length) {nx : Int} (h : Pick xs t (fun q => (usedL xs t r).getD q false) t.length nx) :
    ∃ (m : Nat) (hm : m < t.length), nx = (m : Int) ∧ (sorted xs t)[r] = Tt_ xs t[m] := by
  have nd := sorted_nd (xs := xs) hpw
  have hsr := List.getElem?_eq_getElem hr
  obtain ⟨i, hi, he⟩ := sorted_list (xs := xs) (t := t) (List.getElem_mem hr)
  obtain ⟨j, hj, rfl⟩ := List.getElem_of_mem hi
  have used_iff : ∀ (q : Nat) (hq : q < t.length), (usedL xs t r).getD q false = decide ((t[q] : Int) ∈ ((sorted xs t).take r).map (·.least)) := fun q hq => by
    have e : (usedL xs t r)[q]? = some (decide ((t[q] : Int) ∈ ((sorted xs t).take r).map (·.least))) := by
      unfold usedL; rw [List.getElem?_map, List.getElem?_eq_getElem hq]; rfl
    simp [List.getD, e]
  have hleast : (t[j] : Int) ∉ ((sorted xs t).take r).map (·.least) := fun hin => by
    have h1 : ((sorted xs t).map (·.least))[r]? = some (t[j] : Int) := by rw [List.getElem?_map, hsr, he]; rfl
    have h2 : (sorted xs t).map (·.least) = ((sorted xs t).take r).map (·.least) ++ ((sorted xs t).drop r).map (·.least) := by rw [← List.map_append, List.take_append_drop]
    rw [h2] at nd
    have h3 : (t[j] : Int) ∈ ((sorted xs t).drop r).map (·.least) := by
      rw [dropC hsr, List.map_cons, he]; simp [Tt_, tv]
    exact (List.nodup_append.1 nd).2.2 _ hin _ h3 rfl
  rcases h with ⟨_, h⟩ | ⟨m, a, e, hm, ha, hum, h⟩
  · have := (used_iff j hj).symm.trans (h j hj)
    exact absurd (of_decide_eq_true this) hleast
  · refine ⟨m, hm, e, ?_⟩
    obtain ⟨hm', ha'⟩ := List.getElem?_eq_some_iff.1 ha
    subst ha'
    have h1 := h j t[j] hj (List.getElem?_eq_getElem hj) ((used_iff j hj).trans (decide_eq_false hleast))
    have hum := of_decide_eq_false ((used_iff m hm').symm.trans hum)
    have hmem : Tt_ xs t[m] ∈ sorted xs t := (srtT_perm _).mem_iff.2 (List.mem_map.2 ⟨_, List.getElem_mem hm', rfl⟩)
    obtain ⟨p, hp, hpe⟩ := List.getElem_of_mem hmem
    have hpr : r ≤ p := by
      apply Classical.byContradiction
      intro hlt
      apply hum
      refine List.mem_map.2 ⟨Tt_ xs t[m], ?_, rfl⟩
      rw [← hpe]
      exact List.mem_take_iff_getElem.2 ⟨p, by omega, rfl⟩
    rcases Nat.lt_or_ge r p with hlt | hge
    · have h2 := List.pairwise_iff_getElem.1 (sorted_pw (xs := xs) hpw) r p hr hp hlt
      rw [hpe, he] at h2
      have h3 := cmpT_swap (Tt_ xs t[j]) (Tt_ xs t[m])
      have h4 := (cmpT_zero (show cmpT (Tt_ xs t[j]) (Tt_ xs t[m]) = 0 by omega)).2
      have h5 : (t[j] : Int) = t[m] := h4
      have h6 : t[j] = t[m] := by omega
      rw [he, h6]
    · obtain rfl : p = r := by omega
      exact hpe
theorem usedL_step {t : List Nat} (hpw : t.Pairwise (· < ·)) {r : Nat} (hr : r < (sorted xs t).length) {m : Nat} (hm : m < t.length) (he : (sorted xs t)[r] = Tt_ xs t[m]) : setI (usedL xs t r) (m : Int) true = usedL xs t (r + 1) := by
  rw [setI_nat]
  apply List.ext_getElem?
  intro q
  by_cases hq : q < t.length
  · have e : ∀ r, (usedL xs t r)[q]? = some (decide ((t[q] : Int) ∈ ((sorted xs t).take r).map (·.least))) := fun r => by
      unfold usedL; rw [List.getElem?_map, List.getElem?_eq_getElem hq]; rfl
    have hl : (usedL xs t r).length = t.length := List.length_map _
    rw [e (r + 1), take_succ_some (List.getElem?_eq_getElem hr), List.map_append, he]
    by_cases hqm : q = m
    · subst hqm
      rw [List.getElem?_set_self (by omega)]
      simp [Tt_, tv]
    · rw [List.getElem?_set_ne (fun e => hqm e.symm), e r]
      have hne : t[q] ≠ t[m] := fun e2 => by
        rcases Nat.lt_or_ge q m with h1 | h1
        · have := List.pairwise_iff_getElem.1 hpw q m hq hm h1; omega
        · have := List.pairwise_iff_getElem.1 hpw m q hm hq (by omega); omega
      have hne' : (t[q] : Int) ≠ t[m] := by omega
      congr 1
      refine decide_eq_decide.2 ?_
      simp only [List.mem_append, List.map_cons, List.map_nil, List.mem_singleton]
      exact ⟨fun h => .inl h, fun h => h.resolve_right fun e2 => hne' e2⟩
  · rw [List.getElem?_eq_none (by simp [usedL]; omega), List.getElem?_eq_none (by simp [usedL]; omega)]
theorem p_sCOrder (G : Good xs) (hs : Small xs) {t : List Nat} (hp : (part xs xs.length).1 = comp xs 0 :: t.map (comp xs)) (hpw : t.Pairwise (· < ·)) (ht : ∀ i ∈ t, 0 < i ∧ i < xs.length ∧ ∃ l, comp xs i = (i : Int) :: l) (hc0 : ∃ l, comp xs 0 = (0 : Int) :: l) : m_spec_l12Order ⟨xs⟩ = some (canonL xs t) := by
  have h6 := G.len
  have h1 := G.one
  have htl : t.length ≤ 600 := by have := pw_len t 0 xs.length hpw (fun i hi => ⟨Nat.zero_le _, (ht i hi).2.1⟩); omega
  unfold m_spec_l12Order
  rw [p_sTraverse G (Int.le_refl 0) (by omega), Option.bind_some, p_sParts G, Option.bind_some, hp]
  generalize hy : comp xs 0 :: t.map (comp xs) = y
  have hyl : y.length = t.length + 1 := by rw [← hy]; simp
  have key := traj (L := fun g (s : (List Int × List (List Int)) × Int) => m_spec_l12Order_L1 ⟨xs⟩ y (m_spec_l12Order_A1 ⟨xs⟩ (tr xs 0 xs.length, atOf xs.length (tr xs 0 xs.length))) g s.1.1 s.1.2 s.2) (st := fun k => (((t.take (k - 1)).map (B xs), (t.take (k - 1)).map fun i => cdf xs (B xs i)), (k : Int))) (n := y.length)
    (r := m_spec_l12Order_A1 ⟨xs⟩ (tr xs 0 xs.length, atOf xs.length (tr xs 0 xs.length)) (t.map (B xs)) (t.map fun i => cdf xs (B xs i)))
    (fun g k hk => by
      cases k with
      | zero =>
        obtain ⟨l, hl⟩ := hc0
        have hg : getI y (((0 : Nat) : Int)) = some (0 :: l) := by rw [← hy, hl]; rfl
        simp -implicitDefEqProofs only [m_spec_l12Order_L1, m_spec_l12Order_B1, dlt hk, cond_true]
        rw [hg, Option.bind_some, show getI ((0 : Int) :: l) 0 = some 0 from rfl, Option.bind_some]
        rfl
      | succ k =>
        have hk' : k < t.length := by omega
        have hx := List.getElem?_eq_getElem hk'
        obtain ⟨p0, p1, l, p2⟩ := ht _ (List.getElem_mem hk')
        have hg : getI y ((k + 1 : Nat) : Int) = some (comp xs t[k]) := getI_nat (by rw [← hy, List.getElem?_cons_succ, List.getElem?_map, hx]; rfl)
        have hb := B_in G p1 p2
        have h00 : getI (comp xs t[k]) 0 = some (t[k] : Int) := by rw [p2]; rfl
        simp -implicitDefEqProofs only [m_spec_l12Order_L1, m_spec_l12Order_B1, dlt hk, cond_true]
        rw [hg, Option.bind_some, h00, Option.bind_some, show ((t[k] : Int) == 0) = false by simp; omega, cond_false, Option.bind_some, h00, Option.bind_some, p_sCode G hs (by omega) (by omega), Option.bind_some]
        have hin := p_sInner G hs hg (comp_in G p1).inr (m_spec_l12Order_A4 (fun a b c => m_spec_l12Order_L1 ⟨xs⟩ y (m_spec_l12Order_A1 ⟨xs⟩ (tr xs 0 xs.length, atOf xs.length (tr xs 0 xs.length))) g a b c) ((t.take k).map (B xs)) ((t.take k).map fun i => cdf xs (B xs i)) ((k + 1 : Nat) : Int)) ((comp xs t[k]).length - 1) 1 (((some (comp xs t[k])).getD default).length + 1) (t[k] : Int) (by rw [p2]; simp; omega) (by simp; omega)
        refine hin.trans ?_
        have hfold : ((comp xs t[k]).drop 1).foldl (bstep xs) (t[k] : Int) = B xs t[k] := by unfold B; rw [p2]; rfl
        rw [hfold]
        unfold m_spec_l12Order_A4
        rw [mustP_ok (by simp; omega), Option.bind_some, mustP_ok (by simp; omega), Option.bind_some, ck_ok (by omega), Option.bind_some]
        simp only [Nat.add_sub_cancel]
        rw [take_succ_some hx, List.map_append, List.map_append]
        simp only [Int.natCast_add, Int.cast_ofNat_Int, List.map_cons, List.map_nil])
    (fun g => by
      have e : y.length - 1 = t.length := by omega
      simp -implicitDefEqProofs only [m_spec_l12Order_L1, m_spec_l12Order_B1, dge, cond_false, e, List.take_length]) (y.length + 1) (Nat.lt_succ_self _)
  have key : m_spec_l12Order_L1 ⟨xs⟩ y (m_spec_l12Order_A1 ⟨xs⟩ (tr xs 0 xs.length, atOf xs.length (tr xs 0 xs.length))) (y.length + 1) [] [] 0 = _ := key
  rw [key]
  have hml : (t.map (B xs)).length = t.length := List.length_map _
  have hSl : (sorted xs t).length = t.length := by unfold sorted; rw [(srtT_perm _).length_eq, List.length_map]
  unfold m_spec_l12Order_A1
  rw [mustP_ok (by omega), Option.bind_some]
  have key2 := traj (L := fun g (s : (List Int × List Bool) × Int) => m_spec_l12Order_L2 ⟨xs⟩ (t.map (B xs)) (t.map fun i => cdf xs (B xs i)) m_spec_l12Order_A2 g s.1.1 s.1.2 s.2) (st := fun r => ((tr xs 0 xs.length ++ ((sorted xs t).take r).flatMap (·.list), usedL xs t r), (r : Int))) (n := t.length) (r := some (canonL xs t))
    (fun g r hr => by
      have hr' : r < (sorted xs t).length := by omega
      have hsr := List.getElem?_eq_getElem hr'
      simp -implicitDefEqProofs only [m_spec_l12Order_L2, m_spec_l12Order_B2, hml, dlt hr, cond_true]
      obtain ⟨nx, h1, h2⟩ := p_sPick (xs := xs) hpw (ul := usedL xs t r) (List.length_map _) (m_spec_l12Order_A3 ⟨xs⟩ (t.map (B xs)) (fun a b c => m_spec_l12Order_L2 ⟨xs⟩ (t.map (B xs)) (t.map fun i => cdf xs (B xs i)) m_spec_l12Order_A2 g a b c) (tr xs 0 xs.length ++ ((sorted xs t).take r).flatMap (·.list)) (usedL xs t r) (r : Int)) t.length 0 (t.length + 1) (-1) (by omega) (by omega) (.inl ⟨rfl, fun q hq => by omega⟩)
      refine h2.trans ?_
      obtain ⟨m, hm, rfl, he⟩ := pick_next hpw hr' h1
      obtain ⟨p0, p1, l, p2⟩ := ht _ (List.getElem_mem hm)
      have hb := B_in G p1 p2
      have hmx := List.getElem?_eq_getElem hm
      have hfl := flat_len G (fun i hi => (ht i hi).2) ((sorted xs t).take (r + 1)) (fun s hs' => sorted_list (List.mem_of_mem_take hs'))
      have h0 := (tr_ok G (Int.le_refl 0) (by omega) xs.length).len
      rw [take_succ_some hsr, List.flatMap_append, List.length_append, List.length_append, List.length_take, he] at hfl
      simp only [List.flatMap_cons, List.flatMap_nil, List.append_nil, List.length_cons, List.length_nil] at hfl
      have hTl : (Tt_ xs t[m]).list = tr xs (B xs t[m]) xs.length := rfl
      rw [hTl] at hfl
      have hu : ∃ b, getI (usedL xs t r) (m : Int) = some b := ⟨_, getI_nat (List.getElem?_eq_getElem (by unfold usedL; simpa using hm))⟩
      obtain ⟨b, hu⟩ := hu
      unfold m_spec_l12Order_A3
      rw [hu, Option.bind_some, getI_nat (xs := t.map (B xs)) (x := B xs t[m]) (by rw [List.getElem?_map, hmx]; rfl), Option.bind_some, p_sTraverse G hb.1 hb.2, Option.bind_some]
      simp only
      rw [mustP_ok (by rw [List.length_append]; omega), Option.bind_some, ck_ok (by omega), Option.bind_some, usedL_step hpw hr' hm he, take_succ_some hsr, List.flatMap_append, he]
      simp only [Int.natCast_add, Int.cast_ofNat_Int, List.flatMap_cons, List.flatMap_nil, List.append_nil, List.append_assoc, hTl])
    (fun g => by
      simp -implicitDefEqProofs only [m_spec_l12Order_L2, m_spec_l12Order_B2, hml, dge, cond_false, m_spec_l12Order_A2]
      rw [List.take_of_length_le (by omega)]; rfl) (t.length + 1) (Nat.lt_succ_self _)
  have e0 : usedL xs t 0 = List.replicate (t.map (B xs)).length false := by
    unfold usedL
    rw [hml]
    simp [List.map_const']
  rw [← e0, hml]
  simpa using key2
end
end
section
open Go.RowKit
set_option linter.unusedVariables false
def tl (xs : List DAgent) : List Nat := (stt xs xs.length).tail
theorem comps_t {xs : List DAgent} (G : Good xs) : (part xs xs.length).1 = comp xs 0 :: (tl xs).map (comp xs) ∧ (tl xs).Pairwise (· < ·) ∧ (∀ i ∈ tl xs, 0 < i ∧ i < xs.length ∧ ∃ l, comp xs i = (i : Int) :: l) ∧ ∃ l, comp xs 0 = (0 : Int) :: l := by
  obtain ⟨t, ht⟩ := stt_head G.one xs.length G.one
  have e : tl xs = t := by unfold tl; rw [ht]; rfl
  have hpw := stt_pw (xs := xs) xs.length
  rw [ht] at hpw
  have hh : ∀ i ∈ stt xs xs.length, i < xs.length ∧ ∃ l, comp xs i = (i : Int) :: l := fun i hi =>
    ⟨stt_lt _ i hi, srt_head (tr_self _ _) (stt_low G xs.length (Nat.le_refl _) i hi)⟩
  rw [ht] at hh
  rw [e]
  refine ⟨by rw [part_stt, ht]; rfl, (List.pairwise_cons.1 hpw).2, fun i hi => ⟨(List.pairwise_cons.1 hpw).1 i hi, hh i (by simp [hi])⟩, (hh 0 (by simp)).2⟩
noncomputable def canonOf (xs : List DAgent) : List Int := canonL xs (tl xs)
theorem p_sCanon {xs : List DAgent} (G : Good xs) (hs : Small xs) : m_spec_l12Order ⟨xs⟩ = some (canonOf xs) := by
  obtain ⟨h1, h2, h3, h4⟩ := comps_t G
  exact p_sCOrder G hs h1 h2 h3 h4
theorem p_iCanon {xs : List DAgent} (G : Good xs) (hs : Small xs) : m_impl_Net_canonicalOrder ⟨xs⟩ = some (canonOf xs) := by
  obtain ⟨h1, h2, h3, h4⟩ := comps_t G
  exact p_iCOrder G hs h1 h2 h3
end
section
open Go.RowKit
set_option linter.unusedVariables false
set_option linter.unusedSimpArgs false
set_option maxRecDepth 100000
def m_spec_l12Net (d0 : DNet) : Option DNet :=
  ((m_spec_l12Order d0).bind fun y6 => ((m_spec_l11Renumber d0 y6).bind fun y13 => some y13))
set_option maxHeartbeats 2000000 in
theorem c_m_spec_l12Net (d0 : DNet) (r : DNet) (hm : m_spec_l12Net d0 = some r) (v0 : Value) (w : World) (hv0 : Pt netRd w v0 d0) :
    Calls Tryz.prog 31 #[v0] w fun e w' => (∃ (v0 : Value) (bs0 : List Nat), e = .returned (.agg #[v0]) ∧ OwN 63 agentOw 5 w' w.heap.size v0 r.agents bs0) ∧ Below w.heap.size w w' := by
  obtain ⟨ba0, oa0, csa0, rfl, hba0, hRa0, hca0⟩ := hv0
  have hSa0 := hRa0
  obtain ⟨A1, n1, c1, rfl, ⟨h1, r1⟩⟩ := hRa0
  have e1 := h1.len; subst e1
  have q1 := len_le r1
  have T := Below.refl w.heap.size w
  unfold m_spec_l12Net at hm
  refine enter 7 Tryz.func31 rfl rfl rfl ?_
  intro f hf
  have s0 : f 0 = .pointer (some ⟨ba0, oa0, none⟩) := hf 0 _ rfl
  refine wp_seq ?_
  refine wp_rl rfl ?_
  refine RL.alloc (z := .agg #[.slice none 0 0]) rfl (by kernel_rfl) (fun w2 B3 hb4 szw2 => ?_)
  replace B3 : Blk w2 w.heap.size 31 #[.slice none 0 0] := B3
  have GB3 : w.heap.size ≤ w.heap.size := T.size
  have T := Tt T hb4
  refine RL.nil ?_
  refine then_n ?_
  refine wp_seq ?_
  refine wp_rl rfl ?_
  refine RL.y rfl (Y.move (v := .pointer (some ⟨ba0, oa0, none⟩)) s0) ?_
  refine RL.y rfl (Y.move (v := .pointer (some ⟨ba0, oa0, none⟩)) s0) ?_
  obtain ⟨y6, e7, hm⟩ := bnd hm
  refine RL.call rfl (am1 rfl) (by kernel_rfl) ((c_m_spec_l12Order d0 _ e7 _ _ (ptArg netRd_ok hba0 hSa0 hca0 T)).mono ?_)
  rintro _ w11 ⟨⟨v8, rfl, G9⟩, hb12⟩
  refine ⟨_, rfl, ?_⟩
  have szw11 := hb12.size
  have T0w11 := T.size
  have Zo10_ob5 := ap_ne (Ap.new (OwF.flo G9) (one_hi B3.lt))
  have B3 := blkT B3 hb12
  have T := Tt T hb12
  replace G9 := OwF.mono G9 T0w11
  obtain ⟨y13, e14, hm⟩ := bnd hm
  refine RL.call rfl (am2 rfl rfl) (by kernel_rfl) ((c_m_spec_l11Renumber d0 y6 _ e14 _ _ _ (ptArg netRd_ok hba0 hSa0 hca0 T) (OwF.arg fI G9)).mono ?_)
  rintro _ w19 ⟨⟨v15, bs18, rfl, G16⟩, hb20⟩
  refine ⟨_, rfl, ?_⟩
  have szw19 := hb20.size
  have T0w19 := T.size
  have Zo17_ob5 : Ap bs18 [w.heap.size] := (Ap.new (OwN.lo_ G16) (one_hi B3.lt))
  have Zo17_o10 : Ap bs18 (fb v8) := (Ap.new (OwN.lo_ G16) (OwF.fhi G9))
  have B3 := blkT B3 hb20
  have G9 := OwF.below G9 hb20
  have T := Tt T hb20
  replace G16 := OwN.mono G16 T0w19
  obtain ⟨A21, c22, rfl⟩ := OwN.form G16
  have qbA21 := OwN.bound G16
  refine RL.store (v := .agg #[.slice A21 y13.agents.length c22]) (cs' := #[.slice A21 y13.agents.length c22]) rfl rfl rfl B3 (by kernel_rfl) (by rfl) (by rfl) (by rfl) (fun w23 B24 ho25 => ?_)
  have szw23 := ho25.size
  have G9 := OwF.only G9 ho25 Zo10_ob5
  have G16 := OwN.only agentOw_ok G16 ho25 (Ap.one Zo17_ob5)
  have T := T.trans (ho25.below (by first | (simp; done) | (simp; omega)))
  refine RL.nil ?_
  refine then_n ?_
  refine wp_ret ?_
  obtain rfl := Option.some.inj hm
  exact (retc (cs := [.slice A21 y13.agents.length c22]) rfl rfl rfl (by kernel_rfl) (blkCells B24) ⟨⟨_, _, rfl, G16⟩, T⟩)
def m_impl_canonical (d0 : DNet) : Option DNet :=
  ((m_impl_Net_canonicalOrder d0).bind fun y10 => ((m_impl_Net_renumber d0 y10).bind fun y17 => some y17))
set_option maxHeartbeats 2000000 in
theorem c_m_impl_canonical (d0 : DNet) (r : DNet) (hm : m_impl_canonical d0 = some r) (v0 : Value) (w : World) (hv0 : St netRd w v0 d0) :
    Calls Tryz.prog 32 #[v0] w fun e w' => (∃ (v0 : Value) (bs0 : List Nat), e = .returned (.agg #[v0]) ∧ OwN 63 agentOw 5 w' w.heap.size v0 r.agents bs0) ∧ Below w.heap.size w w' := by
  obtain ⟨csa0, rfl, ⟨A1, n1, c1, rfl, ⟨h1, r1⟩⟩⟩ := hv0
  have e1 := h1.len; subst e1
  have q1 := len_le r1
  have T := Below.refl w.heap.size w
  unfold m_impl_canonical at hm
  refine enter 5 Tryz.func32 rfl rfl rfl ?_
  intro f hf
  have s0 : f 0 = .agg #[.slice A1 d0.agents.length c1] := hf 0 _ rfl
  refine wp_seq ?_
  refine wp_rl rfl ?_
  refine RL.box rfl s0 (fun w2 B3 hb4 szw2 => ?_)
  replace B3 : Blk w2 w.heap.size 31 #[.slice A1 d0.agents.length c1] := B3
  have GB3 : w.heap.size ≤ w.heap.size := T.size
  have T := Tt T hb4
  refine RL.alloc (z := .agg #[.slice none 0 0]) rfl (by kernel_rfl) (fun w6 B7 hb8 szw6 => ?_)
  replace B7 : Blk w6 w2.heap.size 31 #[.slice none 0 0] := B7
  have GB7 : w.heap.size ≤ w2.heap.size := T.size
  have Eob9_ob5 := Nat.ne_of_lt B3.lt
  have B3 := blkT B3 hb8
  have T := Tt T hb8
  refine RL.nil ?_
  refine then_n ?_
  refine wp_seq ?_
  refine wp_rl rfl ?_
  obtain ⟨y10, e11, hm⟩ := bnd hm
  refine RL.call rfl (am1 rfl) (by kernel_rfl) ((c_m_impl_Net_canonicalOrder d0 _ e11 _ _ (ptBox (R := netRd) B3 ⟨_, _, _, rfl, ⟨SlAt.now agentRd_ok h1 (Nat.le_refl _) T, r1⟩⟩)).mono ?_)
  rintro _ w15 ⟨⟨v12, rfl, G13⟩, hb16⟩
  refine ⟨_, rfl, ?_⟩
  have szw15 := hb16.size
  have T0w15 := T.size
  have Zo14_ob5 := ap_ne (Ap.new (OwF.flo G13) (one_hi B3.lt))
  have Zo14_ob9 := ap_ne (Ap.new (OwF.flo G13) (one_hi B7.lt))
  have B3 := blkT B3 hb16
  have B7 := blkT B7 hb16
  have T := Tt T hb16
  replace G13 := OwF.mono G13 T0w15
  obtain ⟨y17, e18, hm⟩ := bnd hm
  refine RL.call rfl (am2 rfl rfl) (by kernel_rfl) ((c_m_impl_Net_renumber d0 y10 _ e18 _ _ _ (ptBox (R := netRd) B3 ⟨_, _, _, rfl, ⟨SlAt.now agentRd_ok h1 (Nat.le_refl _) T, r1⟩⟩) (OwF.arg fI G13)).mono ?_)
  rintro _ w23 ⟨⟨v19, bs22, rfl, G20⟩, hb24⟩
  refine ⟨_, rfl, ?_⟩
  have szw23 := hb24.size
  have T0w23 := T.size
  have Zo21_ob5 : Ap bs22 [w.heap.size] := (Ap.new (OwN.lo_ G20) (one_hi B3.lt))
  have Zo21_ob9 : Ap bs22 [w2.heap.size] := (Ap.new (OwN.lo_ G20) (one_hi B7.lt))
  have Zo21_o14 : Ap bs22 (fb v12) := (Ap.new (OwN.lo_ G20) (OwF.fhi G13))
  have B3 := blkT B3 hb24
  have B7 := blkT B7 hb24
  have G13 := OwF.below G13 hb24
  have T := Tt T hb24
  replace G20 := OwN.mono G20 T0w23
  obtain ⟨A25, c26, rfl⟩ := OwN.form G20
  have qbA25 := OwN.bound G20
  refine RL.store (v := .agg #[.slice A25 y17.agents.length c26]) (cs' := #[.slice A25 y17.agents.length c26]) rfl rfl rfl B7 (by kernel_rfl) (by rfl) (by rfl) (by rfl) (fun w27 B28 ho29 => ?_)
  have szw27 := ho29.size
  have B3 := B3.only_ ho29 (by intro hin; simp at hin; exact Eob9_ob5 hin)
  have G13 := OwF.only G13 ho29 Zo14_ob9
  have G20 := OwN.only agentOw_ok G20 ho29 (Ap.one Zo21_ob9)
  have T := T.trans (ho29.below (by first | (simp; done) | (simp; omega)))
  refine RL.nil ?_
  refine then_n ?_
  refine wp_ret ?_
  obtain rfl := Option.some.inj hm
  exact (retc (cs := [.slice A25 y17.agents.length c26]) rfl rfl rfl (by kernel_rfl) (blkCells B28) ⟨⟨_, _, rfl, G20⟩, T⟩)
end
section
open Go.RowKit
set_option linter.unusedVariables false
set_option linter.unusedSimpArgs false
section
variable {xs : List DAgent}
theorem stt_tl (G : Good xs) : stt xs xs.length = 0 :: tl xs := by
  obtain ⟨t, ht⟩ := stt_head G.one xs.length G.one
  unfold tl; rw [ht]; rfl
theorem comp_disj (G : Good xs) {i j : Nat} (hi : i ∈ stt xs xs.length) (hj : j ∈ stt xs xs.length) {a : Int} (hai : a ∈ tr xs (i : Int) xs.length) (haj : a ∈ tr xs (j : Int) xs.length) : i = j := by
  have li := stt_lt _ i hi
  have lj := stt_lt _ j hj
  have h1 := tr_sub G (by omega) (by omega) hai _ (tr_symm G (by omega) (by omega) haj)
  have h2 := tr_sub G (by omega) (by omega) haj _ (tr_symm G (by omega) (by omega) hai)
  have := stt_low G xs.length (Nat.le_refl _) i hi _ h1
  have := stt_low G xs.length (Nat.le_refl _) j hj _ h2
  omega
theorem B_tr (G : Good xs) {i : Nat} (h1 : i < xs.length) (h2 : ∃ l, comp xs i = (i : Int) :: l) : B xs i ∈ tr xs (i : Int) xs.length := by
  obtain ⟨l, h2⟩ := h2
  have := best_mem (xs := xs) h2
  exact srt_mem.1 this
theorem canon_mem (G : Good xs) {a : Int} (h0 : 0 ≤ a) (h1 : a < xs.length) : a ∈ canonOf xs := by
  obtain ⟨_, _, h3, _⟩ := comps_t G
  obtain ⟨k, rfl⟩ := Int.eq_ofNat_of_zero_le h0
  have hp := part_all (xs := xs) xs.length k (by omega)
  rw [part_stt, stt_tl G] at hp
  obtain ⟨i, hi, ha⟩ := List.mem_flatMap.1 hp
  unfold canonOf canonL
  rcases List.mem_cons.1 hi with rfl | hi
  · exact List.mem_append.2 (.inl ha)
  · obtain ⟨p0, p1, p2⟩ := h3 i hi
    refine List.mem_append.2 (.inr (List.mem_flatMap.2 ⟨Tt_ xs i, (srtT_perm _).mem_iff.2 (List.mem_map.2 ⟨i, hi, rfl⟩), ?_⟩))
    have hb := B_tr G p1 p2
    obtain ⟨l, p2⟩ := p2
    have rb := B_in G p1 p2
    exact tr_sub G rb.1 rb.2 (tr_symm G (by omega) (by omega) hb) _ ha
theorem canon_gl (G : Good xs) : GL xs.length (canonOf xs) := by
  obtain ⟨_, hpw, h3, _⟩ := comps_t G
  have h1 := G.one
  have mem : ∀ s ∈ sorted xs (tl xs), ∃ i ∈ tl xs, s = Tt_ xs i ∧ GL xs.length s.list ∧ ∀ a ∈ s.list, a ∈ tr xs (i : Int) xs.length := fun s hs => by
    obtain ⟨i, hi, rfl⟩ := sorted_list hs
    obtain ⟨p0, p1, p2⟩ := h3 i hi
    have hb := B_tr G p1 p2
    obtain ⟨l, p2⟩ := p2
    have rb := B_in G p1 p2
    exact ⟨i, hi, rfl, tr_ok G rb.1 rb.2 _, tr_sub G (by omega) (by omega) hb⟩
  have st : ∀ i ∈ tl xs, i ∈ stt xs xs.length := fun i hi => by rw [stt_tl G]; simp [hi]
  refine ⟨?_, fun a ha => ?_⟩
  · unfold canonOf canonL
    refine List.nodup_append.2 ⟨(tr_ok G (Int.le_refl 0) (by omega) _).nd, ?_, fun a ha b hb e => ?_⟩
    · unfold List.Nodup
      rw [List.pairwise_flatMap]
      refine ⟨fun s hs => (mem s hs).choose_spec.2.2.1.nd, ?_⟩
      have nd := sorted_nd (xs := xs) hpw
      unfold List.Nodup at nd
      rw [List.pairwise_map] at nd
      refine nd.imp_of_mem ?_
      intro s s' hs hs' hne a ha b hb e
      subst e
      obtain ⟨i, hi, rfl, _, ai⟩ := mem s hs
      obtain ⟨j, hj, rfl, _, aj⟩ := mem s' hs'
      have := comp_disj G (st i hi) (st j hj) (ai a ha) (aj a hb)
      exact hne (by rw [this])
    · subst e
      obtain ⟨s, hs, has⟩ := List.mem_flatMap.1 hb
      obtain ⟨i, hi, rfl, _, ai⟩ := mem s hs
      have := comp_disj G (i := 0) (j := i) (by rw [stt_tl G]; simp) (st i hi) ha (ai a has)
      have := (h3 i hi).1
      omega
  · unfold canonOf canonL at ha
    rcases List.mem_append.1 ha with ha | ha
    · exact (tr_ok G (Int.le_refl 0) (by omega) _).inr a ha
    · obtain ⟨s, hs, has⟩ := List.mem_flatMap.1 ha
      obtain ⟨i, hi, rfl, g, _⟩ := mem s hs
      exact g.inr a has
theorem canon_len (G : Good xs) : (canonOf xs).length = xs.length := by
  have h1 := (canon_gl G).len
  have h2 := List.Nodup.length_le_of_subset (l₁ := (List.range xs.length).map fun i : Nat => (i : Int)) (l₂ := canonOf xs)
    (by unfold List.Nodup; rw [List.pairwise_map]; exact List.nodup_range.imp fun h e => h (by omega))
    (fun a ha => by
      obtain ⟨i, hi, rfl⟩ := List.mem_map.1 ha
      have := List.mem_range.1 hi
      exact canon_mem G (by omega) (by omega))
  simp at h2
  omega
theorem canon_shut (G : Good xs) : Shut xs (canonOf xs) := fun a ha p hp => by
  have r := (canon_gl G).inr a ha
  have := nb_to G r.1 r.2 hp
  exact canon_mem G this.1 this.2
noncomputable def canonNet (xs : List DAgent) : DNet := ⟨renL xs (canonOf xs)⟩
theorem p_sNet (G : Good xs) (hs : Small xs) : m_spec_l12Net ⟨xs⟩ = some (canonNet xs) := by
  unfold m_spec_l12Net
  rw [p_sCanon G hs, Option.bind_some, p_sRenumber hs G.len (canon_gl G) (canon_len G) (canon_shut G)]; rfl
theorem p_iNet (G : Good xs) (hs : Small xs) : m_impl_canonical ⟨xs⟩ = some (canonNet xs) := by
  unfold m_impl_canonical
  rw [p_iCanon G hs, Option.bind_some, p_iRenumber hs G.len (canon_gl G) (canon_shut G)]; rfl
end
end
section
open Go.RowKit
set_option linter.unusedVariables false
theorem eqI {α ρ : Type} [DecidableEq α] {L : Nat → Int → Option ρ} {xs ys : List α} {no yes : Option ρ} (hl : xs.length = ys.length) (h : ∀ g (k : Nat) (hx : k < xs.length) (hy : k < ys.length), L (g + 1) (k : Int) = if xs[k] = ys[k] then L g ((k : Int) + 1) else no) (he : ∀ g, L (g + 1) (xs.length : Int) = yes) (g : Nat) (hg : xs.length < g) :
    L g 0 = if xs = ys then yes else no := by
  have key := allO (L := L) (n := xs.length) (p := fun k => xs[k]? = ys[k]?) (no := no) (K := yes)
    (fun g k hk hp => by
      have hy : k < ys.length := by omega
      rw [h g k hk hy, if_pos]
      rw [List.getElem?_eq_getElem hk, List.getElem?_eq_getElem hy] at hp
      injection hp)
    (fun g k hk hp => by
      have hy : k < ys.length := by omega
      rw [h g k hk hy, if_neg]
      intro e
      rw [List.getElem?_eq_getElem hk, List.getElem?_eq_getElem hy, e] at hp
      exact hp rfl) he g hg
  rcases key with ⟨h1, h2⟩ | ⟨h1, h2⟩
  · have e : xs = ys := List.ext_getElem? fun k => by
      by_cases hk : k < xs.length
      · exact h1 k hk
      · rw [List.getElem?_eq_none (by omega), List.getElem?_eq_none (by omega)]
    rw [if_pos e, h2]
  · rw [if_neg, h2]
    intro e
    exact h1 fun k _ => by rw [e]
end
end Go.Proofs.YtebioddcnldjkaaGreat
