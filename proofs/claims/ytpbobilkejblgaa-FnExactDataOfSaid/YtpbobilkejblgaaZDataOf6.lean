/- Lemmas of the proof of DataOf, part 6. No condition. -/
import Derived.Test.YtpbobilkejblgaaZDataOf5
namespace Go.Proofs.Ytpbobilkejblgaa
section
open Go.RowKit
set_option linter.unusedVariables false
set_option linter.unusedSimpArgs false
set_option maxRecDepth 100000
noncomputable def m_laws_eqInt64S_A1 : Option Bool :=
  some true
noncomputable def m_laws_eqInt64S_B1 (d0 : List Int) (d1 : List Int) (rec1 : Int → Option Bool) (K1 : Option Bool) (i3 : Int) : Option Bool :=
  (bif (decide (i3 < (d0.length : Int))) then ((getI d0 i3).bind fun x6 => ((getI d1 i3).bind fun x15 => (bif (x6 != x15) then some false else (rec1 (i3 + 1))))) else (K1))
noncomputable def m_laws_eqInt64S_L1 (d0 : List Int) (d1 : List Int) (K1 : Option Bool) : Nat → Int → Option Bool
  | 0, _ => none
  | g + 1, i3 => m_laws_eqInt64S_B1 d0 d1 (m_laws_eqInt64S_L1 d0 d1 K1 g) K1 i3
noncomputable def m_laws_eqInt64S (d0 : List Int) (d1 : List Int) : Option Bool :=
  (bif ((d0.length : Int) != (d1.length : Int)) then some false else (m_laws_eqInt64S_L1 d0 d1 m_laws_eqInt64S_A1 (d0.length + 1) 0))
set_option maxHeartbeats 2000000 in
theorem c_m_laws_eqInt64S (d0 : List Int) (d1 : List Int) (r : Bool) (hm : m_laws_eqInt64S d0 d1 = some r) (v0 : Value) (v1 : Value) (w : World) (hv0 : Sl intRd 1 w v0 d0) (hv1 : Sl intRd 1 w v1 d1) :
    Calls Try.prog 45 #[v0, v1] w fun e w' => e = .returned (.bool r) ∧ Below w.heap.size w w' := by
  obtain ⟨Aa0, na0, ca0, rfl, ha0, ra0⟩ := hv0
  have ea0 := ha0.len; subst ea0
  have qa0 := len_le ra0
  obtain ⟨Aa1, na1, ca1, rfl, ha1, ra1⟩ := hv1
  have ea1 := ha1.len; subst ea1
  have qa1 := len_le ra1
  have T := Below.refl w.heap.size w
  unfold m_laws_eqInt64S at hm
  refine enter 26 Try.func45 rfl rfl rfl ?_
  intro f hf
  have s0 : f 0 = .slice Aa0 d0.length ca0 := hf 0 _ rfl
  have s1 : f 1 = .slice Aa1 d1.length ca1 := hf 1 _ rfl
  refine wp_seq ?_
  refine wp_rs rfl ?_
  refine RQ.y rfl (Y.assign (v := .bool false) rfl) ?_
  refine RQ.nil ?_
  refine then_n ?_
  refine wp_seq ?_
  refine wp_seq ?_
  refine wp_rs rfl ?_
  refine RQ.y rfl (Y.move (v := .slice Aa0 d0.length ca0) s0) ?_
  refine RQ.y rfl (Y.len (by kernel_rfl) rfl) ?_
  refine RQ.y rfl (Y.move (v := .slice Aa1 d1.length ca1) s1) ?_
  refine RQ.y rfl (Y.len (by kernel_rfl) rfl) ?_
  refine RQ.y rfl (Y.binI (v := .bool ((d0.length : Int) != (d1.length : Int))) rfl rfl rfl) ?_
  refine RQ.nil ?_
  refine then_n ?_
  rcases bcases ((d0.length : Int) != (d1.length : Int)) with c1 | c1
  · replace hm := cF c1 hm
    refine cond_f rfl (vb rfl c1) ?_
    refine wp_skip ?_
    refine then_n ?_
    refine wp_seq ?_
    refine wp_seq ?_
    refine wp_rs rfl ?_
    refine RQ.y rfl (Y.assign (v := .int .i64 0) rfl) ?_
    refine RQ.nil ?_
    refine then_n ?_
    refine wp_block ?_
    obtain ⟨K1, hK1, hm⟩ : ∃ K, K = m_laws_eqInt64S_A1 ∧ m_laws_eqInt64S_L1 d0 d1 K (d0.length + 1) 0 = some r := ⟨_, rfl, hm⟩
    refine wp_loopX (fun g f w' => ∃ (i3 : Int), f 0 = .slice Aa0 d0.length ca0 ∧ f 1 = .slice Aa1 d1.length ca1 ∧ f 5 = .int .i64 i3 ∧ 0 ≤ i3 ∧ Below w.heap.size w w' ∧ m_laws_eqInt64S_L1 d0 d1 K1 g i3 = some r) 0 (fun f w' => Below w.heap.size w w' ∧ m_laws_eqInt64S_A1  = some r) (d0.length + 1) ⟨0, s0, s1, rfl, (by omega), T, hm⟩ ?_ ?_
    · rintro f w2 ⟨T, hm⟩
      unfold m_laws_eqInt64S_A1 at hm
      refine blk_hit (then_n ?_)
      refine wp_seq ?_
      refine wp_rs rfl ?_
      refine RQ.y rfl (Y.assign (v := .bool true) rfl) ?_
      refine RQ.nil ?_
      refine then_n ?_
      refine wp_ret ?_
      obtain rfl := Option.some.inj hm
      exact (ret1 rfl rfl rfl ⟨rfl, T⟩)
    · rintro g f w4 ⟨i3, s0_1, s1_1, s5_1, nn5_1, T, hm⟩
      rcases g with _ | g
      · simp only [m_laws_eqInt64S_L1] at hm; cases hm
      obtain ⟨rec1, hrec1, hm⟩ : ∃ z, z = m_laws_eqInt64S_L1 d0 d1 K1 g ∧ m_laws_eqInt64S_B1 d0 d1 z K1 i3 = some r := ⟨_, rfl, hm⟩
      unfold m_laws_eqInt64S_B1 at hm
      refine wp_seq ?_
      refine wp_seq ?_
      refine wp_rs rfl ?_
      refine RQ.y rfl (Y.move (v := .int .i64 i3) s5_1) ?_
      refine RQ.y rfl (Y.move (v := .slice Aa0 d0.length ca0) s0_1) ?_
      refine RQ.y rfl (Y.len (by kernel_rfl) rfl) ?_
      refine RQ.y rfl (Y.binI (v := .bool (decide (i3 < (d0.length : Int)))) rfl rfl rfl) ?_
      refine RQ.nil ?_
      refine then_n ?_
      rcases bcases (decide (i3 < (d0.length : Int))) with c5 | c5
      · replace hm := cF c5 hm
        have pc5 := of_decide_eq_false c5
        refine cond_f rfl (vb rfl c5) ?_
        refine wp_exit ?_
        exact (then_x (then_x (hit_x ⟨_, rfl, ⟨T, (by rw [hK1] at hm; exact hm)⟩⟩)))
      · replace hm := cT c5 hm
        have pc5 := of_decide_eq_true c5
        refine cond_t rfl (vb rfl c5) ?_
        refine wp_skip ?_
        refine then_n ?_
        refine wp_seq ?_
        refine wp_block ?_
        refine wp_seq ?_
        refine wp_rbd (by kernel_rfl) (by kernel_rfl) ?_
        refine RQ.y rfl (Y.move (v := .slice Aa0 d0.length ca0) s0_1) ?_
        refine RQ.y rfl (Y.move (v := .int .i64 i3) s5_1) ?_
        obtain ⟨x6, hx9, hm⟩ := bnd hm
        obtain ⟨k7, hk10, hl11, hx9⟩ := getI_some hx9
        obtain ⟨b13, o14, rfl, hbb13⟩ := ha0.addr (by omega)
        obtain ⟨cs8, hRcs8, hc12⟩ := ha0.el hx9
        have hScs8 := hRcs8
        obtain rfl := hRcs8
        refine RQ.y rfl (Y.indexAddr (m := k7) (sz := 1) rfl rfl hk10 hl11 (by kernel_rfl)) ?_
        refine RQ.y rfl (Y.load (v := .int .i64 x6) rfl (by kernel_rfl) (beC (cellT T (hc12 0 _ rfl)))) ?_
        refine RQ.y rfl (Y.move (v := .slice Aa1 d1.length ca1) s1_1) ?_
        refine RQ.y rfl (Y.move (v := .int .i64 i3) s5_1) ?_
        obtain ⟨x15, hx18, hm⟩ := bnd hm
        obtain ⟨k16, hk19, hl20, hx18⟩ := getI_some hx18
        obtain ⟨b22, o23, rfl, hbb22⟩ := ha1.addr (by omega)
        obtain ⟨cs17, hRcs17, hc21⟩ := ha1.el hx18
        have hScs17 := hRcs17
        obtain rfl := hRcs17
        refine RQ.y rfl (Y.indexAddr (m := k16) (sz := 1) rfl rfl hk19 hl20 (by kernel_rfl)) ?_
        refine RQ.y rfl (Y.load (v := .int .i64 x15) rfl (by kernel_rfl) (beC (cellT T (hc21 0 _ rfl)))) ?_
        refine RQ.y rfl (Y.binI (v := .bool (x6 != x15)) rfl rfl rfl) ?_
        refine RQ.nil ?_
        intro w24 hb25
        have szw24 := hb25.size
        have T := Tt T hb25
        refine then_n ?_
        rcases bcases (x6 != x15) with c26 | c26
        · replace hm := cF c26 hm
          refine cond_f rfl (vb rfl c26) ?_
          refine wp_skip ?_
          refine blk_n (then_n ?_)
          refine wp_rs rfl ?_
          refine RQ.y rfl (Y.move (v := .int .i64 i3) s5_1) ?_
          refine RQ.y rfl (Y.binI rfl rfl (binI_add (m := i3) (by omega))) ?_
          refine RQ.y rfl (Y.assign (v := .int .i64 (i3 + 1)) rfl) ?_
          refine RQ.nil ?_
          exact (then_n ⟨g, _, Nat.lt_succ_self _, rfl, ⟨(i3 + 1), s0_1, s1_1, rfl, (by omega), T, (by rw [← hrec1]; exact hm)⟩⟩)
        · replace hm := cT c26 hm
          refine cond_t rfl (vb rfl c26) ?_
          refine wp_seq ?_
          refine wp_rs rfl ?_
          refine RQ.y rfl (Y.assign (v := .bool false) rfl) ?_
          refine RQ.nil ?_
          refine then_n ?_
          refine wp_ret ?_
          obtain rfl := Option.some.inj hm
          exact (blk_r (then_r (then_r (hit_r (blk_r (then_r (ret1 rfl rfl rfl ⟨rfl, T⟩)))))))
  · replace hm := cT c1 hm
    refine cond_t rfl (vb rfl c1) ?_
    refine wp_seq ?_
    refine wp_rs rfl ?_
    refine RQ.y rfl (Y.assign (v := .bool false) rfl) ?_
    refine RQ.nil ?_
    refine then_n ?_
    refine wp_ret ?_
    obtain rfl := Option.some.inj hm
    exact (then_r (ret1 rfl rfl rfl ⟨rfl, T⟩))
noncomputable def m_laws_eqCoreS_A1 : Option Bool :=
  some true
noncomputable def m_laws_eqCoreS_B1 (self1 : DCore → DCore → Option Bool) (d0 : List DCore) (d1 : List DCore) (rec1 : Int → Option Bool) (K1 : Option Bool) (i3 : Int) : Option Bool :=
  (bif (decide (i3 < (d0.length : Int))) then ((getI d0 i3).bind fun x6 => ((getI d1 i3).bind fun x17 => ((self1 x6 x17).bind fun y28 => (bif y28 then (rec1 (i3 + 1)) else some false)))) else (K1))
noncomputable def m_laws_eqCoreS_L1 (self1 : DCore → DCore → Option Bool) (d0 : List DCore) (d1 : List DCore) (K1 : Option Bool) : Nat → Int → Option Bool
  | 0, _ => none
  | g + 1, i3 => m_laws_eqCoreS_B1 self1 d0 d1 (m_laws_eqCoreS_L1 self1 d0 d1 K1 g) K1 i3
noncomputable def m_laws_eqCoreS_R (self0 : (List DCore) → (List DCore) → Option Bool) (self1 : DCore → DCore → Option Bool) (d0 : List DCore) (d1 : List DCore) : Option Bool :=
  (bif ((d0.length : Int) != (d1.length : Int)) then some false else (m_laws_eqCoreS_L1 self1 d0 d1 m_laws_eqCoreS_A1 (d0.length + 1) 0))
set_option maxHeartbeats 2000000 in
theorem c_m_laws_eqCoreS_S (self0 : (List DCore) → (List DCore) → Option Bool) (self1 : DCore → DCore → Option Bool) (ih0 : ∀ (d0 : List DCore) (d1 : List DCore) (r : Bool) (hm : self0 d0 d1 = some r) (v0 : Value) (v1 : Value) (w : World) (hv0 : Sl coreRd 4 w v0 d0) (hv1 : Sl coreRd 4 w v1 d1), Calls Try.prog 46 #[v0, v1] w fun e w' => e = .returned (.bool r) ∧ Below w.heap.size w w') (ih1 : ∀ (d0 : DCore) (d1 : DCore) (r : Bool) (hm : self1 d0 d1 = some r) (v0 : Value) (v1 : Value) (w : World) (hv0 : St coreRd w v0 d0) (hv1 : St coreRd w v1 d1), Calls Try.prog 21 #[v0, v1] w fun e w' => e = .returned (.bool r) ∧ Below w.heap.size w w') : ∀ (d0 : List DCore) (d1 : List DCore) (r : Bool) (hm : m_laws_eqCoreS_R self0 self1 d0 d1 = some r) (v0 : Value) (v1 : Value) (w : World) (hv0 : Sl coreRd 4 w v0 d0) (hv1 : Sl coreRd 4 w v1 d1),
    Calls Try.prog 46 #[v0, v1] w fun e w' => e = .returned (.bool r) ∧ Below w.heap.size w w' := by
  intro d0 d1 r hm v0 v1 w hv0 hv1
  obtain ⟨Aa0, na0, ca0, rfl, ha0, ra0⟩ := hv0
  have ea0 := ha0.len; subst ea0
  have qa0 := len_le ra0
  obtain ⟨Aa1, na1, ca1, rfl, ha1, ra1⟩ := hv1
  have ea1 := ha1.len; subst ea1
  have qa1 := len_le ra1
  have T := Below.refl w.heap.size w
  unfold m_laws_eqCoreS_R at hm
  refine enter 27 Try.func46 rfl rfl rfl ?_
  intro f hf
  have s0 : f 0 = .slice Aa0 d0.length ca0 := hf 0 _ rfl
  have s1 : f 1 = .slice Aa1 d1.length ca1 := hf 1 _ rfl
  refine wp_seq ?_
  refine wp_rs rfl ?_
  refine RQ.y rfl (Y.assign (v := .bool false) rfl) ?_
  refine RQ.nil ?_
  refine then_n ?_
  refine wp_seq ?_
  refine wp_seq ?_
  refine wp_rs rfl ?_
  refine RQ.y rfl (Y.move (v := .slice Aa0 d0.length ca0) s0) ?_
  refine RQ.y rfl (Y.len (by kernel_rfl) rfl) ?_
  refine RQ.y rfl (Y.move (v := .slice Aa1 d1.length ca1) s1) ?_
  refine RQ.y rfl (Y.len (by kernel_rfl) rfl) ?_
  refine RQ.y rfl (Y.binI (v := .bool ((d0.length : Int) != (d1.length : Int))) rfl rfl rfl) ?_
  refine RQ.nil ?_
  refine then_n ?_
  rcases bcases ((d0.length : Int) != (d1.length : Int)) with c1 | c1
  · replace hm := cF c1 hm
    refine cond_f rfl (vb rfl c1) ?_
    refine wp_skip ?_
    refine then_n ?_
    refine wp_seq ?_
    refine wp_seq ?_
    refine wp_rs rfl ?_
    refine RQ.y rfl (Y.assign (v := .int .i64 0) rfl) ?_
    refine RQ.nil ?_
    refine then_n ?_
    refine wp_block ?_
    obtain ⟨K1, hK1, hm⟩ : ∃ K, K = m_laws_eqCoreS_A1 ∧ m_laws_eqCoreS_L1 self1 d0 d1 K (d0.length + 1) 0 = some r := ⟨_, rfl, hm⟩
    refine wp_loopX (fun g f w' => ∃ (i3 : Int), f 0 = .slice Aa0 d0.length ca0 ∧ f 1 = .slice Aa1 d1.length ca1 ∧ f 5 = .int .i64 i3 ∧ 0 ≤ i3 ∧ Below w.heap.size w w' ∧ m_laws_eqCoreS_L1 self1 d0 d1 K1 g i3 = some r) 0 (fun f w' => Below w.heap.size w w' ∧ m_laws_eqCoreS_A1  = some r) (d0.length + 1) ⟨0, s0, s1, rfl, (by omega), T, hm⟩ ?_ ?_
    · rintro f w2 ⟨T, hm⟩
      unfold m_laws_eqCoreS_A1 at hm
      refine blk_hit (then_n ?_)
      refine wp_seq ?_
      refine wp_rs rfl ?_
      refine RQ.y rfl (Y.assign (v := .bool true) rfl) ?_
      refine RQ.nil ?_
      refine then_n ?_
      refine wp_ret ?_
      obtain rfl := Option.some.inj hm
      exact (ret1 rfl rfl rfl ⟨rfl, T⟩)
    · rintro g f w4 ⟨i3, s0_1, s1_1, s5_1, nn5_1, T, hm⟩
      rcases g with _ | g
      · simp only [m_laws_eqCoreS_L1] at hm; cases hm
      obtain ⟨rec1, hrec1, hm⟩ : ∃ z, z = m_laws_eqCoreS_L1 self1 d0 d1 K1 g ∧ m_laws_eqCoreS_B1 self1 d0 d1 z K1 i3 = some r := ⟨_, rfl, hm⟩
      unfold m_laws_eqCoreS_B1 at hm
      refine wp_seq ?_
      refine wp_seq ?_
      refine wp_rs rfl ?_
      refine RQ.y rfl (Y.move (v := .int .i64 i3) s5_1) ?_
      refine RQ.y rfl (Y.move (v := .slice Aa0 d0.length ca0) s0_1) ?_
      refine RQ.y rfl (Y.len (by kernel_rfl) rfl) ?_
      refine RQ.y rfl (Y.binI (v := .bool (decide (i3 < (d0.length : Int)))) rfl rfl rfl) ?_
      refine RQ.nil ?_
      refine then_n ?_
      rcases bcases (decide (i3 < (d0.length : Int))) with c5 | c5
      · replace hm := cF c5 hm
        have pc5 := of_decide_eq_false c5
        refine cond_f rfl (vb rfl c5) ?_
        refine wp_exit ?_
        exact (then_x (then_x (hit_x ⟨_, rfl, ⟨T, (by rw [hK1] at hm; exact hm)⟩⟩)))
      · replace hm := cT c5 hm
        have pc5 := of_decide_eq_true c5
        refine cond_t rfl (vb rfl c5) ?_
        refine wp_skip ?_
        refine then_n ?_
        refine wp_seq ?_
        refine wp_block ?_
        refine wp_seq ?_
        refine wp_rbd (by kernel_rfl) (by kernel_rfl) ?_
        refine RQ.y rfl (Y.move (v := .slice Aa0 d0.length ca0) s0_1) ?_
        refine RQ.y rfl (Y.move (v := .int .i64 i3) s5_1) ?_
        obtain ⟨x6, hx9, hm⟩ := bnd hm
        obtain ⟨k7, hk10, hl11, hx9⟩ := getI_some hx9
        obtain ⟨b13, o14, rfl, hbb13⟩ := ha0.addr (by omega)
        obtain ⟨cs8, hRcs8, hc12⟩ := ha0.el hx9
        have hScs8 := hRcs8
        obtain ⟨A15, n15, c15, A16, n16, c16, rfl, ⟨h15, r15⟩, ⟨h16, r16⟩⟩ := (coreRd_out hRcs8)
        have e15 := h15.len; subst e15
        have q15 := len_le r15
        have e16 := h16.len; subst e16
        have q16 := len_le r16
        refine RQ.y rfl (Y.indexAddr (m := k7) (sz := 4) rfl rfl hk10 hl11 (by kernel_rfl)) ?_
        refine RQ.y rfl (Y.loadN (cs := [.int .i64 x6.kind, .int .i64 x6.value, .slice A15 x6.data.length c15, .slice A16 x6.kids.length c16]) rfl (by kernel_rfl) (cells4 (beC (cellT T (hc12 0 _ rfl))) (beC (cellT T (hc12 1 _ rfl))) (beC (cellT T (hc12 2 _ rfl))) (beC (cellT T (hc12 3 _ rfl))))) ?_
        refine RQ.y rfl (Y.move (v := .slice Aa1 d1.length ca1) s1_1) ?_
        refine RQ.y rfl (Y.move (v := .int .i64 i3) s5_1) ?_
        obtain ⟨x17, hx20, hm⟩ := bnd hm
        obtain ⟨k18, hk21, hl22, hx20⟩ := getI_some hx20
        obtain ⟨b24, o25, rfl, hbb24⟩ := ha1.addr (by omega)
        obtain ⟨cs19, hRcs19, hc23⟩ := ha1.el hx20
        have hScs19 := hRcs19
        obtain ⟨A26, n26, c26, A27, n27, c27, rfl, ⟨h26, r26⟩, ⟨h27, r27⟩⟩ := (coreRd_out hRcs19)
        have e26 := h26.len; subst e26
        have q26 := len_le r26
        have e27 := h27.len; subst e27
        have q27 := len_le r27
        refine RQ.y rfl (Y.indexAddr (m := k18) (sz := 4) rfl rfl hk21 hl22 (by kernel_rfl)) ?_
        refine RQ.y rfl (Y.loadN (cs := [.int .i64 x17.kind, .int .i64 x17.value, .slice A26 x17.data.length c26, .slice A27 x17.kids.length c27]) rfl (by kernel_rfl) (cells4 (beC (cellT T (hc23 0 _ rfl))) (beC (cellT T (hc23 1 _ rfl))) (beC (cellT T (hc23 2 _ rfl))) (beC (cellT T (hc23 3 _ rfl))))) ?_
        obtain ⟨y28, e29, hm⟩ := bnd hm
        refine RQ.call rfl (am2 rfl rfl) (by kernel_rfl) (v := .bool y28) (bel (K := fun _ => True) fun w' hb' => (ih1 x6 x17 _ e29 _ _ w' (stArg (R := coreRd) (coreRd_in ⟨_, _, _, _, _, _, rfl, ⟨SlAt.now intRd_ok h15 (Nat.le_refl _) (Tt T hb'), r15⟩, ⟨SlAt.now coreRd_ok h16 (Nat.le_refl _) (Tt T hb'), r16⟩⟩)) (stArg (R := coreRd) (coreRd_in ⟨_, _, _, _, _, _, rfl, ⟨SlAt.now intRd_ok h26 (Nat.le_refl _) (Tt T hb'), r26⟩, ⟨SlAt.now coreRd_ok h27 (Nat.le_refl _) (Tt T hb'), r27⟩⟩)))) ?_
        refine RQ.y rfl (Y.not (b' := (!y28)) rfl rfl) ?_
        refine RQ.nil ?_
        intro w30 hb31
        have szw30 := hb31.size
        have T := Tt T hb31
        refine then_n ?_
        rcases bcases y28 with c32 | c32
        · replace hm := cF c32 hm
          refine cond_t rfl (vbn rfl c32 rfl) ?_
          refine wp_seq ?_
          refine wp_rs rfl ?_
          refine RQ.y rfl (Y.assign (v := .bool false) rfl) ?_
          refine RQ.nil ?_
          refine then_n ?_
          refine wp_ret ?_
          obtain rfl := Option.some.inj hm
          exact (blk_r (then_r (then_r (hit_r (blk_r (then_r (ret1 rfl rfl rfl ⟨rfl, T⟩)))))))
        · replace hm := cT c32 hm
          refine cond_f rfl (vbn rfl c32 rfl) ?_
          refine wp_skip ?_
          refine blk_n (then_n ?_)
          refine wp_rs rfl ?_
          refine RQ.y rfl (Y.move (v := .int .i64 i3) s5_1) ?_
          refine RQ.y rfl (Y.binI rfl rfl (binI_add (m := i3) (by omega))) ?_
          refine RQ.y rfl (Y.assign (v := .int .i64 (i3 + 1)) rfl) ?_
          refine RQ.nil ?_
          exact (then_n ⟨g, _, Nat.lt_succ_self _, rfl, ⟨(i3 + 1), s0_1, s1_1, rfl, (by omega), T, (by rw [← hrec1]; exact hm)⟩⟩)
  · replace hm := cT c1 hm
    refine cond_t rfl (vb rfl c1) ?_
    refine wp_seq ?_
    refine wp_rs rfl ?_
    refine RQ.y rfl (Y.assign (v := .bool false) rfl) ?_
    refine RQ.nil ?_
    refine then_n ?_
    refine wp_ret ?_
    obtain rfl := Option.some.inj hm
    exact (then_r (ret1 rfl rfl rfl ⟨rfl, T⟩))
noncomputable def m_laws_eqCore_R (self0 : (List DCore) → (List DCore) → Option Bool) (self1 : DCore → DCore → Option Bool) (d0 : DCore) (d1 : DCore) : Option Bool :=
  (bif (d0.kind != d1.kind) then some false else (bif (d0.value != d1.value) then some false else ((m_laws_eqInt64S d0.data d1.data).bind fun y15 => (bif y15 then ((self0 d0.kids d1.kids).bind fun y20 => (bif y20 then some true else some false)) else some false))))
set_option maxHeartbeats 2000000 in
theorem c_m_laws_eqCore_S (self0 : (List DCore) → (List DCore) → Option Bool) (self1 : DCore → DCore → Option Bool) (ih0 : ∀ (d0 : List DCore) (d1 : List DCore) (r : Bool) (hm : self0 d0 d1 = some r) (v0 : Value) (v1 : Value) (w : World) (hv0 : Sl coreRd 4 w v0 d0) (hv1 : Sl coreRd 4 w v1 d1), Calls Try.prog 46 #[v0, v1] w fun e w' => e = .returned (.bool r) ∧ Below w.heap.size w w') (ih1 : ∀ (d0 : DCore) (d1 : DCore) (r : Bool) (hm : self1 d0 d1 = some r) (v0 : Value) (v1 : Value) (w : World) (hv0 : St coreRd w v0 d0) (hv1 : St coreRd w v1 d1), Calls Try.prog 21 #[v0, v1] w fun e w' => e = .returned (.bool r) ∧ Below w.heap.size w w') : ∀ (d0 : DCore) (d1 : DCore) (r : Bool) (hm : m_laws_eqCore_R self0 self1 d0 d1 = some r) (v0 : Value) (v1 : Value) (w : World) (hv0 : St coreRd w v0 d0) (hv1 : St coreRd w v1 d1),
    Calls Try.prog 21 #[v0, v1] w fun e w' => e = .returned (.bool r) ∧ Below w.heap.size w w' := by
  intro d0 d1 r hm v0 v1 w hv0 hv1
  obtain ⟨csa0, rfl, hRR0⟩ := hv0
  obtain ⟨A1, n1, c1, A2, n2, c2, rfl, ⟨h1, r1⟩, ⟨h2, r2⟩⟩ := (coreRd_out hRR0)
  have e1 := h1.len; subst e1
  have q1 := len_le r1
  have e2 := h2.len; subst e2
  have q2 := len_le r2
  obtain ⟨csa1, rfl, hRR1⟩ := hv1
  obtain ⟨A3, n3, c3, A4, n4, c4, rfl, ⟨h3, r3⟩, ⟨h4, r4⟩⟩ := (coreRd_out hRR1)
  have e3 := h3.len; subst e3
  have q3 := len_le r3
  have e4 := h4.len; subst e4
  have q4 := len_le r4
  have T := Below.refl w.heap.size w
  unfold m_laws_eqCore_R at hm
  refine enter 27 Try.func21 rfl rfl rfl ?_
  intro f hf
  have s0 : f 0 = .agg #[.int .i64 d0.kind, .int .i64 d0.value, .slice A1 d0.data.length c1, .slice A2 d0.kids.length c2] := hf 0 _ rfl
  have s1 : f 1 = .agg #[.int .i64 d1.kind, .int .i64 d1.value, .slice A3 d1.data.length c3, .slice A4 d1.kids.length c4] := hf 1 _ rfl
  refine wp_seq ?_
  refine wp_rl rfl ?_
  refine RL.box rfl s0 (fun w5 B6 hb7 szw5 => ?_)
  replace B6 : Blk w5 w.heap.size 42 #[.int .i64 d0.kind, .int .i64 d0.value, .slice A1 d0.data.length c1, .slice A2 d0.kids.length c2] := B6
  have GB6 : w.heap.size ≤ w.heap.size := T.size
  have T := Tt T hb7
  refine RL.box rfl s1 (fun w9 B10 hb11 szw9 => ?_)
  replace B10 : Blk w9 w5.heap.size 42 #[.int .i64 d1.kind, .int .i64 d1.value, .slice A3 d1.data.length c3, .slice A4 d1.kids.length c4] := B10
  have GB10 : w.heap.size ≤ w5.heap.size := T.size
  have Eob12_ob8 := Nat.ne_of_lt B6.lt
  have B6 := blkT B6 hb11
  have T := Tt T hb11
  refine RL.y rfl (Y.assign (v := .bool false) rfl) ?_
  refine RL.nil ?_
  refine then_n ?_
  refine wp_seq ?_
  refine wp_seq ?_
  refine wp_rs rfl ?_
  refine RQ.y rfl (Y.fieldAddr (off := 0) rfl (by kernel_rfl)) ?_
  refine RQ.y rfl (Y.load (v := .int .i64 d0.kind) rfl (by kernel_rfl) (eqC (blkCell B6 (i := 0) rfl))) ?_
  refine RQ.y rfl (Y.fieldAddr (off := 0) rfl (by kernel_rfl)) ?_
  refine RQ.y rfl (Y.load (v := .int .i64 d1.kind) rfl (by kernel_rfl) (eqC (blkCell B10 (i := 0) rfl))) ?_
  refine RQ.y rfl (Y.binI (v := .bool (d0.kind != d1.kind)) rfl rfl rfl) ?_
  refine RQ.nil ?_
  refine then_n ?_
  rcases bcases (d0.kind != d1.kind) with c13 | c13
  · replace hm := cF c13 hm
    refine cond_f rfl (vb rfl c13) ?_
    refine wp_skip ?_
    refine then_n ?_
    refine wp_seq ?_
    refine wp_seq ?_
    refine wp_rs rfl ?_
    refine RQ.y rfl (Y.fieldAddr (off := 1) rfl (by kernel_rfl)) ?_
    refine RQ.y rfl (Y.load (v := .int .i64 d0.value) rfl (by kernel_rfl) (eqC (blkCell B6 (i := 1) rfl))) ?_
    refine RQ.y rfl (Y.fieldAddr (off := 1) rfl (by kernel_rfl)) ?_
    refine RQ.y rfl (Y.load (v := .int .i64 d1.value) rfl (by kernel_rfl) (eqC (blkCell B10 (i := 1) rfl))) ?_
    refine RQ.y rfl (Y.binI (v := .bool (d0.value != d1.value)) rfl rfl rfl) ?_
    refine RQ.nil ?_
    refine then_n ?_
    rcases bcases (d0.value != d1.value) with c14 | c14
    · replace hm := cF c14 hm
      refine cond_f rfl (vb rfl c14) ?_
      refine wp_skip ?_
      refine then_n ?_
      refine wp_seq ?_
      refine wp_seq ?_
      refine wp_rb rfl ?_
      refine RQ.y rfl (Y.fieldAddr (off := 2) rfl (by kernel_rfl)) ?_
      refine RQ.y rfl (Y.load (v := .slice A1 d0.data.length c1) rfl (by kernel_rfl) (beC (blkCell B6 (i := 2) rfl))) ?_
      refine RQ.y rfl (Y.fieldAddr (off := 2) rfl (by kernel_rfl)) ?_
      refine RQ.y rfl (Y.load (v := .slice A3 d1.data.length c3) rfl (by kernel_rfl) (beC (blkCell B10 (i := 2) rfl))) ?_
      obtain ⟨y15, e16, hm⟩ := bnd hm
      refine RQ.call rfl (am2 rfl rfl) (by kernel_rfl) (v := .bool y15) (bel (K := fun _ => True) fun w' hb' => (c_m_laws_eqInt64S d0.data d1.data _ e16 _ _ w' (slArg intRd_ok h1 r1 (Tt T hb')) (slArg intRd_ok h3 r3 (Tt T hb')))) ?_
      refine RQ.y rfl (Y.not (b' := (!y15)) rfl rfl) ?_
      refine RQ.nil ?_
      intro w17 hb18
      have szw17 := hb18.size
      have B6 := blkT B6 hb18
      have B10 := blkT B10 hb18
      have T := Tt T hb18
      refine then_n ?_
      rcases bcases y15 with c19 | c19
      · replace hm := cF c19 hm
        refine cond_t rfl (vbn rfl c19 rfl) ?_
        refine wp_seq ?_
        refine wp_rs rfl ?_
        refine RQ.y rfl (Y.assign (v := .bool false) rfl) ?_
        refine RQ.nil ?_
        refine then_n ?_
        refine wp_ret ?_
        obtain rfl := Option.some.inj hm
        exact (then_r (ret1 rfl rfl rfl ⟨rfl, T⟩))
      · replace hm := cT c19 hm
        refine cond_f rfl (vbn rfl c19 rfl) ?_
        refine wp_skip ?_
        refine then_n ?_
        refine wp_seq ?_
        refine wp_seq ?_
        refine wp_rb rfl ?_
        refine RQ.y rfl (Y.fieldAddr (off := 3) rfl (by kernel_rfl)) ?_
        refine RQ.y rfl (Y.load (v := .slice A2 d0.kids.length c2) rfl (by kernel_rfl) (beC (blkCell B6 (i := 3) rfl))) ?_
        refine RQ.y rfl (Y.fieldAddr (off := 3) rfl (by kernel_rfl)) ?_
        refine RQ.y rfl (Y.load (v := .slice A4 d1.kids.length c4) rfl (by kernel_rfl) (beC (blkCell B10 (i := 3) rfl))) ?_
        obtain ⟨y20, e21, hm⟩ := bnd hm
        refine RQ.call rfl (am2 rfl rfl) (by kernel_rfl) (v := .bool y20) (bel (K := fun _ => True) fun w' hb' => (ih0 d0.kids d1.kids _ e21 _ _ w' (slArg coreRd_ok h2 r2 (Tt T hb')) (slArg coreRd_ok h4 r4 (Tt T hb')))) ?_
        refine RQ.y rfl (Y.not (b' := (!y20)) rfl rfl) ?_
        refine RQ.nil ?_
        intro w22 hb23
        have szw22 := hb23.size
        have T := Tt T hb23
        refine then_n ?_
        rcases bcases y20 with c24 | c24
        · replace hm := cF c24 hm
          refine cond_t rfl (vbn rfl c24 rfl) ?_
          refine wp_seq ?_
          refine wp_rs rfl ?_
          refine RQ.y rfl (Y.assign (v := .bool false) rfl) ?_
          refine RQ.nil ?_
          refine then_n ?_
          refine wp_ret ?_
          obtain rfl := Option.some.inj hm
          exact (then_r (ret1 rfl rfl rfl ⟨rfl, T⟩))
        · replace hm := cT c24 hm
          refine cond_f rfl (vbn rfl c24 rfl) ?_
          refine wp_skip ?_
          refine then_n ?_
          refine wp_seq ?_
          refine wp_rs rfl ?_
          refine RQ.y rfl (Y.assign (v := .bool true) rfl) ?_
          refine RQ.nil ?_
          refine then_n ?_
          refine wp_ret ?_
          obtain rfl := Option.some.inj hm
          exact (ret1 rfl rfl rfl ⟨rfl, T⟩)
    · replace hm := cT c14 hm
      refine cond_t rfl (vb rfl c14) ?_
      refine wp_seq ?_
      refine wp_rs rfl ?_
      refine RQ.y rfl (Y.assign (v := .bool false) rfl) ?_
      refine RQ.nil ?_
      refine then_n ?_
      refine wp_ret ?_
      obtain rfl := Option.some.inj hm
      exact (then_r (ret1 rfl rfl rfl ⟨rfl, T⟩))
  · replace hm := cT c13 hm
    refine cond_t rfl (vb rfl c13) ?_
    refine wp_seq ?_
    refine wp_rs rfl ?_
    refine RQ.y rfl (Y.assign (v := .bool false) rfl) ?_
    refine RQ.nil ?_
    refine then_n ?_
    refine wp_ret ?_
    obtain rfl := Option.some.inj hm
    exact (then_r (ret1 rfl rfl rfl ⟨rfl, T⟩))
noncomputable def g_m_laws_eqCoreS : Nat → ((List DCore) → (List DCore) → Option Bool) × (DCore → DCore → Option Bool)
  | 0 => (fun _ _ => none, fun _ _ => none)
  | gas + 1 => (m_laws_eqCoreS_R (g_m_laws_eqCoreS gas).1 (g_m_laws_eqCoreS gas).2, m_laws_eqCore_R (g_m_laws_eqCoreS gas).1 (g_m_laws_eqCoreS gas).2)
noncomputable def m_laws_eqCoreS (gas : Nat) : (List DCore) → (List DCore) → Option Bool := (g_m_laws_eqCoreS gas).1
noncomputable def m_laws_eqCore (gas : Nat) : DCore → DCore → Option Bool := (g_m_laws_eqCoreS gas).2
theorem c_g_m_laws_eqCoreS : ∀ gas : Nat, (∀ (d0 : List DCore) (d1 : List DCore) (r : Bool) (hm : m_laws_eqCoreS gas d0 d1 = some r) (v0 : Value) (v1 : Value) (w : World) (hv0 : Sl coreRd 4 w v0 d0) (hv1 : Sl coreRd 4 w v1 d1), Calls Try.prog 46 #[v0, v1] w fun e w' => e = .returned (.bool r) ∧ Below w.heap.size w w') ∧ (∀ (d0 : DCore) (d1 : DCore) (r : Bool) (hm : m_laws_eqCore gas d0 d1 = some r) (v0 : Value) (v1 : Value) (w : World) (hv0 : St coreRd w v0 d0) (hv1 : St coreRd w v1 d1), Calls Try.prog 21 #[v0, v1] w fun e w' => e = .returned (.bool r) ∧ Below w.heap.size w w') := by
  intro gas
  induction gas with
  | zero => exact ⟨(fun _ _ r hm => by have h0 : (none : Option _) = some r := hm; cases h0), (fun _ _ r hm => by have h0 : (none : Option _) = some r := hm; cases h0)⟩
  | succ gas ih => exact ⟨c_m_laws_eqCoreS_S _ _ (ih).1 (ih).2, c_m_laws_eqCore_S _ _ (ih).1 (ih).2⟩
theorem c_m_laws_eqCore (gas : Nat) : ∀ (d0 : DCore) (d1 : DCore) (r : Bool) (hm : m_laws_eqCore gas d0 d1 = some r) (v0 : Value) (v1 : Value) (w : World) (hv0 : St coreRd w v0 d0) (hv1 : St coreRd w v1 d1), Calls Try.prog 21 #[v0, v1] w fun e w' => e = .returned (.bool r) ∧ Below w.heap.size w w' := (c_g_m_laws_eqCoreS gas).2
noncomputable def m_laws_heldCoreS_A1 (i1 : Int) : Option Int :=
  some i1
noncomputable def m_laws_heldCoreS_B1 (d0 : List DCore) (self : (List DCore) → Int → Option Int) (rec1 : Int → Int → Option Int) (K1 : Int → Option Int) (i3 : Int) (i4 : Int) : Option Int :=
  (bif (decide (i4 < (d0.length : Int))) then ((getI d0 i4).bind fun x7 => (bif (x7.kind != i3) then some (-1) else ((ck (i3 + 1)).bind fun s19 => ((getI d0 i4).bind fun x20 => (bif (x20.value != s19) then some (-1) else ((ck (s19 + 1)).bind fun s30 => ((getI d0 i4).bind fun x31 => ((m_laws_heldInt64S x31.data s30).bind fun y40 => (bif (decide (y40 < 0)) then some (-1) else ((getI d0 i4).bind fun x45 => ((self x45.kids y40).bind fun y54 => (bif (decide (y54 < 0)) then some (-1) else (rec1 y54 (i4 + 1)))))))))))))) else (K1 i3))
noncomputable def m_laws_heldCoreS_L1 (d0 : List DCore) (self : (List DCore) → Int → Option Int) (K1 : Int → Option Int) : Nat → Int → Int → Option Int
  | 0, _, _ => none
  | g + 1, i3, i4 => m_laws_heldCoreS_B1 d0 self (m_laws_heldCoreS_L1 d0 self K1 g) K1 i3 i4
noncomputable def m_laws_heldCoreS_R (self : (List DCore) → Int → Option Int) (d0 : List DCore) (d1 : Int) : Option Int :=
  (m_laws_heldCoreS_L1 d0 self m_laws_heldCoreS_A1 (d0.length + 1) d1 0)
noncomputable def m_laws_heldCoreS : Nat → (List DCore) → Int → Option Int
  | 0, _, _ => none
  | gas + 1, d0, d1 => m_laws_heldCoreS_R (m_laws_heldCoreS gas) d0 d1
set_option maxHeartbeats 2000000 in
theorem c_m_laws_heldCoreS : ∀ (gas : Nat) (d0 : List DCore) (d1 : Int) (r : Int) (hm : m_laws_heldCoreS gas d0 d1 = some r) (v0 : Value) (w : World) (hv0 : Sl coreRd 4 w v0 d0),
    Calls Try.prog 50 #[v0, .int .i64 d1] w fun e w' => e = .returned (.int .i64 r) ∧ Below w.heap.size w w' := by
  intro gas
  induction gas with
  | zero =>
    intro d0 d1 r hm v0 w hv0
    cases hm
  | succ gas ih =>
    intro d0 d1 r hm v0 w hv0
    obtain ⟨Aa0, na0, ca0, rfl, ha0, ra0⟩ := hv0
    have ea0 := ha0.len; subst ea0
    have qa0 := len_le ra0
    have T := Below.refl w.heap.size w
    obtain ⟨self, hself, hm⟩ : ∃ s, s = m_laws_heldCoreS gas ∧ m_laws_heldCoreS_R s d0 d1 = some r := ⟨_, rfl, hm⟩
    unfold m_laws_heldCoreS_R at hm
    refine enter 49 Try.func50 rfl rfl rfl ?_
    intro f hf
    have s0 : f 0 = .slice Aa0 d0.length ca0 := hf 0 _ rfl
    have s1 : f 1 = .int .i64 d1 := hf 1 _ rfl
    refine wp_seq ?_
    refine wp_rs rfl ?_
    refine RQ.y rfl (Y.assign (v := .int .i64 0) rfl) ?_
    refine RQ.nil ?_
    refine then_n ?_
    refine wp_seq ?_
    refine wp_seq ?_
    refine wp_rs rfl ?_
    refine RQ.y rfl (Y.assign (v := .int .i64 0) rfl) ?_
    refine RQ.nil ?_
    refine then_n ?_
    refine wp_block ?_
    obtain ⟨K1, hK1, hm⟩ : ∃ K, K = m_laws_heldCoreS_A1 ∧ m_laws_heldCoreS_L1 d0 self K (d0.length + 1) d1 0 = some r := ⟨_, rfl, hm⟩
    refine wp_loopX (fun g f w' => ∃ (i3 : Int) (i4 : Int), f 0 = .slice Aa0 d0.length ca0 ∧ f 1 = .int .i64 i3 ∧ f 5 = .int .i64 i4 ∧ 0 ≤ i4 ∧ Below w.heap.size w w' ∧ m_laws_heldCoreS_L1 d0 self K1 g i3 i4 = some r) 0 (fun f w' => ∃ (i1 : Int), f 1 = .int .i64 i1 ∧ Below w.heap.size w w' ∧ m_laws_heldCoreS_A1 i1 = some r) (d0.length + 1) ⟨d1, 0, s0, s1, rfl, (by omega), T, hm⟩ ?_ ?_
    · rintro f w2 ⟨i1, s1_1x, T, hm⟩
      unfold m_laws_heldCoreS_A1 at hm
      refine blk_hit (then_n ?_)
      refine wp_seq ?_
      refine wp_rs rfl ?_
      refine RQ.y rfl (Y.move (v := .int .i64 i1) s1_1x) ?_
      refine RQ.y rfl (Y.assign (v := .int .i64 i1) rfl) ?_
      refine RQ.nil ?_
      refine then_n ?_
      refine wp_ret ?_
      obtain rfl := Option.some.inj hm
      exact (ret1 rfl rfl rfl ⟨rfl, T⟩)
    · rintro g f w5 ⟨i3, i4, s0_1, s1_1, s5_1, nn5_1, T, hm⟩
      rcases g with _ | g
      · simp only [m_laws_heldCoreS_L1] at hm; cases hm
      obtain ⟨rec1, hrec1, hm⟩ : ∃ z, z = m_laws_heldCoreS_L1 d0 self K1 g ∧ m_laws_heldCoreS_B1 d0 self z K1 i3 i4 = some r := ⟨_, rfl, hm⟩
      unfold m_laws_heldCoreS_B1 at hm
      refine wp_seq ?_
      refine wp_seq ?_
      refine wp_rs rfl ?_
      refine RQ.y rfl (Y.move (v := .int .i64 i4) s5_1) ?_
      refine RQ.y rfl (Y.move (v := .slice Aa0 d0.length ca0) s0_1) ?_
      refine RQ.y rfl (Y.len (by kernel_rfl) rfl) ?_
      refine RQ.y rfl (Y.binI (v := .bool (decide (i4 < (d0.length : Int)))) rfl rfl rfl) ?_
      refine RQ.nil ?_
      refine then_n ?_
      rcases bcases (decide (i4 < (d0.length : Int))) with c6 | c6
      · replace hm := cF c6 hm
        have pc6 := of_decide_eq_false c6
        refine cond_f rfl (vb rfl c6) ?_
        refine wp_exit ?_
        exact (then_x (then_x (hit_x ⟨_, rfl, ⟨i3, s1_1, T, (by rw [hK1] at hm; exact hm)⟩⟩)))
      · replace hm := cT c6 hm
        have pc6 := of_decide_eq_true c6
        refine cond_t rfl (vb rfl c6) ?_
        refine wp_skip ?_
        refine then_n ?_
        refine wp_seq ?_
        refine wp_block ?_
        refine wp_seq ?_
        refine wp_seq ?_
        refine wp_rs rfl ?_
        refine RQ.y rfl (Y.move (v := .slice Aa0 d0.length ca0) s0_1) ?_
        refine RQ.y rfl (Y.move (v := .int .i64 i4) s5_1) ?_
        obtain ⟨x7, hx10, hm⟩ := bnd hm
        obtain ⟨k8, hk11, hl12, hx10⟩ := getI_some hx10
        obtain ⟨b14, o15, rfl, hbb14⟩ := ha0.addr (by omega)
        obtain ⟨cs9, hRcs9, hc13⟩ := ha0.el hx10
        have hScs9 := hRcs9
        obtain ⟨A16, n16, c16, A17, n17, c17, rfl, ⟨h16, r16⟩, ⟨h17, r17⟩⟩ := (coreRd_out hRcs9)
        have e16 := h16.len; subst e16
        have q16 := len_le r16
        have e17 := h17.len; subst e17
        have q17 := len_le r17
        refine RQ.y rfl (Y.indexAddr (m := k8) (sz := 4) rfl rfl hk11 hl12 (by kernel_rfl)) ?_
        refine RQ.y rfl (Y.fieldAddr (off := 0) rfl (by kernel_rfl)) ?_
        refine RQ.y rfl (Y.load (v := .int .i64 x7.kind) rfl (by kernel_rfl) (eqC (cellT T (hc13 0 _ rfl)))) ?_
        refine RQ.y rfl (Y.move (v := .int .i64 i3) s1_1) ?_
        refine RQ.y rfl (Y.binI (v := .bool (x7.kind != i3)) rfl rfl rfl) ?_
        refine RQ.nil ?_
        refine then_n ?_
        rcases bcases (x7.kind != i3) with c18 | c18
        · replace hm := cF c18 hm
          refine cond_f rfl (vb rfl c18) ?_
          refine wp_skip ?_
          refine then_n ?_
          refine wp_seq ?_
          refine wp_rs rfl ?_
          refine RQ.y rfl (Y.move (v := .int .i64 i3) s1_1) ?_
          obtain ⟨s19, ks19, hm⟩ := bnd hm
          replace ks19 := ck_some ks19
          refine RQ.y rfl (Y.binI (v := .int .i64 s19) rfl rfl (by rw [binI_add ks19.2, ks19.1])) ?_
          refine RQ.y rfl (Y.assign (v := .int .i64 s19) rfl) ?_
          refine RQ.nil ?_
          refine then_n ?_
          refine wp_seq ?_
          refine wp_seq ?_
          refine wp_rs rfl ?_
          refine RQ.y rfl (Y.move (v := .slice (some ⟨b14, o15, none⟩) d0.length ca0) s0_1) ?_
          refine RQ.y rfl (Y.move (v := .int .i64 i4) s5_1) ?_
          obtain ⟨x20, hx23, hm⟩ := bnd hm
          obtain ⟨k21, hk24, hl25, hx23⟩ := getI_some hx23
          obtain ⟨cs22, hRcs22, hc26⟩ := ha0.el hx23
          have hScs22 := hRcs22
          obtain ⟨A27, n27, c27, A28, n28, c28, rfl, ⟨h27, r27⟩, ⟨h28, r28⟩⟩ := (coreRd_out hRcs22)
          have e27 := h27.len; subst e27
          have q27 := len_le r27
          have e28 := h28.len; subst e28
          have q28 := len_le r28
          refine RQ.y rfl (Y.indexAddr (m := k21) (sz := 4) rfl rfl hk24 hl25 (by kernel_rfl)) ?_
          refine RQ.y rfl (Y.fieldAddr (off := 1) rfl (by kernel_rfl)) ?_
          refine RQ.y rfl (Y.load (v := .int .i64 x20.value) rfl (by kernel_rfl) (eqC (cellT T (hc26 1 _ rfl)))) ?_
          refine RQ.y rfl (Y.move (v := .int .i64 s19) rfl) ?_
          refine RQ.y rfl (Y.binI (v := .bool (x20.value != s19)) rfl rfl rfl) ?_
          refine RQ.nil ?_
          refine then_n ?_
          rcases bcases (x20.value != s19) with c29 | c29
          · replace hm := cF c29 hm
            refine cond_f rfl (vb rfl c29) ?_
            refine wp_skip ?_
            refine then_n ?_
            refine wp_seq ?_
            refine wp_rs rfl ?_
            refine RQ.y rfl (Y.move (v := .int .i64 s19) rfl) ?_
            obtain ⟨s30, ks30, hm⟩ := bnd hm
            replace ks30 := ck_some ks30
            refine RQ.y rfl (Y.binI (v := .int .i64 s30) rfl rfl (by rw [binI_add ks30.2, ks30.1])) ?_
            refine RQ.y rfl (Y.assign (v := .int .i64 s30) rfl) ?_
            refine RQ.nil ?_
            refine then_n ?_
            refine wp_seq ?_
            refine wp_rb rfl ?_
            refine RQ.y rfl (Y.move (v := .slice (some ⟨b14, o15, none⟩) d0.length ca0) s0_1) ?_
            refine RQ.y rfl (Y.move (v := .int .i64 i4) s5_1) ?_
            obtain ⟨x31, hx34, hm⟩ := bnd hm
            obtain ⟨k32, hk35, hl36, hx34⟩ := getI_some hx34
            obtain ⟨cs33, hRcs33, hc37⟩ := ha0.el hx34
            have hScs33 := hRcs33
            obtain ⟨A38, n38, c38, A39, n39, c39, rfl, ⟨h38, r38⟩, ⟨h39, r39⟩⟩ := (coreRd_out hRcs33)
            have e38 := h38.len; subst e38
            have q38 := len_le r38
            have e39 := h39.len; subst e39
            have q39 := len_le r39
            refine RQ.y rfl (Y.indexAddr (m := k32) (sz := 4) rfl rfl hk35 hl36 (by kernel_rfl)) ?_
            refine RQ.y rfl (Y.fieldAddr (off := 2) rfl (by kernel_rfl)) ?_
            refine RQ.y rfl (Y.load (v := .slice A38 x31.data.length c38) rfl (by kernel_rfl) (beC (cellT T (hc37 2 _ rfl)))) ?_
            refine RQ.y rfl (Y.move (v := .int .i64 s30) rfl) ?_
            obtain ⟨y40, e41, hm⟩ := bnd hm
            refine RQ.call rfl (am2 rfl rfl) (by kernel_rfl) (v := .int .i64 y40) (bel (K := fun _ => True) fun w' hb' => (c_m_laws_heldInt64S x31.data s30 _ e41 _ w' (slArg intRd_ok h38 r38 (Tt T hb')))) ?_
            refine RQ.y rfl (Y.assign (v := .int .i64 y40) rfl) ?_
            refine RQ.nil ?_
            intro w42 hb43
            have szw42 := hb43.size
            have T := Tt T hb43
            refine then_n ?_
            refine wp_seq ?_
            refine wp_seq ?_
            refine wp_rs rfl ?_
            refine RQ.y rfl (Y.move (v := .int .i64 y40) rfl) ?_
            refine RQ.y rfl (Y.binI (v := .bool (decide (y40 < 0))) rfl rfl rfl) ?_
            refine RQ.nil ?_
            refine then_n ?_
            rcases bcases (decide (y40 < 0)) with c44 | c44
            · replace hm := cF c44 hm
              have pc44 := of_decide_eq_false c44
              refine cond_f rfl (vb rfl c44) ?_
              refine wp_skip ?_
              refine then_n ?_
              refine wp_seq ?_
              refine wp_rb rfl ?_
              refine RQ.y rfl (Y.move (v := .slice (some ⟨b14, o15, none⟩) d0.length ca0) s0_1) ?_
              refine RQ.y rfl (Y.move (v := .int .i64 i4) s5_1) ?_
              obtain ⟨x45, hx48, hm⟩ := bnd hm
              obtain ⟨k46, hk49, hl50, hx48⟩ := getI_some hx48
              obtain ⟨cs47, hRcs47, hc51⟩ := ha0.el hx48
              have hScs47 := hRcs47
              obtain ⟨A52, n52, c52, A53, n53, c53, rfl, ⟨h52, r52⟩, ⟨h53, r53⟩⟩ := (coreRd_out hRcs47)
              have e52 := h52.len; subst e52
              have q52 := len_le r52
              have e53 := h53.len; subst e53
              have q53 := len_le r53
              refine RQ.y rfl (Y.indexAddr (m := k46) (sz := 4) rfl rfl hk49 hl50 (by kernel_rfl)) ?_
              refine RQ.y rfl (Y.fieldAddr (off := 3) rfl (by kernel_rfl)) ?_
              refine RQ.y rfl (Y.load (v := .slice A53 x45.kids.length c53) rfl (by kernel_rfl) (beC (cellT T (hc51 3 _ rfl)))) ?_
              refine RQ.y rfl (Y.move (v := .int .i64 y40) rfl) ?_
              obtain ⟨y54, e55, hm⟩ := bnd hm
              refine RQ.call rfl (am2 rfl rfl) (by kernel_rfl) (v := .int .i64 y54) (bel (K := fun _ => True) fun w' hb' => (ih x45.kids y40 _ (by rw [← hself]; exact e55) _ w' (slArg coreRd_ok h53 r53 (Tt T hb')))) ?_
              refine RQ.y rfl (Y.assign (v := .int .i64 y54) rfl) ?_
              refine RQ.nil ?_
              intro w56 hb57
              have szw56 := hb57.size
              have T := Tt T hb57
              refine then_n ?_
              refine wp_seq ?_
              refine wp_rs rfl ?_
              refine RQ.y rfl (Y.move (v := .int .i64 y54) rfl) ?_
              refine RQ.y rfl (Y.binI (v := .bool (decide (y54 < 0))) rfl rfl rfl) ?_
              refine RQ.nil ?_
              refine then_n ?_
              rcases bcases (decide (y54 < 0)) with c58 | c58
              · replace hm := cF c58 hm
                have pc58 := of_decide_eq_false c58
                refine cond_f rfl (vb rfl c58) ?_
                refine wp_skip ?_
                refine blk_n (then_n ?_)
                refine wp_rs rfl ?_
                refine RQ.y rfl (Y.move (v := .int .i64 i4) s5_1) ?_
                refine RQ.y rfl (Y.binI rfl rfl (binI_add (m := i4) (by omega))) ?_
                refine RQ.y rfl (Y.assign (v := .int .i64 (i4 + 1)) rfl) ?_
                refine RQ.nil ?_
                exact (then_n ⟨g, _, Nat.lt_succ_self _, rfl, ⟨y54, (i4 + 1), s0_1, rfl, rfl, (by omega), T, (by rw [← hrec1]; exact hm)⟩⟩)
              · replace hm := cT c58 hm
                have pc58 := of_decide_eq_true c58
                refine cond_t rfl (vb rfl c58) ?_
                refine wp_seq ?_
                refine wp_rs rfl ?_
                refine RQ.y rfl (Y.assign (v := .int .i64 (-1)) rfl) ?_
                refine RQ.nil ?_
                refine then_n ?_
                refine wp_ret ?_
                obtain rfl := Option.some.inj hm
                exact (blk_r (then_r (then_r (hit_r (blk_r (then_r (ret1 rfl rfl rfl ⟨rfl, T⟩)))))))
            · replace hm := cT c44 hm
              have pc44 := of_decide_eq_true c44
              refine cond_t rfl (vb rfl c44) ?_
              refine wp_seq ?_
              refine wp_rs rfl ?_
              refine RQ.y rfl (Y.assign (v := .int .i64 (-1)) rfl) ?_
              refine RQ.nil ?_
              refine then_n ?_
              refine wp_ret ?_
              obtain rfl := Option.some.inj hm
              exact (then_r (blk_r (then_r (then_r (hit_r (blk_r (then_r (ret1 rfl rfl rfl ⟨rfl, T⟩))))))))
          · replace hm := cT c29 hm
            refine cond_t rfl (vb rfl c29) ?_
            refine wp_seq ?_
            refine wp_rs rfl ?_
            refine RQ.y rfl (Y.assign (v := .int .i64 (-1)) rfl) ?_
            refine RQ.nil ?_
            refine then_n ?_
            refine wp_ret ?_
            obtain rfl := Option.some.inj hm
            exact (then_r (blk_r (then_r (then_r (hit_r (blk_r (then_r (ret1 rfl rfl rfl ⟨rfl, T⟩))))))))
        · replace hm := cT c18 hm
          refine cond_t rfl (vb rfl c18) ?_
          refine wp_seq ?_
          refine wp_rs rfl ?_
          refine RQ.y rfl (Y.assign (v := .int .i64 (-1)) rfl) ?_
          refine RQ.nil ?_
          refine then_n ?_
          refine wp_ret ?_
          obtain rfl := Option.some.inj hm
          exact (then_r (blk_r (then_r (then_r (hit_r (blk_r (then_r (ret1 rfl rfl rfl ⟨rfl, T⟩))))))))
noncomputable def m_laws_heldCore (d0 : DCore) (d1 : Int) : Option Int :=
  ((m_laws_heldInt64S d0.data d1).bind fun y7 => (bif (decide (y7 < 0)) then some (-1) else ((m_laws_heldCoreS (SizeOf.sizeOf d0.kids) d0.kids y7).bind fun y12 => (bif (decide (y12 < 0)) then some (-1) else some y12))))
set_option maxHeartbeats 2000000 in
theorem c_m_laws_heldCore (d0 : DCore) (d1 : Int) (r : Int) (hm : m_laws_heldCore d0 d1 = some r) (v0 : Value) (w : World) (hv0 : St coreRd w v0 d0) :
    Calls Try.prog 23 #[v0, .int .i64 d1] w fun e w' => e = .returned (.int .i64 r) ∧ Below w.heap.size w w' := by
  obtain ⟨csa0, rfl, hRR0⟩ := hv0
  obtain ⟨A1, n1, c1, A2, n2, c2, rfl, ⟨h1, r1⟩, ⟨h2, r2⟩⟩ := (coreRd_out hRR0)
  have e1 := h1.len; subst e1
  have q1 := len_le r1
  have e2 := h2.len; subst e2
  have q2 := len_le r2
  have T := Below.refl w.heap.size w
  unfold m_laws_heldCore at hm
  refine enter 18 Try.func23 rfl rfl rfl ?_
  intro f hf
  have s0 : f 0 = .agg #[.int .i64 d0.kind, .int .i64 d0.value, .slice A1 d0.data.length c1, .slice A2 d0.kids.length c2] := hf 0 _ rfl
  have s1 : f 1 = .int .i64 d1 := hf 1 _ rfl
  refine wp_seq ?_
  refine wp_rl rfl ?_
  refine RL.box rfl s0 (fun w3 B4 hb5 szw3 => ?_)
  replace B4 : Blk w3 w.heap.size 42 #[.int .i64 d0.kind, .int .i64 d0.value, .slice A1 d0.data.length c1, .slice A2 d0.kids.length c2] := B4
  have GB4 : w.heap.size ≤ w.heap.size := T.size
  have T := Tt T hb5
  refine RL.y rfl (Y.assign (v := .int .i64 0) rfl) ?_
  refine RL.nil ?_
  refine then_n ?_
  refine wp_seq ?_
  refine wp_rb rfl ?_
  refine RQ.y rfl (Y.fieldAddr (off := 2) rfl (by kernel_rfl)) ?_
  refine RQ.y rfl (Y.load (v := .slice A1 d0.data.length c1) rfl (by kernel_rfl) (beC (blkCell B4 (i := 2) rfl))) ?_
  refine RQ.y rfl (Y.move (v := .int .i64 d1) s1) ?_
  obtain ⟨y7, e8, hm⟩ := bnd hm
  refine RQ.call rfl (am2 rfl rfl) (by kernel_rfl) (v := .int .i64 y7) (bel (K := fun _ => True) fun w' hb' => (c_m_laws_heldInt64S d0.data d1 _ e8 _ w' (slArg intRd_ok h1 r1 (Tt T hb')))) ?_
  refine RQ.y rfl (Y.assign (v := .int .i64 y7) rfl) ?_
  refine RQ.nil ?_
  intro w9 hb10
  have szw9 := hb10.size
  have B4 := blkT B4 hb10
  have T := Tt T hb10
  refine then_n ?_
  refine wp_seq ?_
  refine wp_seq ?_
  refine wp_rs rfl ?_
  refine RQ.y rfl (Y.move (v := .int .i64 y7) rfl) ?_
  refine RQ.y rfl (Y.binI (v := .bool (decide (y7 < 0))) rfl rfl rfl) ?_
  refine RQ.nil ?_
  refine then_n ?_
  rcases bcases (decide (y7 < 0)) with c11 | c11
  · replace hm := cF c11 hm
    have pc11 := of_decide_eq_false c11
    refine cond_f rfl (vb rfl c11) ?_
    refine wp_skip ?_
    refine then_n ?_
    refine wp_seq ?_
    refine wp_rb rfl ?_
    refine RQ.y rfl (Y.fieldAddr (off := 3) rfl (by kernel_rfl)) ?_
    refine RQ.y rfl (Y.load (v := .slice A2 d0.kids.length c2) rfl (by kernel_rfl) (beC (blkCell B4 (i := 3) rfl))) ?_
    refine RQ.y rfl (Y.move (v := .int .i64 y7) rfl) ?_
    obtain ⟨y12, e13, hm⟩ := bnd hm
    refine RQ.call rfl (am2 rfl rfl) (by kernel_rfl) (v := .int .i64 y12) (bel (K := fun _ => True) fun w' hb' => (c_m_laws_heldCoreS (SizeOf.sizeOf d0.kids) d0.kids y7 _ e13 _ w' (slArg coreRd_ok h2 r2 (Tt T hb')))) ?_
    refine RQ.y rfl (Y.assign (v := .int .i64 y12) rfl) ?_
    refine RQ.nil ?_
    intro w14 hb15
    have szw14 := hb15.size
    have T := Tt T hb15
    refine then_n ?_
    refine wp_seq ?_
    refine wp_seq ?_
    refine wp_rs rfl ?_
    refine RQ.y rfl (Y.move (v := .int .i64 y12) rfl) ?_
    refine RQ.y rfl (Y.binI (v := .bool (decide (y12 < 0))) rfl rfl rfl) ?_
    refine RQ.nil ?_
    refine then_n ?_
    rcases bcases (decide (y12 < 0)) with c16 | c16
    · replace hm := cF c16 hm
      have pc16 := of_decide_eq_false c16
      refine cond_f rfl (vb rfl c16) ?_
      refine wp_skip ?_
      refine then_n ?_
      refine wp_seq ?_
      refine wp_rs rfl ?_
      refine RQ.y rfl (Y.move (v := .int .i64 y12) rfl) ?_
      refine RQ.y rfl (Y.assign (v := .int .i64 y12) rfl) ?_
      refine RQ.nil ?_
      refine then_n ?_
      refine wp_ret ?_
      obtain rfl := Option.some.inj hm
      exact (ret1 rfl rfl rfl ⟨rfl, T⟩)
    · replace hm := cT c16 hm
      have pc16 := of_decide_eq_true c16
      refine cond_t rfl (vb rfl c16) ?_
      refine wp_seq ?_
      refine wp_rs rfl ?_
      refine RQ.y rfl (Y.assign (v := .int .i64 (-1)) rfl) ?_
      refine RQ.nil ?_
      refine then_n ?_
      refine wp_ret ?_
      obtain rfl := Option.some.inj hm
      exact (then_r (ret1 rfl rfl rfl ⟨rfl, T⟩))
  · replace hm := cT c11 hm
    have pc11 := of_decide_eq_true c11
    refine cond_t rfl (vb rfl c11) ?_
    refine wp_seq ?_
    refine wp_rs rfl ?_
    refine RQ.y rfl (Y.assign (v := .int .i64 (-1)) rfl) ?_
    refine RQ.nil ?_
    refine then_n ?_
    refine wp_ret ?_
    obtain rfl := Option.some.inj hm
    exact (then_r (ret1 rfl rfl rfl ⟨rfl, T⟩))
end
section
open Go.RowKit
set_option linter.unusedVariables false
set_option linter.unusedSimpArgs false
abbrev zCore : DCore := ⟨0, 0, [], []⟩
theorem DCore.pos1 (x : DCore) : 0 < SizeOf.sizeOf x := by cases x; simp; omega
theorem sz_kidsC (x : DCore) : SizeOf.sizeOf x.kids < SizeOf.sizeOf x := by
  obtain ⟨a, b, c, d⟩ := x
  simp only [DCore.mk.sizeOf_spec]
  omega
theorem sz_posCS (xs : List DCore) : 0 < SizeOf.sizeOf xs := by cases xs <;> simp <;> omega
noncomputable instance : DecidableEq DCore := fun a b => Classical.propDecidable (a = b)
theorem coreEq (x y : DCore) : (x = y) ↔ (x.kind = y.kind ∧ x.value = y.value ∧ x.data = y.data ∧ x.kids = y.kids) := by
  obtain ⟨a, b, c, d⟩ := x
  obtain ⟨a', b', c', d'⟩ := y
  simp
theorem coreDec (x y : DCore) : decide (x = y) = (x.kind == y.kind && (x.value == y.value && (decide (x.data = y.data) && decide (x.kids = y.kids)))) := by
  rw [Bool.eq_iff_iff]
  simp only [decide_eq_true_eq, Bool.and_eq_true, beq_iff_eq]
  rw [coreEq]
theorem p_eqInts (xs ys : List Int) : m_laws_eqInt64S xs ys = some (decide (xs = ys)) := by
  unfold m_laws_eqInt64S
  rw [bne_nat]
  by_cases hl : xs.length = ys.length
  · rw [decide_eq_true hl, Bool.not_true, cond_false]
    exact rowEq (L := m_laws_eqInt64S_L1 xs ys m_laws_eqInt64S_A1) (q := fun a b => some (decide (a = b))) hl (fun x hx y => rfl)
      (fun g k hx hy => by
        simp -implicitDefEqProofs only [m_laws_eqInt64S_L1, m_laws_eqInt64S_B1, dlt hx, cond_true, getI_nat (List.getElem?_eq_getElem hx), getI_nat (List.getElem?_eq_getElem hy), Option.bind_some]
        by_cases h2 : xs[k] = ys[k]
        · rw [decide_eq_true h2, show (xs[k] != ys[k]) = false by simp [h2]]; rfl
        · rw [decide_eq_false h2, show (xs[k] != ys[k]) = true by simp [h2]]; rfl)
      (fun g => by simp -implicitDefEqProofs only [m_laws_eqInt64S_L1, m_laws_eqInt64S_B1, dge, cond_false, m_laws_eqInt64S_A1])
  · rw [decide_eq_false hl, Bool.not_false, cond_true, decide_len hl]
theorem p_eqCo : ∀ gas : Nat, (∀ (xs ys : List DCore), SizeOf.sizeOf xs ≤ gas → m_laws_eqCoreS gas xs ys = some (decide (xs = ys))) ∧ (∀ (x y : DCore), SizeOf.sizeOf x ≤ gas → m_laws_eqCore gas x y = some (decide (x = y)))
  | 0 => ⟨fun xs ys h => by have := sz_posCS xs; omega, fun x y h => by have := x.pos1; omega⟩
  | gas + 1 => by
    obtain ⟨i1, i2⟩ := p_eqCo gas
    refine ⟨fun xs ys hg => ?_, fun x y hg => ?_⟩
    · have e : m_laws_eqCoreS (gas + 1) xs ys = m_laws_eqCoreS_R (m_laws_eqCoreS gas) (m_laws_eqCore gas) xs ys := rfl
      rw [e]
      unfold m_laws_eqCoreS_R
      rw [bne_nat]
      by_cases hl : xs.length = ys.length
      · rw [decide_eq_true hl, Bool.not_true, cond_false]
        exact rowEq (L := m_laws_eqCoreS_L1 (m_laws_eqCore gas) xs ys m_laws_eqCoreS_A1) (q := m_laws_eqCore gas) hl (fun x hx y => i2 x y (by have := List.sizeOf_lt_of_mem hx; omega))
          (fun g k hx hy => by simp -implicitDefEqProofs only [m_laws_eqCoreS_L1, m_laws_eqCoreS_B1, dlt hx, cond_true, getI_nat (List.getElem?_eq_getElem hx), getI_nat (List.getElem?_eq_getElem hy), Option.bind_some])
          (fun g => by simp -implicitDefEqProofs only [m_laws_eqCoreS_L1, m_laws_eqCoreS_B1, dge, cond_false, m_laws_eqCoreS_A1])
      · rw [decide_eq_false hl, Bool.not_false, cond_true, decide_len hl]
    · have e : m_laws_eqCore (gas + 1) x y = m_laws_eqCore_R (m_laws_eqCoreS gas) (m_laws_eqCore gas) x y := rfl
      have hk := sz_kidsC x
      rw [e, coreDec]
      unfold m_laws_eqCore_R
      rw [p_eqInts, i1 _ _ (by omega), Option.bind_some, Option.bind_some, show (x.kind != y.kind) = !(x.kind == y.kind) from rfl, show (x.value != y.value) = !(x.value == y.value) from rfl]
      cases x.kind == y.kind <;> cases x.value == y.value <;> cases decide (x.data = y.data) <;> cases decide (x.kids = y.kids) <;> rfl
theorem p_heldCS : ∀ (gas k : Nat) (xs : List DCore), SizeOf.sizeOf (markCS k xs) ≤ gas → k + cntL cntC xs ≤ 4294967296 → m_laws_heldCoreS gas (markCS k xs) (k : Int) = some ((k + cntL cntC xs : Nat) : Int)
  | 0, k, xs, h, _ => by have := sz_posCS (markCS k xs); omega
  | gas + 1, k, xs, hg, hb => by
    have ih := p_heldCS gas
    have e : m_laws_heldCoreS (gas + 1) (markCS k xs) (k : Int) = m_laws_heldCoreS_R (m_laws_heldCoreS gas) (markCS k xs) (k : Int) := rfl
    rw [e]
    unfold m_laws_heldCoreS_R
    have hl : (markCS k xs).length = xs.length := mkL_len _ _
    have key := traj (L := fun g (s : Int × Int) => m_laws_heldCoreS_L1 (markCS k xs) (m_laws_heldCoreS gas) m_laws_heldCoreS_A1 g s.1 s.2) (st := fun i => (((k + cntL cntC (xs.take i) : Nat) : Int), (i : Int))) (n := xs.length) (r := some ((k + cntL cntC xs : Nat) : Int))
      (fun g i hi => by
        have hx0 := List.getElem?_eq_getElem hi
        have hx : (markCS k xs)[i]? = some (mkC (k + cntL cntC (xs.take i)) xs[i]) := mkL_get hx0
        have hm0 := List.sizeOf_lt_of_mem (List.mem_of_getElem? hx)
        have hct := cntL_take (cnt := cntC) hx0
        have hcx : cntC xs[i] = 2 + xs[i].data.length + cntL cntC xs[i].kids := cntC_eq _
        have hcm := cntL_le (cnt := cntC) xs (i + 1)
        rw [hct, ← Nat.add_assoc]
        have hm : k + cntL cntC (xs.take i) + cntC xs[i] ≤ 4294967296 := by omega
        clear hct hcm hx0
        generalize k + cntL cntC (xs.take i) = m at *
        generalize xs[i] = x at *
        rw [mkC_eq] at hx hm0
        have hkz := sz_kidsC (⟨(m : Int), ((m + 1 : Nat) : Int), marks (m + 2) x.data.length, mkL mkC cntC (m + 2 + x.data.length) x.kids⟩ : DCore)
        have e1 := p_heldI (m + 2) x.data.length (by omega)
        have e2 := ih (m + 2 + x.data.length) x.kids (by show SizeOf.sizeOf (mkL mkC cntC _ _) ≤ _; simp only at hkz; omega) (by omega)
        unfold markCS at e2
        have hx' : getI (markCS k xs) (i : Int) = some _ := getI_nat hx
        simp -implicitDefEqProofs only [m_laws_heldCoreS_L1, m_laws_heldCoreS_B1, hl, dlt hi, cond_true, hx', Option.bind_some]
        rw [show ((m : Int) != (m : Int)) = false by simp, cond_false, ck_ok (by omega), Option.bind_some, show (((m + 1 : Nat) : Int) != (m : Int) + 1) = false by simp, cond_false, ck_ok (by omega), Option.bind_some,
          show (m : Int) + 1 + 1 = ((m + 2 : Nat) : Int) by omega, e1, Option.bind_some,
          show decide (((m + 2 + x.data.length : Nat) : Int) < 0) = false by simp; omega, cond_false, e2, Option.bind_some, show decide (((m + 2 + x.data.length + cntL cntC x.kids : Nat) : Int) < 0) = false by simp; omega, cond_false]
        have e3 : ((m + 2 + x.data.length + cntL cntC x.kids : Nat) : Int) = (((m : Nat) + cntC x : Nat) : Int) := by omega
        rw [e3]; simp only [Int.natCast_add, Int.cast_ofNat_Int, Int.add_assoc] <;> rfl)
      (fun g => by
        simp -implicitDefEqProofs only [m_laws_heldCoreS_L1, m_laws_heldCoreS_B1, hl, dge, cond_false, m_laws_heldCoreS_A1, List.take_length]) (xs.length + 1) (Nat.lt_succ_self _)
    rw [hl]
    simpa [cntL] using key
theorem p_heldCo (k : Nat) (x : DCore) (hb : k + cntC x ≤ 4294967296) : m_laws_heldCore (markCo k x) (k : Int) = some ((k + cntCo x : Nat) : Int) := by
  have hcx := cntC_eq x
  unfold m_laws_heldCore markCo
  simp only
  rw [p_heldI k x.data.length (by omega), Option.bind_some, show decide (((k + x.data.length : Nat) : Int) < 0) = false by simp; omega, cond_false, p_heldCS _ (k + x.data.length) x.kids (Nat.le_refl _) (by omega), Option.bind_some, show decide (((k + x.data.length + cntL cntC x.kids : Nat) : Int) < 0) = false by simp; omega, cond_false]
  unfold cntCo
  rw [Nat.add_assoc]
/-- What both give: the same term and code; the same count where the code is OK. -/
def Res (rs ri : Option (DCore × Int × Int)) (c : Int) : Prop :=
  ∃ (x : DCore) (e c1 c2 : Int), rs = some (x, e, c1) ∧ ri = some (x, e, c2) ∧ ((e = 0 ∧ c1 = c2 ∧ c ≤ c1 ∧ c1 ≤ 400 ∧ (cntC x : Int) ≤ 2 * (c1 - c)) ∨ (e ≠ 0 ∧ x = zCore))
theorem bothD {xs : List DAgent} (G : Good xs) : ∀ (gas : Nat) (p : DPort) (d c : Int), hasPort xs p = true → 1 ≤ gas → (gas : Int) = 82 - d → 1 ≤ d → 0 ≤ c → c ≤ 400 → Res (m_spec_l17Data gas ⟨xs⟩ p d c) (m_impl_Net_data gas ⟨xs⟩ p d c) c
  | 0, p, d, c, _, h, _, _, _, _ => by omega
  | gas + 1, p, d, c, hp, _, hg, hd1, hc0, hc1 => by
    have ih := bothD G gas
    have es : m_spec_l17Data (gas + 1) ⟨xs⟩ p d c = m_spec_l17Data_R (m_spec_l17Data gas) ⟨xs⟩ p d c := rfl
    have ei : m_impl_Net_data (gas + 1) ⟨xs⟩ p d c = m_impl_Net_data_R (m_impl_Net_data gas) ⟨xs⟩ p d c := rfl
    rw [es, ei]
    unfold m_spec_l17Data_R m_impl_Net_data_R
    rw [ck_ok (show -9223372036854775808 ≤ c + 1 ∧ c + 1 ≤ 9223372036854775807 by omega), Option.bind_some]
    by_cases hd : d > 80
    · rw [decide_eq_true hd, cond_true, cond_true]
      exact ⟨_, _, _, _, rfl, rfl, .inr ⟨by decide, rfl⟩⟩
    rw [decide_eq_false hd, cond_false, cond_false]
    by_cases hc : c = 400
    · rw [show (c == 400) = true by simp [hc], cond_true, decide_eq_true (show c + 1 > 400 by omega), cond_true]
      exact ⟨_, _, _, _, rfl, rfl, .inr ⟨by decide, rfl⟩⟩
    rw [show (c == 400) = false by simp [hc], cond_false, decide_eq_false (show ¬ c + 1 > 400 by omega), cond_false, Option.bind_some, p_value G hp, Option.bind_some, p_peer hp, Option.bind_some]
    have hpq := hasPort_at (G.peer hp).1
    obtain ⟨i, s, x, hqe, hx, _, ha⟩ := hpq
    have ha1 : (peer xs p).agent = (i : Int) := by rw [hqe]
    simp only [ha1]
    rw [getI_nat hx, Option.bind_some, p_isKnown G hp, Option.bind_some]
    cases hk : known xs p with
    | false =>
      rw [cond_false, cond_false]
      exact ⟨_, _, _, _, rfl, rfl, .inr ⟨by decide, rfl⟩⟩
    | true =>
    rw [cond_true, cond_true, p_speer hp, Option.bind_some]
    simp only [ha1]
    rw [getI_nat hx, Option.bind_some]
    cases x.kind == 2 with
    | true => exact ⟨_, _, _, _, rfl, rfl, .inr ⟨by decide, rfl⟩⟩
    | false =>
    cases x.kind == 6 with
    | true => exact ⟨⟨2, x.value, [], []⟩, 0, c + 1, c + 1, rfl, rfl, .inl ⟨rfl, rfl, by omega, by omega, by rw [cntC_eq]; simp [cntL]; omega⟩⟩
    | false =>
    cases x.kind == 12 with
    | true => exact ⟨⟨11, x.value, [], []⟩, 0, c + 1, c + 1, rfl, rfl, .inl ⟨rfl, rfl, by omega, by omega, by rw [cntC_eq]; simp [cntL]; omega⟩⟩
    | false =>
    simp only [cond_false]
    have key : ∀ (m k gs gi : Nat) (kids : List DCore) (n : Int), k + m = x.ports.length → m < gs → m < gi → c + 1 ≤ n → n ≤ 400 → (cntL cntC kids : Int) ≤ 2 * (n - (c + 1)) →
        Res (m_spec_l17Data_L1 ⟨xs⟩ d (m_spec_l17Data gas) (peer xs p) x (m_spec_l17Data_A1 x) gs kids (k : Int) n zCore) (m_impl_Net_data_L1 ⟨xs⟩ p d (m_impl_Net_data gas) x m_impl_Net_data_A1 gi (k : Int) n zCore ⟨8, x.value, [], kids⟩) c := by
      intro m
      induction m with
      | zero =>
        intro k gs gi kids n hm hg1 hg2 hn0 hn1 hkb
        obtain ⟨gs, rfl⟩ : ∃ q, gs = q + 1 := ⟨gs - 1, by omega⟩
        obtain ⟨gi, rfl⟩ : ∃ q, gi = q + 1 := ⟨gi - 1, by omega⟩
        have hk' : k = x.ports.length := by omega
        subst hk'
        simp -implicitDefEqProofs only [m_spec_l17Data_L1, m_spec_l17Data_B1, m_impl_Net_data_L1, m_impl_Net_data_B1, dge, cond_false, m_spec_l17Data_A1, m_impl_Net_data_A1]
        exact ⟨_, _, _, _, rfl, rfl, .inl ⟨rfl, rfl, by omega, hn1, by rw [cntC_eq]; simp; omega⟩⟩
      | succ m ih2 =>
        intro k gs gi kids n hm hg1 hg2 hn0 hn1 hkb
        obtain ⟨gs, rfl⟩ : ∃ q, gs = q + 1 := ⟨gs - 1, by omega⟩
        obtain ⟨gi, rfl⟩ : ∃ q, gi = q + 1 := ⟨gi - 1, by omega⟩
        have hkl : k < x.ports.length := by omega
        have hlen := cntCL_len kids
        obtain ⟨y, e, c1, c2, r1, r2, hrel⟩ := ih ⟨(i : Int), (k : Int)⟩ (d + 1) n (hasPort_of hx hkl) (by omega) (by omega) (by omega) (by omega) hn1
        simp -implicitDefEqProofs only [m_spec_l17Data_L1, m_spec_l17Data_B1, m_impl_Net_data_L1, m_impl_Net_data_B1, dlt hkl, cond_true, m_spec_l13Port, Option.bind_some, p_peer hp, ha1]
        rw [ck_ok (by omega), Option.bind_some, r1, Option.bind_some, Option.bind_some, r2, Option.bind_some]
        rcases hrel with ⟨rfl, rfl, h1, h2, h3⟩ | ⟨he, rfl⟩
        · rw [show ((0 : Int) != 0) = false from rfl, cond_false, cond_false, mustP_ok (by rw [List.length_singleton]; omega), Option.bind_some, Option.bind_some]
          have := ih2 (k + 1) gs gi (kids ++ [y]) c1 (by omega) (by omega) (by omega) (by omega) h2 (by rw [cntL_append, cntL_cons]; simp [cntL] at hkb ⊢; omega)
          simpa only [Int.natCast_add, Int.cast_ofNat_Int] using this
        · rw [show (e != 0) = true by simpa using he, cond_true, cond_true]
          exact ⟨_, _, _, _, rfl, rfl, .inr ⟨he, rfl⟩⟩
    have h1 : 1 ≤ x.ports.length := G.pos hx
    exact key (x.ports.length - 1) 1 (x.ports.length + 1) (x.ports.length + 1) [] (c + 1) (by omega) (by omega) (by omega) (by omega) (by omega) (by simp [cntL])
noncomputable def dataOf (d : DNet) : DCore × Int := bif validNet d then (match m_spec_l17Data 81 d ⟨0, 0⟩ 1 0 with | some r => (r.1, r.2.1) | none => (zCore, 0)) else (zCore, 1)
theorem both1 {xs : List DAgent} (G : Good xs) : Res (m_spec_l17Data 81 ⟨xs⟩ ⟨0, 0⟩ 1 0) (m_impl_Net_data 81 ⟨xs⟩ ⟨0, 0⟩ 1 0) 0 := by
  have h1 := G.one
  have hx := List.getElem?_eq_getElem (show 0 < xs.length by omega)
  exact bothD G 81 ⟨0, 0⟩ 1 0 (hasPort_of (i := 0) (k := 0) hx (G.pos hx)) (by omega) (by omega) (by omega) (by omega) (by omega)
theorem p_sDataOf (d : DNet) (hs : Small d.agents) : m_spec_DataOf d = some (dataOf d) := by
  unfold m_spec_DataOf dataOf
  rw [p_ok _ hs, Option.bind_some]
  cases hv : validNet d with
  | false => rfl
  | true =>
    obtain ⟨xs⟩ := d
    obtain ⟨x, e, c1, c2, e1, e2, _⟩ := both1 (good hv) 
    rw [cond_true, cond_true, show (82 - (1 : Int)).toNat = 81 from rfl, e1, Option.bind_some]
theorem p_iDataOf (d : DNet) (hs : Small d.agents) : m_impl_DataOf d = some (dataOf d) := by
  unfold m_impl_DataOf dataOf
  rw [p_valid _ hs, Option.bind_some]
  cases hv : validNet d with
  | false => rfl
  | true =>
    obtain ⟨xs⟩ := d
    obtain ⟨x, e, c1, c2, e1, e2, _⟩ := both1 (good hv)
    unfold m_impl_rootPort
    rw [cond_true, cond_true, Option.bind_some, show (82 - (1 : Int)).toNat = 81 from rfl, e1, e2, Option.bind_some]
theorem dataOf_small (d : DNet) : cntC (dataOf d).1 ≤ 1048576 := by
  have hz : cntC zCore = 2 := by rw [cntC_eq]; rfl
  unfold dataOf
  cases hv : validNet d with
  | false => rw [cond_false, hz]; decide
  | true =>
    obtain ⟨xs⟩ := d
    obtain ⟨x, e, c1, c2, e1, e2, h⟩ := both1 (good hv)
    rw [cond_true, e1]
    simp only
    rcases h with ⟨_, _, h1, h2, h3⟩ | ⟨_, rfl⟩
    · omega
    · rw [hz]; decide
end
section
open Go.RowKit
set_option linter.unusedVariables false
theorem ownCo {e e' : TypeId} {w : World} {lo : Nat} {v u : Value} {d : DCore} {cs : List Nat} (h : OwF e encI 1 w lo v d.data) (h' : OwN e' coreOw 4 w lo u d.kids cs) (D : Ap (fb v) cs) : OwT coreOw w (.agg #[.int .i64 d.kind, .int .i64 d.value, v, u]) d lo w.heap.size := by
  obtain ⟨A, c, rfl⟩ := OwF.form h
  obtain ⟨l, h1, h2, h3, r⟩ := OwF.own2 fI h
  obtain ⟨A', n', c', l', rfl, h1', h2', h3', r'⟩ := h'.own1 coreOw_ok
  refine ⟨[.int .i64 d.kind, .int .i64 d.value, .slice A d.data.length c, .slice A' n' c'], l ++ l', rfl, coreOw_in ⟨A, d.data.length, c, A', n', c', l, l', rfl, ⟨h1, r⟩, ⟨h1', r'⟩, rfl⟩, List.nodup_append.2 ⟨h2, h2', fun a ha b hb e => D a (h3 a ha) (e ▸ h3' b hb)⟩, fun b hb => ?_⟩
  rcases List.mem_append.1 hb with hb | hb
  · exact ⟨OwF.flo h b (h3 b hb), OwF.fhi h b (h3 b hb)⟩
  · exact ⟨h'.lo_ b (h3' b hb), h'.hi b (h3' b hb)⟩
theorem eqCore_v (v u : Value) (x y : DCore) (w : World) {B B' : Nat} (h : RdT coreRd w B v x) (h' : RdT coreRd w B' u y) (hB : B ≤ w.heap.size) (hB' : B' ≤ w.heap.size) :
    Calls Try.prog 21 #[v, u] w fun e w' => e = .returned (.bool (decide (x = y))) ∧ Below w.heap.size w w' :=
  c_m_laws_eqCore _ x y _ ((p_eqCo _).2 x y (Nat.le_refl _)) v u w (h.more coreRd_ok hB) (h'.more coreRd_ok hB')
theorem heldCore_r (v : Value) (x : DCore) (w : World) (k : Int) (m : Nat) (em : m = k.toNat + cntCo x) {B : Nat} (h : RdT coreRd w B v (markCo k.toNat x)) (hB : B ≤ w.heap.size) (hs : cntC x ≤ 1048576) (h0 : 0 ≤ k) (hk : k ≤ 1048576) :
    Calls Try.prog 23 #[v, .int .i64 k] w fun e w' => e = .returned (.int .i64 (m : Int)) ∧ Below w.heap.size w w' := by
  subst em
  obtain ⟨k0, rfl⟩ := Int.eq_ofNat_of_zero_le h0
  exact c_m_laws_heldCore _ _ _ (p_heldCo k0 x (by omega)) v w (h.more coreRd_ok hB)
theorem specDataOf_v (v : Value) (x : DNet) (w : World) {B : Nat} (h : RdT netRd w B v x) (hB : B ≤ w.heap.size) (hs : szNet x ≤ 1048576) :
    Calls Try.prog 19 #[v] w fun e w' => (∃ v', e = .returned (.tuple #[v', .int .i64 (dataOf x).2]) ∧ OwT coreOw w' v' (dataOf x).1 w.heap.size w'.heap.size) ∧ Below w.heap.size w w' :=
  (c_m_spec_DataOf x _ (p_sDataOf x hs) v w (h.more netRd_ok hB)).mono fun e w' ⟨⟨v0, v1, bs, he, h1, h2, D⟩, hb⟩ => ⟨⟨_, he, ownCo h1 h2 D⟩, hb⟩
theorem implDataOf_v (v : Value) (x : DNet) (w : World) {B : Nat} (h : RdT netRd w B v x) (hB : B ≤ w.heap.size) (hs : szNet x ≤ 1048576) :
    Calls Try.prog 20 #[v] w fun e w' => (∃ v', e = .returned (.tuple #[v', .int .i64 (dataOf x).2]) ∧ OwT coreOw w' v' (dataOf x).1 w.heap.size w'.heap.size) ∧ Below w.heap.size w w' :=
  (c_m_impl_DataOf x _ (p_iDataOf x hs) v w (h.more netRd_ok hB)).mono fun e w' ⟨⟨v0, v1, bs, he, h1, h2, D⟩, hb⟩ => ⟨⟨_, he, ownCo h1 h2 D⟩, hb⟩
end
section
open Go.RowKit
set_option linter.unusedVariables false
set_option linter.unusedSimpArgs false
set_option maxRecDepth 100000
set_option maxHeartbeats 8000000 in
theorem walk_DataOf (w : World) (v0 : Value) (x : DNet) (R0 : RdT netRd w w.heap.size v0 x) :
    Calls Try.prog 5 #[v0] w fun e w' => e = .returned (.bool true) ∧ Below w.heap.size w w' := by
  obtain ⟨a0A0, a0n0, a0c0, rfl⟩ : ∃ a0A0 a0n0 a0c0, v0 = .agg #[.slice a0A0 a0n0 a0c0] := by obtain ⟨cs, rfl, ⟨A0, n0, c0, rfl, _⟩⟩ := R0; exact ⟨A0, n0, c0, rfl⟩
  by_cases d0 : (szNet x : Int) ≤ 1048576
  case neg =>
    have T := Below.refl w.heap.size w
    have T : Below w.heap.size w (w.alloc (.cells #[.slice a0A0 a0n0 a0c0] 24)) := T.alloc (by first | exact Nat.le_refl _ | (simp; done) | (simp; omega)) _
    have B0 : Blk (w.alloc (.cells #[.slice a0A0 a0n0 a0c0] 24)) (w.heap.size) 24 #[.slice a0A0 a0n0 a0c0] := by have := Blk.new w 24 #[.slice a0A0 a0n0 a0c0]; simpa using this
    have zb0 : (w.alloc (.cells #[.slice a0A0 a0n0 a0c0] 24)).heap.size = w.heap.size + 1 := by simp
    go_enter Try.func5, Try.ntmps5
    go_wp2_with fail
    refine (szNet_v _ x (1048576) _ (R0.below netRd_ok T) T.size (by omega) (by omega)).mono ?_
    rw [szL_neg (by omega)]
    rintro e w1 ⟨rfl, b1⟩
    have z1 := b1.size
    have B0 := B0.below b1 (by omega)
    have T := T.trans (b1.mono (by omega))
    have gB0 := B0.cell
    go_wp2_with fail
    go_ret
    exact ⟨rfl, T⟩
  have s0 : szNet x ≤ 1048576 := by omega
  have sr := dataOf_small x
  have T := Below.refl w.heap.size w
  have T : Below w.heap.size w (w.alloc (.cells #[.slice a0A0 a0n0 a0c0] 24)) := T.alloc (by first | exact Nat.le_refl _ | (simp; done) | (simp; omega)) _
  have B0 : Blk (w.alloc (.cells #[.slice a0A0 a0n0 a0c0] 24)) (w.heap.size) 24 #[.slice a0A0 a0n0 a0c0] := by have := Blk.new w 24 #[.slice a0A0 a0n0 a0c0]; simpa using this
  have zb0 : (w.alloc (.cells #[.slice a0A0 a0n0 a0c0] 24)).heap.size = w.heap.size + 1 := by simp
  go_enter Try.func5, Try.ntmps5
  go_wp2_with fail
  refine (szNet_v _ x (1048576) _ (R0.below netRd_ok T) T.size (by omega) (by omega)).mono ?_
  rw [szL_pos (by omega)]
  rintro e w1 ⟨rfl, b1⟩
  have z1 := b1.size
  have B0 := B0.below b1 (by omega)
  have T := T.trans (b1.mono (by omega))
  have gB0 := B0.cell
  go_wp2_with fail
  refine (toNet_v _ x _ (R0.below netRd_ok T) T.size s0).mono ?_
  rintro e w2 ⟨⟨t1, rfl, p2⟩, b2⟩
  have z2 := b2.size
  have B0 := B0.below b2 (by omega)
  have T := T.trans (b2.mono (by omega))
  clear gB0
  have gB0 := B0.cell
  go_wp2_with fail
  refine (specDataOf_v _ x _ (p2.reads (netOw_reads (w2).heap.size) (by omega)) (Nat.le_refl _) s0).mono ?_
  rintro e w3 ⟨⟨u4, rfl, G3⟩, b3⟩
  have z3 := b3.size
  have B0 := B0.below b3 (by omega)
  have p2 := p2.below netOw_ok b3 (by omega)
  have T := T.trans (b3.mono (by omega))
  clear gB0
  have gB0 := B0.cell
  clear p2
  obtain ⟨l6A2, l6n2, l6c2, l6A3, l6n3, l6c3, rfl⟩ : ∃ l6A2 l6n2 l6c2 l6A3 l6n3 l6c3, u4 = .agg #[.int .i64 (dataOf x).1.kind, .int .i64 (dataOf x).1.value, .slice l6A2 l6n2 l6c2, .slice l6A3 l6n3 l6c3] := by obtain ⟨cs, bs, rfl, hO, _⟩ := G3; obtain ⟨A2, n2, c2, A3, n3, c3, b2, b3, rfl, _⟩ := coreOw_out hO; exact ⟨A2, n2, c2, A3, n3, c3, rfl⟩
  have b4 : Below w3.heap.size w3 (w3.alloc (.cells #[.int .i64 (dataOf x).1.kind, .int .i64 (dataOf x).1.value, .slice l6A2 l6n2 l6c2, .slice l6A3 l6n3 l6c3] 42)) := (Below.refl _ _).alloc (Nat.le_refl _) _
  have z4 : (w3.alloc (.cells #[.int .i64 (dataOf x).1.kind, .int .i64 (dataOf x).1.value, .slice l6A2 l6n2 l6c2, .slice l6A3 l6n3 l6c3] 42)).heap.size = w3.heap.size + 1 := World.size_alloc _ _
  have B0 := B0.below b4 (by omega)
  have G3 := G3.below coreOw_ok b4 (by omega)
  have T := T.trans (b4.mono (by omega))
  have X5 : Blk (w3.alloc (.cells #[.int .i64 (dataOf x).1.kind, .int .i64 (dataOf x).1.value, .slice l6A2 l6n2 l6c2, .slice l6A3 l6n3 l6c3] 42)) w3.heap.size 42 #[.int .i64 (dataOf x).1.kind, .int .i64 (dataOf x).1.value, .slice l6A2 l6n2 l6c2, .slice l6A3 l6n3 l6c3] := Blk.new _ _ _
  clear gB0
  have gB0 := B0.cell
  have gX5 := X5.cell
  go_wp2_with fail
  refine (toNet_v _ x _ (R0.below netRd_ok T) T.size s0).mono ?_
  rintro e w5 ⟨⟨t7, rfl, p8⟩, b5⟩
  have z5 := b5.size
  have B0 := B0.below b5 (by omega)
  have X5 := X5.below b5 (by omega)
  have G3 := G3.below coreOw_ok b5 (by omega)
  have T := T.trans (b5.mono (by omega))
  clear gB0
  clear gX5
  have gB0 := B0.cell
  have gX5 := X5.cell
  obtain ⟨l10A0, l10n0, l10c0, rfl⟩ : ∃ l10A0 l10n0 l10c0, t7 = .agg #[.slice l10A0 l10n0 l10c0] := by obtain ⟨cs, bs, rfl, ⟨A0, n0, c0, b0, rfl, _⟩, _⟩ := p8; exact ⟨A0, n0, c0, rfl⟩
  have b6 : Below w5.heap.size w5 (w5.alloc (.cells #[.slice l10A0 l10n0 l10c0] 31)) := (Below.refl _ _).alloc (Nat.le_refl _) _
  have z6 : (w5.alloc (.cells #[.slice l10A0 l10n0 l10c0] 31)).heap.size = w5.heap.size + 1 := World.size_alloc _ _
  have B0 := B0.below b6 (by omega)
  have X5 := X5.below b6 (by omega)
  have G3 := G3.below coreOw_ok b6 (by omega)
  have p8 := p8.below netOw_ok b6 (by omega)
  have T := T.trans (b6.mono (by omega))
  have X9 : Blk (w5.alloc (.cells #[.slice l10A0 l10n0 l10c0] 31)) w5.heap.size 31 #[.slice l10A0 l10n0 l10c0] := Blk.new _ _ _
  clear gB0
  clear gX5
  have gB0 := B0.cell
  have gX5 := X5.cell
  have gX9 := X9.cell
  go_wp2_with fail
  refine (implDataOf_v _ x _ (p8.reads (netOw_reads ((w5.alloc (.cells #[.slice l10A0 l10n0 l10c0] 31))).heap.size) (by omega)) (Nat.le_refl _) s0).mono ?_
  rintro e w7 ⟨⟨u12, rfl, G11⟩, b7⟩
  have z7 := b7.size
  have B0 := B0.below b7 (by omega)
  have X5 := X5.below b7 (by omega)
  have X9 := X9.below b7 (by omega)
  have G3 := G3.below coreOw_ok b7 (by omega)
  have p8 := p8.below netOw_ok b7 (by omega)
  have T := T.trans (b7.mono (by omega))
  clear gB0
  clear gX5
  clear gX9
  have gB0 := B0.cell
  have gX5 := X5.cell
  have gX9 := X9.cell
  obtain ⟨l14A2, l14n2, l14c2, l14A3, l14n3, l14c3, rfl⟩ : ∃ l14A2 l14n2 l14c2 l14A3 l14n3 l14c3, u12 = .agg #[.int .i64 (dataOf x).1.kind, .int .i64 (dataOf x).1.value, .slice l14A2 l14n2 l14c2, .slice l14A3 l14n3 l14c3] := by obtain ⟨cs, bs, rfl, hO, _⟩ := G11; obtain ⟨A2, n2, c2, A3, n3, c3, b2, b3, rfl, _⟩ := coreOw_out hO; exact ⟨A2, n2, c2, A3, n3, c3, rfl⟩
  have b8 : Below w7.heap.size w7 (w7.alloc (.cells #[.int .i64 (dataOf x).1.kind, .int .i64 (dataOf x).1.value, .slice l14A2 l14n2 l14c2, .slice l14A3 l14n3 l14c3] 42)) := (Below.refl _ _).alloc (Nat.le_refl _) _
  have z8 : (w7.alloc (.cells #[.int .i64 (dataOf x).1.kind, .int .i64 (dataOf x).1.value, .slice l14A2 l14n2 l14c2, .slice l14A3 l14n3 l14c3] 42)).heap.size = w7.heap.size + 1 := World.size_alloc _ _
  have B0 := B0.below b8 (by omega)
  have X5 := X5.below b8 (by omega)
  have X9 := X9.below b8 (by omega)
  have G3 := G3.below coreOw_ok b8 (by omega)
  have p8 := p8.below netOw_ok b8 (by omega)
  have G11 := G11.below coreOw_ok b8 (by omega)
  have T := T.trans (b8.mono (by omega))
  have X13 : Blk (w7.alloc (.cells #[.int .i64 (dataOf x).1.kind, .int .i64 (dataOf x).1.value, .slice l14A2 l14n2 l14c2, .slice l14A3 l14n3 l14c3] 42)) w7.heap.size 42 #[.int .i64 (dataOf x).1.kind, .int .i64 (dataOf x).1.value, .slice l14A2 l14n2 l14c2, .slice l14A3 l14n3 l14c3] := Blk.new _ _ _
  clear gB0
  clear gX5
  clear gX9
  have gB0 := B0.cell
  have gX5 := X5.cell
  have gX9 := X9.cell
  have gX13 := X13.cell
  go_wp2_with fail
  refine (eqCore_v _ _ _ _ _ (G11.reads (coreOw_reads ((w7.alloc (.cells #[.int .i64 (dataOf x).1.kind, .int .i64 (dataOf x).1.value, .slice l14A2 l14n2 l14c2, .slice l14A3 l14n3 l14c3] 42))).heap.size) (by omega)) (G3.reads (coreOw_reads ((w7.alloc (.cells #[.int .i64 (dataOf x).1.kind, .int .i64 (dataOf x).1.value, .slice l14A2 l14n2 l14c2, .slice l14A3 l14n3 l14c3] 42))).heap.size) (by omega)) (Nat.le_refl _) (Nat.le_refl _)).mono ?_
  rintro e w9 ⟨rfl, b9⟩
  have z9 := b9.size
  have B0 := B0.below b9 (by omega)
  have X5 := X5.below b9 (by omega)
  have X9 := X9.below b9 (by omega)
  have X13 := X13.below b9 (by omega)
  have G3 := G3.below coreOw_ok b9 (by omega)
  have p8 := p8.below netOw_ok b9 (by omega)
  have G11 := G11.below coreOw_ok b9 (by omega)
  have T := T.trans (b9.mono (by omega))
  clear gB0
  clear gX5
  clear gX9
  clear gX13
  have gB0 := B0.cell
  have gX5 := X5.cell
  have gX9 := X9.cell
  have gX13 := X13.cell
  go_wp2_with fail
  have T := T.drew
  have B0 := B0.drew
  have X5 := X5.drew
  have X9 := X9.drew
  have X13 := X13.drew
  have G3 := G3.keep coreOw_ok (w' := w9.drew) (fun _ _ _ => rfl)
  have p8 := p8.keep netOw_ok (w' := w9.drew) (fun _ _ _ => rfl)
  have G11 := G11.keep coreOw_ok (w' := w9.drew) (fun _ _ _ => rfl)
  have zd10 : w9.drew.heap.size = w9.heap.size := rfl
  go_region_held3 (fun w' => w'.cell? ⟨w5.heap.size, 0, none⟩ = some (.slice l10A0 l10n0 l10c0) ∧ w'.cell? ⟨w.heap.size, 0, none⟩ = some (.slice a0A0 a0n0 a0c0)) (exact ⟨gX9 0, gB0 0⟩) (first
    | (go_at_call 10; refine (toNet_v _ x _ (R0.below netRd_ok T) T.size s0).mono ?_; rintro e w11 ⟨⟨t15, rfl, p16⟩, b11⟩; have z11 := b11.size; have B0 := B0.below b11 (by omega); have X5 := X5.below b11 (by omega); have X9 := X9.below b11 (by omega); have X13 := X13.below b11 (by omega); have G3 := G3.below coreOw_ok b11 (by omega); have p8 := p8.below netOw_ok b11 (by omega); have G11 := G11.below coreOw_ok b11 (by omega); have T := T.trans (b11.mono (by omega)); clear gB0; clear gX5; clear gX9; clear gX13; have gB0 := B0.cell; have gX5 := X5.cell; have gX9 := X9.cell; have gX13 := X13.cell)
    | (go_at_call 13; refine (eqNet_v _ _ _ _ _ (p8.reads (netOw_reads (w11).heap.size) (by omega)) (p16.reads (netOw_reads (w11).heap.size) (by omega)) (Nat.le_refl _) (Nat.le_refl _)).mono ?_; rintro e w12 ⟨rfl, b12⟩; have z12 := b12.size; have B0 := B0.below b12 (by omega); have X5 := X5.below b12 (by omega); have X9 := X9.below b12 (by omega); have X13 := X13.below b12 (by omega); have G3 := G3.below coreOw_ok b12 (by omega); have p8 := p8.below netOw_ok b12 (by omega); have G11 := G11.below coreOw_ok b12 (by omega); have p16 := p16.below netOw_ok b12 (by omega); have T := T.trans (b12.mono (by omega)); clear gB0; clear gX5; clear gX9; clear gX13; have gB0 := B0.cell; have gX5 := X5.cell; have gX9 := X9.cell; have gX13 := X13.cell))
  go_wp2_with fail
  refine (markNet_v _ _ _ _ _ _ p8 (by omega) s0 (by omega) (by omega)).mono ?_
  rintro e w13 ⟨m17, rfl, wb13, b13, e13, b14⟩
  clear p8
  have z13 := b13.size
  have B0 := B0.below b13 (by omega)
  have X5 := X5.below b13 (by omega)
  have X9 := X9.below b13 (by omega)
  have X13 := X13.below b13 (by omega)
  have G3 := G3.below coreOw_ok b13 (by omega)
  have G11 := G11.below coreOw_ok b13 (by omega)
  have p16 := p16.below netOw_ok b13 (by omega)
  have T := T.trans (b13.mono (by omega))
  have z14 := Nat.le_of_eq e13
  have y14 := Nat.le_of_eq e13.symm
  have B0 := B0.only b14 (by omega)
  have X5 := X5.only b14 (by omega)
  have X9 := X9.only b14 (by omega)
  have X13 := X13.only b14 (by omega)
  have G3 := G3.only coreOw_ok b14 (by omega)
  have G11 := G11.only coreOw_ok b14 (by omega)
  have p16 := p16.only netOw_ok b14 (by omega)
  have T := T.trans (b14.below.mono (by omega))
  have hm17 : decide ((m17 : Int) < 0) = false := by simp
  clear gB0
  clear gX5
  clear gX9
  clear gX13
  have gB0 := B0.cell
  have gX5 := X5.cell
  have gX9 := X9.cell
  have gX13 := X13.cell
  go_wp2_with fail
  refine (eqCore_v _ _ _ _ _ (G11.reads (coreOw_reads (w13).heap.size) (by omega)) (G3.reads (coreOw_reads (w13).heap.size) (by omega)) (Nat.le_refl _) (Nat.le_refl _)).mono ?_
  rintro e w15 ⟨rfl, b15⟩
  have z15 := b15.size
  have B0 := B0.below b15 (by omega)
  have X5 := X5.below b15 (by omega)
  have X9 := X9.below b15 (by omega)
  have X13 := X13.below b15 (by omega)
  have G3 := G3.below coreOw_ok b15 (by omega)
  have G11 := G11.below coreOw_ok b15 (by omega)
  have p16 := p16.below netOw_ok b15 (by omega)
  have T := T.trans (b15.mono (by omega))
  clear gB0
  clear gX5
  clear gX9
  clear gX13
  have gB0 := B0.cell
  have gX5 := X5.cell
  have gX9 := X9.cell
  have gX13 := X13.cell
  go_wp2_with fail
  obtain ⟨mq, emq⟩ : ∃ m : Nat, m = (1 : Int).toNat + cntCo ((dataOf x).1) := ⟨_, rfl⟩
  have hmq : decide ((mq : Int) < 0) = false := by simp
  refine (markCore_r _ _ _ _ _ _ mq emq G11 (by omega) sr (by omega) (by omega)).mono ?_
  rintro e w16 ⟨rfl, wb16, b16, e16, b17, G11⟩
  have z16 := b16.size
  have B0 := B0.below b16 (by omega)
  have X5 := X5.below b16 (by omega)
  have X9 := X9.below b16 (by omega)
  have X13 := X13.below b16 (by omega)
  have G3 := G3.below coreOw_ok b16 (by omega)
  have p16 := p16.below netOw_ok b16 (by omega)
  have T := T.trans (b16.mono (by omega))
  have z17 := Nat.le_of_eq e16
  have y17 := Nat.le_of_eq e16.symm
  have B0 := B0.only b17 (by omega)
  have X5 := X5.only b17 (by omega)
  have X9 := X9.only b17 (by omega)
  have X13 := X13.only b17 (by omega)
  have G3 := G3.only coreOw_ok b17 (by omega)
  have p16 := p16.only netOw_ok b17 (by omega)
  have T := T.trans (b17.below.mono (by omega))
  clear gB0
  clear gX5
  clear gX9
  clear gX13
  have gB0 := B0.cell
  have gX5 := X5.cell
  have gX9 := X9.cell
  have gX13 := X13.cell
  go_wp2_with fail
  refine (heldCore_r _ ((dataOf x).1) _ _ mq emq (G11.reads (coreOw_reads (w16).heap.size) (by omega)) (Nat.le_refl _) sr (by omega) (by omega)).mono ?_
  rintro e w18 ⟨rfl, b18⟩
  have z18 := b18.size
  have B0 := B0.below b18 (by omega)
  have X5 := X5.below b18 (by omega)
  have X9 := X9.below b18 (by omega)
  have X13 := X13.below b18 (by omega)
  have G3 := G3.below coreOw_ok b18 (by omega)
  have G11 := G11.below coreOw_ok b18 (by omega)
  have p16 := p16.below netOw_ok b18 (by omega)
  have T := T.trans (b18.mono (by omega))
  clear gB0
  clear gX5
  clear gX9
  clear gX13
  have gB0 := B0.cell
  have gX5 := X5.cell
  have gX9 := X9.cell
  have gX13 := X13.cell
  go_wp2_with fail
  refine (toNet_v _ x _ (R0.below netRd_ok T) T.size s0).mono ?_
  rintro e w19 ⟨⟨t18, rfl, p19⟩, b19⟩
  have z19 := b19.size
  have B0 := B0.below b19 (by omega)
  have X5 := X5.below b19 (by omega)
  have X9 := X9.below b19 (by omega)
  have X13 := X13.below b19 (by omega)
  have G3 := G3.below coreOw_ok b19 (by omega)
  have G11 := G11.below coreOw_ok b19 (by omega)
  have p16 := p16.below netOw_ok b19 (by omega)
  have T := T.trans (b19.mono (by omega))
  clear gB0
  clear gX5
  clear gX9
  clear gX13
  have gB0 := B0.cell
  have gX5 := X5.cell
  have gX9 := X9.cell
  have gX13 := X13.cell
  go_wp2_with fail
  refine (implDataOf_v _ x _ (p19.reads (netOw_reads (w19).heap.size) (by omega)) (Nat.le_refl _) s0).mono ?_
  rintro e w20 ⟨⟨u21, rfl, G20⟩, b20⟩
  have z20 := b20.size
  have B0 := B0.below b20 (by omega)
  have X5 := X5.below b20 (by omega)
  have X9 := X9.below b20 (by omega)
  have X13 := X13.below b20 (by omega)
  have G3 := G3.below coreOw_ok b20 (by omega)
  have G11 := G11.below coreOw_ok b20 (by omega)
  have p16 := p16.below netOw_ok b20 (by omega)
  have p19 := p19.below netOw_ok b20 (by omega)
  have T := T.trans (b20.mono (by omega))
  clear gB0
  clear gX5
  clear gX9
  clear gX13
  have gB0 := B0.cell
  have gX5 := X5.cell
  have gX9 := X9.cell
  have gX13 := X13.cell
  clear p19
  obtain ⟨l23A2, l23n2, l23c2, l23A3, l23n3, l23c3, rfl⟩ : ∃ l23A2 l23n2 l23c2 l23A3 l23n3 l23c3, u21 = .agg #[.int .i64 (dataOf x).1.kind, .int .i64 (dataOf x).1.value, .slice l23A2 l23n2 l23c2, .slice l23A3 l23n3 l23c3] := by obtain ⟨cs, bs, rfl, hO, _⟩ := G20; obtain ⟨A2, n2, c2, A3, n3, c3, b2, b3, rfl, _⟩ := coreOw_out hO; exact ⟨A2, n2, c2, A3, n3, c3, rfl⟩
  have b21 : Below w20.heap.size w20 (w20.alloc (.cells #[.int .i64 (dataOf x).1.kind, .int .i64 (dataOf x).1.value, .slice l23A2 l23n2 l23c2, .slice l23A3 l23n3 l23c3] 42)) := (Below.refl _ _).alloc (Nat.le_refl _) _
  have z21 : (w20.alloc (.cells #[.int .i64 (dataOf x).1.kind, .int .i64 (dataOf x).1.value, .slice l23A2 l23n2 l23c2, .slice l23A3 l23n3 l23c3] 42)).heap.size = w20.heap.size + 1 := World.size_alloc _ _
  have B0 := B0.below b21 (by omega)
  have X5 := X5.below b21 (by omega)
  have X9 := X9.below b21 (by omega)
  have X13 := X13.below b21 (by omega)
  have G3 := G3.below coreOw_ok b21 (by omega)
  have G11 := G11.below coreOw_ok b21 (by omega)
  have p16 := p16.below netOw_ok b21 (by omega)
  have G20 := G20.below coreOw_ok b21 (by omega)
  have T := T.trans (b21.mono (by omega))
  have X22 : Blk (w20.alloc (.cells #[.int .i64 (dataOf x).1.kind, .int .i64 (dataOf x).1.value, .slice l23A2 l23n2 l23c2, .slice l23A3 l23n3 l23c3] 42)) w20.heap.size 42 #[.int .i64 (dataOf x).1.kind, .int .i64 (dataOf x).1.value, .slice l23A2 l23n2 l23c2, .slice l23A3 l23n3 l23c3] := Blk.new _ _ _
  clear gB0
  clear gX5
  clear gX9
  clear gX13
  have gB0 := B0.cell
  have gX5 := X5.cell
  have gX9 := X9.cell
  have gX13 := X13.cell
  have gX22 := X22.cell
  go_wp2_with fail
  refine (eqCore_v _ _ _ _ _ (G20.reads (coreOw_reads ((w20.alloc (.cells #[.int .i64 (dataOf x).1.kind, .int .i64 (dataOf x).1.value, .slice l23A2 l23n2 l23c2, .slice l23A3 l23n3 l23c3] 42))).heap.size) (by omega)) (G3.reads (coreOw_reads ((w20.alloc (.cells #[.int .i64 (dataOf x).1.kind, .int .i64 (dataOf x).1.value, .slice l23A2 l23n2 l23c2, .slice l23A3 l23n3 l23c3] 42))).heap.size) (by omega)) (Nat.le_refl _) (Nat.le_refl _)).mono ?_
  rintro e w22 ⟨rfl, b22⟩
  have z22 := b22.size
  have B0 := B0.below b22 (by omega)
  have X5 := X5.below b22 (by omega)
  have X9 := X9.below b22 (by omega)
  have X13 := X13.below b22 (by omega)
  have X22 := X22.below b22 (by omega)
  have G3 := G3.below coreOw_ok b22 (by omega)
  have G11 := G11.below coreOw_ok b22 (by omega)
  have p16 := p16.below netOw_ok b22 (by omega)
  have G20 := G20.below coreOw_ok b22 (by omega)
  have T := T.trans (b22.mono (by omega))
  clear gB0
  clear gX5
  clear gX9
  clear gX13
  clear gX22
  have gB0 := B0.cell
  have gX5 := X5.cell
  have gX9 := X9.cell
  have gX13 := X13.cell
  have gX22 := X22.cell
  go_wp2_with fail
  refine (heldCore_r _ ((dataOf x).1) _ _ mq emq (G11.reads (coreOw_reads (w22).heap.size) (by omega)) (Nat.le_refl _) sr (by omega) (by omega)).mono ?_
  rintro e w23 ⟨rfl, b23⟩
  have z23 := b23.size
  have B0 := B0.below b23 (by omega)
  have X5 := X5.below b23 (by omega)
  have X9 := X9.below b23 (by omega)
  have X13 := X13.below b23 (by omega)
  have X22 := X22.below b23 (by omega)
  have G3 := G3.below coreOw_ok b23 (by omega)
  have G11 := G11.below coreOw_ok b23 (by omega)
  have p16 := p16.below netOw_ok b23 (by omega)
  have G20 := G20.below coreOw_ok b23 (by omega)
  have T := T.trans (b23.mono (by omega))
  clear gB0
  clear gX5
  clear gX9
  clear gX13
  clear gX22
  have gB0 := B0.cell
  have gX5 := X5.cell
  have gX9 := X9.cell
  have gX13 := X13.cell
  have gX22 := X22.cell
  go_wp2_with fail
  go_ret
  exact ⟨rfl, T⟩
end
section
open Go.RowKit Go.ChangeShapes Go.WideShapes Go.Deep Go.WideMaps
set_option linter.unusedVariables false
def Opens {α : Type} (P : Program) (t : TypeId) (R : Rd α) : Prop := ∀ (H : Type) (enc : TypeId × Value → H) (W : World) (fuel : Nat) (cs : List Value) (x : DataW H × List MemPlace),
  DataW.trod enc P W 0 (fun _ => true) true fuel t cs = some x → ∃ d, R W W.heap.size cs d
theorem opens_int {P : Program} {t : TypeId} (ht : P.underlying t = some (.int .i64)) : Opens P t intRd := fun H enc W fuel cs x h => by
  obtain ⟨n, hc, _, _⟩ := DataW.trod_int ht h
  exact ⟨n, hc⟩
theorem spot_none {w : World} {a : Addr} {v : Value} (h : w.cell? a = some v) : a.spot = none := by
  unfold World.cell? at h
  split at h
  · cases hs : a.spot with
    | none => rfl
    | some s => simp [hs] at h
  · simp at h
theorem opens_slice {α : Type} {P : Program} {t e : TypeId} {R : Rd α} {sz : Nat} (ht : P.underlying t = some (.slice e)) (hsz : P.cellsOf e = sz) (hpos : 0 < sz) (ok : RdOk R sz) (he : Opens P e R) : Opens P t (slRd R sz) := fun H enc W fuel cs x h => by
  rcases open_slice ht h with ⟨rfl, rfl⟩ | ⟨a, len, cap, m, n, D, Pl, rfl, hb, hl, hm, hmm, hx, hel⟩
  · exact ⟨[], none, 0, 0, rfl, SlAt.none_, Nat.le_refl _, Nat.zero_le _⟩
  · have hmc : len ≤ m := by rw [hmm]; simp; omega
    have hel' : ∀ i, i < len → ∃ p : List Value × α, R W W.heap.size p.1 p.2 ∧ ∀ j, j < sz → W.cell? (a.add (i * sz + j)) = p.1[j]? := fun i hi => by
      obtain ⟨cs', hc, htr⟩ := hel i (by omega)
      obtain ⟨d, hd⟩ := he H enc W n cs' (D i, Pl i) htr
      obtain ⟨_, hlen, hat⟩ := World.cells?_some hc
      exact ⟨(cs', d), hd, fun j hj => by
        have := hat j (by rw [hsz]; exact hj)
        rw [hsz, Go.Deep.add_add] at this
        exact this⟩
    rcases Nat.eq_zero_or_pos len with h0 | h0
    · subst h0
      exact ⟨[], some a, 0, cap, rfl, SlAt.none_, Nat.zero_le _, hm⟩
    · have hne : Nonempty (List Value × α) := let ⟨p, _⟩ := hel' 0 h0; ⟨p⟩
      have hf : ∃ f : Nat → List Value × α, ∀ i, i < len → R W W.heap.size (f i).1 (f i).2 ∧ ∀ j, j < sz → W.cell? (a.add (i * sz + j)) = (f i).1[j]? := by
        classical
        refine ⟨fun i => if hi : i < len then Classical.choose (hel' i hi) else Classical.choice hne, fun i hi => ?_⟩
        simp only [dif_pos hi]
        exact Classical.choose_spec (hel' i hi)
      obtain ⟨f, hf⟩ := hf
      have hc0 : ∃ v, W.cell? a = some v := by
        obtain ⟨hR, hc⟩ := hf 0 h0
        have hlR := ok.len hR
        have h1 := hc 0 hpos
        have h2 : a.add (0 * sz + 0) = a := by simp [Addr.add]
        rw [h2, List.getElem?_eq_getElem (by omega)] at h1
        exact ⟨_, h1⟩
      obtain ⟨v0, hv0⟩ := hc0
      have hsp := spot_none hv0
      have hbl := World.block_lt_of_cell? _ _ hv0
      have ea : a = ⟨a.block, a.off, none⟩ := by cases a; simp_all
      refine ⟨(List.range len).map fun i => (f i).2, some a, len, cap, rfl, ⟨by simp, fun _ => ⟨a.block, a.off, by rw [← ea], hbl, fun i x hx => ?_⟩⟩, hl, hm⟩
      have hi : i < len := by simpa using lt_of_some hx
      have hx' : (f i).2 = x := by simpa [hi] using hx
      subst hx'
      obtain ⟨hR, hc⟩ := hf i hi
      refine ⟨_, hR, fun j v hj => ?_⟩
      have hj' : j < sz := by have := lt_of_some hj; rw [ok.len hR] at this; exact this
      have h1 := hc j hj'
      rw [hj] at h1
      have e2 : a.add (i * sz + j) = ⟨a.block, a.off + i * sz + j, none⟩ := by
        rw [ea]; simp only [Addr.add_lit]; congr 1; omega
      rw [← e2]
      exact h1
/-- An argument's value as its cells. -/
theorem opens_arg {α : Type} {P : Program} {t : TypeId} {R : Rd α} (h : Opens P t R) {H : Type} {enc : TypeId × Value → H} {W : World} {v : Value} {d : DataW H} {ps : List MemPlace} (ht : DataW.Trod enc P W 0 (fun _ => true) true t v d ps) : ∃ x, R W W.heap.size v.cells.toList x := by
  obtain ⟨fuel, hf⟩ := ht
  exact h H enc W fuel _ _ hf
end
section
open Go.RowKit
theorem opens_ints : Opens Try.prog 39 (slRd intRd 1) := opens_slice Try.underlying39 (by kernel_rfl) (by decide) intRd_ok (opens_int Try.underlying2)
end
section
open Go.RowKit Go.ChangeShapes Go.WideShapes Go.Deep Go.WideMaps
set_option linter.unusedVariables false
set_option linter.unusedSimpArgs false
theorem trod_fields {P : Program} {t : TypeId} {fs : Array Field} {H : Type} {enc : TypeId × Value → H} {W : World} {fuel : Nat} {cs : List Value} {x : DataW H × List MemPlace} (ht : P.underlying t = some (.struct fs)) (h : DataW.trod enc P W 0 (fun _ => true) true fuel t cs = some x) :
    cs.length = P.cellsOf t ∧ ∃ n, ∀ (i : Nat) (f : Field), fs[i]? = some f → ∃ y, DataW.trod enc P W 0 (fun _ => true) true n f.type ((cs.drop f.offset).take (P.cellsOf f.type)) = some y := by
  obtain ⟨xs, n, _, _, hl, hlen, hf⟩ := DataW.trod_struct ht h
  refine ⟨hl, n, fun i f hi => ?_⟩
  have hlt : i < fs.size := (Array.getElem?_eq_some_iff.1 hi).1
  exact ⟨xs[i], by rw [hf i f hi]; exact List.getElem?_eq_getElem (by omega)⟩
/-- A struct argument. -/
theorem open_st {α : Type} {P : Program} {t : TypeId} {fs : Array Field} {R : Rd α} (h : Opens P t R) (ht : P.underlying t = some (.struct fs)) {r : Reach} {b0 : Nat} {H : Type} {enc : TypeId × Value → H} {W : World} {v : Value} {d : DataW H} {ps : List MemPlace}
    (hv : Value.okWide P W r b0 t v) (hd : DataW.Trod enc P W 0 (fun _ => true) true t v d ps) : ∃ x, RdT R W W.heap.size v x := by
  obtain ⟨cs, rfl, _⟩ := okWide_struct ht hv
  obtain ⟨x, hx⟩ := opens_arg h hd
  exact ⟨x, cs.toList, by simp, by simpa [Value.cells] using hx⟩
theorem len1 {α : Type} {l : List α} (h : l.length = 1) : ∃ a0, l = [a0] := by
  match l, h with
  | [a0], _ => exact ⟨a0, rfl⟩
theorem len2 {α : Type} {l : List α} (h : l.length = 2) : ∃ a0 a1, l = [a0, a1] := by
  match l, h with
  | [a0, a1], _ => exact ⟨a0, a1, rfl⟩
theorem len5 {α : Type} {l : List α} (h : l.length = 5) : ∃ a0 a1 a2 a3 a4, l = [a0, a1, a2, a3, a4] := by
  match l, h with
  | [a0, a1, a2, a3, a4], _ => exact ⟨a0, a1, a2, a3, a4, rfl⟩
theorem opens_Port : Opens Try.prog 194 portRd := fun H enc W fuel cs x h => by
  obtain ⟨hl, m, hf⟩ := trod_fields Try.underlying194 h
  replace hl : cs.length = 2 := hl.trans (by kernel_rfl)
  obtain ⟨a0, a1, rfl⟩ := len2 hl
  obtain ⟨y0, h0⟩ : ∃ y, DataW.trod enc Try.prog W 0 (fun _ => true) true m 2 (([a0, a1].drop 0).take (Try.prog.cellsOf 2)) = some y := hf 0 _ rfl
  have k0 : Try.prog.cellsOf 2 = 1 := by kernel_rfl
  rw [k0] at h0; simp only [List.drop_zero, List.drop_succ_cons, List.take_succ_cons, List.take_zero] at h0
  obtain ⟨d0, e0⟩ := opens_int Try.underlying2 H enc W _ _ _ h0
  unfold intRd at e0; simp only [List.cons.injEq, and_true] at e0
  obtain ⟨y1, h1⟩ : ∃ y, DataW.trod enc Try.prog W 0 (fun _ => true) true m 2 (([a0, a1].drop 1).take (Try.prog.cellsOf 2)) = some y := hf 1 _ rfl
  have k1 : Try.prog.cellsOf 2 = 1 := by kernel_rfl
  rw [k1] at h1; simp only [List.drop_zero, List.drop_succ_cons, List.take_succ_cons, List.take_zero] at h1
  obtain ⟨d1, e1⟩ := opens_int Try.underlying2 H enc W _ _ _ h1
  unfold intRd at e1; simp only [List.cons.injEq, and_true] at e1
  subst e0; subst e1
  exact ⟨⟨d0, d1⟩, rfl⟩
theorem opens_PortS : Opens Try.prog 115 (slRd portRd 2) := opens_slice Try.underlying115 (by kernel_rfl) (by decide) portRd_ok opens_Port
theorem opens_Agent : Opens Try.prog 117 agentRd := fun H enc W fuel cs x h => by
  obtain ⟨hl, m, hf⟩ := trod_fields Try.underlying117 h
  replace hl : cs.length = 5 := hl.trans (by kernel_rfl)
  obtain ⟨a0, a1, a2, a3, a4, rfl⟩ := len5 hl
  obtain ⟨y0, h0⟩ : ∃ y, DataW.trod enc Try.prog W 0 (fun _ => true) true m 2 (([a0, a1, a2, a3, a4].drop 0).take (Try.prog.cellsOf 2)) = some y := hf 0 _ rfl
  have k0 : Try.prog.cellsOf 2 = 1 := by kernel_rfl
  rw [k0] at h0; simp only [List.drop_zero, List.drop_succ_cons, List.take_succ_cons, List.take_zero] at h0
  obtain ⟨d0, e0⟩ := opens_int Try.underlying2 H enc W _ _ _ h0
  unfold intRd at e0; simp only [List.cons.injEq, and_true] at e0
  obtain ⟨y1, h1⟩ : ∃ y, DataW.trod enc Try.prog W 0 (fun _ => true) true m 2 (([a0, a1, a2, a3, a4].drop 1).take (Try.prog.cellsOf 2)) = some y := hf 1 _ rfl
  have k1 : Try.prog.cellsOf 2 = 1 := by kernel_rfl
  rw [k1] at h1; simp only [List.drop_zero, List.drop_succ_cons, List.take_succ_cons, List.take_zero] at h1
  obtain ⟨d1, e1⟩ := opens_int Try.underlying2 H enc W _ _ _ h1
  unfold intRd at e1; simp only [List.cons.injEq, and_true] at e1
  obtain ⟨y2, h2⟩ : ∃ y, DataW.trod enc Try.prog W 0 (fun _ => true) true m 2 (([a0, a1, a2, a3, a4].drop 2).take (Try.prog.cellsOf 2)) = some y := hf 2 _ rfl
  have k2 : Try.prog.cellsOf 2 = 1 := by kernel_rfl
  rw [k2] at h2; simp only [List.drop_zero, List.drop_succ_cons, List.take_succ_cons, List.take_zero] at h2
  obtain ⟨d2, e2⟩ := opens_int Try.underlying2 H enc W _ _ _ h2
  unfold intRd at e2; simp only [List.cons.injEq, and_true] at e2
  obtain ⟨y3, h3⟩ : ∃ y, DataW.trod enc Try.prog W 0 (fun _ => true) true m 39 (([a0, a1, a2, a3, a4].drop 3).take (Try.prog.cellsOf 39)) = some y := hf 3 _ rfl
  have k3 : Try.prog.cellsOf 39 = 1 := by kernel_rfl
  rw [k3] at h3; simp only [List.drop_zero, List.drop_succ_cons, List.take_succ_cons, List.take_zero] at h3
  obtain ⟨d3, A3, n3, c3, e3, g3, r3⟩ := opens_ints H enc W _ _ _ h3
  simp only [List.cons.injEq, and_true] at e3
  obtain ⟨y4, h4⟩ : ∃ y, DataW.trod enc Try.prog W 0 (fun _ => true) true m 115 (([a0, a1, a2, a3, a4].drop 4).take (Try.prog.cellsOf 115)) = some y := hf 4 _ rfl
  have k4 : Try.prog.cellsOf 115 = 1 := by kernel_rfl
  rw [k4] at h4; simp only [List.drop_zero, List.drop_succ_cons, List.take_succ_cons, List.take_zero] at h4
  obtain ⟨d4, A4, n4, c4, e4, g4, r4⟩ := opens_PortS H enc W _ _ _ h4
  simp only [List.cons.injEq, and_true] at e4
  subst e0; subst e1; subst e2; subst e3; subst e4
  exact ⟨⟨d0, d1, d2, d3, d4⟩, A3, n3, c3, A4, n4, c4, rfl, ⟨g3, r3⟩, ⟨g4, r4⟩⟩
theorem opens_AgentS : Opens Try.prog 22 (slRd agentRd 5) := opens_slice Try.underlying22 (by kernel_rfl) (by decide) agentRd_ok opens_Agent
theorem opens_Net : Opens Try.prog 24 netRd := fun H enc W fuel cs x h => by
  obtain ⟨hl, m, hf⟩ := trod_fields Try.underlying24 h
  replace hl : cs.length = 1 := hl.trans (by kernel_rfl)
  obtain ⟨a0, rfl⟩ := len1 hl
  obtain ⟨y0, h0⟩ : ∃ y, DataW.trod enc Try.prog W 0 (fun _ => true) true m 22 (([a0].drop 0).take (Try.prog.cellsOf 22)) = some y := hf 0 _ rfl
  have k0 : Try.prog.cellsOf 22 = 1 := by kernel_rfl
  rw [k0] at h0; simp only [List.drop_zero, List.drop_succ_cons, List.take_succ_cons, List.take_zero] at h0
  obtain ⟨d0, A0, n0, c0, e0, g0, r0⟩ := opens_AgentS H enc W _ _ _ h0
  simp only [List.cons.injEq, and_true] at e0
  subst e0
  exact ⟨⟨d0⟩, A0, n0, c0, rfl, ⟨g0, r0⟩⟩
end
section
open Go.ChangeShapes Go.WideShapes Go.ChangeAt Go.RowKit Go.WideElems
set_option linter.unusedVariables false
theorem own : ownKnob Try.prog.godebug = none := by kernel_rfl
theorem laid : laidOutB Try.prog = true := by kernel_rfl
section
variable {H : Type} {enc : TypeId × Value → H}
theorem trodAll_stays {W W' : World} {sp : Nat → Bool} (hb : Below W.heap.size W W') : ∀ (ts : List TypeId) (vs : List Value) (ds : List (DataW H)) (ps : List MemPlace),
    (∀ t ∈ ts, Try.prog.readableRec t = true ∧ t < Try.prog.types.size) → DataW.TrodAll enc Try.prog W 0 (fun _ => true) true ts vs ds ps →
    (∀ x ∈ ps, x.block < W.heap.size) → (∀ x ∈ ps, sp x.block = true) → DataW.TrodAll enc Try.prog W' 0 sp true ts vs ds ps
  | [], [], [], ps, _, h, _, _ => h
  | t :: ts, v :: vs, d :: ds, ps, hts, h, hlt, hsp => by
    obtain ⟨p, q, h1, h2, rfl⟩ := h
    have ht := hts t (by simp)
    exact ⟨p, q, Trod_stays laid ht.1 ht.2 h1 (fun x hx => hb.same (hlt x (by simp [hx]))) (fun x hx => hsp x (by simp [hx])),
      trodAll_stays hb ts vs ds q (fun t' h' => hts t' (by simp [h'])) h2 (fun x hx => hlt x (by simp [hx])) (fun x hx => hsp x (by simp [hx])), rfl⟩
  | [], _ :: _, _, _, _, h, _, _ => h.elim
  | [], [], _ :: _, _, _, h, _, _ => h.elim
  | _ :: _, [], _, _, _, h, _, _ => h.elim
  | _ :: _, _ :: _, [], _, _, h, _, _ => h.elim
theorem post_law {f : Func} {s : ChangeSpec} {W W' : World} {args : Array Value} {ds : List (DataW H)} {before : List MemPlace}
    (hv : s.vars = []) (hr1 : f.resultTypes = #[4])
    (hp0 : (f.params.toList.all fun t => Try.prog.readableRec t && decide (t < Try.prog.types.size)) = true)
    (hres : (s.fn H (ds ++ [])).results = [.lit (.bool true)]) (hargs : (s.fn H (ds ++ [])).args = ds) (hvars : (s.fn H (ds ++ [])).vars = [])
    (hW : DataW.Whole enc Try.prog f.params.toList s.vars false W args.toList ds [] before)
    (hb : Below W.heap.size W W') :
    s.post enc Try.prog f false true false false W args (.bool true) W' := by
  have hp : ∀ t ∈ f.params.toList, Try.prog.readableRec t = true ∧ t < Try.prog.types.size := fun t ht => by simpa using List.all_eq_true.1 hp0 t ht
  have hlt : ∀ p ∈ before, p.block < W.heap.size := fun p hp => hW.lt p hp
  have hold : ∀ p ∈ before, (fun b => decide (b < W.heap.size)) p.block = true := fun p hp => by simpa using hlt p hp
  have hWh := hW
  obtain ⟨p, q, hA, hV, rfl, hfz, _⟩ := hWh
  rw [hv] at hV
  obtain rfl : q = [] := hV
  rw [List.append_nil] at hlt hold
  have hA' : ∀ sp : Nat → Bool, (∀ x ∈ p, sp x.block = true) → DataW.TrodAll enc Try.prog W' 0 sp true f.params.toList args.toList ds p := fun sp hsp =>
    trodAll_stays hb _ _ _ _ hp hA hlt hsp
  rw [List.append_nil] at hW
  refine ⟨ds, [], p, [], p, [], hW, ?_, ?_, ?_, World.keptBut_mono (fun x hx => ⟨hx, ?_⟩) (hb.frame (· ∈ p)), fun h => by cases h⟩
  · rw [hres, hr1]
    exact trodAll_cons_mk (shut_bool Try.underlying4 _) trodAll_mk0
  · rw [hargs]
    exact hA' _ hold
  · rw [hvars, hv]
    rfl
  · simp [hx]
end
end
end Go.Proofs.Ytpbobilkejblgaa
