/- Lemmas of the proof of SameTyped, part 2. No condition. -/
import Derived.Test.YtpbobilkejblgaaZSameTyped1
namespace Go.Proofs.Ytpbobilkejblgaa
section
open Go.RowKit
set_option linter.unusedVariables false
set_option linter.unusedSimpArgs false
set_option maxRecDepth 100000
noncomputable def m_laws_szTypeS_A1 (i3 : Int) : Option Int :=
  some i3
noncomputable def m_laws_szTypeS_B1 (self1 : DType → Int → Option Int) (d0 : List DType) (rec1 : Int → Int → Option Int) (K1 : Int → Option Int) (i5 : Int) (i6 : Int) : Option Int :=
  (bif (decide (i6 < (d0.length : Int))) then ((getI d0 i6).bind fun x9 => ((self1 x9 i5).bind fun y19 => (bif (decide (y19 < 0)) then some (-1) else (rec1 y19 (i6 + 1))))) else (K1 i5))
noncomputable def m_laws_szTypeS_L1 (self1 : DType → Int → Option Int) (d0 : List DType) (K1 : Int → Option Int) : Nat → Int → Int → Option Int
  | 0, _, _ => none
  | g + 1, i5, i6 => m_laws_szTypeS_B1 self1 d0 (m_laws_szTypeS_L1 self1 d0 K1 g) K1 i5 i6
noncomputable def m_laws_szTypeS_R (self0 : (List DType) → Int → Option Int) (self1 : DType → Int → Option Int) (d0 : List DType) (d1 : Int) : Option Int :=
  ((ck (d1 - (d0.length : Int))).bind fun s1 => (bif (decide (s1 < 0)) then some (-1) else (m_laws_szTypeS_L1 self1 d0 m_laws_szTypeS_A1 (d0.length + 1) s1 0)))
set_option maxHeartbeats 2000000 in
theorem c_m_laws_szTypeS_S (self0 : (List DType) → Int → Option Int) (self1 : DType → Int → Option Int) (ih0 : ∀ (d0 : List DType) (d1 : Int) (r : Int) (hm : self0 d0 d1 = some r) (v0 : Value) (w : World) (hv0 : Sl typeRd 3 w v0 d0), Calls Try.prog 60 #[v0, .int .i64 d1] w fun e w' => e = .returned (.int .i64 r) ∧ Below w.heap.size w w') (ih1 : ∀ (d0 : DType) (d1 : Int) (r : Int) (hm : self1 d0 d1 = some r) (v0 : Value) (w : World) (hv0 : St typeRd w v0 d0), Calls Try.prog 107 #[v0, .int .i64 d1] w fun e w' => e = .returned (.int .i64 r) ∧ Below w.heap.size w w') : ∀ (d0 : List DType) (d1 : Int) (r : Int) (hm : m_laws_szTypeS_R self0 self1 d0 d1 = some r) (v0 : Value) (w : World) (hv0 : Sl typeRd 3 w v0 d0),
    Calls Try.prog 60 #[v0, .int .i64 d1] w fun e w' => e = .returned (.int .i64 r) ∧ Below w.heap.size w w' := by
  intro d0 d1 r hm v0 w hv0
  obtain ⟨Aa0, na0, ca0, rfl, ha0, ra0⟩ := hv0
  have ea0 := ha0.len; subst ea0
  have qa0 := len_le ra0
  have T := Below.refl w.heap.size w
  unfold m_laws_szTypeS_R at hm
  refine enter 27 Try.func60 rfl rfl rfl ?_
  intro f hf
  have s0 : f 0 = .slice Aa0 d0.length ca0 := hf 0 _ rfl
  have s1 : f 1 = .int .i64 d1 := hf 1 _ rfl
  refine wp_seq ?_
  refine wp_rs rfl ?_
  refine RQ.y rfl (Y.assign (v := .int .i64 0) rfl) ?_
  refine RQ.nil ?_
  refine then_n ?_
  refine wp_seq ?_
  refine wp_rs rfl ?_
  refine RQ.y rfl (Y.move (v := .int .i64 d1) s1) ?_
  refine RQ.y rfl (Y.move (v := .slice Aa0 d0.length ca0) s0) ?_
  refine RQ.y rfl (Y.len (by kernel_rfl) rfl) ?_
  obtain ⟨s1, ks1, hm⟩ := bnd hm
  replace ks1 := ck_some ks1
  refine RQ.y rfl (Y.binI (v := .int .i64 s1) rfl rfl (by rw [binI_sub ks1.2, ks1.1])) ?_
  refine RQ.y rfl (Y.assign (v := .int .i64 s1) rfl) ?_
  refine RQ.nil ?_
  refine then_n ?_
  refine wp_seq ?_
  refine wp_seq ?_
  refine wp_rs rfl ?_
  refine RQ.y rfl (Y.move (v := .int .i64 s1) rfl) ?_
  refine RQ.y rfl (Y.binI (v := .bool (decide (s1 < 0))) rfl rfl rfl) ?_
  refine RQ.nil ?_
  refine then_n ?_
  rcases bcases (decide (s1 < 0)) with c2 | c2
  · replace hm := cF c2 hm
    have pc2 := of_decide_eq_false c2
    refine cond_f rfl (vb rfl c2) ?_
    refine wp_skip ?_
    refine then_n ?_
    refine wp_seq ?_
    refine wp_seq ?_
    refine wp_rs rfl ?_
    refine RQ.y rfl (Y.assign (v := .int .i64 0) rfl) ?_
    refine RQ.nil ?_
    refine then_n ?_
    refine wp_block ?_
    obtain ⟨K1, hK1, hm⟩ : ∃ K, K = m_laws_szTypeS_A1 ∧ m_laws_szTypeS_L1 self1 d0 K (d0.length + 1) s1 0 = some r := ⟨_, rfl, hm⟩
    refine wp_loopX (fun g f w' => ∃ (i5 : Int) (i6 : Int), f 0 = .slice Aa0 d0.length ca0 ∧ f 1 = .int .i64 i5 ∧ f 5 = .int .i64 i6 ∧ 0 ≤ i6 ∧ Below w.heap.size w w' ∧ m_laws_szTypeS_L1 self1 d0 K1 g i5 i6 = some r) 0 (fun f w' => ∃ (i3 : Int), f 1 = .int .i64 i3 ∧ Below w.heap.size w w' ∧ m_laws_szTypeS_A1 i3 = some r) (d0.length + 1) ⟨s1, 0, s0, rfl, rfl, (by omega), T, hm⟩ ?_ ?_
    · rintro f w4 ⟨i3, s1_1x, T, hm⟩
      unfold m_laws_szTypeS_A1 at hm
      refine blk_hit (then_n ?_)
      refine wp_seq ?_
      refine wp_rs rfl ?_
      refine RQ.y rfl (Y.move (v := .int .i64 i3) s1_1x) ?_
      refine RQ.y rfl (Y.assign (v := .int .i64 i3) rfl) ?_
      refine RQ.nil ?_
      refine then_n ?_
      refine wp_ret ?_
      obtain rfl := Option.some.inj hm
      exact (ret1 rfl rfl rfl ⟨rfl, T⟩)
    · rintro g f w7 ⟨i5, i6, s0_1, s1_1, s5_1, nn5_1, T, hm⟩
      rcases g with _ | g
      · simp only [m_laws_szTypeS_L1] at hm; cases hm
      obtain ⟨rec1, hrec1, hm⟩ : ∃ z, z = m_laws_szTypeS_L1 self1 d0 K1 g ∧ m_laws_szTypeS_B1 self1 d0 z K1 i5 i6 = some r := ⟨_, rfl, hm⟩
      unfold m_laws_szTypeS_B1 at hm
      refine wp_seq ?_
      refine wp_seq ?_
      refine wp_rs rfl ?_
      refine RQ.y rfl (Y.move (v := .int .i64 i6) s5_1) ?_
      refine RQ.y rfl (Y.move (v := .slice Aa0 d0.length ca0) s0_1) ?_
      refine RQ.y rfl (Y.len (by kernel_rfl) rfl) ?_
      refine RQ.y rfl (Y.binI (v := .bool (decide (i6 < (d0.length : Int)))) rfl rfl rfl) ?_
      refine RQ.nil ?_
      refine then_n ?_
      rcases bcases (decide (i6 < (d0.length : Int))) with c8 | c8
      · replace hm := cF c8 hm
        have pc8 := of_decide_eq_false c8
        refine cond_f rfl (vb rfl c8) ?_
        refine wp_exit ?_
        exact (then_x (then_x (hit_x ⟨_, rfl, ⟨i5, s1_1, T, (by rw [hK1] at hm; exact hm)⟩⟩)))
      · replace hm := cT c8 hm
        have pc8 := of_decide_eq_true c8
        refine cond_t rfl (vb rfl c8) ?_
        refine wp_skip ?_
        refine then_n ?_
        refine wp_seq ?_
        refine wp_block ?_
        refine wp_seq ?_
        refine wp_rb rfl ?_
        refine RQ.y rfl (Y.move (v := .slice Aa0 d0.length ca0) s0_1) ?_
        refine RQ.y rfl (Y.move (v := .int .i64 i6) s5_1) ?_
        obtain ⟨x9, hx12, hm⟩ := bnd hm
        obtain ⟨k10, hk13, hl14, hx12⟩ := getI_some hx12
        obtain ⟨b16, o17, rfl, hbb16⟩ := ha0.addr (by omega)
        obtain ⟨cs11, hRcs11, hc15⟩ := ha0.el hx12
        have hScs11 := hRcs11
        obtain ⟨A18, n18, c18, rfl, ⟨h18, r18⟩⟩ := (typeRd_out hRcs11)
        have e18 := h18.len; subst e18
        have q18 := len_le r18
        refine RQ.y rfl (Y.indexAddr (m := k10) (sz := 3) rfl rfl hk13 hl14 (by kernel_rfl)) ?_
        refine RQ.y rfl (Y.loadN (cs := [.int .i64 x9.kind, .string x9.name, .slice A18 x9.kids.length c18]) rfl (by kernel_rfl) (cells3 (beC (cellT T (hc15 0 _ rfl))) (beC (cellT T (hc15 1 _ rfl))) (beC (cellT T (hc15 2 _ rfl))))) ?_
        refine RQ.y rfl (Y.move (v := .int .i64 i5) s1_1) ?_
        obtain ⟨y19, e20, hm⟩ := bnd hm
        refine RQ.call rfl (am2 rfl rfl) (by kernel_rfl) (v := .int .i64 y19) (bel (K := fun _ => True) fun w' hb' => (ih1 x9 i5 _ e20 _ w' (stArg (R := typeRd) (typeRd_in ⟨_, _, _, rfl, ⟨SlAt.now typeRd_ok h18 (Nat.le_refl _) (Tt T hb'), r18⟩⟩)))) ?_
        refine RQ.y rfl (Y.assign (v := .int .i64 y19) rfl) ?_
        refine RQ.nil ?_
        intro w21 hb22
        have szw21 := hb22.size
        have T := Tt T hb22
        refine then_n ?_
        refine wp_seq ?_
        refine wp_rs rfl ?_
        refine RQ.y rfl (Y.move (v := .int .i64 y19) rfl) ?_
        refine RQ.y rfl (Y.binI (v := .bool (decide (y19 < 0))) rfl rfl rfl) ?_
        refine RQ.nil ?_
        refine then_n ?_
        rcases bcases (decide (y19 < 0)) with c23 | c23
        · replace hm := cF c23 hm
          have pc23 := of_decide_eq_false c23
          refine cond_f rfl (vb rfl c23) ?_
          refine wp_skip ?_
          refine blk_n (then_n ?_)
          refine wp_rs rfl ?_
          refine RQ.y rfl (Y.move (v := .int .i64 i6) s5_1) ?_
          refine RQ.y rfl (Y.binI rfl rfl (binI_add (m := i6) (by omega))) ?_
          refine RQ.y rfl (Y.assign (v := .int .i64 (i6 + 1)) rfl) ?_
          refine RQ.nil ?_
          exact (then_n ⟨g, _, Nat.lt_succ_self _, rfl, ⟨y19, (i6 + 1), s0_1, rfl, rfl, (by omega), T, (by rw [← hrec1]; exact hm)⟩⟩)
        · replace hm := cT c23 hm
          have pc23 := of_decide_eq_true c23
          refine cond_t rfl (vb rfl c23) ?_
          refine wp_seq ?_
          refine wp_rs rfl ?_
          refine RQ.y rfl (Y.assign (v := .int .i64 (-1)) rfl) ?_
          refine RQ.nil ?_
          refine then_n ?_
          refine wp_ret ?_
          obtain rfl := Option.some.inj hm
          exact (blk_r (then_r (then_r (hit_r (blk_r (then_r (ret1 rfl rfl rfl ⟨rfl, T⟩)))))))
  · replace hm := cT c2 hm
    have pc2 := of_decide_eq_true c2
    refine cond_t rfl (vb rfl c2) ?_
    refine wp_seq ?_
    refine wp_rs rfl ?_
    refine RQ.y rfl (Y.assign (v := .int .i64 (-1)) rfl) ?_
    refine RQ.nil ?_
    refine then_n ?_
    refine wp_ret ?_
    obtain rfl := Option.some.inj hm
    exact (then_r (ret1 rfl rfl rfl ⟨rfl, T⟩))
noncomputable def m_laws_szType_R (self0 : (List DType) → Int → Option Int) (self1 : DType → Int → Option Int) (d0 : DType) (d1 : Int) : Option Int :=
  ((ck (d1 - (d0.name.size : Int))).bind fun s6 => (bif (decide (s6 < 0)) then some (-1) else ((self0 d0.kids s6).bind fun y8 => (bif (decide (y8 < 0)) then some (-1) else some y8))))
set_option maxHeartbeats 2000000 in
theorem c_m_laws_szType_S (self0 : (List DType) → Int → Option Int) (self1 : DType → Int → Option Int) (ih0 : ∀ (d0 : List DType) (d1 : Int) (r : Int) (hm : self0 d0 d1 = some r) (v0 : Value) (w : World) (hv0 : Sl typeRd 3 w v0 d0), Calls Try.prog 60 #[v0, .int .i64 d1] w fun e w' => e = .returned (.int .i64 r) ∧ Below w.heap.size w w') (ih1 : ∀ (d0 : DType) (d1 : Int) (r : Int) (hm : self1 d0 d1 = some r) (v0 : Value) (w : World) (hv0 : St typeRd w v0 d0), Calls Try.prog 107 #[v0, .int .i64 d1] w fun e w' => e = .returned (.int .i64 r) ∧ Below w.heap.size w w') : ∀ (d0 : DType) (d1 : Int) (r : Int) (hm : m_laws_szType_R self0 self1 d0 d1 = some r) (v0 : Value) (w : World) (hv0 : St typeRd w v0 d0),
    Calls Try.prog 107 #[v0, .int .i64 d1] w fun e w' => e = .returned (.int .i64 r) ∧ Below w.heap.size w w' := by
  intro d0 d1 r hm v0 w hv0
  obtain ⟨csa0, rfl, hRR0⟩ := hv0
  obtain ⟨A1, n1, c1, rfl, ⟨h1, r1⟩⟩ := (typeRd_out hRR0)
  have e1 := h1.len; subst e1
  have q1 := len_le r1
  have T := Below.refl w.heap.size w
  unfold m_laws_szType_R at hm
  refine enter 19 Try.func107 rfl rfl rfl ?_
  intro f hf
  have s0 : f 0 = .agg #[.int .i64 d0.kind, .string d0.name, .slice A1 d0.kids.length c1] := hf 0 _ rfl
  have s1 : f 1 = .int .i64 d1 := hf 1 _ rfl
  refine wp_seq ?_
  refine wp_rl rfl ?_
  refine RL.box rfl s0 (fun w2 B3 hb4 szw2 => ?_)
  replace B3 : Blk w2 w.heap.size 155 #[.int .i64 d0.kind, .string d0.name, .slice A1 d0.kids.length c1] := B3
  have GB3 : w.heap.size ≤ w.heap.size := T.size
  have T := Tt T hb4
  refine RL.y rfl (Y.assign (v := .int .i64 0) rfl) ?_
  refine RL.nil ?_
  refine then_n ?_
  refine wp_seq ?_
  refine wp_rs rfl ?_
  refine RQ.y rfl (Y.move (v := .int .i64 d1) s1) ?_
  refine RQ.y rfl (Y.fieldAddr (off := 1) rfl (by kernel_rfl)) ?_
  refine RQ.y rfl (Y.load (v := .string d0.name) rfl (by kernel_rfl) (eqC (blkCell B3 (i := 1) rfl))) ?_
  refine RQ.y rfl (Y.lenS (by kernel_rfl) rfl) ?_
  obtain ⟨s6, ks6, hm⟩ := bnd hm
  replace ks6 := ck_some ks6
  refine RQ.y rfl (Y.binI (v := .int .i64 s6) rfl rfl (by rw [binI_sub ks6.2, ks6.1])) ?_
  refine RQ.y rfl (Y.assign (v := .int .i64 s6) rfl) ?_
  refine RQ.nil ?_
  refine then_n ?_
  refine wp_seq ?_
  refine wp_seq ?_
  refine wp_rs rfl ?_
  refine RQ.y rfl (Y.move (v := .int .i64 s6) rfl) ?_
  refine RQ.y rfl (Y.binI (v := .bool (decide (s6 < 0))) rfl rfl rfl) ?_
  refine RQ.nil ?_
  refine then_n ?_
  rcases bcases (decide (s6 < 0)) with c7 | c7
  · replace hm := cF c7 hm
    have pc7 := of_decide_eq_false c7
    refine cond_f rfl (vb rfl c7) ?_
    refine wp_skip ?_
    refine then_n ?_
    refine wp_seq ?_
    refine wp_rb rfl ?_
    refine RQ.y rfl (Y.fieldAddr (off := 2) rfl (by kernel_rfl)) ?_
    refine RQ.y rfl (Y.load (v := .slice A1 d0.kids.length c1) rfl (by kernel_rfl) (beC (blkCell B3 (i := 2) rfl))) ?_
    refine RQ.y rfl (Y.move (v := .int .i64 s6) rfl) ?_
    obtain ⟨y8, e9, hm⟩ := bnd hm
    refine RQ.call rfl (am2 rfl rfl) (by kernel_rfl) (v := .int .i64 y8) (bel (K := fun _ => True) fun w' hb' => (ih0 d0.kids s6 _ e9 _ w' (slArg typeRd_ok h1 r1 (Tt T hb')))) ?_
    refine RQ.y rfl (Y.assign (v := .int .i64 y8) rfl) ?_
    refine RQ.nil ?_
    intro w10 hb11
    have szw10 := hb11.size
    have T := Tt T hb11
    refine then_n ?_
    refine wp_seq ?_
    refine wp_seq ?_
    refine wp_rs rfl ?_
    refine RQ.y rfl (Y.move (v := .int .i64 y8) rfl) ?_
    refine RQ.y rfl (Y.binI (v := .bool (decide (y8 < 0))) rfl rfl rfl) ?_
    refine RQ.nil ?_
    refine then_n ?_
    rcases bcases (decide (y8 < 0)) with c12 | c12
    · replace hm := cF c12 hm
      have pc12 := of_decide_eq_false c12
      refine cond_f rfl (vb rfl c12) ?_
      refine wp_skip ?_
      refine then_n ?_
      refine wp_seq ?_
      refine wp_rs rfl ?_
      refine RQ.y rfl (Y.move (v := .int .i64 y8) rfl) ?_
      refine RQ.y rfl (Y.assign (v := .int .i64 y8) rfl) ?_
      refine RQ.nil ?_
      refine then_n ?_
      refine wp_ret ?_
      obtain rfl := Option.some.inj hm
      exact (ret1 rfl rfl rfl ⟨rfl, T⟩)
    · replace hm := cT c12 hm
      have pc12 := of_decide_eq_true c12
      refine cond_t rfl (vb rfl c12) ?_
      refine wp_seq ?_
      refine wp_rs rfl ?_
      refine RQ.y rfl (Y.assign (v := .int .i64 (-1)) rfl) ?_
      refine RQ.nil ?_
      refine then_n ?_
      refine wp_ret ?_
      obtain rfl := Option.some.inj hm
      exact (then_r (ret1 rfl rfl rfl ⟨rfl, T⟩))
  · replace hm := cT c7 hm
    have pc7 := of_decide_eq_true c7
    refine cond_t rfl (vb rfl c7) ?_
    refine wp_seq ?_
    refine wp_rs rfl ?_
    refine RQ.y rfl (Y.assign (v := .int .i64 (-1)) rfl) ?_
    refine RQ.nil ?_
    refine then_n ?_
    refine wp_ret ?_
    obtain rfl := Option.some.inj hm
    exact (then_r (ret1 rfl rfl rfl ⟨rfl, T⟩))
noncomputable def g_m_laws_szTypeS : Nat → ((List DType) → Int → Option Int) × (DType → Int → Option Int)
  | 0 => (fun _ _ => none, fun _ _ => none)
  | gas + 1 => (m_laws_szTypeS_R (g_m_laws_szTypeS gas).1 (g_m_laws_szTypeS gas).2, m_laws_szType_R (g_m_laws_szTypeS gas).1 (g_m_laws_szTypeS gas).2)
noncomputable def m_laws_szTypeS (gas : Nat) : (List DType) → Int → Option Int := (g_m_laws_szTypeS gas).1
noncomputable def m_laws_szType (gas : Nat) : DType → Int → Option Int := (g_m_laws_szTypeS gas).2
theorem c_g_m_laws_szTypeS : ∀ gas : Nat, (∀ (d0 : List DType) (d1 : Int) (r : Int) (hm : m_laws_szTypeS gas d0 d1 = some r) (v0 : Value) (w : World) (hv0 : Sl typeRd 3 w v0 d0), Calls Try.prog 60 #[v0, .int .i64 d1] w fun e w' => e = .returned (.int .i64 r) ∧ Below w.heap.size w w') ∧ (∀ (d0 : DType) (d1 : Int) (r : Int) (hm : m_laws_szType gas d0 d1 = some r) (v0 : Value) (w : World) (hv0 : St typeRd w v0 d0), Calls Try.prog 107 #[v0, .int .i64 d1] w fun e w' => e = .returned (.int .i64 r) ∧ Below w.heap.size w w') := by
  intro gas
  induction gas with
  | zero => exact ⟨(fun _ _ r hm => by have h0 : (none : Option _) = some r := hm; cases h0), (fun _ _ r hm => by have h0 : (none : Option _) = some r := hm; cases h0)⟩
  | succ gas ih => exact ⟨c_m_laws_szTypeS_S _ _ (ih).1 (ih).2, c_m_laws_szType_S _ _ (ih).1 (ih).2⟩
theorem c_m_laws_szTypeS (gas : Nat) : ∀ (d0 : List DType) (d1 : Int) (r : Int) (hm : m_laws_szTypeS gas d0 d1 = some r) (v0 : Value) (w : World) (hv0 : Sl typeRd 3 w v0 d0), Calls Try.prog 60 #[v0, .int .i64 d1] w fun e w' => e = .returned (.int .i64 r) ∧ Below w.heap.size w w' := (c_g_m_laws_szTypeS gas).1
noncomputable def m_laws_eqTypeS_A1 : Option Bool :=
  some true
noncomputable def m_laws_eqTypeS_B1 (self1 : DType → DType → Option Bool) (d0 : List DType) (d1 : List DType) (rec1 : Int → Option Bool) (K1 : Option Bool) (i3 : Int) : Option Bool :=
  (bif (decide (i3 < (d0.length : Int))) then ((getI d0 i3).bind fun x6 => ((getI d1 i3).bind fun x16 => ((self1 x6 x16).bind fun y26 => (bif y26 then (rec1 (i3 + 1)) else some false)))) else (K1))
noncomputable def m_laws_eqTypeS_L1 (self1 : DType → DType → Option Bool) (d0 : List DType) (d1 : List DType) (K1 : Option Bool) : Nat → Int → Option Bool
  | 0, _ => none
  | g + 1, i3 => m_laws_eqTypeS_B1 self1 d0 d1 (m_laws_eqTypeS_L1 self1 d0 d1 K1 g) K1 i3
noncomputable def m_laws_eqTypeS_R (self0 : (List DType) → (List DType) → Option Bool) (self1 : DType → DType → Option Bool) (d0 : List DType) (d1 : List DType) : Option Bool :=
  (bif ((d0.length : Int) != (d1.length : Int)) then some false else (m_laws_eqTypeS_L1 self1 d0 d1 m_laws_eqTypeS_A1 (d0.length + 1) 0))
set_option maxHeartbeats 2000000 in
theorem c_m_laws_eqTypeS_S (self0 : (List DType) → (List DType) → Option Bool) (self1 : DType → DType → Option Bool) (ih0 : ∀ (d0 : List DType) (d1 : List DType) (r : Bool) (hm : self0 d0 d1 = some r) (v0 : Value) (v1 : Value) (w : World) (hv0 : Sl typeRd 3 w v0 d0) (hv1 : Sl typeRd 3 w v1 d1), Calls Try.prog 70 #[v0, v1] w fun e w' => e = .returned (.bool r) ∧ Below w.heap.size w w') (ih1 : ∀ (d0 : DType) (d1 : DType) (r : Bool) (hm : self1 d0 d1 = some r) (v0 : Value) (v1 : Value) (w : World) (hv0 : St typeRd w v0 d0) (hv1 : St typeRd w v1 d1), Calls Try.prog 117 #[v0, v1] w fun e w' => e = .returned (.bool r) ∧ Below w.heap.size w w') : ∀ (d0 : List DType) (d1 : List DType) (r : Bool) (hm : m_laws_eqTypeS_R self0 self1 d0 d1 = some r) (v0 : Value) (v1 : Value) (w : World) (hv0 : Sl typeRd 3 w v0 d0) (hv1 : Sl typeRd 3 w v1 d1),
    Calls Try.prog 70 #[v0, v1] w fun e w' => e = .returned (.bool r) ∧ Below w.heap.size w w' := by
  intro d0 d1 r hm v0 v1 w hv0 hv1
  obtain ⟨Aa0, na0, ca0, rfl, ha0, ra0⟩ := hv0
  have ea0 := ha0.len; subst ea0
  have qa0 := len_le ra0
  obtain ⟨Aa1, na1, ca1, rfl, ha1, ra1⟩ := hv1
  have ea1 := ha1.len; subst ea1
  have qa1 := len_le ra1
  have T := Below.refl w.heap.size w
  unfold m_laws_eqTypeS_R at hm
  refine enter 27 Try.func70 rfl rfl rfl ?_
  intro f hf
  have s0 : f 0 = .slice Aa0 d0.length ca0 := hf 0 _ rfl
  have s1 : f 1 = .slice Aa1 d1.length ca1 := hf 1 _ rfl
  refine wp_seq ?_
  refine wp_rs rfl ?_
  refine RQ.y rfl (Y.assign (v := .bool false) rfl) ?_
  refine RQ.nil ?_
  refine then_n ?_
  refine wp_seq ?_
  refine wp_seq ?_
  refine wp_rs rfl ?_
  refine RQ.y rfl (Y.move (v := .slice Aa0 d0.length ca0) s0) ?_
  refine RQ.y rfl (Y.len (by kernel_rfl) rfl) ?_
  refine RQ.y rfl (Y.move (v := .slice Aa1 d1.length ca1) s1) ?_
  refine RQ.y rfl (Y.len (by kernel_rfl) rfl) ?_
  refine RQ.y rfl (Y.binI (v := .bool ((d0.length : Int) != (d1.length : Int))) rfl rfl rfl) ?_
  refine RQ.nil ?_
  refine then_n ?_
  rcases bcases ((d0.length : Int) != (d1.length : Int)) with c1 | c1
  · replace hm := cF c1 hm
    refine cond_f rfl (vb rfl c1) ?_
    refine wp_skip ?_
    refine then_n ?_
    refine wp_seq ?_
    refine wp_seq ?_
    refine wp_rs rfl ?_
    refine RQ.y rfl (Y.assign (v := .int .i64 0) rfl) ?_
    refine RQ.nil ?_
    refine then_n ?_
    refine wp_block ?_
    obtain ⟨K1, hK1, hm⟩ : ∃ K, K = m_laws_eqTypeS_A1 ∧ m_laws_eqTypeS_L1 self1 d0 d1 K (d0.length + 1) 0 = some r := ⟨_, rfl, hm⟩
    refine wp_loopX (fun g f w' => ∃ (i3 : Int), f 0 = .slice Aa0 d0.length ca0 ∧ f 1 = .slice Aa1 d1.length ca1 ∧ f 5 = .int .i64 i3 ∧ 0 ≤ i3 ∧ Below w.heap.size w w' ∧ m_laws_eqTypeS_L1 self1 d0 d1 K1 g i3 = some r) 0 (fun f w' => Below w.heap.size w w' ∧ m_laws_eqTypeS_A1  = some r) (d0.length + 1) ⟨0, s0, s1, rfl, (by omega), T, hm⟩ ?_ ?_
    · rintro f w2 ⟨T, hm⟩
      unfold m_laws_eqTypeS_A1 at hm
      refine blk_hit (then_n ?_)
      refine wp_seq ?_
      refine wp_rs rfl ?_
      refine RQ.y rfl (Y.assign (v := .bool true) rfl) ?_
      refine RQ.nil ?_
      refine then_n ?_
      refine wp_ret ?_
      obtain rfl := Option.some.inj hm
      exact (ret1 rfl rfl rfl ⟨rfl, T⟩)
    · rintro g f w4 ⟨i3, s0_1, s1_1, s5_1, nn5_1, T, hm⟩
      rcases g with _ | g
      · simp only [m_laws_eqTypeS_L1] at hm; cases hm
      obtain ⟨rec1, hrec1, hm⟩ : ∃ z, z = m_laws_eqTypeS_L1 self1 d0 d1 K1 g ∧ m_laws_eqTypeS_B1 self1 d0 d1 z K1 i3 = some r := ⟨_, rfl, hm⟩
      unfold m_laws_eqTypeS_B1 at hm
      refine wp_seq ?_
      refine wp_seq ?_
      refine wp_rs rfl ?_
      refine RQ.y rfl (Y.move (v := .int .i64 i3) s5_1) ?_
      refine RQ.y rfl (Y.move (v := .slice Aa0 d0.length ca0) s0_1) ?_
      refine RQ.y rfl (Y.len (by kernel_rfl) rfl) ?_
      refine RQ.y rfl (Y.binI (v := .bool (decide (i3 < (d0.length : Int)))) rfl rfl rfl) ?_
      refine RQ.nil ?_
      refine then_n ?_
      rcases bcases (decide (i3 < (d0.length : Int))) with c5 | c5
      · replace hm := cF c5 hm
        have pc5 := of_decide_eq_false c5
        refine cond_f rfl (vb rfl c5) ?_
        refine wp_exit ?_
        exact (then_x (then_x (hit_x ⟨_, rfl, ⟨T, (by rw [hK1] at hm; exact hm)⟩⟩)))
      · replace hm := cT c5 hm
        have pc5 := of_decide_eq_true c5
        refine cond_t rfl (vb rfl c5) ?_
        refine wp_skip ?_
        refine then_n ?_
        refine wp_seq ?_
        refine wp_block ?_
        refine wp_seq ?_
        refine wp_rbd (by kernel_rfl) (by kernel_rfl) ?_
        refine RQ.y rfl (Y.move (v := .slice Aa0 d0.length ca0) s0_1) ?_
        refine RQ.y rfl (Y.move (v := .int .i64 i3) s5_1) ?_
        obtain ⟨x6, hx9, hm⟩ := bnd hm
        obtain ⟨k7, hk10, hl11, hx9⟩ := getI_some hx9
        obtain ⟨b13, o14, rfl, hbb13⟩ := ha0.addr (by omega)
        obtain ⟨cs8, hRcs8, hc12⟩ := ha0.el hx9
        have hScs8 := hRcs8
        obtain ⟨A15, n15, c15, rfl, ⟨h15, r15⟩⟩ := (typeRd_out hRcs8)
        have e15 := h15.len; subst e15
        have q15 := len_le r15
        refine RQ.y rfl (Y.indexAddr (m := k7) (sz := 3) rfl rfl hk10 hl11 (by kernel_rfl)) ?_
        refine RQ.y rfl (Y.loadN (cs := [.int .i64 x6.kind, .string x6.name, .slice A15 x6.kids.length c15]) rfl (by kernel_rfl) (cells3 (beC (cellT T (hc12 0 _ rfl))) (beC (cellT T (hc12 1 _ rfl))) (beC (cellT T (hc12 2 _ rfl))))) ?_
        refine RQ.y rfl (Y.move (v := .slice Aa1 d1.length ca1) s1_1) ?_
        refine RQ.y rfl (Y.move (v := .int .i64 i3) s5_1) ?_
        obtain ⟨x16, hx19, hm⟩ := bnd hm
        obtain ⟨k17, hk20, hl21, hx19⟩ := getI_some hx19
        obtain ⟨b23, o24, rfl, hbb23⟩ := ha1.addr (by omega)
        obtain ⟨cs18, hRcs18, hc22⟩ := ha1.el hx19
        have hScs18 := hRcs18
        obtain ⟨A25, n25, c25, rfl, ⟨h25, r25⟩⟩ := (typeRd_out hRcs18)
        have e25 := h25.len; subst e25
        have q25 := len_le r25
        refine RQ.y rfl (Y.indexAddr (m := k17) (sz := 3) rfl rfl hk20 hl21 (by kernel_rfl)) ?_
        refine RQ.y rfl (Y.loadN (cs := [.int .i64 x16.kind, .string x16.name, .slice A25 x16.kids.length c25]) rfl (by kernel_rfl) (cells3 (beC (cellT T (hc22 0 _ rfl))) (beC (cellT T (hc22 1 _ rfl))) (beC (cellT T (hc22 2 _ rfl))))) ?_
        obtain ⟨y26, e27, hm⟩ := bnd hm
        refine RQ.call rfl (am2 rfl rfl) (by kernel_rfl) (v := .bool y26) (bel (K := fun _ => True) fun w' hb' => (ih1 x6 x16 _ e27 _ _ w' (stArg (R := typeRd) (typeRd_in ⟨_, _, _, rfl, ⟨SlAt.now typeRd_ok h15 (Nat.le_refl _) (Tt T hb'), r15⟩⟩)) (stArg (R := typeRd) (typeRd_in ⟨_, _, _, rfl, ⟨SlAt.now typeRd_ok h25 (Nat.le_refl _) (Tt T hb'), r25⟩⟩)))) ?_
        refine RQ.y rfl (Y.not (b' := (!y26)) rfl rfl) ?_
        refine RQ.nil ?_
        intro w28 hb29
        have szw28 := hb29.size
        have T := Tt T hb29
        refine then_n ?_
        rcases bcases y26 with c30 | c30
        · replace hm := cF c30 hm
          refine cond_t rfl (vbn rfl c30 rfl) ?_
          refine wp_seq ?_
          refine wp_rs rfl ?_
          refine RQ.y rfl (Y.assign (v := .bool false) rfl) ?_
          refine RQ.nil ?_
          refine then_n ?_
          refine wp_ret ?_
          obtain rfl := Option.some.inj hm
          exact (blk_r (then_r (then_r (hit_r (blk_r (then_r (ret1 rfl rfl rfl ⟨rfl, T⟩)))))))
        · replace hm := cT c30 hm
          refine cond_f rfl (vbn rfl c30 rfl) ?_
          refine wp_skip ?_
          refine blk_n (then_n ?_)
          refine wp_rs rfl ?_
          refine RQ.y rfl (Y.move (v := .int .i64 i3) s5_1) ?_
          refine RQ.y rfl (Y.binI rfl rfl (binI_add (m := i3) (by omega))) ?_
          refine RQ.y rfl (Y.assign (v := .int .i64 (i3 + 1)) rfl) ?_
          refine RQ.nil ?_
          exact (then_n ⟨g, _, Nat.lt_succ_self _, rfl, ⟨(i3 + 1), s0_1, s1_1, rfl, (by omega), T, (by rw [← hrec1]; exact hm)⟩⟩)
  · replace hm := cT c1 hm
    refine cond_t rfl (vb rfl c1) ?_
    refine wp_seq ?_
    refine wp_rs rfl ?_
    refine RQ.y rfl (Y.assign (v := .bool false) rfl) ?_
    refine RQ.nil ?_
    refine then_n ?_
    refine wp_ret ?_
    obtain rfl := Option.some.inj hm
    exact (then_r (ret1 rfl rfl rfl ⟨rfl, T⟩))
noncomputable def m_laws_eqType_R (self0 : (List DType) → (List DType) → Option Bool) (self1 : DType → DType → Option Bool) (d0 : DType) (d1 : DType) : Option Bool :=
  (bif (d0.kind != d1.kind) then some false else (bif (d0.name.toList == d1.name.toList) then ((self0 d0.kids d1.kids).bind fun y13 => (bif y13 then some true else some false)) else some false))
set_option maxHeartbeats 2000000 in
theorem c_m_laws_eqType_S (self0 : (List DType) → (List DType) → Option Bool) (self1 : DType → DType → Option Bool) (ih0 : ∀ (d0 : List DType) (d1 : List DType) (r : Bool) (hm : self0 d0 d1 = some r) (v0 : Value) (v1 : Value) (w : World) (hv0 : Sl typeRd 3 w v0 d0) (hv1 : Sl typeRd 3 w v1 d1), Calls Try.prog 70 #[v0, v1] w fun e w' => e = .returned (.bool r) ∧ Below w.heap.size w w') (ih1 : ∀ (d0 : DType) (d1 : DType) (r : Bool) (hm : self1 d0 d1 = some r) (v0 : Value) (v1 : Value) (w : World) (hv0 : St typeRd w v0 d0) (hv1 : St typeRd w v1 d1), Calls Try.prog 117 #[v0, v1] w fun e w' => e = .returned (.bool r) ∧ Below w.heap.size w w') : ∀ (d0 : DType) (d1 : DType) (r : Bool) (hm : m_laws_eqType_R self0 self1 d0 d1 = some r) (v0 : Value) (v1 : Value) (w : World) (hv0 : St typeRd w v0 d0) (hv1 : St typeRd w v1 d1),
    Calls Try.prog 117 #[v0, v1] w fun e w' => e = .returned (.bool r) ∧ Below w.heap.size w w' := by
  intro d0 d1 r hm v0 v1 w hv0 hv1
  obtain ⟨csa0, rfl, hRR0⟩ := hv0
  obtain ⟨A1, n1, c1, rfl, ⟨h1, r1⟩⟩ := (typeRd_out hRR0)
  have e1 := h1.len; subst e1
  have q1 := len_le r1
  obtain ⟨csa1, rfl, hRR1⟩ := hv1
  obtain ⟨A2, n2, c2, rfl, ⟨h2, r2⟩⟩ := (typeRd_out hRR1)
  have e2 := h2.len; subst e2
  have q2 := len_le r2
  have T := Below.refl w.heap.size w
  unfold m_laws_eqType_R at hm
  refine enter 21 Try.func117 rfl rfl rfl ?_
  intro f hf
  have s0 : f 0 = .agg #[.int .i64 d0.kind, .string d0.name, .slice A1 d0.kids.length c1] := hf 0 _ rfl
  have s1 : f 1 = .agg #[.int .i64 d1.kind, .string d1.name, .slice A2 d1.kids.length c2] := hf 1 _ rfl
  refine wp_seq ?_
  refine wp_rl rfl ?_
  refine RL.box rfl s0 (fun w3 B4 hb5 szw3 => ?_)
  replace B4 : Blk w3 w.heap.size 110 #[.int .i64 d0.kind, .string d0.name, .slice A1 d0.kids.length c1] := B4
  have GB4 : w.heap.size ≤ w.heap.size := T.size
  have T := Tt T hb5
  refine RL.box rfl s1 (fun w7 B8 hb9 szw7 => ?_)
  replace B8 : Blk w7 w3.heap.size 110 #[.int .i64 d1.kind, .string d1.name, .slice A2 d1.kids.length c2] := B8
  have GB8 : w.heap.size ≤ w3.heap.size := T.size
  have Eob10_ob6 := Nat.ne_of_lt B4.lt
  have B4 := blkT B4 hb9
  have T := Tt T hb9
  refine RL.y rfl (Y.assign (v := .bool false) rfl) ?_
  refine RL.nil ?_
  refine then_n ?_
  refine wp_seq ?_
  refine wp_seq ?_
  refine wp_rs rfl ?_
  refine RQ.y rfl (Y.fieldAddr (off := 0) rfl (by kernel_rfl)) ?_
  refine RQ.y rfl (Y.load (v := .int .i64 d0.kind) rfl (by kernel_rfl) (eqC (blkCell B4 (i := 0) rfl))) ?_
  refine RQ.y rfl (Y.fieldAddr (off := 0) rfl (by kernel_rfl)) ?_
  refine RQ.y rfl (Y.load (v := .int .i64 d1.kind) rfl (by kernel_rfl) (eqC (blkCell B8 (i := 0) rfl))) ?_
  refine RQ.y rfl (Y.binI (v := .bool (d0.kind != d1.kind)) rfl rfl rfl) ?_
  refine RQ.nil ?_
  refine then_n ?_
  rcases bcases (d0.kind != d1.kind) with c11 | c11
  · replace hm := cF c11 hm
    refine cond_f rfl (vb rfl c11) ?_
    refine wp_skip ?_
    refine then_n ?_
    refine wp_seq ?_
    refine wp_seq ?_
    refine wp_rs rfl ?_
    refine RQ.y rfl (Y.fieldAddr (off := 1) rfl (by kernel_rfl)) ?_
    refine RQ.y rfl (Y.load (v := .string d0.name) rfl (by kernel_rfl) (eqC (blkCell B4 (i := 1) rfl))) ?_
    refine RQ.y rfl (Y.fieldAddr (off := 1) rfl (by kernel_rfl)) ?_
    refine RQ.y rfl (Y.load (v := .string d1.name) rfl (by kernel_rfl) (eqC (blkCell B8 (i := 1) rfl))) ?_
    refine RQ.y rfl (Y.neStr rfl rfl (by kernel_rfl)) ?_
    refine RQ.nil ?_
    refine then_n ?_
    rcases bcases (d0.name.toList == d1.name.toList) with c12 | c12
    · replace hm := cF c12 hm
      refine cond_t rfl (vbn rfl c12 rfl) ?_
      refine wp_seq ?_
      refine wp_rs rfl ?_
      refine RQ.y rfl (Y.assign (v := .bool false) rfl) ?_
      refine RQ.nil ?_
      refine then_n ?_
      refine wp_ret ?_
      obtain rfl := Option.some.inj hm
      exact (then_r (ret1 rfl rfl rfl ⟨rfl, T⟩))
    · replace hm := cT c12 hm
      refine cond_f rfl (vbn rfl c12 rfl) ?_
      refine wp_skip ?_
      refine then_n ?_
      refine wp_seq ?_
      refine wp_seq ?_
      refine wp_rb rfl ?_
      refine RQ.y rfl (Y.fieldAddr (off := 2) rfl (by kernel_rfl)) ?_
      refine RQ.y rfl (Y.load (v := .slice A1 d0.kids.length c1) rfl (by kernel_rfl) (beC (blkCell B4 (i := 2) rfl))) ?_
      refine RQ.y rfl (Y.fieldAddr (off := 2) rfl (by kernel_rfl)) ?_
      refine RQ.y rfl (Y.load (v := .slice A2 d1.kids.length c2) rfl (by kernel_rfl) (beC (blkCell B8 (i := 2) rfl))) ?_
      obtain ⟨y13, e14, hm⟩ := bnd hm
      refine RQ.call rfl (am2 rfl rfl) (by kernel_rfl) (v := .bool y13) (bel (K := fun _ => True) fun w' hb' => (ih0 d0.kids d1.kids _ e14 _ _ w' (slArg typeRd_ok h1 r1 (Tt T hb')) (slArg typeRd_ok h2 r2 (Tt T hb')))) ?_
      refine RQ.y rfl (Y.not (b' := (!y13)) rfl rfl) ?_
      refine RQ.nil ?_
      intro w15 hb16
      have szw15 := hb16.size
      have T := Tt T hb16
      refine then_n ?_
      rcases bcases y13 with c17 | c17
      · replace hm := cF c17 hm
        refine cond_t rfl (vbn rfl c17 rfl) ?_
        refine wp_seq ?_
        refine wp_rs rfl ?_
        refine RQ.y rfl (Y.assign (v := .bool false) rfl) ?_
        refine RQ.nil ?_
        refine then_n ?_
        refine wp_ret ?_
        obtain rfl := Option.some.inj hm
        exact (then_r (ret1 rfl rfl rfl ⟨rfl, T⟩))
      · replace hm := cT c17 hm
        refine cond_f rfl (vbn rfl c17 rfl) ?_
        refine wp_skip ?_
        refine then_n ?_
        refine wp_seq ?_
        refine wp_rs rfl ?_
        refine RQ.y rfl (Y.assign (v := .bool true) rfl) ?_
        refine RQ.nil ?_
        refine then_n ?_
        refine wp_ret ?_
        obtain rfl := Option.some.inj hm
        exact (ret1 rfl rfl rfl ⟨rfl, T⟩)
  · replace hm := cT c11 hm
    refine cond_t rfl (vb rfl c11) ?_
    refine wp_seq ?_
    refine wp_rs rfl ?_
    refine RQ.y rfl (Y.assign (v := .bool false) rfl) ?_
    refine RQ.nil ?_
    refine then_n ?_
    refine wp_ret ?_
    obtain rfl := Option.some.inj hm
    exact (then_r (ret1 rfl rfl rfl ⟨rfl, T⟩))
noncomputable def g_m_laws_eqTypeS : Nat → ((List DType) → (List DType) → Option Bool) × (DType → DType → Option Bool)
  | 0 => (fun _ _ => none, fun _ _ => none)
  | gas + 1 => (m_laws_eqTypeS_R (g_m_laws_eqTypeS gas).1 (g_m_laws_eqTypeS gas).2, m_laws_eqType_R (g_m_laws_eqTypeS gas).1 (g_m_laws_eqTypeS gas).2)
noncomputable def m_laws_eqTypeS (gas : Nat) : (List DType) → (List DType) → Option Bool := (g_m_laws_eqTypeS gas).1
noncomputable def m_laws_eqType (gas : Nat) : DType → DType → Option Bool := (g_m_laws_eqTypeS gas).2
theorem c_g_m_laws_eqTypeS : ∀ gas : Nat, (∀ (d0 : List DType) (d1 : List DType) (r : Bool) (hm : m_laws_eqTypeS gas d0 d1 = some r) (v0 : Value) (v1 : Value) (w : World) (hv0 : Sl typeRd 3 w v0 d0) (hv1 : Sl typeRd 3 w v1 d1), Calls Try.prog 70 #[v0, v1] w fun e w' => e = .returned (.bool r) ∧ Below w.heap.size w w') ∧ (∀ (d0 : DType) (d1 : DType) (r : Bool) (hm : m_laws_eqType gas d0 d1 = some r) (v0 : Value) (v1 : Value) (w : World) (hv0 : St typeRd w v0 d0) (hv1 : St typeRd w v1 d1), Calls Try.prog 117 #[v0, v1] w fun e w' => e = .returned (.bool r) ∧ Below w.heap.size w w') := by
  intro gas
  induction gas with
  | zero => exact ⟨(fun _ _ r hm => by have h0 : (none : Option _) = some r := hm; cases h0), (fun _ _ r hm => by have h0 : (none : Option _) = some r := hm; cases h0)⟩
  | succ gas ih => exact ⟨c_m_laws_eqTypeS_S _ _ (ih).1 (ih).2, c_m_laws_eqType_S _ _ (ih).1 (ih).2⟩
theorem c_m_laws_eqTypeS (gas : Nat) : ∀ (d0 : List DType) (d1 : List DType) (r : Bool) (hm : m_laws_eqTypeS gas d0 d1 = some r) (v0 : Value) (v1 : Value) (w : World) (hv0 : Sl typeRd 3 w v0 d0) (hv1 : Sl typeRd 3 w v1 d1), Calls Try.prog 70 #[v0, v1] w fun e w' => e = .returned (.bool r) ∧ Below w.heap.size w w' := (c_g_m_laws_eqTypeS gas).1
noncomputable def m_spec_SameType_A1 : Option Bool :=
  some true
noncomputable def m_spec_SameType_B1 (d0 : DType) (d1 : DType) (self : DType → DType → Option Bool) (rec1 : Int → Option Bool) (K1 : Option Bool) (i15 : Int) : Option Bool :=
  (bif (decide (i15 < (d0.kids.length : Int))) then ((getI d0.kids i15).bind fun x18 => ((getI d1.kids i15).bind fun x28 => ((self x18 x28).bind fun y38 => (bif y38 then (rec1 (i15 + 1)) else some false)))) else (K1))
noncomputable def m_spec_SameType_L1 (d0 : DType) (d1 : DType) (self : DType → DType → Option Bool) (K1 : Option Bool) : Nat → Int → Option Bool
  | 0, _ => none
  | g + 1, i15 => m_spec_SameType_B1 d0 d1 self (m_spec_SameType_L1 d0 d1 self K1 g) K1 i15
noncomputable def m_spec_SameType_R (self : DType → DType → Option Bool) (d0 : DType) (d1 : DType) : Option Bool :=
  (bif (d0.kind != d1.kind) then some false else (bif (d0.name.toList == d1.name.toList) then (bif ((d0.kids.length : Int) != (d1.kids.length : Int)) then some false else (m_spec_SameType_L1 d0 d1 self m_spec_SameType_A1 (d0.kids.length + 1) 0)) else some false))
noncomputable def m_spec_SameType : Nat → DType → DType → Option Bool
  | 0, _, _ => none
  | gas + 1, d0, d1 => m_spec_SameType_R (m_spec_SameType gas) d0 d1
set_option maxHeartbeats 2000000 in
theorem c_m_spec_SameType : ∀ (gas : Nat) (d0 : DType) (d1 : DType) (r : Bool) (hm : m_spec_SameType gas d0 d1 = some r) (v0 : Value) (v1 : Value) (w : World) (hv0 : St typeRd w v0 d0) (hv1 : St typeRd w v1 d1),
    Calls Try.prog 101 #[v0, v1] w fun e w' => e = .returned (.bool r) ∧ Below w.heap.size w w' := by
  intro gas
  induction gas with
  | zero =>
    intro d0 d1 r hm v0 v1 w hv0 hv1
    cases hm
  | succ gas ih =>
    intro d0 d1 r hm v0 v1 w hv0 hv1
    obtain ⟨csa0, rfl, hRR0⟩ := hv0
    obtain ⟨A1, n1, c1, rfl, ⟨h1, r1⟩⟩ := (typeRd_out hRR0)
    have e1 := h1.len; subst e1
    have q1 := len_le r1
    obtain ⟨csa1, rfl, hRR1⟩ := hv1
    obtain ⟨A2, n2, c2, rfl, ⟨h2, r2⟩⟩ := (typeRd_out hRR1)
    have e2 := h2.len; subst e2
    have q2 := len_le r2
    have T := Below.refl w.heap.size w
    obtain ⟨self, hself, hm⟩ : ∃ s, s = m_spec_SameType gas ∧ m_spec_SameType_R s d0 d1 = some r := ⟨_, rfl, hm⟩
    unfold m_spec_SameType_R at hm
    refine enter 46 Try.func101 rfl rfl rfl ?_
    intro f hf
    have s0 : f 0 = .agg #[.int .i64 d0.kind, .string d0.name, .slice A1 d0.kids.length c1] := hf 0 _ rfl
    have s1 : f 1 = .agg #[.int .i64 d1.kind, .string d1.name, .slice A2 d1.kids.length c2] := hf 1 _ rfl
    refine wp_seq ?_
    refine wp_rl rfl ?_
    refine RL.box rfl s0 (fun w3 B4 hb5 szw3 => ?_)
    replace B4 : Blk w3 w.heap.size 110 #[.int .i64 d0.kind, .string d0.name, .slice A1 d0.kids.length c1] := B4
    have GB4 : w.heap.size ≤ w.heap.size := T.size
    have T := Tt T hb5
    refine RL.box rfl s1 (fun w7 B8 hb9 szw7 => ?_)
    replace B8 : Blk w7 w3.heap.size 110 #[.int .i64 d1.kind, .string d1.name, .slice A2 d1.kids.length c2] := B8
    have GB8 : w.heap.size ≤ w3.heap.size := T.size
    have Eob10_ob6 := Nat.ne_of_lt B4.lt
    have B4 := blkT B4 hb9
    have T := Tt T hb9
    refine RL.y rfl (Y.assign (v := .bool false) rfl) ?_
    refine RL.nil ?_
    refine then_n ?_
    refine wp_seq ?_
    refine wp_seq ?_
    refine wp_rs rfl ?_
    refine RQ.y rfl (Y.fieldAddr (off := 0) rfl (by kernel_rfl)) ?_
    refine RQ.y rfl (Y.load (v := .int .i64 d0.kind) rfl (by kernel_rfl) (eqC (blkCell B4 (i := 0) rfl))) ?_
    refine RQ.y rfl (Y.fieldAddr (off := 0) rfl (by kernel_rfl)) ?_
    refine RQ.y rfl (Y.load (v := .int .i64 d1.kind) rfl (by kernel_rfl) (eqC (blkCell B8 (i := 0) rfl))) ?_
    refine RQ.y rfl (Y.binI (v := .bool (d0.kind != d1.kind)) rfl rfl rfl) ?_
    refine RQ.y rfl (Y.move (v := .bool (d0.kind != d1.kind)) rfl) ?_
    rcases bcases (d0.kind != d1.kind) with c11 | c11
    · replace hm := cF c11 hm
      refine RQ.y (wantT (dj := 11) rfl (vb rfl c11)) (Y.fieldAddr (off := 1) rfl (by kernel_rfl)) ?_
      refine RQ.y (wantT (dj := 11) rfl (vb rfl c11)) (Y.load (v := .string d0.name) rfl (by kernel_rfl) (eqC (blkCell B4 (i := 1) rfl))) ?_
      refine RQ.y (wantT (dj := 11) rfl (vb rfl c11)) (Y.fieldAddr (off := 1) rfl (by kernel_rfl)) ?_
      refine RQ.y (wantT (dj := 11) rfl (vb rfl c11)) (Y.load (v := .string d1.name) rfl (by kernel_rfl) (eqC (blkCell B8 (i := 1) rfl))) ?_
      refine RQ.y (wantT (dj := 11) rfl (vb rfl c11)) (Y.neStr rfl rfl (by kernel_rfl)) ?_
      refine RQ.y rfl (Y.pick (b := false) (v := .bool (!(d0.name.toList == d1.name.toList))) (vb rfl c11) rfl) ?_
      refine RQ.y rfl (Y.move (v := .bool (!(d0.name.toList == d1.name.toList))) rfl) ?_
      rcases bcases (d0.name.toList == d1.name.toList) with c12 | c12
      · replace hm := cF c12 hm
        refine RQ.skip (wantN (dj := 18) rfl (vbn rfl c12 rfl) rfl) ?_
        refine RQ.skip (wantN (dj := 18) rfl (vbn rfl c12 rfl) rfl) ?_
        refine RQ.skip (wantN (dj := 18) rfl (vbn rfl c12 rfl) rfl) ?_
        refine RQ.skip (wantN (dj := 18) rfl (vbn rfl c12 rfl) rfl) ?_
        refine RQ.skip (wantN (dj := 18) rfl (vbn rfl c12 rfl) rfl) ?_
        refine RQ.skip (wantN (dj := 18) rfl (vbn rfl c12 rfl) rfl) ?_
        refine RQ.skip (wantN (dj := 18) rfl (vbn rfl c12 rfl) rfl) ?_
        refine RQ.y rfl (Y.pick (b := true) (v := .bool true) (vbn rfl c12 rfl) rfl) ?_
        refine RQ.nil ?_
        refine then_n ?_
        refine cond_t rfl rfl ?_
        refine wp_seq ?_
        refine wp_rs rfl ?_
        refine RQ.y rfl (Y.assign (v := .bool false) rfl) ?_
        refine RQ.nil ?_
        refine then_n ?_
        refine wp_ret ?_
        obtain rfl := Option.some.inj hm
        exact (then_r (ret1 rfl rfl rfl ⟨rfl, T⟩))
      · replace hm := cT c12 hm
        refine RQ.y (wantT (dj := 18) rfl (vbn rfl c12 rfl)) (Y.fieldAddr (off := 2) rfl (by kernel_rfl)) ?_
        refine RQ.y (wantT (dj := 18) rfl (vbn rfl c12 rfl)) (Y.load (v := .slice A1 d0.kids.length c1) rfl (by kernel_rfl) (eqC (blkCell B4 (i := 2) rfl))) ?_
        refine RQ.y (wantT (dj := 18) rfl (vbn rfl c12 rfl)) (Y.len (by kernel_rfl) rfl) ?_
        refine RQ.y (wantT (dj := 18) rfl (vbn rfl c12 rfl)) (Y.fieldAddr (off := 2) rfl (by kernel_rfl)) ?_
        refine RQ.y (wantT (dj := 18) rfl (vbn rfl c12 rfl)) (Y.load (v := .slice A2 d1.kids.length c2) rfl (by kernel_rfl) (eqC (blkCell B8 (i := 2) rfl))) ?_
        refine RQ.y (wantT (dj := 18) rfl (vbn rfl c12 rfl)) (Y.len (by kernel_rfl) rfl) ?_
        refine RQ.y (wantT (dj := 18) rfl (vbn rfl c12 rfl)) (Y.binI (v := .bool ((d0.kids.length : Int) != (d1.kids.length : Int))) rfl rfl rfl) ?_
        refine RQ.y rfl (Y.pick (b := false) (v := .bool ((d0.kids.length : Int) != (d1.kids.length : Int))) (vbn rfl c12 rfl) rfl) ?_
        refine RQ.nil ?_
        refine then_n ?_
        rcases bcases ((d0.kids.length : Int) != (d1.kids.length : Int)) with c13 | c13
        · replace hm := cF c13 hm
          refine cond_f rfl (vb rfl c13) ?_
          refine wp_skip ?_
          refine then_n ?_
          refine wp_seq ?_
          refine wp_seq ?_
          refine wp_rs rfl ?_
          refine RQ.y rfl (Y.assign (v := .int .i64 0) rfl) ?_
          refine RQ.nil ?_
          refine then_n ?_
          refine wp_block ?_
          obtain ⟨K1, hK1, hm⟩ : ∃ K, K = m_spec_SameType_A1 ∧ m_spec_SameType_L1 d0 d1 self K (d0.kids.length + 1) 0 = some r := ⟨_, rfl, hm⟩
          refine wp_loopX (fun g f w' => ∃ (i15 : Int), f 2 = .pointer (some ⟨w.heap.size, 0, none⟩) ∧ f 3 = .pointer (some ⟨w3.heap.size, 0, none⟩) ∧ f 5 = .int .i64 i15 ∧ 0 ≤ i15 ∧ Blk w' w.heap.size 110 #[.int .i64 d0.kind, .string d0.name, .slice A1 d0.kids.length c1] ∧ Blk w' w3.heap.size 110 #[.int .i64 d1.kind, .string d1.name, .slice A2 d1.kids.length c2] ∧ Below w.heap.size w w' ∧ m_spec_SameType_L1 d0 d1 self K1 g i15 = some r) 0 (fun f w' => Blk w' w.heap.size 110 #[.int .i64 d0.kind, .string d0.name, .slice A1 d0.kids.length c1] ∧ Blk w' w3.heap.size 110 #[.int .i64 d1.kind, .string d1.name, .slice A2 d1.kids.length c2] ∧ Below w.heap.size w w' ∧ m_spec_SameType_A1  = some r) (d0.kids.length + 1) ⟨0, rfl, rfl, rfl, (by omega), B4, B8, T, hm⟩ ?_ ?_
          · rintro f w14 ⟨B4, B8, T, hm⟩
            unfold m_spec_SameType_A1 at hm
            refine blk_hit (then_n ?_)
            refine wp_seq ?_
            refine wp_rs rfl ?_
            refine RQ.y rfl (Y.assign (v := .bool true) rfl) ?_
            refine RQ.nil ?_
            refine then_n ?_
            refine wp_ret ?_
            obtain rfl := Option.some.inj hm
            exact (ret1 rfl rfl rfl ⟨rfl, T⟩)
          · rintro g f w16 ⟨i15, s2_1, s3_1, s5_1, nn5_1, B4, B8, T, hm⟩
            rcases g with _ | g
            · simp only [m_spec_SameType_L1] at hm; cases hm
            obtain ⟨rec1, hrec1, hm⟩ : ∃ z, z = m_spec_SameType_L1 d0 d1 self K1 g ∧ m_spec_SameType_B1 d0 d1 self z K1 i15 = some r := ⟨_, rfl, hm⟩
            unfold m_spec_SameType_B1 at hm
            refine wp_seq ?_
            refine wp_seq ?_
            refine wp_rs rfl ?_
            refine RQ.y rfl (Y.move (v := .int .i64 i15) s5_1) ?_
            refine RQ.y rfl (Y.fieldAddr (off := 2) s2_1 (by kernel_rfl)) ?_
            refine RQ.y rfl (Y.load (v := .slice A1 d0.kids.length c1) rfl (by kernel_rfl) (eqC (blkCell B4 (i := 2) rfl))) ?_
            refine RQ.y rfl (Y.len (by kernel_rfl) rfl) ?_
            refine RQ.y rfl (Y.binI (v := .bool (decide (i15 < (d0.kids.length : Int)))) rfl rfl rfl) ?_
            refine RQ.nil ?_
            refine then_n ?_
            rcases bcases (decide (i15 < (d0.kids.length : Int))) with c17 | c17
            · replace hm := cF c17 hm
              have pc17 := of_decide_eq_false c17
              refine cond_f rfl (vb rfl c17) ?_
              refine wp_exit ?_
              exact (then_x (then_x (hit_x ⟨_, rfl, ⟨B4, B8, T, (by rw [hK1] at hm; exact hm)⟩⟩)))
            · replace hm := cT c17 hm
              have pc17 := of_decide_eq_true c17
              refine cond_t rfl (vb rfl c17) ?_
              refine wp_skip ?_
              refine then_n ?_
              refine wp_seq ?_
              refine wp_block ?_
              refine wp_seq ?_
              refine wp_rbd (by kernel_rfl) (by kernel_rfl) ?_
              refine RQ.y rfl (Y.fieldAddr (off := 2) s2_1 (by kernel_rfl)) ?_
              refine RQ.y rfl (Y.load (v := .slice A1 d0.kids.length c1) rfl (by kernel_rfl) (beC (blkCell B4 (i := 2) rfl))) ?_
              refine RQ.y rfl (Y.move (v := .int .i64 i15) s5_1) ?_
              obtain ⟨x18, hx21, hm⟩ := bnd hm
              obtain ⟨k19, hk22, hl23, hx21⟩ := getI_some hx21
              obtain ⟨b25, o26, rfl, hbb25⟩ := h1.addr (by omega)
              obtain ⟨cs20, hRcs20, hc24⟩ := h1.el hx21
              have hScs20 := hRcs20
              obtain ⟨A27, n27, c27, rfl, ⟨h27, r27⟩⟩ := (typeRd_out hRcs20)
              have e27 := h27.len; subst e27
              have q27 := len_le r27
              refine RQ.y rfl (Y.indexAddr (m := k19) (sz := 3) rfl rfl hk22 hl23 (by kernel_rfl)) ?_
              refine RQ.y rfl (Y.loadN (cs := [.int .i64 x18.kind, .string x18.name, .slice A27 x18.kids.length c27]) rfl (by kernel_rfl) (cells3 (beC (cellT T (hc24 0 _ rfl))) (beC (cellT T (hc24 1 _ rfl))) (beC (cellT T (hc24 2 _ rfl))))) ?_
              refine RQ.y rfl (Y.fieldAddr (off := 2) s3_1 (by kernel_rfl)) ?_
              refine RQ.y rfl (Y.load (v := .slice A2 d1.kids.length c2) rfl (by kernel_rfl) (beC (blkCell B8 (i := 2) rfl))) ?_
              refine RQ.y rfl (Y.move (v := .int .i64 i15) s5_1) ?_
              obtain ⟨x28, hx31, hm⟩ := bnd hm
              obtain ⟨k29, hk32, hl33, hx31⟩ := getI_some hx31
              obtain ⟨b35, o36, rfl, hbb35⟩ := h2.addr (by omega)
              obtain ⟨cs30, hRcs30, hc34⟩ := h2.el hx31
              have hScs30 := hRcs30
              obtain ⟨A37, n37, c37, rfl, ⟨h37, r37⟩⟩ := (typeRd_out hRcs30)
              have e37 := h37.len; subst e37
              have q37 := len_le r37
              refine RQ.y rfl (Y.indexAddr (m := k29) (sz := 3) rfl rfl hk32 hl33 (by kernel_rfl)) ?_
              refine RQ.y rfl (Y.loadN (cs := [.int .i64 x28.kind, .string x28.name, .slice A37 x28.kids.length c37]) rfl (by kernel_rfl) (cells3 (beC (cellT T (hc34 0 _ rfl))) (beC (cellT T (hc34 1 _ rfl))) (beC (cellT T (hc34 2 _ rfl))))) ?_
              obtain ⟨y38, e39, hm⟩ := bnd hm
              refine RQ.call rfl (am2 rfl rfl) (by kernel_rfl) (v := .bool y38) (bel (K := fun _ => True) fun w' hb' => (ih x18 x28 _ (by rw [← hself]; exact e39) _ _ w' (stArg (R := typeRd) (typeRd_in ⟨_, _, _, rfl, ⟨SlAt.now typeRd_ok h27 (Nat.le_refl _) (Tt T hb'), r27⟩⟩)) (stArg (R := typeRd) (typeRd_in ⟨_, _, _, rfl, ⟨SlAt.now typeRd_ok h37 (Nat.le_refl _) (Tt T hb'), r37⟩⟩)))) ?_
              refine RQ.y rfl (Y.not (b' := (!y38)) rfl rfl) ?_
              refine RQ.nil ?_
              intro w40 hb41
              have szw40 := hb41.size
              have B4 := blkT B4 hb41
              have B8 := blkT B8 hb41
              have T := Tt T hb41
              refine then_n ?_
              rcases bcases y38 with c42 | c42
              · replace hm := cF c42 hm
                refine cond_t rfl (vbn rfl c42 rfl) ?_
                refine wp_seq ?_
                refine wp_rs rfl ?_
                refine RQ.y rfl (Y.assign (v := .bool false) rfl) ?_
                refine RQ.nil ?_
                refine then_n ?_
                refine wp_ret ?_
                obtain rfl := Option.some.inj hm
                exact (blk_r (then_r (then_r (hit_r (blk_r (then_r (ret1 rfl rfl rfl ⟨rfl, T⟩)))))))
              · replace hm := cT c42 hm
                refine cond_f rfl (vbn rfl c42 rfl) ?_
                refine wp_skip ?_
                refine blk_n (then_n ?_)
                refine wp_rs rfl ?_
                refine RQ.y rfl (Y.move (v := .int .i64 i15) s5_1) ?_
                refine RQ.y rfl (Y.binI rfl rfl (binI_add (m := i15) (by omega))) ?_
                refine RQ.y rfl (Y.assign (v := .int .i64 (i15 + 1)) rfl) ?_
                refine RQ.nil ?_
                exact (then_n ⟨g, _, Nat.lt_succ_self _, rfl, ⟨(i15 + 1), s2_1, s3_1, rfl, (by omega), B4, B8, T, (by rw [← hrec1]; exact hm)⟩⟩)
        · replace hm := cT c13 hm
          refine cond_t rfl (vb rfl c13) ?_
          refine wp_seq ?_
          refine wp_rs rfl ?_
          refine RQ.y rfl (Y.assign (v := .bool false) rfl) ?_
          refine RQ.nil ?_
          refine then_n ?_
          refine wp_ret ?_
          obtain rfl := Option.some.inj hm
          exact (then_r (ret1 rfl rfl rfl ⟨rfl, T⟩))
    · replace hm := cT c11 hm
      refine RQ.skip (wantN (dj := 11) rfl (vb rfl c11) rfl) ?_
      refine RQ.skip (wantN (dj := 11) rfl (vb rfl c11) rfl) ?_
      refine RQ.skip (wantN (dj := 11) rfl (vb rfl c11) rfl) ?_
      refine RQ.skip (wantN (dj := 11) rfl (vb rfl c11) rfl) ?_
      refine RQ.skip (wantN (dj := 11) rfl (vb rfl c11) rfl) ?_
      refine RQ.y rfl (Y.pick (b := true) (v := .bool true) (vb rfl c11) rfl) ?_
      refine RQ.y rfl (Y.move (v := .bool true) rfl) ?_
      refine RQ.skip (wantN (dj := 18) rfl rfl rfl) ?_
      refine RQ.skip (wantN (dj := 18) rfl rfl rfl) ?_
      refine RQ.skip (wantN (dj := 18) rfl rfl rfl) ?_
      refine RQ.skip (wantN (dj := 18) rfl rfl rfl) ?_
      refine RQ.skip (wantN (dj := 18) rfl rfl rfl) ?_
      refine RQ.skip (wantN (dj := 18) rfl rfl rfl) ?_
      refine RQ.skip (wantN (dj := 18) rfl rfl rfl) ?_
      refine RQ.y rfl (Y.pick (b := true) (v := .bool true) rfl rfl) ?_
      refine RQ.nil ?_
      refine then_n ?_
      refine cond_t rfl rfl ?_
      refine wp_seq ?_
      refine wp_rs rfl ?_
      refine RQ.y rfl (Y.assign (v := .bool false) rfl) ?_
      refine RQ.nil ?_
      refine then_n ?_
      refine wp_ret ?_
      obtain rfl := Option.some.inj hm
      exact (then_r (ret1 rfl rfl rfl ⟨rfl, T⟩))
noncomputable def m_spec_l03SameTypes_A1 : Option Bool :=
  some true
noncomputable def m_spec_l03SameTypes_B1 (d0 : List DType) (d1 : List DType) (rec1 : Int → Option Bool) (K1 : Option Bool) (i3 : Int) : Option Bool :=
  (bif (decide (i3 < (d0.length : Int))) then ((getI d0 i3).bind fun x6 => ((getI d1 i3).bind fun x16 => ((m_spec_SameType (SizeOf.sizeOf x6) x6 x16).bind fun y26 => (bif y26 then (rec1 (i3 + 1)) else some false)))) else (K1))
noncomputable def m_spec_l03SameTypes_L1 (d0 : List DType) (d1 : List DType) (K1 : Option Bool) : Nat → Int → Option Bool
  | 0, _ => none
  | g + 1, i3 => m_spec_l03SameTypes_B1 d0 d1 (m_spec_l03SameTypes_L1 d0 d1 K1 g) K1 i3
noncomputable def m_spec_l03SameTypes (d0 : List DType) (d1 : List DType) : Option Bool :=
  (bif ((d0.length : Int) != (d1.length : Int)) then some false else (m_spec_l03SameTypes_L1 d0 d1 m_spec_l03SameTypes_A1 (d0.length + 1) 0))
set_option maxHeartbeats 2000000 in
theorem c_m_spec_l03SameTypes (d0 : List DType) (d1 : List DType) (r : Bool) (hm : m_spec_l03SameTypes d0 d1 = some r) (v0 : Value) (v1 : Value) (w : World) (hv0 : Sl typeRd 3 w v0 d0) (hv1 : Sl typeRd 3 w v1 d1) :
    Calls Try.prog 53 #[v0, v1] w fun e w' => e = .returned (.bool r) ∧ Below w.heap.size w w' := by
  obtain ⟨Aa0, na0, ca0, rfl, ha0, ra0⟩ := hv0
  have ea0 := ha0.len; subst ea0
  have qa0 := len_le ra0
  obtain ⟨Aa1, na1, ca1, rfl, ha1, ra1⟩ := hv1
  have ea1 := ha1.len; subst ea1
  have qa1 := len_le ra1
  have T := Below.refl w.heap.size w
  unfold m_spec_l03SameTypes at hm
  refine enter 27 Try.func53 rfl rfl rfl ?_
  intro f hf
  have s0 : f 0 = .slice Aa0 d0.length ca0 := hf 0 _ rfl
  have s1 : f 1 = .slice Aa1 d1.length ca1 := hf 1 _ rfl
  refine wp_seq ?_
  refine wp_rs rfl ?_
  refine RQ.y rfl (Y.assign (v := .bool false) rfl) ?_
  refine RQ.nil ?_
  refine then_n ?_
  refine wp_seq ?_
  refine wp_seq ?_
  refine wp_rs rfl ?_
  refine RQ.y rfl (Y.move (v := .slice Aa0 d0.length ca0) s0) ?_
  refine RQ.y rfl (Y.len (by kernel_rfl) rfl) ?_
  refine RQ.y rfl (Y.move (v := .slice Aa1 d1.length ca1) s1) ?_
  refine RQ.y rfl (Y.len (by kernel_rfl) rfl) ?_
  refine RQ.y rfl (Y.binI (v := .bool ((d0.length : Int) != (d1.length : Int))) rfl rfl rfl) ?_
  refine RQ.nil ?_
  refine then_n ?_
  rcases bcases ((d0.length : Int) != (d1.length : Int)) with c1 | c1
  · replace hm := cF c1 hm
    refine cond_f rfl (vb rfl c1) ?_
    refine wp_skip ?_
    refine then_n ?_
    refine wp_seq ?_
    refine wp_seq ?_
    refine wp_rs rfl ?_
    refine RQ.y rfl (Y.assign (v := .int .i64 0) rfl) ?_
    refine RQ.nil ?_
    refine then_n ?_
    refine wp_block ?_
    obtain ⟨K1, hK1, hm⟩ : ∃ K, K = m_spec_l03SameTypes_A1 ∧ m_spec_l03SameTypes_L1 d0 d1 K (d0.length + 1) 0 = some r := ⟨_, rfl, hm⟩
    refine wp_loopX (fun g f w' => ∃ (i3 : Int), f 0 = .slice Aa0 d0.length ca0 ∧ f 1 = .slice Aa1 d1.length ca1 ∧ f 5 = .int .i64 i3 ∧ 0 ≤ i3 ∧ Below w.heap.size w w' ∧ m_spec_l03SameTypes_L1 d0 d1 K1 g i3 = some r) 0 (fun f w' => Below w.heap.size w w' ∧ m_spec_l03SameTypes_A1  = some r) (d0.length + 1) ⟨0, s0, s1, rfl, (by omega), T, hm⟩ ?_ ?_
    · rintro f w2 ⟨T, hm⟩
      unfold m_spec_l03SameTypes_A1 at hm
      refine blk_hit (then_n ?_)
      refine wp_seq ?_
      refine wp_rs rfl ?_
      refine RQ.y rfl (Y.assign (v := .bool true) rfl) ?_
      refine RQ.nil ?_
      refine then_n ?_
      refine wp_ret ?_
      obtain rfl := Option.some.inj hm
      exact (ret1 rfl rfl rfl ⟨rfl, T⟩)
    · rintro g f w4 ⟨i3, s0_1, s1_1, s5_1, nn5_1, T, hm⟩
      rcases g with _ | g
      · simp only [m_spec_l03SameTypes_L1] at hm; cases hm
      obtain ⟨rec1, hrec1, hm⟩ : ∃ z, z = m_spec_l03SameTypes_L1 d0 d1 K1 g ∧ m_spec_l03SameTypes_B1 d0 d1 z K1 i3 = some r := ⟨_, rfl, hm⟩
      unfold m_spec_l03SameTypes_B1 at hm
      refine wp_seq ?_
      refine wp_seq ?_
      refine wp_rs rfl ?_
      refine RQ.y rfl (Y.move (v := .int .i64 i3) s5_1) ?_
      refine RQ.y rfl (Y.move (v := .slice Aa0 d0.length ca0) s0_1) ?_
      refine RQ.y rfl (Y.len (by kernel_rfl) rfl) ?_
      refine RQ.y rfl (Y.binI (v := .bool (decide (i3 < (d0.length : Int)))) rfl rfl rfl) ?_
      refine RQ.nil ?_
      refine then_n ?_
      rcases bcases (decide (i3 < (d0.length : Int))) with c5 | c5
      · replace hm := cF c5 hm
        have pc5 := of_decide_eq_false c5
        refine cond_f rfl (vb rfl c5) ?_
        refine wp_exit ?_
        exact (then_x (then_x (hit_x ⟨_, rfl, ⟨T, (by rw [hK1] at hm; exact hm)⟩⟩)))
      · replace hm := cT c5 hm
        have pc5 := of_decide_eq_true c5
        refine cond_t rfl (vb rfl c5) ?_
        refine wp_skip ?_
        refine then_n ?_
        refine wp_seq ?_
        refine wp_block ?_
        refine wp_seq ?_
        refine wp_rbd (by kernel_rfl) (by kernel_rfl) ?_
        refine RQ.y rfl (Y.move (v := .slice Aa0 d0.length ca0) s0_1) ?_
        refine RQ.y rfl (Y.move (v := .int .i64 i3) s5_1) ?_
        obtain ⟨x6, hx9, hm⟩ := bnd hm
        obtain ⟨k7, hk10, hl11, hx9⟩ := getI_some hx9
        obtain ⟨b13, o14, rfl, hbb13⟩ := ha0.addr (by omega)
        obtain ⟨cs8, hRcs8, hc12⟩ := ha0.el hx9
        have hScs8 := hRcs8
        obtain ⟨A15, n15, c15, rfl, ⟨h15, r15⟩⟩ := (typeRd_out hRcs8)
        have e15 := h15.len; subst e15
        have q15 := len_le r15
        refine RQ.y rfl (Y.indexAddr (m := k7) (sz := 3) rfl rfl hk10 hl11 (by kernel_rfl)) ?_
        refine RQ.y rfl (Y.loadN (cs := [.int .i64 x6.kind, .string x6.name, .slice A15 x6.kids.length c15]) rfl (by kernel_rfl) (cells3 (beC (cellT T (hc12 0 _ rfl))) (beC (cellT T (hc12 1 _ rfl))) (beC (cellT T (hc12 2 _ rfl))))) ?_
        refine RQ.y rfl (Y.move (v := .slice Aa1 d1.length ca1) s1_1) ?_
        refine RQ.y rfl (Y.move (v := .int .i64 i3) s5_1) ?_
        obtain ⟨x16, hx19, hm⟩ := bnd hm
        obtain ⟨k17, hk20, hl21, hx19⟩ := getI_some hx19
        obtain ⟨b23, o24, rfl, hbb23⟩ := ha1.addr (by omega)
        obtain ⟨cs18, hRcs18, hc22⟩ := ha1.el hx19
        have hScs18 := hRcs18
        obtain ⟨A25, n25, c25, rfl, ⟨h25, r25⟩⟩ := (typeRd_out hRcs18)
        have e25 := h25.len; subst e25
        have q25 := len_le r25
        refine RQ.y rfl (Y.indexAddr (m := k17) (sz := 3) rfl rfl hk20 hl21 (by kernel_rfl)) ?_
        refine RQ.y rfl (Y.loadN (cs := [.int .i64 x16.kind, .string x16.name, .slice A25 x16.kids.length c25]) rfl (by kernel_rfl) (cells3 (beC (cellT T (hc22 0 _ rfl))) (beC (cellT T (hc22 1 _ rfl))) (beC (cellT T (hc22 2 _ rfl))))) ?_
        obtain ⟨y26, e27, hm⟩ := bnd hm
        refine RQ.call rfl (am2 rfl rfl) (by kernel_rfl) (v := .bool y26) (bel (K := fun _ => True) fun w' hb' => (c_m_spec_SameType (SizeOf.sizeOf x6) x6 x16 _ e27 _ _ w' (stArg (R := typeRd) (typeRd_in ⟨_, _, _, rfl, ⟨SlAt.now typeRd_ok h15 (Nat.le_refl _) (Tt T hb'), r15⟩⟩)) (stArg (R := typeRd) (typeRd_in ⟨_, _, _, rfl, ⟨SlAt.now typeRd_ok h25 (Nat.le_refl _) (Tt T hb'), r25⟩⟩)))) ?_
        refine RQ.y rfl (Y.not (b' := (!y26)) rfl rfl) ?_
        refine RQ.nil ?_
        intro w28 hb29
        have szw28 := hb29.size
        have T := Tt T hb29
        refine then_n ?_
        rcases bcases y26 with c30 | c30
        · replace hm := cF c30 hm
          refine cond_t rfl (vbn rfl c30 rfl) ?_
          refine wp_seq ?_
          refine wp_rs rfl ?_
          refine RQ.y rfl (Y.assign (v := .bool false) rfl) ?_
          refine RQ.nil ?_
          refine then_n ?_
          refine wp_ret ?_
          obtain rfl := Option.some.inj hm
          exact (blk_r (then_r (then_r (hit_r (blk_r (then_r (ret1 rfl rfl rfl ⟨rfl, T⟩)))))))
        · replace hm := cT c30 hm
          refine cond_f rfl (vbn rfl c30 rfl) ?_
          refine wp_skip ?_
          refine blk_n (then_n ?_)
          refine wp_rs rfl ?_
          refine RQ.y rfl (Y.move (v := .int .i64 i3) s5_1) ?_
          refine RQ.y rfl (Y.binI rfl rfl (binI_add (m := i3) (by omega))) ?_
          refine RQ.y rfl (Y.assign (v := .int .i64 (i3 + 1)) rfl) ?_
          refine RQ.nil ?_
          exact (then_n ⟨g, _, Nat.lt_succ_self _, rfl, ⟨(i3 + 1), s0_1, s1_1, rfl, (by omega), T, (by rw [← hrec1]; exact hm)⟩⟩)
  · replace hm := cT c1 hm
    refine cond_t rfl (vb rfl c1) ?_
    refine wp_seq ?_
    refine wp_rs rfl ?_
    refine RQ.y rfl (Y.assign (v := .bool false) rfl) ?_
    refine RQ.nil ?_
    refine then_n ?_
    refine wp_ret ?_
    obtain rfl := Option.some.inj hm
    exact (then_r (ret1 rfl rfl rfl ⟨rfl, T⟩))
noncomputable def m_slices_EqualFunc_impl_Type_impl_Type_impl_Type_impl_Type_A1 : Option Bool :=
  some true
noncomputable def m_slices_EqualFunc_impl_Type_impl_Type_impl_Type_impl_Type_B1 (d0 : List DType) (d1 : List DType) (d2 : DType → DType → Option Bool) (rec1 : Int → Option Bool) (K1 : Option Bool) (i3 : Int) : Option Bool :=
  (bif (decide (i3 < (d0.length : Int))) then ((getI d0 i3).bind fun x6 => ((getI d1 i3).bind fun x23 => ((d2 x6 x23).bind fun y40 => (bif y40 then (rec1 (i3 + 1)) else some false)))) else (K1))
noncomputable def m_slices_EqualFunc_impl_Type_impl_Type_impl_Type_impl_Type_L1 (d0 : List DType) (d1 : List DType) (d2 : DType → DType → Option Bool) (K1 : Option Bool) : Nat → Int → Option Bool
  | 0, _ => none
  | g + 1, i3 => m_slices_EqualFunc_impl_Type_impl_Type_impl_Type_impl_Type_B1 d0 d1 d2 (m_slices_EqualFunc_impl_Type_impl_Type_impl_Type_impl_Type_L1 d0 d1 d2 K1 g) K1 i3
noncomputable def m_slices_EqualFunc_impl_Type_impl_Type_impl_Type_impl_Type (d0 : List DType) (d1 : List DType) (d2 : DType → DType → Option Bool) : Option Bool :=
  (bif ((d0.length : Int) != (d1.length : Int)) then some false else (m_slices_EqualFunc_impl_Type_impl_Type_impl_Type_impl_Type_L1 d0 d1 d2 m_slices_EqualFunc_impl_Type_impl_Type_impl_Type_impl_Type_A1 (d0.length + 1) 0))
set_option maxHeartbeats 2000000 in
theorem c_m_slices_EqualFunc_impl_Type_impl_Type_impl_Type_impl_Type (d0 : List DType) (d1 : List DType) (d2 : DType → DType → Option Bool) (r : Bool) (hm : m_slices_EqualFunc_impl_Type_impl_Type_impl_Type_impl_Type d0 d1 d2 = some r) (v0 : Value) (v1 : Value) (gf2 : FuncId) (caps2 : Array Value) (w : World) (hv0 : Sl typeRd 3 w v0 d0) (hv1 : Sl typeRd 3 w v1 d1) (hgo2 : isGo Try.prog gf2 = true) (hf2 : ∀ (x0 : DType) (x1 : DType) (b : Bool), d2 x0 x1 = some b → ∀ w1, Below w.heap.size w w1 → ∀ y0, St typeRd w1 y0 x0 → ∀ y1, St typeRd w1 y1 x1 → Calls Try.prog gf2 (#[y0, y1] ++ caps2) w1 fun e w2 => e = .returned (.bool b) ∧ Below w1.heap.size w1 w2) :
    Calls Try.prog 104 #[v0, v1, .func (.func gf2) #[] caps2] w fun e w' => e = .returned (.bool r) ∧ Below w.heap.size w w' := by
  obtain ⟨Aa0, na0, ca0, rfl, ha0, ra0⟩ := hv0
  have ea0 := ha0.len; subst ea0
  have qa0 := len_le ra0
  obtain ⟨Aa1, na1, ca1, rfl, ha1, ra1⟩ := hv1
  have ea1 := ha1.len; subst ea1
  have qa1 := len_le ra1
  have T := Below.refl w.heap.size w
  unfold m_slices_EqualFunc_impl_Type_impl_Type_impl_Type_impl_Type at hm
  refine enter 32 Try.func104 rfl rfl rfl ?_
  intro f hf
  have s0 : f 0 = .slice Aa0 d0.length ca0 := hf 0 _ rfl
  have s1 : f 1 = .slice Aa1 d1.length ca1 := hf 1 _ rfl
  have s2 : f 2 = .func (.func gf2) #[] caps2 := hf 2 _ rfl
  refine wp_seq ?_
  refine wp_rs rfl ?_
  refine RQ.y rfl (Y.assign (v := .bool false) rfl) ?_
  refine RQ.nil ?_
  refine then_n ?_
  refine wp_seq ?_
  refine wp_seq ?_
  refine wp_rs rfl ?_
  refine RQ.y rfl (Y.move (v := .slice Aa0 d0.length ca0) s0) ?_
  refine RQ.y rfl (Y.len (by kernel_rfl) rfl) ?_
  refine RQ.y rfl (Y.move (v := .slice Aa1 d1.length ca1) s1) ?_
  refine RQ.y rfl (Y.len (by kernel_rfl) rfl) ?_
  refine RQ.y rfl (Y.binI (v := .bool ((d0.length : Int) != (d1.length : Int))) rfl rfl rfl) ?_
  refine RQ.nil ?_
  refine then_n ?_
  rcases bcases ((d0.length : Int) != (d1.length : Int)) with c1 | c1
  · replace hm := cF c1 hm
    refine cond_f rfl (vb rfl c1) ?_
    refine wp_skip ?_
    refine then_n ?_
    refine wp_seq ?_
    refine wp_seq ?_
    refine wp_rs rfl ?_
    refine RQ.y rfl (Y.move (v := .slice Aa0 d0.length ca0) s0) ?_
    refine RQ.y rfl (Y.len (by kernel_rfl) rfl) ?_
    refine RQ.y rfl (Y.move (v := .int .i64 0) rfl) ?_
    refine RQ.nil ?_
    refine then_n ?_
    refine wp_block ?_
    obtain ⟨K1, hK1, hm⟩ : ∃ K, K = m_slices_EqualFunc_impl_Type_impl_Type_impl_Type_impl_Type_A1 ∧ m_slices_EqualFunc_impl_Type_impl_Type_impl_Type_impl_Type_L1 d0 d1 d2 K (d0.length + 1) 0 = some r := ⟨_, rfl, hm⟩
    refine wp_loopX (fun g f w' => ∃ (i3 : Int), f 1 = .slice Aa1 d1.length ca1 ∧ f 2 = .func (.func gf2) #[] caps2 ∧ f 15 = .slice Aa0 d0.length ca0 ∧ f 16 = .int .i64 (d0.length : Int) ∧ f 17 = .int .i64 i3 ∧ 0 ≤ i3 ∧ Below w.heap.size w w' ∧ m_slices_EqualFunc_impl_Type_impl_Type_impl_Type_impl_Type_L1 d0 d1 d2 K1 g i3 = some r) 0 (fun f w' => Below w.heap.size w w' ∧ m_slices_EqualFunc_impl_Type_impl_Type_impl_Type_impl_Type_A1  = some r) (d0.length + 1) ⟨0, s1, s2, rfl, rfl, rfl, (by omega), T, hm⟩ ?_ ?_
    · rintro f w2 ⟨T, hm⟩
      unfold m_slices_EqualFunc_impl_Type_impl_Type_impl_Type_impl_Type_A1 at hm
      refine blk_hit (then_n ?_)
      refine wp_seq ?_
      refine wp_rs rfl ?_
      refine RQ.y rfl (Y.assign (v := .bool true) rfl) ?_
      refine RQ.nil ?_
      refine then_n ?_
      refine wp_ret ?_
      obtain rfl := Option.some.inj hm
      exact (ret1 rfl rfl rfl ⟨rfl, T⟩)
    · rintro g f w4 ⟨i3, s1_1, s2_1, s15_1, s16_1, s17_1, nn17_1, T, hm⟩
      rcases g with _ | g
      · simp only [m_slices_EqualFunc_impl_Type_impl_Type_impl_Type_impl_Type_L1] at hm; cases hm
      obtain ⟨rec1, hrec1, hm⟩ : ∃ z, z = m_slices_EqualFunc_impl_Type_impl_Type_impl_Type_impl_Type_L1 d0 d1 d2 K1 g ∧ m_slices_EqualFunc_impl_Type_impl_Type_impl_Type_impl_Type_B1 d0 d1 d2 z K1 i3 = some r := ⟨_, rfl, hm⟩
      unfold m_slices_EqualFunc_impl_Type_impl_Type_impl_Type_impl_Type_B1 at hm
      refine wp_seq ?_
      refine wp_rs rfl ?_
      refine RQ.y rfl (Y.binI (v := .bool (decide (i3 < (d0.length : Int)))) s17_1 s16_1 rfl) ?_
      refine RQ.nil ?_
      refine then_n ?_
      refine wp_seq ?_
      rcases bcases (decide (i3 < (d0.length : Int))) with c5 | c5
      · replace hm := cF c5 hm
        have pc5 := of_decide_eq_false c5
        refine cond_f rfl (vb rfl c5) ?_
        refine wp_exit ?_
        exact (then_x (then_x (hit_x ⟨_, rfl, ⟨T, (by rw [hK1] at hm; exact hm)⟩⟩)))
      · replace hm := cT c5 hm
        have pc5 := of_decide_eq_true c5
        refine cond_t rfl (vb rfl c5) ?_
        refine wp_skip ?_
        refine then_n ?_
        refine wp_seq ?_
        refine wp_block ?_
        refine wp_seq ?_
        refine wp_rl rfl ?_
        refine RL.y rfl (Y.move (v := .int .i64 i3) s17_1) ?_
        obtain ⟨x6, hx9, hm⟩ := bnd hm
        obtain ⟨k7, hk10, hl11, hx9⟩ := getI_some hx9
        obtain ⟨b13, o14, rfl, hbb13⟩ := ha0.addr (by omega)
        obtain ⟨cs8, hRcs8, hc12⟩ := ha0.el hx9
        have hScs8 := hRcs8
        obtain ⟨A15, n15, c15, rfl, ⟨h15, r15⟩⟩ := (typeRd_out hRcs8)
        have e15 := h15.len; subst e15
        have q15 := len_le r15
        refine RL.y rfl (Y.indexAddr (m := k7) (sz := 3) s15_1 s17_1 hk10 hl11 (by kernel_rfl)) ?_
        refine RL.y rfl (Y.loadN (cs := [.int .i64 x6.kind, .string x6.name, .slice A15 x6.kids.length c15]) rfl (by kernel_rfl) (cells3 (eqC (cellT T (hc12 0 _ rfl))) (eqC (cellT T (hc12 1 _ rfl))) (eqC (cellT T (hc12 2 _ rfl))))) ?_
        refine RL.alloc (z := .agg #[.int .i64 0, .string ByteArray.empty, .slice none 0 0]) rfl (by kernel_rfl) (fun w16 B17 hb18 szw16 => ?_)
        replace B17 : Blk w16 w4.heap.size 110 #[.int .i64 0, .string ByteArray.empty, .slice none 0 0] := B17
        have GB17 : w.heap.size ≤ w4.heap.size := T.size
        have T := Tt T hb18
        refine RL.y rfl (Y.assign (v := .int .i64 i3) rfl) ?_
        refine RL.store (v := .agg #[.int .i64 x6.kind, .string x6.name, .slice A15 x6.kids.length c15]) (cs' := #[.int .i64 x6.kind, .string x6.name, .slice A15 x6.kids.length c15]) rfl rfl rfl B17 (by kernel_rfl) (by rfl) (by rfl) (by rfl) (fun w20 B21 ho22 => ?_)
        have szw20 := ho22.size
        have T := T.trans (ho22.below (by first | (simp; done) | (simp; omega)))
        refine RL.nil ?_
        refine then_n ?_
        refine wp_seq ?_
        refine wp_rl rfl ?_
        refine RL.y rfl (Y.move (v := .slice Aa1 d1.length ca1) s1_1) ?_
        refine RL.y rfl (Y.move (v := .int .i64 i3) rfl) ?_
        obtain ⟨x23, hx26, hm⟩ := bnd hm
        obtain ⟨k24, hk27, hl28, hx26⟩ := getI_some hx26
        obtain ⟨b30, o31, rfl, hbb30⟩ := ha1.addr (by omega)
        obtain ⟨cs25, hRcs25, hc29⟩ := ha1.el hx26
        have hScs25 := hRcs25
        obtain ⟨A32, n32, c32, rfl, ⟨h32, r32⟩⟩ := (typeRd_out hRcs25)
        have e32 := h32.len; subst e32
        have q32 := len_le r32
        refine RL.y rfl (Y.indexAddr (m := k24) (sz := 3) rfl rfl hk27 hl28 (by kernel_rfl)) ?_
        refine RL.y rfl (Y.loadN (cs := [.int .i64 x23.kind, .string x23.name, .slice A32 x23.kids.length c32]) rfl (by kernel_rfl) (cells3 (eqC (cellT T (hc29 0 _ rfl))) (eqC (cellT T (hc29 1 _ rfl))) (eqC (cellT T (hc29 2 _ rfl))))) ?_
        refine RL.alloc (z := .agg #[.int .i64 0, .string ByteArray.empty, .slice none 0 0]) rfl (by kernel_rfl) (fun w33 B34 hb35 szw33 => ?_)
        replace B34 : Blk w33 w20.heap.size 110 #[.int .i64 0, .string ByteArray.empty, .slice none 0 0] := B34
        have GB34 : w.heap.size ≤ w20.heap.size := T.size
        have Eob36_ob19 := Nat.ne_of_lt B21.lt
        have B21 := blkT B21 hb35
        have T := Tt T hb35
        refine RL.store (v := .agg #[.int .i64 x23.kind, .string x23.name, .slice A32 x23.kids.length c32]) (cs' := #[.int .i64 x23.kind, .string x23.name, .slice A32 x23.kids.length c32]) rfl rfl rfl B34 (by kernel_rfl) (by rfl) (by rfl) (by rfl) (fun w37 B38 ho39 => ?_)
        have szw37 := ho39.size
        have B21 := B21.only_ ho39 (by intro hin; simp at hin; exact Eob36_ob19 hin)
        have T := T.trans (ho39.below (by first | (simp; done) | (simp; omega)))
        refine RL.nil ?_
        refine then_n ?_
        refine wp_seq ?_
        refine wp_rb rfl ?_
        refine RQ.y rfl (Y.move (v := .func (.func gf2) #[] caps2) s2_1) ?_
        refine RQ.y rfl (Y.loadN (cs := [.int .i64 x6.kind, .string x6.name, .slice A15 x6.kids.length c15]) rfl (by kernel_rfl) (cells3 (beC (blkCell B21 (i := 0) rfl)) (beC (blkCell B21 (i := 1) rfl)) (beC (blkCell B21 (i := 2) rfl)))) ?_
        refine RQ.y rfl (Y.loadN (cs := [.int .i64 x23.kind, .string x23.name, .slice A32 x23.kids.length c32]) rfl (by kernel_rfl) (cells3 (beC (blkCell B38 (i := 0) rfl)) (beC (blkCell B38 (i := 1) rfl)) (beC (blkCell B38 (i := 2) rfl)))) ?_
        obtain ⟨y40, e41, hm⟩ := bnd hm
        refine RQ.callV rfl rfl (am2 rfl rfl) hgo2 (v := .bool y40) (bel (K := fun _ => True) fun w' hb' => hf2 x6 x23 y40 e41 w' (Tt T hb') _ (stArg (R := typeRd) (typeRd_in ⟨_, _, _, rfl, ⟨SlAt.now typeRd_ok h15 (Nat.le_refl _) (Tt T hb'), r15⟩⟩)) _ (stArg (R := typeRd) (typeRd_in ⟨_, _, _, rfl, ⟨SlAt.now typeRd_ok h32 (Nat.le_refl _) (Tt T hb'), r32⟩⟩))) ?_
        refine RQ.y rfl (Y.not (b' := (!y40)) rfl rfl) ?_
        refine RQ.nil ?_
        intro w42 hb43
        have szw42 := hb43.size
        have T := Tt T hb43
        refine then_n ?_
        rcases bcases y40 with c44 | c44
        · replace hm := cF c44 hm
          refine cond_t rfl (vbn rfl c44 rfl) ?_
          refine wp_seq ?_
          refine wp_rs rfl ?_
          refine RQ.y rfl (Y.assign (v := .bool false) rfl) ?_
          refine RQ.nil ?_
          refine then_n ?_
          refine wp_ret ?_
          obtain rfl := Option.some.inj hm
          exact (blk_r (then_r (then_r (hit_r (blk_r (then_r (ret1 rfl rfl rfl ⟨rfl, T⟩)))))))
        · replace hm := cT c44 hm
          refine cond_f rfl (vbn rfl c44 rfl) ?_
          refine wp_skip ?_
          refine blk_n (then_n ?_)
          refine wp_rs rfl ?_
          refine RQ.y rfl (Y.binI s17_1 rfl (binI_add (m := i3) (by omega))) ?_
          refine RQ.y rfl (Y.move (v := .int .i64 (i3 + 1)) rfl) ?_
          refine RQ.nil ?_
          exact (then_n ⟨g, _, Nat.lt_succ_self _, rfl, ⟨(i3 + 1), s1_1, s2_1, s15_1, s16_1, rfl, (by omega), T, (by rw [← hrec1]; exact hm)⟩⟩)
  · replace hm := cT c1 hm
    refine cond_t rfl (vb rfl c1) ?_
    refine wp_seq ?_
    refine wp_rs rfl ?_
    refine RQ.y rfl (Y.assign (v := .bool false) rfl) ?_
    refine RQ.nil ?_
    refine then_n ?_
    refine wp_ret ?_
    obtain rfl := Option.some.inj hm
    exact (then_r (ret1 rfl rfl rfl ⟨rfl, T⟩))
noncomputable def m_impl_SameType_R (self : DType → DType → Option Bool) (d0 : DType) (d1 : DType) : Option Bool :=
  (bif (d0.kind == d1.kind) then (bif (d0.name.toList == d1.name.toList) then ((m_slices_EqualFunc_impl_Type_impl_Type_impl_Type_impl_Type d0.kids d1.kids (fun x0 x1 => self x0 x1)).bind fun y17 => some y17) else some false) else some false)
noncomputable def m_impl_SameType : Nat → DType → DType → Option Bool
  | 0, _, _ => none
  | gas + 1, d0, d1 => m_impl_SameType_R (m_impl_SameType gas) d0 d1
set_option maxHeartbeats 2000000 in
theorem c_m_impl_SameType : ∀ (gas : Nat) (d0 : DType) (d1 : DType) (r : Bool) (hm : m_impl_SameType gas d0 d1 = some r) (v0 : Value) (v1 : Value) (w : World) (hv0 : St typeRd w v0 d0) (hv1 : St typeRd w v1 d1),
    Calls Try.prog 105 #[v0, v1] w fun e w' => e = .returned (.bool r) ∧ Below w.heap.size w w' := by
  intro gas
  induction gas with
  | zero =>
    intro d0 d1 r hm v0 v1 w hv0 hv1
    cases hm
  | succ gas ih =>
    intro d0 d1 r hm v0 v1 w hv0 hv1
    obtain ⟨csa0, rfl, hRR0⟩ := hv0
    obtain ⟨A1, n1, c1, rfl, ⟨h1, r1⟩⟩ := (typeRd_out hRR0)
    have e1 := h1.len; subst e1
    have q1 := len_le r1
    obtain ⟨csa1, rfl, hRR1⟩ := hv1
    obtain ⟨A2, n2, c2, rfl, ⟨h2, r2⟩⟩ := (typeRd_out hRR1)
    have e2 := h2.len; subst e2
    have q2 := len_le r2
    have T := Below.refl w.heap.size w
    obtain ⟨self, hself, hm⟩ : ∃ s, s = m_impl_SameType gas ∧ m_impl_SameType_R s d0 d1 = some r := ⟨_, rfl, hm⟩
    unfold m_impl_SameType_R at hm
    refine enter 24 Try.func105 rfl rfl rfl ?_
    intro f hf
    have s0 : f 0 = .agg #[.int .i64 d0.kind, .string d0.name, .slice A1 d0.kids.length c1] := hf 0 _ rfl
    have s1 : f 1 = .agg #[.int .i64 d1.kind, .string d1.name, .slice A2 d1.kids.length c2] := hf 1 _ rfl
    refine wp_seq ?_
    refine wp_rl rfl ?_
    refine RL.box rfl s0 (fun w3 B4 hb5 szw3 => ?_)
    replace B4 : Blk w3 w.heap.size 110 #[.int .i64 d0.kind, .string d0.name, .slice A1 d0.kids.length c1] := B4
    have GB4 : w.heap.size ≤ w.heap.size := T.size
    have T := Tt T hb5
    refine RL.box rfl s1 (fun w7 B8 hb9 szw7 => ?_)
    replace B8 : Blk w7 w3.heap.size 110 #[.int .i64 d1.kind, .string d1.name, .slice A2 d1.kids.length c2] := B8
    have GB8 : w.heap.size ≤ w3.heap.size := T.size
    have Eob10_ob6 := Nat.ne_of_lt B4.lt
    have B4 := blkT B4 hb9
    have T := Tt T hb9
    refine RL.y rfl (Y.assign (v := .bool false) rfl) ?_
    refine RL.nil ?_
    refine then_n ?_
    refine wp_seq ?_
    refine wp_rb rfl ?_
    refine RQ.y rfl (Y.fieldAddr (off := 0) rfl (by kernel_rfl)) ?_
    refine RQ.y rfl (Y.load (v := .int .i64 d0.kind) rfl (by kernel_rfl) (beC (blkCell B4 (i := 0) rfl))) ?_
    refine RQ.y rfl (Y.fieldAddr (off := 0) rfl (by kernel_rfl)) ?_
    refine RQ.y rfl (Y.load (v := .int .i64 d1.kind) rfl (by kernel_rfl) (beC (blkCell B8 (i := 0) rfl))) ?_
    refine RQ.y rfl (Y.binI (v := .bool (d0.kind == d1.kind)) rfl rfl rfl) ?_
    refine RQ.y rfl (Y.move (v := .bool (d0.kind == d1.kind)) rfl) ?_
    rcases bcases (d0.kind == d1.kind) with c11 | c11
    · replace hm := cF c11 hm
      refine RQ.skip (wantN (dj := 10) rfl (vb rfl c11) rfl) ?_
      refine RQ.skip (wantN (dj := 10) rfl (vb rfl c11) rfl) ?_
      refine RQ.skip (wantN (dj := 10) rfl (vb rfl c11) rfl) ?_
      refine RQ.skip (wantN (dj := 10) rfl (vb rfl c11) rfl) ?_
      refine RQ.skip (wantN (dj := 10) rfl (vb rfl c11) rfl) ?_
      refine RQ.y rfl (Y.pick (b := false) (v := .bool false) (vb rfl c11) rfl) ?_
      refine RQ.y rfl (Y.move (v := .bool false) rfl) ?_
      refine RQ.skip (wantN (dj := 17) rfl rfl rfl) ?_
      refine RQ.skip (wantN (dj := 17) rfl rfl rfl) ?_
      refine RQ.skip (wantN (dj := 17) rfl rfl rfl) ?_
      refine RQ.skip (wantN (dj := 17) rfl rfl rfl) ?_
      refine RQ.skip (wantN (dj := 17) rfl rfl rfl) ?_
      refine RQ.y rfl (Y.pick (b := false) (v := .bool false) rfl rfl) ?_
      refine RQ.y rfl (Y.assign (v := .bool false) rfl) ?_
      refine RQ.nil ?_
      intro w12 hb13
      have szw12 := hb13.size
      have T := Tt T hb13
      refine then_n ?_
      refine wp_ret ?_
      obtain rfl := Option.some.inj hm
      exact (ret1 rfl rfl rfl ⟨rfl, T⟩)
    · replace hm := cT c11 hm
      refine RQ.y (wantT (dj := 10) rfl (vb rfl c11)) (Y.fieldAddr (off := 1) rfl (by kernel_rfl)) ?_
      refine RQ.y (wantT (dj := 10) rfl (vb rfl c11)) (Y.load (v := .string d0.name) rfl (by kernel_rfl) (beC (blkCell B4 (i := 1) rfl))) ?_
      refine RQ.y (wantT (dj := 10) rfl (vb rfl c11)) (Y.fieldAddr (off := 1) rfl (by kernel_rfl)) ?_
      refine RQ.y (wantT (dj := 10) rfl (vb rfl c11)) (Y.load (v := .string d1.name) rfl (by kernel_rfl) (beC (blkCell B8 (i := 1) rfl))) ?_
      refine RQ.y (wantT (dj := 10) rfl (vb rfl c11)) (Y.eqStr rfl rfl (by kernel_rfl)) ?_
      refine RQ.y rfl (Y.pick (b := true) (v := .bool (d0.name.toList == d1.name.toList)) (vb rfl c11) rfl) ?_
      refine RQ.y rfl (Y.move (v := .bool (d0.name.toList == d1.name.toList)) rfl) ?_
      rcases bcases (d0.name.toList == d1.name.toList) with c14 | c14
      · replace hm := cF c14 hm
        refine RQ.skip (wantN (dj := 17) rfl (vb rfl c14) rfl) ?_
        refine RQ.skip (wantN (dj := 17) rfl (vb rfl c14) rfl) ?_
        refine RQ.skip (wantN (dj := 17) rfl (vb rfl c14) rfl) ?_
        refine RQ.skip (wantN (dj := 17) rfl (vb rfl c14) rfl) ?_
        refine RQ.skip (wantN (dj := 17) rfl (vb rfl c14) rfl) ?_
        refine RQ.y rfl (Y.pick (b := false) (v := .bool false) (vb rfl c14) rfl) ?_
        refine RQ.y rfl (Y.assign (v := .bool false) rfl) ?_
        refine RQ.nil ?_
        intro w15 hb16
        have szw15 := hb16.size
        have T := Tt T hb16
        refine then_n ?_
        refine wp_ret ?_
        obtain rfl := Option.some.inj hm
        exact (ret1 rfl rfl rfl ⟨rfl, T⟩)
      · replace hm := cT c14 hm
        refine RQ.y (wantT (dj := 17) rfl (vb rfl c14)) (Y.fieldAddr (off := 2) rfl (by kernel_rfl)) ?_
        refine RQ.y (wantT (dj := 17) rfl (vb rfl c14)) (Y.load (v := .slice A1 d0.kids.length c1) rfl (by kernel_rfl) (beC (blkCell B4 (i := 2) rfl))) ?_
        refine RQ.y (wantT (dj := 17) rfl (vb rfl c14)) (Y.fieldAddr (off := 2) rfl (by kernel_rfl)) ?_
        refine RQ.y (wantT (dj := 17) rfl (vb rfl c14)) (Y.load (v := .slice A2 d1.kids.length c2) rfl (by kernel_rfl) (beC (blkCell B8 (i := 2) rfl))) ?_
        obtain ⟨y17, e18, hm⟩ := bnd hm
        refine RQ.call (wantT (dj := 17) rfl (vb rfl c14)) (am3 rfl rfl rfl) (by kernel_rfl) (v := .bool y17) (bel (K := fun _ => True) fun w' hb' => (c_m_slices_EqualFunc_impl_Type_impl_Type_impl_Type_impl_Type d0.kids d1.kids (fun x0 x1 => self x0 x1) _ e18 _ _ _ _ w' (slArg typeRd_ok h1 r1 (Tt T hb')) (slArg typeRd_ok h2 r2 (Tt T hb')) (by kernel_rfl) (fun x0 x1 b hx w1 hb1 y0 hy0 y1 hy1 => Calls.arr (by simp) (ih x0 x1 _ (by rw [← hself]; exact hx) _ _  w1 hy0 hy1 )))) ?_
        refine RQ.y rfl (Y.pick (b := true) (v := .bool y17) (vb rfl c14) rfl) ?_
        refine RQ.y rfl (Y.assign (v := .bool y17) rfl) ?_
        refine RQ.nil ?_
        intro w19 hb20
        have szw19 := hb20.size
        have T := Tt T hb20
        refine then_n ?_
        refine wp_ret ?_
        obtain rfl := Option.some.inj hm
        exact (ret1 rfl rfl rfl ⟨rfl, T⟩)
noncomputable def m_impl_sameTypes (d0 : List DType) (d1 : List DType) : Option Bool :=
  ((m_slices_EqualFunc_impl_Type_impl_Type_impl_Type_impl_Type d0 d1 (fun x0 x1 => m_impl_SameType (SizeOf.sizeOf x0) x0 x1)).bind fun y1 => some y1)
set_option maxHeartbeats 2000000 in
theorem c_m_impl_sameTypes (d0 : List DType) (d1 : List DType) (r : Bool) (hm : m_impl_sameTypes d0 d1 = some r) (v0 : Value) (v1 : Value) (w : World) (hv0 : Sl typeRd 3 w v0 d0) (hv1 : Sl typeRd 3 w v1 d1) :
    Calls Try.prog 57 #[v0, v1] w fun e w' => e = .returned (.bool r) ∧ Below w.heap.size w w' := by
  obtain ⟨Aa0, na0, ca0, rfl, ha0, ra0⟩ := hv0
  have ea0 := ha0.len; subst ea0
  have qa0 := len_le ra0
  obtain ⟨Aa1, na1, ca1, rfl, ha1, ra1⟩ := hv1
  have ea1 := ha1.len; subst ea1
  have qa1 := len_le ra1
  have T := Below.refl w.heap.size w
  unfold m_impl_sameTypes at hm
  refine enter 8 Try.func57 rfl rfl rfl ?_
  intro f hf
  have s0 : f 0 = .slice Aa0 d0.length ca0 := hf 0 _ rfl
  have s1 : f 1 = .slice Aa1 d1.length ca1 := hf 1 _ rfl
  refine wp_seq ?_
  refine wp_rs rfl ?_
  refine RQ.y rfl (Y.assign (v := .bool false) rfl) ?_
  refine RQ.nil ?_
  refine then_n ?_
  refine wp_seq ?_
  refine wp_rb rfl ?_
  refine RQ.y rfl (Y.move (v := .slice Aa0 d0.length ca0) s0) ?_
  refine RQ.y rfl (Y.move (v := .slice Aa1 d1.length ca1) s1) ?_
  obtain ⟨y1, e2, hm⟩ := bnd hm
  refine RQ.call rfl (am3 rfl rfl rfl) (by kernel_rfl) (v := .bool y1) (bel (K := fun _ => True) fun w' hb' => (c_m_slices_EqualFunc_impl_Type_impl_Type_impl_Type_impl_Type d0 d1 (fun x0 x1 => m_impl_SameType (SizeOf.sizeOf x0) x0 x1) _ e2 _ _ _ _ w' (slArg typeRd_ok ha0 ra0 (Tt T hb')) (slArg typeRd_ok ha1 ra1 (Tt T hb')) (by kernel_rfl) (fun x0 x1 b hx w1 hb1 y0 hy0 y1 hy1 => Calls.arr (by simp) (c_m_impl_SameType (SizeOf.sizeOf x0) x0 x1 _ hx _ _  w1 hy0 hy1 )))) ?_
  refine RQ.y rfl (Y.assign (v := .bool y1) rfl) ?_
  refine RQ.nil ?_
  intro w3 hb4
  have szw3 := hb4.size
  have T := Tt T hb4
  refine then_n ?_
  refine wp_ret ?_
  obtain rfl := Option.some.inj hm
  exact (ret1 rfl rfl rfl ⟨rfl, T⟩)
noncomputable def m_laws_toTypeS_A1 (xs8 : List DType) : Option (List DType) :=
  some xs8
noncomputable def m_laws_toTypeS_B1 (self1 : DType → Option DType) (d0 : List DType) (rec1 : List DType → Int → Option (List DType)) (K1 : List DType → Option (List DType)) (xs10 : List DType) (i11 : Int) : Option (List DType) :=
  (bif (decide (i11 < (d0.length : Int))) then ((getI d0 i11).bind fun x14 => ((self1 x14).bind fun y24 => ((getI xs10 i11).bind fun x34 => (rec1 (setI xs10 i11 y24) (i11 + 1))))) else (K1 xs10))
noncomputable def m_laws_toTypeS_L1 (self1 : DType → Option DType) (d0 : List DType) (K1 : List DType → Option (List DType)) : Nat → List DType → Int → Option (List DType)
  | 0, _, _ => none
  | g + 1, xs10, i11 => m_laws_toTypeS_B1 self1 d0 (m_laws_toTypeS_L1 self1 d0 K1 g) K1 xs10 i11
noncomputable def m_laws_toTypeS_R (self0 : (List DType) → Option (List DType)) (self1 : DType → Option DType) (d0 : List DType) : Option (List DType) :=
  ((mustP (d0.length ≤ 4294967296)).bind fun _ => (m_laws_toTypeS_L1 self1 d0 m_laws_toTypeS_A1 (d0.length + 1) (List.replicate d0.length ((⟨0, ByteArray.empty, []⟩ : DType) : DType)) 0))
set_option maxHeartbeats 2000000 in
theorem c_m_laws_toTypeS_S (self0 : (List DType) → Option (List DType)) (self1 : DType → Option DType) (ih0 : ∀ (d0 : List DType) (r : List DType) (hm : self0 d0 = some r) (v0 : Value) (w : World) (hv0 : Sl typeRd 3 w v0 d0), Calls Try.prog 63 #[v0] w fun e w' => (∃ (v0 : Value) (bs0 : List Nat), e = .returned (v0) ∧ OwN 110 typeOw 3 w' w.heap.size v0 r bs0) ∧ Below w.heap.size w w') (ih1 : ∀ (d0 : DType) (r : DType) (hm : self1 d0 = some r) (v0 : Value) (w : World) (hv0 : St typeRd w v0 d0), Calls Try.prog 111 #[v0] w fun e w' => (∃ (v0 : Value) (bs0 : List Nat), e = .returned (.agg #[.int .i64 r.kind, .string r.name, v0]) ∧ OwN 110 typeOw 3 w' w.heap.size v0 r.kids bs0) ∧ Below w.heap.size w w') : ∀ (d0 : List DType) (r : List DType) (hm : m_laws_toTypeS_R self0 self1 d0 = some r) (v0 : Value) (w : World) (hv0 : Sl typeRd 3 w v0 d0),
    Calls Try.prog 63 #[v0] w fun e w' => (∃ (v0 : Value) (bs0 : List Nat), e = .returned (v0) ∧ OwN 110 typeOw 3 w' w.heap.size v0 r bs0) ∧ Below w.heap.size w w' := by
  intro d0 r hm v0 w hv0
  obtain ⟨Aa0, na0, ca0, rfl, ha0, ra0⟩ := hv0
  have ea0 := ha0.len; subst ea0
  have qa0 := len_le ra0
  have T := Below.refl w.heap.size w
  unfold m_laws_toTypeS_R at hm
  refine enter 23 Try.func63 rfl rfl rfl ?_
  intro f hf
  have s0 : f 0 = .slice Aa0 d0.length ca0 := hf 0 _ rfl
  refine wp_seq ?_
  refine wp_rs rfl ?_
  refine RQ.y rfl (Y.assign (v := .slice none 0 0) rfl) ?_
  refine RQ.nil ?_
  refine then_n ?_
  refine wp_seq ?_
  refine wp_rl rfl ?_
  refine RL.y rfl (Y.move (v := .slice Aa0 d0.length ca0) s0) ?_
  refine RL.y rfl (Y.len (by kernel_rfl) rfl) ?_
  obtain ⟨_, m1, hm⟩ := bnd hm
  have hk2 := mustP_some m1
  refine RL.makeN (O := typeOw) (x0 := (⟨0, ByteArray.empty, []⟩ : DType)) (n := d0.length) app_impl_Type (by decide) (fun w => (typeOw_in ⟨none, 0, 0, [], rfl, ⟨⟨rfl, .inl ⟨rfl, rfl⟩⟩, Nat.le_refl _, Nat.zero_le _⟩, rfl⟩)) rfl rfl rfl hk2 (fun w3 G4 hb5 szw3 => ?_)
  replace G4 := OwN.mono G4 T.size
  have T := Tt T hb5
  refine RL.y rfl (Y.assign (v := .slice (some ⟨w.heap.size, 0, none⟩) d0.length d0.length) rfl) ?_
  refine RL.nil ?_
  refine then_n ?_
  refine wp_seq ?_
  refine wp_seq ?_
  refine wp_rs rfl ?_
  refine RQ.y rfl (Y.assign (v := .int .i64 0) rfl) ?_
  refine RQ.nil ?_
  refine then_n ?_
  refine wp_block ?_
  obtain ⟨K1, hK1, hm⟩ : ∃ K, K = m_laws_toTypeS_A1 ∧ m_laws_toTypeS_L1 self1 d0 K (d0.length + 1) (List.replicate d0.length ((⟨0, ByteArray.empty, []⟩ : DType) : DType)) 0 = some r := ⟨_, rfl, hm⟩
  refine wp_loopX (fun g f w' => ∃ (xs10 : List DType) (i11 : Int) (uxs10 : Value) (bsxs10 : List Nat), f 0 = .slice Aa0 d0.length ca0 ∧ f 3 = uxs10 ∧ OwN 110 typeOw 3 w' w.heap.size uxs10 xs10 bsxs10 ∧ f 4 = .int .i64 i11 ∧ 0 ≤ i11 ∧ Below w.heap.size w w' ∧ m_laws_toTypeS_L1 self1 d0 K1 g xs10 i11 = some r) 0 (fun f w' => ∃ (xs8 : List DType) (uxs8 : Value) (bsxs8 : List Nat), f 3 = uxs8 ∧ OwN 110 typeOw 3 w' w.heap.size uxs8 xs8 bsxs8 ∧ Below w.heap.size w w' ∧ m_laws_toTypeS_A1 xs8 = some r) (d0.length + 1) ⟨(List.replicate d0.length ((⟨0, ByteArray.empty, []⟩ : DType) : DType)), 0, (.slice (some ⟨w.heap.size, 0, none⟩) d0.length d0.length), ([w.heap.size]), s0, rfl, G4, rfl, (by omega), T, hm⟩ ?_ ?_
  · rintro f w9 ⟨xs8, uxs8, bsxs8, s3_1x, Guxs8, T, hm⟩
    unfold m_laws_toTypeS_A1 at hm
    refine blk_hit (then_n ?_)
    refine wp_seq ?_
    refine wp_rs rfl ?_
    refine RQ.y rfl (Y.move (v := uxs8) s3_1x) ?_
    refine RQ.y rfl (Y.assign (v := uxs8) rfl) ?_
    refine RQ.nil ?_
    refine then_n ?_
    refine wp_ret ?_
    obtain rfl := Option.some.inj hm
    exact (ret1 rfl rfl rfl ⟨⟨_, _, rfl, Guxs8⟩, T⟩)
  · rintro g f w12 ⟨xs10, i11, uxs10, bsxs10, s0_1, s3_1, Guxs10, s4_1, nn4_1, T, hm⟩
    rcases g with _ | g
    · simp only [m_laws_toTypeS_L1] at hm; cases hm
    obtain ⟨rec1, hrec1, hm⟩ : ∃ z, z = m_laws_toTypeS_L1 self1 d0 K1 g ∧ m_laws_toTypeS_B1 self1 d0 z K1 xs10 i11 = some r := ⟨_, rfl, hm⟩
    unfold m_laws_toTypeS_B1 at hm
    refine wp_seq ?_
    refine wp_seq ?_
    refine wp_rs rfl ?_
    refine RQ.y rfl (Y.move (v := .int .i64 i11) s4_1) ?_
    refine RQ.y rfl (Y.move (v := .slice Aa0 d0.length ca0) s0_1) ?_
    refine RQ.y rfl (Y.len (by kernel_rfl) rfl) ?_
    refine RQ.y rfl (Y.binI (v := .bool (decide (i11 < (d0.length : Int)))) rfl rfl rfl) ?_
    refine RQ.nil ?_
    refine then_n ?_
    rcases bcases (decide (i11 < (d0.length : Int))) with c13 | c13
    · replace hm := cF c13 hm
      have pc13 := of_decide_eq_false c13
      refine cond_f rfl (vb rfl c13) ?_
      refine wp_exit ?_
      exact (then_x (then_x (hit_x ⟨_, rfl, ⟨xs10, (uxs10), bsxs10, s3_1, Guxs10, T, (by rw [hK1] at hm; exact hm)⟩⟩)))
    · replace hm := cT c13 hm
      have pc13 := of_decide_eq_true c13
      refine cond_t rfl (vb rfl c13) ?_
      refine wp_skip ?_
      refine then_n ?_
      refine wp_seq ?_
      refine wp_block ?_
      refine wp_rl rfl ?_
      refine RL.y rfl (Y.move (v := uxs10) s3_1) ?_
      refine RL.y rfl (Y.move (v := .int .i64 i11) s4_1) ?_
      refine RL.y rfl (Y.move (v := .slice Aa0 d0.length ca0) s0_1) ?_
      refine RL.y rfl (Y.move (v := .int .i64 i11) s4_1) ?_
      obtain ⟨x14, hx17, hm⟩ := bnd hm
      obtain ⟨k15, hk18, hl19, hx17⟩ := getI_some hx17
      obtain ⟨b21, o22, rfl, hbb21⟩ := ha0.addr (by omega)
      obtain ⟨cs16, hRcs16, hc20⟩ := ha0.el hx17
      have hScs16 := hRcs16
      obtain ⟨A23, n23, c23, rfl, ⟨h23, r23⟩⟩ := (typeRd_out hRcs16)
      have e23 := h23.len; subst e23
      have q23 := len_le r23
      refine RL.y rfl (Y.indexAddr (m := k15) (sz := 3) rfl rfl hk18 hl19 (by kernel_rfl)) ?_
      refine RL.y rfl (Y.loadN (cs := [.int .i64 x14.kind, .string x14.name, .slice A23 x14.kids.length c23]) rfl (by kernel_rfl) (cells3 (eqC (cellT T (hc20 0 _ rfl))) (eqC (cellT T (hc20 1 _ rfl))) (eqC (cellT T (hc20 2 _ rfl))))) ?_
      obtain ⟨y24, e25, hm⟩ := bnd hm
      refine RL.call rfl (am1 rfl) (by kernel_rfl) ((ih1 x14 _ e25 _ _ (stArg (R := typeRd) (typeRd_in ⟨_, _, _, rfl, ⟨SlAt.now typeRd_ok h23 (Nat.le_refl _) T, r23⟩⟩))).mono ?_)
      rintro _ w30 ⟨⟨v26, bs29, rfl, G27⟩, hb31⟩
      refine ⟨_, rfl, ?_⟩
      have szw30 := hb31.size
      have T0w30 := T.size
      have Zo28_oxs10 : Ap bs29 bsxs10 := (Ap.new (OwN.lo_ G27) (OwN.hi Guxs10))
      have Guxs10 := OwN.below typeOw_ok Guxs10 hb31
      have T := Tt T hb31
      replace G27 := OwN.mono G27 T0w30
      obtain ⟨A32, c33, rfl⟩ := OwN.form Guxs10
      have qbA32 := OwN.bound Guxs10
      obtain ⟨x34, hx36, hm⟩ := bnd hm
      obtain ⟨k35, hk37, hl38, hx36⟩ := getI_some hx36
      obtain ⟨b39, rfl⟩ := OwN.addr0 Guxs10 (by omega)
      refine RL.y rfl (Y.indexAddr (m := k35) (sz := 3) rfl rfl hk37 hl38 (by kernel_rfl)) ?_
      obtain ⟨A40, c41, rfl⟩ := OwN.form G27
      have qbA40 := OwN.bound G27
      obtain ⟨_, _, _, l43, hea42, a42, nd44, sb45, r46⟩ := OwN.own1 typeOw_ok G27
      injection hea42 with e1 e2 e3; subst e1 e2 e3
      refine RL.storeNW (k := k35) (a' := y24) (l := l43) (fp := bs29) typeOw_ok typeOw_one rfl rfl rfl Guxs10 hx36 (typeOw_in ⟨_, _, _, l43, rfl, ⟨a42, r46⟩, rfl⟩) nd44 sb45 (Ap.symm Zo28_oxs10) (OwN.both G27 (Nat.le_refl _)) (by kernel_rfl) (fun w47 G48 ho49 => ?_)
      have szw47 := ho49.size
      have T := T.trans (ho49.below (by intro b hb; simp at hb; subst hb; exact OwN.lo_ Guxs10 _ (OwN.row Guxs10 rfl)))
      have G48 : OwN 110 typeOw 3 w47 w.heap.size (.slice (some ⟨b39, 0, none⟩) xs10.length c33) (setI xs10 i11 y24) (bsxs10 ++ bs29) := by rw [setI_eq hk37]; exact G48
      refine RL.nil ?_
      refine blk_n (then_n ?_)
      refine wp_rs rfl ?_
      refine RQ.y rfl (Y.move (v := .int .i64 i11) s4_1) ?_
      refine RQ.y rfl (Y.binI rfl rfl (binI_add (m := i11) (by omega))) ?_
      refine RQ.y rfl (Y.assign (v := .int .i64 (i11 + 1)) rfl) ?_
      refine RQ.nil ?_
      exact (then_n ⟨g, _, Nat.lt_succ_self _, rfl, ⟨(setI xs10 i11 y24), (i11 + 1), (.slice (some ⟨b39, 0, none⟩) xs10.length c33), (bsxs10 ++ bs29), s0_1, s3_1, G48, rfl, (by omega), T, (by rw [← hrec1]; exact hm)⟩⟩)
noncomputable def m_laws_toType_R (self0 : (List DType) → Option (List DType)) (self1 : DType → Option DType) (d0 : DType) : Option DType :=
  ((self0 d0.kids).bind fun y20 => some (⟨d0.kind, d0.name, y20⟩ : DType))
set_option maxHeartbeats 2000000 in
theorem c_m_laws_toType_S (self0 : (List DType) → Option (List DType)) (self1 : DType → Option DType) (ih0 : ∀ (d0 : List DType) (r : List DType) (hm : self0 d0 = some r) (v0 : Value) (w : World) (hv0 : Sl typeRd 3 w v0 d0), Calls Try.prog 63 #[v0] w fun e w' => (∃ (v0 : Value) (bs0 : List Nat), e = .returned (v0) ∧ OwN 110 typeOw 3 w' w.heap.size v0 r bs0) ∧ Below w.heap.size w w') (ih1 : ∀ (d0 : DType) (r : DType) (hm : self1 d0 = some r) (v0 : Value) (w : World) (hv0 : St typeRd w v0 d0), Calls Try.prog 111 #[v0] w fun e w' => (∃ (v0 : Value) (bs0 : List Nat), e = .returned (.agg #[.int .i64 r.kind, .string r.name, v0]) ∧ OwN 110 typeOw 3 w' w.heap.size v0 r.kids bs0) ∧ Below w.heap.size w w') : ∀ (d0 : DType) (r : DType) (hm : m_laws_toType_R self0 self1 d0 = some r) (v0 : Value) (w : World) (hv0 : St typeRd w v0 d0),
    Calls Try.prog 111 #[v0] w fun e w' => (∃ (v0 : Value) (bs0 : List Nat), e = .returned (.agg #[.int .i64 r.kind, .string r.name, v0]) ∧ OwN 110 typeOw 3 w' w.heap.size v0 r.kids bs0) ∧ Below w.heap.size w w' := by
  intro d0 r hm v0 w hv0
  obtain ⟨csa0, rfl, hRR0⟩ := hv0
  obtain ⟨A1, n1, c1, rfl, ⟨h1, r1⟩⟩ := (typeRd_out hRR0)
  have e1 := h1.len; subst e1
  have q1 := len_le r1
  have T := Below.refl w.heap.size w
  unfold m_laws_toType_R at hm
  refine enter 15 Try.func111 rfl rfl rfl ?_
  intro f hf
  have s0 : f 0 = .agg #[.int .i64 d0.kind, .string d0.name, .slice A1 d0.kids.length c1] := hf 0 _ rfl
  refine wp_seq ?_
  refine wp_rl rfl ?_
  refine RL.box rfl s0 (fun w2 B3 hb4 szw2 => ?_)
  replace B3 : Blk w2 w.heap.size 155 #[.int .i64 d0.kind, .string d0.name, .slice A1 d0.kids.length c1] := B3
  have GB3 : w.heap.size ≤ w.heap.size := T.size
  have T := Tt T hb4
  refine RL.alloc (z := .agg #[.int .i64 0, .string ByteArray.empty, .slice none 0 0]) rfl (by kernel_rfl) (fun w6 B7 hb8 szw6 => ?_)
  replace B7 : Blk w6 w2.heap.size 110 #[.int .i64 0, .string ByteArray.empty, .slice none 0 0] := B7
  have GB7 : w.heap.size ≤ w2.heap.size := T.size
  have Eob9_ob5 := Nat.ne_of_lt B3.lt
  have B3 := blkT B3 hb8
  have T := Tt T hb8
  refine RL.nil ?_
  refine then_n ?_
  refine wp_seq ?_
  refine wp_rl rfl ?_
  refine RL.alloc (z := .agg #[.int .i64 0, .string ByteArray.empty, .slice none 0 0]) rfl (by kernel_rfl) (fun w10 B11 hb12 szw10 => ?_)
  replace B11 : Blk w10 w6.heap.size 110 #[.int .i64 0, .string ByteArray.empty, .slice none 0 0] := B11
  have GB11 : w.heap.size ≤ w6.heap.size := T.size
  have Eob13_ob5 := Nat.ne_of_lt B3.lt
  have Eob13_ob9 := Nat.ne_of_lt B7.lt
  have B3 := blkT B3 hb12
  have B7 := blkT B7 hb12
  have T := Tt T hb12
  refine RL.nil ?_
  refine then_n ?_
  refine wp_seq ?_
  refine wp_rl rfl ?_
  refine RL.y rfl (Y.fieldAddr (off := 0) rfl (by kernel_rfl)) ?_
  refine RL.y rfl (Y.load (v := .int .i64 d0.kind) rfl (by kernel_rfl) (eqC (blkCell B3 (i := 0) rfl))) ?_
  refine RL.y rfl (Y.fieldAddr (off := 0) rfl (by kernel_rfl)) ?_
  refine RL.store (v := .int .i64 d0.kind) (cs' := #[.int .i64 d0.kind, .string ByteArray.empty, .slice none 0 0]) rfl rfl rfl B11 (by kernel_rfl) (by rfl) (by rfl) (by rfl) (fun w14 B15 ho16 => ?_)
  have szw14 := ho16.size
  have B3 := B3.only_ ho16 (by intro hin; simp at hin; exact Eob13_ob5 hin)
  have B7 := B7.only_ ho16 (by intro hin; simp at hin; exact Eob13_ob9 hin)
  have T := T.trans (ho16.below (by first | (simp; done) | (simp; omega)))
  refine RL.nil ?_
  refine then_n ?_
  refine wp_seq ?_
  refine wp_rl rfl ?_
  refine RL.y rfl (Y.fieldAddr (off := 1) rfl (by kernel_rfl)) ?_
  refine RL.y rfl (Y.load (v := .string d0.name) rfl (by kernel_rfl) (eqC (blkCell B3 (i := 1) rfl))) ?_
  refine RL.y rfl (Y.fieldAddr (off := 1) rfl (by kernel_rfl)) ?_
  refine RL.store (v := .string d0.name) (cs' := #[.int .i64 d0.kind, .string d0.name, .slice none 0 0]) rfl rfl rfl B15 (by kernel_rfl) (by rfl) (by rfl) (by rfl) (fun w17 B18 ho19 => ?_)
  have szw17 := ho19.size
  have B3 := B3.only_ ho19 (by intro hin; simp at hin; exact Eob13_ob5 hin)
  have B7 := B7.only_ ho19 (by intro hin; simp at hin; exact Eob13_ob9 hin)
  have T := T.trans (ho19.below (by first | (simp; done) | (simp; omega)))
  refine RL.nil ?_
  refine then_n ?_
  refine wp_seq ?_
  refine wp_rl rfl ?_
  refine RL.y rfl (Y.fieldAddr (off := 2) rfl (by kernel_rfl)) ?_
  refine RL.y rfl (Y.load (v := .slice A1 d0.kids.length c1) rfl (by kernel_rfl) (eqC (blkCell B3 (i := 2) rfl))) ?_
  obtain ⟨y20, e21, hm⟩ := bnd hm
  refine RL.call rfl (am1 rfl) (by kernel_rfl) ((ih0 d0.kids _ e21 _ _ (slArg typeRd_ok h1 r1 T)).mono ?_)
  rintro _ w26 ⟨⟨v22, bs25, rfl, G23⟩, hb27⟩
  refine ⟨_, rfl, ?_⟩
  have szw26 := hb27.size
  have T0w26 := T.size
  have Zo24_ob5 : Ap bs25 [w.heap.size] := (Ap.new (OwN.lo_ G23) (one_hi B3.lt))
  have Zo24_ob9 : Ap bs25 [w2.heap.size] := (Ap.new (OwN.lo_ G23) (one_hi B7.lt))
  have Zo24_ob13 : Ap bs25 [w6.heap.size] := (Ap.new (OwN.lo_ G23) (one_hi B18.lt))
  have B3 := blkT B3 hb27
  have B7 := blkT B7 hb27
  have B18 := blkT B18 hb27
  have T := Tt T hb27
  replace G23 := OwN.mono G23 T0w26
  refine RL.y rfl (Y.fieldAddr (off := 2) rfl (by kernel_rfl)) ?_
  obtain ⟨A28, c29, rfl⟩ := OwN.form G23
  have qbA28 := OwN.bound G23
  refine RL.store (v := .slice A28 y20.length c29) (cs' := #[.int .i64 d0.kind, .string d0.name, .slice A28 y20.length c29]) rfl rfl rfl B18 (by kernel_rfl) (by rfl) (by rfl) (by rfl) (fun w30 B31 ho32 => ?_)
  have szw30 := ho32.size
  have B3 := B3.only_ ho32 (by intro hin; simp at hin; exact Eob13_ob5 hin)
  have B7 := B7.only_ ho32 (by intro hin; simp at hin; exact Eob13_ob9 hin)
  have G23 := OwN.only typeOw_ok G23 ho32 (Ap.one Zo24_ob13)
  have T := T.trans (ho32.below (by first | (simp; done) | (simp; omega)))
  refine RL.nil ?_
  refine then_n ?_
  refine wp_seq ?_
  refine wp_rl rfl ?_
  refine RL.y rfl (Y.loadN (cs := [.int .i64 d0.kind, .string d0.name, .slice A28 y20.length c29]) rfl (by kernel_rfl) (cells3 (eqC (blkCell B31 (i := 0) rfl)) (eqC (blkCell B31 (i := 1) rfl)) (eqC (blkCell B31 (i := 2) rfl)))) ?_
  refine RL.store (v := .agg #[.int .i64 d0.kind, .string d0.name, .slice A28 y20.length c29]) (cs' := #[.int .i64 d0.kind, .string d0.name, .slice A28 y20.length c29]) rfl rfl rfl B7 (by kernel_rfl) (by rfl) (by rfl) (by rfl) (fun w33 B34 ho35 => ?_)
  have szw33 := ho35.size
  have B31 := B31.only_ ho35 (by intro hin; simp at hin; exact Eob13_ob9.symm hin)
  have G23 := OwN.only typeOw_ok G23 ho35 (Ap.one Zo24_ob9)
  have T := T.trans (ho35.below (by first | (simp; done) | (simp; omega)))
  refine RL.nil ?_
  refine then_n ?_
  refine wp_ret ?_
  obtain rfl := Option.some.inj hm
  exact (retc (cs := [.int .i64 d0.kind, .string d0.name, .slice A28 y20.length c29]) rfl rfl rfl (by kernel_rfl) (blkCells B34) ⟨⟨_, _, rfl, G23⟩, T⟩)
noncomputable def g_m_laws_toTypeS : Nat → ((List DType) → Option (List DType)) × (DType → Option DType)
  | 0 => (fun _ => none, fun _ => none)
  | gas + 1 => (m_laws_toTypeS_R (g_m_laws_toTypeS gas).1 (g_m_laws_toTypeS gas).2, m_laws_toType_R (g_m_laws_toTypeS gas).1 (g_m_laws_toTypeS gas).2)
noncomputable def m_laws_toTypeS (gas : Nat) : (List DType) → Option (List DType) := (g_m_laws_toTypeS gas).1
noncomputable def m_laws_toType (gas : Nat) : DType → Option DType := (g_m_laws_toTypeS gas).2
theorem c_g_m_laws_toTypeS : ∀ gas : Nat, (∀ (d0 : List DType) (r : List DType) (hm : m_laws_toTypeS gas d0 = some r) (v0 : Value) (w : World) (hv0 : Sl typeRd 3 w v0 d0), Calls Try.prog 63 #[v0] w fun e w' => (∃ (v0 : Value) (bs0 : List Nat), e = .returned (v0) ∧ OwN 110 typeOw 3 w' w.heap.size v0 r bs0) ∧ Below w.heap.size w w') ∧ (∀ (d0 : DType) (r : DType) (hm : m_laws_toType gas d0 = some r) (v0 : Value) (w : World) (hv0 : St typeRd w v0 d0), Calls Try.prog 111 #[v0] w fun e w' => (∃ (v0 : Value) (bs0 : List Nat), e = .returned (.agg #[.int .i64 r.kind, .string r.name, v0]) ∧ OwN 110 typeOw 3 w' w.heap.size v0 r.kids bs0) ∧ Below w.heap.size w w') := by
  intro gas
  induction gas with
  | zero => exact ⟨(fun _ r hm => by have h0 : (none : Option _) = some r := hm; cases h0), (fun _ r hm => by have h0 : (none : Option _) = some r := hm; cases h0)⟩
  | succ gas ih => exact ⟨c_m_laws_toTypeS_S _ _ (ih).1 (ih).2, c_m_laws_toType_S _ _ (ih).1 (ih).2⟩
theorem c_m_laws_toTypeS (gas : Nat) : ∀ (d0 : List DType) (r : List DType) (hm : m_laws_toTypeS gas d0 = some r) (v0 : Value) (w : World) (hv0 : Sl typeRd 3 w v0 d0), Calls Try.prog 63 #[v0] w fun e w' => (∃ (v0 : Value) (bs0 : List Nat), e = .returned (v0) ∧ OwN 110 typeOw 3 w' w.heap.size v0 r bs0) ∧ Below w.heap.size w w' := (c_g_m_laws_toTypeS gas).1
end
section
open Go.RowKit
set_option linter.unusedVariables false
set_option linter.unusedSimpArgs false
theorem szInt64S_v (v : Value) (xs : List Int) (left : Int) (w : World) {B : Nat} (h : RdS intRd 1 w B v xs) (hB : B ≤ w.heap.size) (h0 : 0 ≤ left) (h1 : left ≤ 1048576) :
    Calls Try.prog 118 #[v, .int .i64 left] w fun e w' => e = .returned (.int .i64 (szL left xs.length)) ∧ Below w.heap.size w w' := by
  obtain ⟨A, n, c, rfl, h, hnc, hcm⟩ := h
  have hr := Below.refl w.heap.size w
  have hl := h.len
  rw [← hl]
  unfold maxLen at hcm
  clear h hl
  by_cases hl : left - n < 0
  · have He := Lib.hid (szL_neg hl)
    go_enter Try.func118, Try.ntmps118
    go_wp2
    go_ret
    exact ⟨by rw [He.out]; rfl, hr⟩
  · have He := Lib.hid (szL_pos hl)
    go_enter Try.func118, Try.ntmps118
    go_wp2
    go_ret
    exact ⟨by rw [He.out]; rfl, hr⟩
theorem szPortS_v (v : Value) (xs : List DPort) (left : Int) (w : World) {B : Nat} (h : RdS portRd 2 w B v xs) (hB : B ≤ w.heap.size) (h0 : 0 ≤ left) (h1 : left ≤ 1048576) :
    Calls Try.prog 119 #[v, .int .i64 left] w fun e w' => e = .returned (.int .i64 (szL left xs.length)) ∧ Below w.heap.size w w' := by
  obtain ⟨A, n, c, rfl, h, hnc, hcm⟩ := h
  have hr := Below.refl w.heap.size w
  have hl := h.len
  rw [← hl]
  unfold maxLen at hcm
  clear h hl
  by_cases hl : left - n < 0
  · have He := Lib.hid (szL_neg hl)
    go_enter Try.func119, Try.ntmps119
    go_wp2
    go_ret
    exact ⟨by rw [He.out]; rfl, hr⟩
  · have He := Lib.hid (szL_pos hl)
    go_enter Try.func119, Try.ntmps119
    go_wp2
    go_ret
    exact ⟨by rw [He.out]; rfl, hr⟩
set_option maxHeartbeats 1000000 in
theorem szAgent_v (v : Value) (x : DAgent) (left : Int) (w : World) {B : Nat} (h : RdT agentRd w B v x) (hB : B ≤ w.heap.size) (h0 : 0 ≤ left) (h1 : left ≤ 1048576) :
    Calls Try.prog 71 #[v, .int .i64 left] w fun e w' => e = .returned (.int .i64 (szL left (szAgent x))) ∧ Below w.heap.size w w' := by
  obtain ⟨cs, rfl, A1, n1, c1, A2, n2, c2, rfl, ⟨g1, r1⟩, ⟨g2, r2⟩⟩ := h
  have hb : ∀ o1, Below w.heap.size w (w.alloc o1) := fun o1 => (Below.refl _ _).alloc (Nat.le_refl _) _
  obtain ⟨s0, es0⟩ : ∃ s : Nat, s = x.data.length := ⟨_, rfl⟩
  obtain ⟨s1, es1⟩ : ∃ s : Nat, s = x.ports.length := ⟨_, rfl⟩
  have Hs : Hid (szAgent x = s0 + s1) := by show _ = _; rw [es0, es1]; rfl
  have Es0 := Lib.hid es0
  have Es1 := Lib.hid es1
  clear es0 es1
  by_cases d0 : left - (s0 : Int) < 0
  · have He : Hid (szL left (szAgent x) = -1) := by show _ = _; rw [Hs.out, szL_neg (by omega)]
    go_enter Try.func71, Try.ntmps71
    go_wp2_with fail
    refine (szInt64S_v _ x.data (left) _ (B := B) ⟨A1, n1, c1, rfl, g1.below intRd_ok ((hb _).mono hB), r1⟩ (Nat.le_trans hB (hb _).size) (by omega) (by omega)).mono ?_
    rw [← Es0.out, szL_neg (by omega)]
    rintro e w1 ⟨rfl, q1⟩
    have T := (hb _).trans (q1.mono (hb _).size)
    have B1 := (Blk.new w _ _).below q1 (by simp)
    have z1 : w.heap.size + 1 ≤ w1.heap.size := by have := q1.size; simpa using this
    clear q1
    go_wp2_with fail
    go_ret
    exact ⟨by rw [He.out]; rfl, T⟩
  · skip
    by_cases d1 : left - s0 - (s1 : Int) < 0
    · have He : Hid (szL left (szAgent x) = -1) := by show _ = _; rw [Hs.out, szL_neg (by omega)]
      go_enter Try.func71, Try.ntmps71
      go_wp2_with fail
      refine (szInt64S_v _ x.data (left) _ (B := B) ⟨A1, n1, c1, rfl, g1.below intRd_ok ((hb _).mono hB), r1⟩ (Nat.le_trans hB (hb _).size) (by omega) (by omega)).mono ?_
      rw [← Es0.out, szL_pos (by omega)]
      rintro e w1 ⟨rfl, q1⟩
      have T := (hb _).trans (q1.mono (hb _).size)
      have B1 := (Blk.new w _ _).below q1 (by simp)
      have z1 : w.heap.size + 1 ≤ w1.heap.size := by have := q1.size; simpa using this
      clear q1
      have cB := B1.cell
      go_wp2_with fail
      clear cB
      refine (szPortS_v _ x.ports (left - s0) _ (B := B) ⟨A2, n2, c2, rfl, g2.below portRd_ok ((T).mono hB), r2⟩ (Nat.le_trans hB (T).size) (by omega) (by omega)).mono ?_
      rw [← Es1.out, szL_neg (by omega)]
      rintro e w2 ⟨rfl, q2⟩
      have T := T.trans (q2.mono T.size)
      have B1 := B1.below q2 (by omega)
      have z2 := Nat.le_trans z1 q2.size
      clear q2
      go_wp2_with fail
      go_ret
      exact ⟨by rw [He.out]; rfl, T⟩
    · skip
      have He : Hid (szL left (szAgent x) = left - s0 - s1) := by show _ = _; rw [Hs.out, szL_pos (by omega)]; try omega
      go_enter Try.func71, Try.ntmps71
      go_wp2_with fail
      refine (szInt64S_v _ x.data (left) _ (B := B) ⟨A1, n1, c1, rfl, g1.below intRd_ok ((hb _).mono hB), r1⟩ (Nat.le_trans hB (hb _).size) (by omega) (by omega)).mono ?_
      rw [← Es0.out, szL_pos (by omega)]
      rintro e w1 ⟨rfl, q1⟩
      have T := (hb _).trans (q1.mono (hb _).size)
      have B1 := (Blk.new w _ _).below q1 (by simp)
      have z1 : w.heap.size + 1 ≤ w1.heap.size := by have := q1.size; simpa using this
      clear q1
      have cB := B1.cell
      go_wp2_with fail
      clear cB
      refine (szPortS_v _ x.ports (left - s0) _ (B := B) ⟨A2, n2, c2, rfl, g2.below portRd_ok ((T).mono hB), r2⟩ (Nat.le_trans hB (T).size) (by omega) (by omega)).mono ?_
      rw [← Es1.out, szL_pos (by omega)]
      rintro e w2 ⟨rfl, q2⟩
      have T := T.trans (q2.mono T.size)
      have B1 := B1.below q2 (by omega)
      have z2 := Nat.le_trans z1 q2.size
      clear q2
      go_wp2_with fail
      go_ret
      exact ⟨by rw [He.out]; rfl, T⟩
theorem szAgentS_take {xs : List DAgent} {k : Nat} {x : DAgent} (h : xs[k]? = some x) : ((xs.take (k + 1)).map szAgent).sum = ((xs.take k).map szAgent).sum + szAgent x := by
  rw [take_succ_some h]; simp
theorem szAgentS_le (xs : List DAgent) (k : Nat) : ((xs.take k).map szAgent).sum ≤ (xs.map szAgent).sum := by
  have h : ((xs.take k ++ xs.drop k).map szAgent).sum = (xs.map szAgent).sum := by rw [List.take_append_drop]
  rw [List.map_append, List.sum_append] at h
  omega
set_option maxHeartbeats 1000000 in
theorem szAgentS_v (v : Value) (xs : List DAgent) (left : Int) (w : World) {B : Nat} (h : RdS agentRd 5 w B v xs) (hB : B ≤ w.heap.size) (h0 : 0 ≤ left) (h1 : left ≤ 1048576) :
    Calls Try.prog 34 #[v, .int .i64 left] w fun e w' => e = .returned (.int .i64 (szL left (szAgentS xs))) ∧ Below w.heap.size w w' := by
  obtain ⟨A, n, c, rfl, hx, hnc, hcm⟩ := h
  have hr := Below.refl w.heap.size w
  unfold maxLen at hcm
  have lx := Lib.hid hx.len
  by_cases hl : left - n < 0
  · have He : Hid (szL left (szAgentS xs) = -1) := szL_neg (by unfold szAgentS; rw [← lx.out]; omega)
    go_enter Try.func34, Try.ntmps34
    go_wp2
    go_ret
    exact ⟨by rw [He.out]; rfl, hr⟩
  · go_enter Try.func34, Try.ntmps34
    go_wp2
    go_loopw [1, 5] (fun s i wr => ∃ (k : Nat) (l : Int), k ≤ n ∧ i = .int .i64 k ∧ s = .int .i64 l ∧ 0 ≤ l ∧ l ≤ 1048576 ∧ Hid (l = left - n - (((xs.take k).map szAgent).sum : Nat)) ∧ Below w.heap.size w wr) (fun _ i _ => n - (intOf i).toNat)
    case atStart => exact ⟨0, left - n, by omega, rfl, rfl, by omega, by omega, by simp [Hid], hr⟩
    case round =>
      obtain ⟨k, s, hk, rfl, rfl, hs0, hs1, hs, hq⟩ := hrel
      by_cases hlt : k < n
      · obtain ⟨b, off, x, A1, n1, c1, A2, n2, c2, rfl, hb, hxk, hc0, hc1, hc2, hc3, hc4, ⟨g1, r1⟩, ⟨g2, r2⟩⟩ := (hx.below agentRd_ok (hq.mono hB)).agent hlt
        have Hxk := Lib.hid hxk
        clear hxk
        by_cases hd : s - (szAgent x : Int) < 0
        · have f := szL_neg hd
          have He : Hid (szL left (szAgentS xs) = -1) := szL_neg (by
            have e1 := szAgentS_le xs (k + 1)
            rw [szAgentS_take Hxk.out] at e1
            have e2 := hs.out
            have e3 := lx.out
            unfold szAgentS
            omega)
          go_wp2_with fail
          refine (szAgent_v _ x s _ (B := B) ⟨_, rfl, A1, n1, c1, A2, n2, c2, rfl, ⟨g1, r1⟩, ⟨g2, r2⟩⟩ (Nat.le_trans hB hq.size) hs0 hs1).mono ?_
          rintro e w1 ⟨rfl, q1⟩
          go_wp2_with fail
          go_ret
          exact ⟨by rw [He.out]; rfl, hq.trans (q1.mono hq.size)⟩
        · have f := szL_pos hd
          have Hn : Hid (s - (szAgent x : Int) = left - n - (((xs.take (k + 1)).map szAgent).sum : Nat)) := by
            have e1 := szAgentS_take Hxk.out
            have e2 := hs.out
            show _ = _
            rw [e1]
            omega
          go_wp2_with fail
          refine (szAgent_v _ x s _ (B := B) ⟨_, rfl, A1, n1, c1, A2, n2, c2, rfl, ⟨g1, r1⟩, ⟨g2, r2⟩⟩ (Nat.le_trans hB hq.size) hs0 hs1).mono ?_
          rintro e w1 ⟨rfl, q1⟩
          go_wp2_with fail
          go_roundw
          case rel => exact ⟨k + 1, s - (szAgent x : Int), by omega, by go_num, rfl, by omega, by omega, Hn.out, hq.trans (q1.mono hq.size)⟩
          case measure => simp [intOf]; omega
      · have He : Hid (szL left (szAgentS xs) = s) := by
          have e1 : xs.take k = xs := List.take_of_length_le (by have := lx.out; omega)
          have e2 := hs.out
          rw [e1] at e2
          have e3 := lx.out
          show _ = _
          rw [szL_pos (by unfold szAgentS; omega)]
          unfold szAgentS
          omega
        go_wp2_with fail
        go_ret
        exact ⟨by rw [He.out]; rfl, hq⟩
set_option maxHeartbeats 1000000 in
theorem szNet_v (v : Value) (x : DNet) (left : Int) (w : World) {B : Nat} (h : RdT netRd w B v x) (hB : B ≤ w.heap.size) (h0 : 0 ≤ left) (h1 : left ≤ 1048576) :
    Calls Try.prog 8 #[v, .int .i64 left] w fun e w' => e = .returned (.int .i64 (szL left (szNet x))) ∧ Below w.heap.size w w' := by
  obtain ⟨cs, rfl, A1, n1, c1, rfl, ⟨g1, r1⟩⟩ := h
  have hb : ∀ o1, Below w.heap.size w (w.alloc o1) := fun o1 => (Below.refl _ _).alloc (Nat.le_refl _) _
  obtain ⟨s0, es0⟩ : ∃ s : Nat, s = szAgentS x.agents := ⟨_, rfl⟩
  have Hs : Hid (szNet x = s0) := by show _ = _; rw [es0]; rfl
  have Es0 := Lib.hid es0
  clear es0
  by_cases d0 : left - (s0 : Int) < 0
  · have He : Hid (szL left (szNet x) = -1) := by show _ = _; rw [Hs.out, szL_neg (by omega)]
    go_enter Try.func8, Try.ntmps8
    go_wp2_with fail
    refine (szAgentS_v _ x.agents (left) _ (B := B) ⟨A1, n1, c1, rfl, g1.below agentRd_ok ((hb _).mono hB), r1⟩ (Nat.le_trans hB (hb _).size) (by omega) (by omega)).mono ?_
    rw [← Es0.out, szL_neg (by omega)]
    rintro e w1 ⟨rfl, q1⟩
    have T := (hb _).trans (q1.mono (hb _).size)
    have B1 := (Blk.new w _ _).below q1 (by simp)
    have z1 : w.heap.size + 1 ≤ w1.heap.size := by have := q1.size; simpa using this
    clear q1
    go_wp2_with fail
    go_ret
    exact ⟨by rw [He.out]; rfl, T⟩
  · skip
    have He : Hid (szL left (szNet x) = left - s0) := by show _ = _; rw [Hs.out, szL_pos (by omega)]; try omega
    go_enter Try.func8, Try.ntmps8
    go_wp2_with fail
    refine (szAgentS_v _ x.agents (left) _ (B := B) ⟨A1, n1, c1, rfl, g1.below agentRd_ok ((hb _).mono hB), r1⟩ (Nat.le_trans hB (hb _).size) (by omega) (by omega)).mono ?_
    rw [← Es0.out, szL_pos (by omega)]
    rintro e w1 ⟨rfl, q1⟩
    have T := (hb _).trans (q1.mono (hb _).size)
    have B1 := (Blk.new w _ _).below q1 (by simp)
    have z1 : w.heap.size + 1 ≤ w1.heap.size := by have := q1.size; simpa using this
    clear q1
    go_wp2_with fail
    go_ret
    exact ⟨by rw [He.out]; rfl, T⟩
end
section
open Go.RowKit
set_option linter.unusedVariables false
set_option linter.unusedSimpArgs false
set_option maxHeartbeats 1000000 in
theorem eqPort_v (v u : Value) (x y : DPort) (w : World) {B B' : Nat} (h : RdT portRd w B v x) (h' : RdT portRd w B' u y) (hB : B ≤ w.heap.size) (hB' : B' ≤ w.heap.size) :
    Calls Try.prog 164 #[v, u] w fun e w' => e = .returned (.bool (decide (x = y))) ∧ Below w.heap.size w w' := by
  obtain ⟨cs, rfl, rfl⟩ := h
  obtain ⟨cs, rfl, rfl⟩ := h'
  have hb : ∀ o1 o2, Below w.heap.size w ((w.alloc o1).alloc o2) := fun o1 o2 => ((Below.refl _ _).alloc (Nat.le_refl _) _).alloc (by simp) _
  by_cases e0 : x.agent = y.agent
  · have f0 : (x.agent != y.agent) = false := by simp [e0]
    by_cases e1 : x.slot = y.slot
    · have f1 : (x.slot != y.slot) = false := by simp [e1]
      have He : Hid (decide (x = y) = true) := decide_eq_true (by cases x; cases y; simp_all)
      clear e0 e1
      go_enter Try.func164, Try.ntmps164
      go_wp2_with fail
      go_ret
      exact ⟨by rw [He.out]; rfl, hb _ _⟩
    · have f1 : (x.slot != y.slot) = true := by simp [e1]
      have He : Hid (decide (x = y) = false) := decide_eq_false (by intro exy; exact e1 (by rw [exy]))
      clear e0 e1
      go_enter Try.func164, Try.ntmps164
      go_wp2_with fail
      go_ret
      exact ⟨by rw [He.out]; rfl, hb _ _⟩
  · have f0 : (x.agent != y.agent) = true := by simp [e0]
    have He : Hid (decide (x = y) = false) := decide_eq_false (by intro exy; exact e0 (by rw [exy]))
    clear e0
    go_enter Try.func164, Try.ntmps164
    go_wp2_with fail
    go_ret
    exact ⟨by rw [He.out]; rfl, hb _ _⟩
set_option maxHeartbeats 1000000 in
theorem eqPortS_v (v u : Value) (xs ys : List DPort) (w : World) {B B' : Nat} (h : RdS portRd 2 w B v xs) (h' : RdS portRd 2 w B' u ys) (hB : B ≤ w.heap.size) (hB' : B' ≤ w.heap.size) :
    Calls Try.prog 131 #[v, u] w fun e w' => e = .returned (.bool (eqL xs ys)) ∧ Below w.heap.size w w' := by
  obtain ⟨A, n, c, rfl, hx, hnc, hcm⟩ := h
  obtain ⟨C, m, d, rfl, hy, hmd, hdm⟩ := h'
  unfold maxLen at hcm hdm
  have lx := Lib.hid hx.len
  have ly := Lib.hid hy.len
  have hr := Below.refl w.heap.size w
  by_cases hnm : n = m
  · subst hnm
    go_enter Try.func131, Try.ntmps131
    go_wp2
    go_loopw [5] (fun i wr => ∃ k : Nat, k ≤ n ∧ i = .int .i64 k ∧ Hid (xs.take k = ys.take k) ∧ Below w.heap.size w wr) (fun i _ => n - (intOf i).toNat)
    case atStart => exact ⟨0, by omega, rfl, rfl, hr⟩
    case round =>
      obtain ⟨k, hk, rfl, ht, hq⟩ := hrel
      by_cases hlt : k < n
      · have hx' := hx.below portRd_ok (hq.mono hB)
        have hy' := hy.below portRd_ok (hq.mono hB')
        obtain ⟨b, off, x, rfl, hb, hxk, hc0, hc1⟩ := hx'.port hlt
        obtain ⟨b', off', y, rfl, hb', hyk, hc0', hc1'⟩ := hy'.port hlt
        have Hxk := Lib.hid hxk
        have Hyk := Lib.hid hyk
        clear hxk hyk hx' hy'
        have hzB : B ≤ wr.drew.heap.size := Nat.le_trans hB hq.size
        have hzB' : B' ≤ wr.drew.heap.size := Nat.le_trans hB' hq.size
        by_cases hxy : x = y
        · have hf : decide (x = y) = true := decide_eq_true hxy
          have Hxy := Lib.hid hxy
          clear hxy
          go_wp2_with fail
          go_region_with (go_at_call 164; refine (eqPort_v _ _ x y _ (B := 0) (B' := 0) ⟨_, rfl, rfl⟩ ⟨_, rfl, rfl⟩ (Nat.zero_le _) (Nat.zero_le _)).mono ?_; rintro e w1 ⟨rfl, hq1⟩)
          all_goals
            go_wp2_with fail
            go_roundw
            case rel => exact ⟨k + 1, by omega, by go_num, eqL_step Hxk.out Hyk.out ht.out Hxy.out, hq.drew.trans (hq1.mono hq.size)⟩
            case measure => simp [intOf]; omega
        · have hf : decide (x = y) = false := decide_eq_false hxy
          have Hno := Lib.hid (eqL_no Hxk.out Hyk.out hxy)
          clear hxy
          go_wp2_with fail
          go_region_with (go_at_call 164; refine (eqPort_v _ _ x y _ (B := 0) (B' := 0) ⟨_, rfl, rfl⟩ ⟨_, rfl, rfl⟩ (Nat.zero_le _) (Nat.zero_le _)).mono ?_; rintro e w1 ⟨rfl, hq1⟩)
          all_goals
            go_wp2_with fail
            go_ret
            exact ⟨by rw [Hno.out]; rfl, hq.drew.trans (hq1.mono hq.size)⟩
      · have Hyes := Lib.hid (eqL_yes (k := k) ht.out (by have := lx.out; omega) (by have := ly.out; omega))
        go_wp2
        go_ret
        exact ⟨by rw [Hyes.out]; rfl, hq⟩
  · have Hno := Lib.hid (eqL_len (xs := xs) (ys := ys) (by have := lx.out; have := ly.out; omega))
    have hf : ((n : Int) != (m : Int)) = true := by simp; omega
    go_enter Try.func131, Try.ntmps131
    go_wp2
    go_ret
    exact ⟨by rw [Hno.out]; rfl, hr⟩
end
section
open Go.RowKit
set_option linter.unusedVariables false
set_option linter.unusedSimpArgs false
set_option maxHeartbeats 1000000 in
theorem eqAgent_v (v u : Value) (x y : DAgent) (w : World) {B B' : Nat} (h : RdT agentRd w B v x) (h' : RdT agentRd w B' u y) (hB : B ≤ w.heap.size) (hB' : B' ≤ w.heap.size) :
    Calls Try.prog 89 #[v, u] w fun e w' => e = .returned (.bool (decide (x = y))) ∧ Below w.heap.size w w' := by
  obtain ⟨cs, rfl, A1, n1, c1, A2, n2, c2, rfl, ⟨h1, r1⟩, ⟨h2, r2⟩⟩ := h
  obtain ⟨cs, rfl, A1', n1', c1', A2', n2', c2', rfl, ⟨h1', r1'⟩, ⟨h2', r2'⟩⟩ := h'
  have hb : ∀ o1 o2, Below w.heap.size w ((w.alloc o1).alloc o2) := fun o1 o2 => ((Below.refl _ _).alloc (Nat.le_refl _) _).alloc (by simp) _
  by_cases e0 : x.kind = y.kind
  · have f0 : (x.kind != y.kind) = false := by simp [e0]
    by_cases e1 : x.level = y.level
    · have f1 : (x.level != y.level) = false := by simp [e1]
      by_cases e2 : x.value = y.value
      · have f2 : (x.value != y.value) = false := by simp [e2]
        by_cases e3 : x.data = y.data
        · have f3 : eqL x.data y.data = true := decide_eq_true e3
          by_cases e4 : x.ports = y.ports
          · have f4 : eqL x.ports y.ports = true := decide_eq_true e4
            have He : Hid (decide (x = y) = true) := decide_eq_true (by cases x; cases y; simp_all)
            clear e0 e1 e2 e3 e4
            go_enter Try.func89, Try.ntmps89
            go_wp2_with fail
            refine (eqInt64S_v _ _ x.data y.data _ (B := B) (B' := B') ⟨A1, n1, c1, rfl, h1.below intRd_ok ((hb _ _).mono hB), r1⟩ ⟨A1', n1', c1', rfl, h1'.below intRd_ok ((hb _ _).mono hB'), r1'⟩ (Nat.le_trans hB (hb _ _).size) (Nat.le_trans hB' (hb _ _).size)).mono ?_
            rintro e w1 ⟨rfl, q1⟩
            have T := (hb _ _).trans (q1.mono (hb _ _).size)
            have B1 := blk2_0.below q1 (by simp <;> omega)
            have B2 := blk2_1.below q1 (by simp <;> omega)
            have z1 : w.heap.size + 1 + 1 ≤ w1.heap.size := by have := q1.size; simpa using this
            clear q1
            have g1 := B1.cell
            have g2 := B2.cell
            go_wp2_with fail
            clear g1 g2
            refine (eqPortS_v _ _ x.ports y.ports _ (B := B) (B' := B') ⟨A2, n2, c2, rfl, h2.below portRd_ok ((T).mono hB), r2⟩ ⟨A2', n2', c2', rfl, h2'.below portRd_ok ((T).mono hB'), r2'⟩ (Nat.le_trans hB (T).size) (Nat.le_trans hB' (T).size)).mono ?_
            rintro e w2 ⟨rfl, q2⟩
            have T := T.trans (q2.mono T.size)
            have B1 := B1.below q2 (by omega)
            have B2 := B2.below q2 (by omega)
            have z2 := Nat.le_trans z1 q2.size
            clear q2
            go_wp2_with fail
            go_ret
            exact ⟨by rw [He.out]; rfl, T⟩
          · have f4 : eqL x.ports y.ports = false := decide_eq_false e4
            have He : Hid (decide (x = y) = false) := decide_eq_false (by intro exy; exact e4 (by rw [exy]))
            clear e0 e1 e2 e3 e4
            go_enter Try.func89, Try.ntmps89
            go_wp2_with fail
            refine (eqInt64S_v _ _ x.data y.data _ (B := B) (B' := B') ⟨A1, n1, c1, rfl, h1.below intRd_ok ((hb _ _).mono hB), r1⟩ ⟨A1', n1', c1', rfl, h1'.below intRd_ok ((hb _ _).mono hB'), r1'⟩ (Nat.le_trans hB (hb _ _).size) (Nat.le_trans hB' (hb _ _).size)).mono ?_
            rintro e w1 ⟨rfl, q1⟩
            have T := (hb _ _).trans (q1.mono (hb _ _).size)
            have B1 := blk2_0.below q1 (by simp <;> omega)
            have B2 := blk2_1.below q1 (by simp <;> omega)
            have z1 : w.heap.size + 1 + 1 ≤ w1.heap.size := by have := q1.size; simpa using this
            clear q1
            have g1 := B1.cell
            have g2 := B2.cell
            go_wp2_with fail
            clear g1 g2
            refine (eqPortS_v _ _ x.ports y.ports _ (B := B) (B' := B') ⟨A2, n2, c2, rfl, h2.below portRd_ok ((T).mono hB), r2⟩ ⟨A2', n2', c2', rfl, h2'.below portRd_ok ((T).mono hB'), r2'⟩ (Nat.le_trans hB (T).size) (Nat.le_trans hB' (T).size)).mono ?_
            rintro e w2 ⟨rfl, q2⟩
            have T := T.trans (q2.mono T.size)
            have B1 := B1.below q2 (by omega)
            have B2 := B2.below q2 (by omega)
            have z2 := Nat.le_trans z1 q2.size
            clear q2
            go_wp2_with fail
            go_ret
            exact ⟨by rw [He.out]; rfl, T⟩
        · have f3 : eqL x.data y.data = false := decide_eq_false e3
          have He : Hid (decide (x = y) = false) := decide_eq_false (by intro exy; exact e3 (by rw [exy]))
          clear e0 e1 e2 e3
          go_enter Try.func89, Try.ntmps89
          go_wp2_with fail
          refine (eqInt64S_v _ _ x.data y.data _ (B := B) (B' := B') ⟨A1, n1, c1, rfl, h1.below intRd_ok ((hb _ _).mono hB), r1⟩ ⟨A1', n1', c1', rfl, h1'.below intRd_ok ((hb _ _).mono hB'), r1'⟩ (Nat.le_trans hB (hb _ _).size) (Nat.le_trans hB' (hb _ _).size)).mono ?_
          rintro e w1 ⟨rfl, q1⟩
          have T := (hb _ _).trans (q1.mono (hb _ _).size)
          have B1 := blk2_0.below q1 (by simp <;> omega)
          have B2 := blk2_1.below q1 (by simp <;> omega)
          have z1 : w.heap.size + 1 + 1 ≤ w1.heap.size := by have := q1.size; simpa using this
          clear q1
          go_wp2_with fail
          go_ret
          exact ⟨by rw [He.out]; rfl, T⟩
      · have f2 : (x.value != y.value) = true := by simp [e2]
        have He : Hid (decide (x = y) = false) := decide_eq_false (by intro exy; exact e2 (by rw [exy]))
        clear e0 e1 e2
        go_enter Try.func89, Try.ntmps89
        go_wp2_with fail
        go_ret
        exact ⟨by rw [He.out]; rfl, hb _ _⟩
    · have f1 : (x.level != y.level) = true := by simp [e1]
      have He : Hid (decide (x = y) = false) := decide_eq_false (by intro exy; exact e1 (by rw [exy]))
      clear e0 e1
      go_enter Try.func89, Try.ntmps89
      go_wp2_with fail
      go_ret
      exact ⟨by rw [He.out]; rfl, hb _ _⟩
  · have f0 : (x.kind != y.kind) = true := by simp [e0]
    have He : Hid (decide (x = y) = false) := decide_eq_false (by intro exy; exact e0 (by rw [exy]))
    clear e0
    go_enter Try.func89, Try.ntmps89
    go_wp2_with fail
    go_ret
    exact ⟨by rw [He.out]; rfl, hb _ _⟩
set_option maxHeartbeats 1000000 in
theorem eqAgentS_v (v u : Value) (xs ys : List DAgent) (w : World) {B B' : Nat} (h : RdS agentRd 5 w B v xs) (h' : RdS agentRd 5 w B' u ys) (hB : B ≤ w.heap.size) (hB' : B' ≤ w.heap.size) :
    Calls Try.prog 40 #[v, u] w fun e w' => e = .returned (.bool (eqL xs ys)) ∧ Below w.heap.size w w' := by
  obtain ⟨A, n, c, rfl, hx, hnc, hcm⟩ := h
  obtain ⟨C, m, d, rfl, hy, hmd, hdm⟩ := h'
  unfold maxLen at hcm hdm
  have lx := Lib.hid hx.len
  have ly := Lib.hid hy.len
  have hr := Below.refl w.heap.size w
  by_cases hnm : n = m
  · subst hnm
    go_enter Try.func40, Try.ntmps40
    go_wp2
    go_loopw [5] (fun i wr => ∃ k : Nat, k ≤ n ∧ i = .int .i64 k ∧ Hid (xs.take k = ys.take k) ∧ Below w.heap.size w wr) (fun i _ => n - (intOf i).toNat)
    case atStart => exact ⟨0, by omega, rfl, rfl, hr⟩
    case round =>
      obtain ⟨k, hk, rfl, ht, hq⟩ := hrel
      by_cases hlt : k < n
      · have hx' := hx.below agentRd_ok (hq.mono hB)
        have hy' := hy.below agentRd_ok (hq.mono hB')
        obtain ⟨b, off, x, A1, n1, c1, A2, n2, c2, rfl, hb, hxk, hc0, hc1, hc2, hc3, hc4, ⟨h1, r1⟩, ⟨h2, r2⟩⟩ := hx'.agent hlt
        obtain ⟨b', off', y, A1', n1', c1', A2', n2', c2', rfl, hb', hyk, hc0', hc1', hc2', hc3', hc4', ⟨h1', r1'⟩, ⟨h2', r2'⟩⟩ := hy'.agent hlt
        have Hxk := Lib.hid hxk
        have Hyk := Lib.hid hyk
        clear hxk hyk hx' hy'
        have hzB : B ≤ wr.drew.heap.size := Nat.le_trans hB hq.size
        have hzB' : B' ≤ wr.drew.heap.size := Nat.le_trans hB' hq.size
        by_cases hxy : x = y
        · have hf : decide (x = y) = true := decide_eq_true hxy
          have Hxy := Lib.hid hxy
          clear hxy
          go_wp2_with fail
          go_region_with (go_at_call 89; refine (eqAgent_v _ _ x y _ (B := B) (B' := B') ⟨_, rfl, A1, n1, c1, A2, n2, c2, rfl, ⟨h1.drew intRd_ok, r1⟩, ⟨h2.drew portRd_ok, r2⟩⟩ ⟨_, rfl, A1', n1', c1', A2', n2', c2', rfl, ⟨h1'.drew intRd_ok, r1'⟩, ⟨h2'.drew portRd_ok, r2'⟩⟩ hzB hzB').mono ?_; rintro e w1 ⟨rfl, hq1⟩)
          all_goals
            go_wp2_with fail
            go_roundw
            case rel => exact ⟨k + 1, by omega, by go_num, eqL_step Hxk.out Hyk.out ht.out Hxy.out, hq.drew.trans (hq1.mono hq.size)⟩
            case measure => simp [intOf]; omega
        · have hf : decide (x = y) = false := decide_eq_false hxy
          have Hno := Lib.hid (eqL_no Hxk.out Hyk.out hxy)
          clear hxy
          go_wp2_with fail
          go_region_with (go_at_call 89; refine (eqAgent_v _ _ x y _ (B := B) (B' := B') ⟨_, rfl, A1, n1, c1, A2, n2, c2, rfl, ⟨h1.drew intRd_ok, r1⟩, ⟨h2.drew portRd_ok, r2⟩⟩ ⟨_, rfl, A1', n1', c1', A2', n2', c2', rfl, ⟨h1'.drew intRd_ok, r1'⟩, ⟨h2'.drew portRd_ok, r2'⟩⟩ hzB hzB').mono ?_; rintro e w1 ⟨rfl, hq1⟩)
          all_goals
            go_wp2_with fail
            go_ret
            exact ⟨by rw [Hno.out]; rfl, hq.drew.trans (hq1.mono hq.size)⟩
      · have Hyes := Lib.hid (eqL_yes (k := k) ht.out (by have := lx.out; omega) (by have := ly.out; omega))
        go_wp2
        go_ret
        exact ⟨by rw [Hyes.out]; rfl, hq⟩
  · have Hno := Lib.hid (eqL_len (xs := xs) (ys := ys) (by have := lx.out; have := ly.out; omega))
    have hf : ((n : Int) != (m : Int)) = true := by simp; omega
    go_enter Try.func40, Try.ntmps40
    go_wp2
    go_ret
    exact ⟨by rw [Hno.out]; rfl, hr⟩
set_option maxHeartbeats 1000000 in
theorem eqNet_v (v u : Value) (x y : DNet) (w : World) {B B' : Nat} (h : RdT netRd w B v x) (h' : RdT netRd w B' u y) (hB : B ≤ w.heap.size) (hB' : B' ≤ w.heap.size) :
    Calls Try.prog 13 #[v, u] w fun e w' => e = .returned (.bool (decide (x = y))) ∧ Below w.heap.size w w' := by
  obtain ⟨cs, rfl, A1, n1, c1, rfl, ⟨h1, r1⟩⟩ := h
  obtain ⟨cs, rfl, A1', n1', c1', rfl, ⟨h1', r1'⟩⟩ := h'
  have hb : ∀ o1 o2, Below w.heap.size w ((w.alloc o1).alloc o2) := fun o1 o2 => ((Below.refl _ _).alloc (Nat.le_refl _) _).alloc (by simp) _
  by_cases e0 : x.agents = y.agents
  · have f0 : eqL x.agents y.agents = true := decide_eq_true e0
    have He : Hid (decide (x = y) = true) := decide_eq_true (by cases x; cases y; simp_all)
    clear e0
    go_enter Try.func13, Try.ntmps13
    go_wp2_with fail
    refine (eqAgentS_v _ _ x.agents y.agents _ (B := B) (B' := B') ⟨A1, n1, c1, rfl, h1.below agentRd_ok ((hb _ _).mono hB), r1⟩ ⟨A1', n1', c1', rfl, h1'.below agentRd_ok ((hb _ _).mono hB'), r1'⟩ (Nat.le_trans hB (hb _ _).size) (Nat.le_trans hB' (hb _ _).size)).mono ?_
    rintro e w1 ⟨rfl, q1⟩
    have T := (hb _ _).trans (q1.mono (hb _ _).size)
    have B1 := blk2_0.below q1 (by simp <;> omega)
    have B2 := blk2_1.below q1 (by simp <;> omega)
    have z1 : w.heap.size + 1 + 1 ≤ w1.heap.size := by have := q1.size; simpa using this
    clear q1
    go_wp2_with fail
    go_ret
    exact ⟨by rw [He.out]; rfl, T⟩
  · have f0 : eqL x.agents y.agents = false := decide_eq_false e0
    have He : Hid (decide (x = y) = false) := decide_eq_false (by intro exy; exact e0 (by rw [exy]))
    clear e0
    go_enter Try.func13, Try.ntmps13
    go_wp2_with fail
    refine (eqAgentS_v _ _ x.agents y.agents _ (B := B) (B' := B') ⟨A1, n1, c1, rfl, h1.below agentRd_ok ((hb _ _).mono hB), r1⟩ ⟨A1', n1', c1', rfl, h1'.below agentRd_ok ((hb _ _).mono hB'), r1'⟩ (Nat.le_trans hB (hb _ _).size) (Nat.le_trans hB' (hb _ _).size)).mono ?_
    rintro e w1 ⟨rfl, q1⟩
    have T := (hb _ _).trans (q1.mono (hb _ _).size)
    have B1 := blk2_0.below q1 (by simp <;> omega)
    have B2 := blk2_1.below q1 (by simp <;> omega)
    have z1 : w.heap.size + 1 + 1 ≤ w1.heap.size := by have := q1.size; simpa using this
    clear q1
    go_wp2_with fail
    go_ret
    exact ⟨by rw [He.out]; rfl, T⟩
end
section
open Go.RowKit
set_option linter.unusedVariables false
def szNetM (x : DNet) (left : Int) : Option Int := (mustP (0 ≤ left ∧ left ≤ 1048576)).bind fun _ => some (szL left (szNet x))
def eqNetM (x y : DNet) : Option Bool := some (decide (x = y))
theorem c_szNetM (x : DNet) (left r : Int) (hm : szNetM x left = some r) (v : Value) (w : World) (h : St netRd w v x) :
    Calls Try.prog 8 #[v, .int .i64 left] w fun e w' => e = .returned (.int .i64 r) ∧ Below w.heap.size w w' := by
  unfold szNetM at hm
  obtain ⟨_, m, hm⟩ := bnd hm
  obtain ⟨m1, m2⟩ := mustP_some m
  injection hm with hm
  subst hm
  exact szNet_v v x left w h (Nat.le_refl _) m1 m2
theorem c_eqNetM (x y : DNet) (r : Bool) (hm : eqNetM x y = some r) (v u : Value) (w : World) (h : St netRd w v x) (h' : St netRd w u y) :
    Calls Try.prog 13 #[v, u] w fun e w' => e = .returned (.bool r) ∧ Below w.heap.size w w' := by
  injection hm with hm
  subst hm
  exact eqNet_v v u x y w h h' (Nat.le_refl _) (Nat.le_refl _)
end
section
open Go.RowKit
set_option linter.unusedVariables false
set_option linter.unusedSimpArgs false
set_option maxRecDepth 100000
def m_spec_l00Same_A1 : Option Bool :=
  some true
def m_spec_l00Same_B1 (d0 : List Int) (d1 : List Int) (rec1 : Int → Option Bool) (K1 : Option Bool) (i3 : Int) : Option Bool :=
  (bif (decide (i3 < (d0.length : Int))) then ((getI d0 i3).bind fun x6 => ((getI d1 i3).bind fun x15 => (bif (x6 != x15) then some false else (rec1 (i3 + 1))))) else (K1))
def m_spec_l00Same_L1 (d0 : List Int) (d1 : List Int) (K1 : Option Bool) : Nat → Int → Option Bool
  | 0, _ => none
  | g + 1, i3 => m_spec_l00Same_B1 d0 d1 (m_spec_l00Same_L1 d0 d1 K1 g) K1 i3
def m_spec_l00Same (d0 : List Int) (d1 : List Int) : Option Bool :=
  (bif ((d0.length : Int) != (d1.length : Int)) then some false else (m_spec_l00Same_L1 d0 d1 m_spec_l00Same_A1 (d0.length + 1) 0))
set_option maxHeartbeats 2000000 in
theorem c_m_spec_l00Same (d0 : List Int) (d1 : List Int) (r : Bool) (hm : m_spec_l00Same d0 d1 = some r) (v0 : Value) (v1 : Value) (w : World) (hv0 : Sl intRd 1 w v0 d0) (hv1 : Sl intRd 1 w v1 d1) :
    Calls Try.prog 132 #[v0, v1] w fun e w' => e = .returned (.bool r) ∧ Below w.heap.size w w' := by
  obtain ⟨Aa0, na0, ca0, rfl, ha0, ra0⟩ := hv0
  have ea0 := ha0.len; subst ea0
  have qa0 := len_le ra0
  obtain ⟨Aa1, na1, ca1, rfl, ha1, ra1⟩ := hv1
  have ea1 := ha1.len; subst ea1
  have qa1 := len_le ra1
  have T := Below.refl w.heap.size w
  unfold m_spec_l00Same at hm
  refine enter 26 Try.func132 rfl rfl rfl ?_
  intro f hf
  have s0 : f 0 = .slice Aa0 d0.length ca0 := hf 0 _ rfl
  have s1 : f 1 = .slice Aa1 d1.length ca1 := hf 1 _ rfl
  refine wp_seq ?_
  refine wp_rs rfl ?_
  refine RQ.y rfl (Y.assign (v := .bool false) rfl) ?_
  refine RQ.nil ?_
  refine then_n ?_
  refine wp_seq ?_
  refine wp_seq ?_
  refine wp_rs rfl ?_
  refine RQ.y rfl (Y.move (v := .slice Aa0 d0.length ca0) s0) ?_
  refine RQ.y rfl (Y.len (by kernel_rfl) rfl) ?_
  refine RQ.y rfl (Y.move (v := .slice Aa1 d1.length ca1) s1) ?_
  refine RQ.y rfl (Y.len (by kernel_rfl) rfl) ?_
  refine RQ.y rfl (Y.binI (v := .bool ((d0.length : Int) != (d1.length : Int))) rfl rfl rfl) ?_
  refine RQ.nil ?_
  refine then_n ?_
  rcases bcases ((d0.length : Int) != (d1.length : Int)) with c1 | c1
  · replace hm := cF c1 hm
    refine cond_f rfl (vb rfl c1) ?_
    refine wp_skip ?_
    refine then_n ?_
    refine wp_seq ?_
    refine wp_seq ?_
    refine wp_rs rfl ?_
    refine RQ.y rfl (Y.assign (v := .int .i64 0) rfl) ?_
    refine RQ.nil ?_
    refine then_n ?_
    refine wp_block ?_
    obtain ⟨K1, hK1, hm⟩ : ∃ K, K = m_spec_l00Same_A1 ∧ m_spec_l00Same_L1 d0 d1 K (d0.length + 1) 0 = some r := ⟨_, rfl, hm⟩
    refine wp_loopX (fun g f w' => ∃ (i3 : Int), f 0 = .slice Aa0 d0.length ca0 ∧ f 1 = .slice Aa1 d1.length ca1 ∧ f 5 = .int .i64 i3 ∧ 0 ≤ i3 ∧ Below w.heap.size w w' ∧ m_spec_l00Same_L1 d0 d1 K1 g i3 = some r) 0 (fun f w' => Below w.heap.size w w' ∧ m_spec_l00Same_A1  = some r) (d0.length + 1) ⟨0, s0, s1, rfl, (by omega), T, hm⟩ ?_ ?_
    · rintro f w2 ⟨T, hm⟩
      unfold m_spec_l00Same_A1 at hm
      refine blk_hit (then_n ?_)
      refine wp_seq ?_
      refine wp_rs rfl ?_
      refine RQ.y rfl (Y.assign (v := .bool true) rfl) ?_
      refine RQ.nil ?_
      refine then_n ?_
      refine wp_ret ?_
      obtain rfl := Option.some.inj hm
      exact (ret1 rfl rfl rfl ⟨rfl, T⟩)
    · rintro g f w4 ⟨i3, s0_1, s1_1, s5_1, nn5_1, T, hm⟩
      rcases g with _ | g
      · simp only [m_spec_l00Same_L1] at hm; cases hm
      obtain ⟨rec1, hrec1, hm⟩ : ∃ z, z = m_spec_l00Same_L1 d0 d1 K1 g ∧ m_spec_l00Same_B1 d0 d1 z K1 i3 = some r := ⟨_, rfl, hm⟩
      unfold m_spec_l00Same_B1 at hm
      refine wp_seq ?_
      refine wp_seq ?_
      refine wp_rs rfl ?_
      refine RQ.y rfl (Y.move (v := .int .i64 i3) s5_1) ?_
      refine RQ.y rfl (Y.move (v := .slice Aa0 d0.length ca0) s0_1) ?_
      refine RQ.y rfl (Y.len (by kernel_rfl) rfl) ?_
      refine RQ.y rfl (Y.binI (v := .bool (decide (i3 < (d0.length : Int)))) rfl rfl rfl) ?_
      refine RQ.nil ?_
      refine then_n ?_
      rcases bcases (decide (i3 < (d0.length : Int))) with c5 | c5
      · replace hm := cF c5 hm
        have pc5 := of_decide_eq_false c5
        refine cond_f rfl (vb rfl c5) ?_
        refine wp_exit ?_
        exact (then_x (then_x (hit_x ⟨_, rfl, ⟨T, (by rw [hK1] at hm; exact hm)⟩⟩)))
      · replace hm := cT c5 hm
        have pc5 := of_decide_eq_true c5
        refine cond_t rfl (vb rfl c5) ?_
        refine wp_skip ?_
        refine then_n ?_
        refine wp_seq ?_
        refine wp_block ?_
        refine wp_seq ?_
        refine wp_rbd (by kernel_rfl) (by kernel_rfl) ?_
        refine RQ.y rfl (Y.move (v := .slice Aa0 d0.length ca0) s0_1) ?_
        refine RQ.y rfl (Y.move (v := .int .i64 i3) s5_1) ?_
        obtain ⟨x6, hx9, hm⟩ := bnd hm
        obtain ⟨k7, hk10, hl11, hx9⟩ := getI_some hx9
        obtain ⟨b13, o14, rfl, hbb13⟩ := ha0.addr (by omega)
        obtain ⟨cs8, hRcs8, hc12⟩ := ha0.el hx9
        have hScs8 := hRcs8
        obtain rfl := hRcs8
        refine RQ.y rfl (Y.indexAddr (m := k7) (sz := 1) rfl rfl hk10 hl11 (by kernel_rfl)) ?_
        refine RQ.y rfl (Y.load (v := .int .i64 x6) rfl (by kernel_rfl) (beC (cellT T (hc12 0 _ rfl)))) ?_
        refine RQ.y rfl (Y.move (v := .slice Aa1 d1.length ca1) s1_1) ?_
        refine RQ.y rfl (Y.move (v := .int .i64 i3) s5_1) ?_
        obtain ⟨x15, hx18, hm⟩ := bnd hm
        obtain ⟨k16, hk19, hl20, hx18⟩ := getI_some hx18
        obtain ⟨b22, o23, rfl, hbb22⟩ := ha1.addr (by omega)
        obtain ⟨cs17, hRcs17, hc21⟩ := ha1.el hx18
        have hScs17 := hRcs17
        obtain rfl := hRcs17
        refine RQ.y rfl (Y.indexAddr (m := k16) (sz := 1) rfl rfl hk19 hl20 (by kernel_rfl)) ?_
        refine RQ.y rfl (Y.load (v := .int .i64 x15) rfl (by kernel_rfl) (beC (cellT T (hc21 0 _ rfl)))) ?_
        refine RQ.y rfl (Y.binI (v := .bool (x6 != x15)) rfl rfl rfl) ?_
        refine RQ.nil ?_
        intro w24 hb25
        have szw24 := hb25.size
        have T := Tt T hb25
        refine then_n ?_
        rcases bcases (x6 != x15) with c26 | c26
        · replace hm := cF c26 hm
          refine cond_f rfl (vb rfl c26) ?_
          refine wp_skip ?_
          refine blk_n (then_n ?_)
          refine wp_rs rfl ?_
          refine RQ.y rfl (Y.move (v := .int .i64 i3) s5_1) ?_
          refine RQ.y rfl (Y.binI rfl rfl (binI_add (m := i3) (by omega))) ?_
          refine RQ.y rfl (Y.assign (v := .int .i64 (i3 + 1)) rfl) ?_
          refine RQ.nil ?_
          exact (then_n ⟨g, _, Nat.lt_succ_self _, rfl, ⟨(i3 + 1), s0_1, s1_1, rfl, (by omega), T, (by rw [← hrec1]; exact hm)⟩⟩)
        · replace hm := cT c26 hm
          refine cond_t rfl (vb rfl c26) ?_
          refine wp_seq ?_
          refine wp_rs rfl ?_
          refine RQ.y rfl (Y.assign (v := .bool false) rfl) ?_
          refine RQ.nil ?_
          refine then_n ?_
          refine wp_ret ?_
          obtain rfl := Option.some.inj hm
          exact (blk_r (then_r (then_r (hit_r (blk_r (then_r (ret1 rfl rfl rfl ⟨rfl, T⟩)))))))
  · replace hm := cT c1 hm
    refine cond_t rfl (vb rfl c1) ?_
    refine wp_seq ?_
    refine wp_rs rfl ?_
    refine RQ.y rfl (Y.assign (v := .bool false) rfl) ?_
    refine RQ.nil ?_
    refine then_n ?_
    refine wp_ret ?_
    obtain rfl := Option.some.inj hm
    exact (then_r (ret1 rfl rfl rfl ⟨rfl, T⟩))
def m_spec_l11SameAgent_A1 : Option Bool :=
  some true
def m_spec_l11SameAgent_B1 (d0 : DAgent) (d1 : DAgent) (rec1 : Int → Option Bool) (K1 : Option Bool) (i17 : Int) : Option Bool :=
  (bif (decide (i17 < (d0.ports.length : Int))) then ((getI d0.ports i17).bind fun x20 => ((getI d1.ports i17).bind fun x29 => (bif (x20.agent == x29.agent && x20.slot == x29.slot) then (rec1 (i17 + 1)) else some false))) else (K1))
def m_spec_l11SameAgent_L1 (d0 : DAgent) (d1 : DAgent) (K1 : Option Bool) : Nat → Int → Option Bool
  | 0, _ => none
  | g + 1, i17 => m_spec_l11SameAgent_B1 d0 d1 (m_spec_l11SameAgent_L1 d0 d1 K1 g) K1 i17
def m_spec_l11SameAgent (d0 : DAgent) (d1 : DAgent) : Option Bool :=
  (bif (d0.kind != d1.kind) then some false else (bif (d0.level != d1.level) then some false else (bif (d0.value != d1.value) then some false else ((m_spec_l00Same d0.data d1.data).bind fun y8 => (bif y8 then (bif ((d0.ports.length : Int) != (d1.ports.length : Int)) then some false else (m_spec_l11SameAgent_L1 d0 d1 m_spec_l11SameAgent_A1 (d0.ports.length + 1) 0)) else some false)))))
set_option maxHeartbeats 2000000 in
theorem c_m_spec_l11SameAgent (d0 : DAgent) (d1 : DAgent) (r : Bool) (hm : m_spec_l11SameAgent d0 d1 = some r) (v0 : Value) (v1 : Value) (w : World) (hv0 : Pt agentRd w v0 d0) (hv1 : Pt agentRd w v1 d1) :
    Calls Try.prog 100 #[v0, v1] w fun e w' => e = .returned (.bool r) ∧ Below w.heap.size w w' := by
  obtain ⟨ba0, oa0, csa0, rfl, hba0, hRa0, hca0⟩ := hv0
  have hSa0 := hRa0
  obtain ⟨A1, n1, c1, A2, n2, c2, rfl, ⟨h1, r1⟩, ⟨h2, r2⟩⟩ := hRa0
  have e1 := h1.len; subst e1
  have q1 := len_le r1
  have e2 := h2.len; subst e2
  have q2 := len_le r2
  obtain ⟨ba1, oa1, csa1, rfl, hba1, hRa1, hca1⟩ := hv1
  have hSa1 := hRa1
  obtain ⟨A3, n3, c3, A4, n4, c4, rfl, ⟨h3, r3⟩, ⟨h4, r4⟩⟩ := hRa1
  have e3 := h3.len; subst e3
  have q3 := len_le r3
  have e4 := h4.len; subst e4
  have q4 := len_le r4
  have T := Below.refl w.heap.size w
  unfold m_spec_l11SameAgent at hm
  refine enter 86 Try.func100 rfl rfl rfl ?_
  intro f hf
  have s0 : f 0 = .pointer (some ⟨ba0, oa0, none⟩) := hf 0 _ rfl
  have s1 : f 1 = .pointer (some ⟨ba1, oa1, none⟩) := hf 1 _ rfl
  refine wp_seq ?_
  refine wp_rs rfl ?_
  refine RQ.y rfl (Y.assign (v := .bool false) rfl) ?_
  refine RQ.nil ?_
  refine then_n ?_
  refine wp_seq ?_
  refine wp_seq ?_
  refine wp_rbd (by kernel_rfl) (by kernel_rfl) ?_
  refine RQ.y rfl (Y.move (v := .pointer (some ⟨ba0, oa0, none⟩)) s0) ?_
  refine RQ.y rfl (Y.nilCheck rfl) ?_
  refine RQ.y rfl (Y.fieldAddr (off := 0) rfl (by kernel_rfl)) ?_
  refine RQ.y rfl (Y.load (v := .int .i64 d0.kind) rfl (by kernel_rfl) (beC (cellT T (hca0 0 _ rfl)))) ?_
  refine RQ.y rfl (Y.move (v := .pointer (some ⟨ba1, oa1, none⟩)) s1) ?_
  refine RQ.y rfl (Y.nilCheck rfl) ?_
  refine RQ.y rfl (Y.fieldAddr (off := 0) rfl (by kernel_rfl)) ?_
  refine RQ.y rfl (Y.load (v := .int .i64 d1.kind) rfl (by kernel_rfl) (beC (cellT T (hca1 0 _ rfl)))) ?_
  refine RQ.y rfl (Y.binI (v := .bool (d0.kind != d1.kind)) rfl rfl rfl) ?_
  refine RQ.y rfl (Y.move (v := .bool (d0.kind != d1.kind)) rfl) ?_
  rcases bcases (d0.kind != d1.kind) with c5 | c5
  · replace hm := cF c5 hm
    refine RQ.y (wantT (dj := 15) rfl (vb rfl c5)) (Y.move (v := .pointer (some ⟨ba0, oa0, none⟩)) s0) ?_
    refine RQ.y (wantT (dj := 15) rfl (vb rfl c5)) (Y.nilCheck rfl) ?_
    refine RQ.y (wantT (dj := 15) rfl (vb rfl c5)) (Y.fieldAddr (off := 1) rfl (by kernel_rfl)) ?_
    refine RQ.y (wantT (dj := 15) rfl (vb rfl c5)) (Y.load (v := .int .i64 d0.level) rfl (by kernel_rfl) (beC (cellT T (hca0 1 _ rfl)))) ?_
    refine RQ.y (wantT (dj := 15) rfl (vb rfl c5)) (Y.move (v := .pointer (some ⟨ba1, oa1, none⟩)) s1) ?_
    refine RQ.y (wantT (dj := 15) rfl (vb rfl c5)) (Y.nilCheck rfl) ?_
    refine RQ.y (wantT (dj := 15) rfl (vb rfl c5)) (Y.fieldAddr (off := 1) rfl (by kernel_rfl)) ?_
    refine RQ.y (wantT (dj := 15) rfl (vb rfl c5)) (Y.load (v := .int .i64 d1.level) rfl (by kernel_rfl) (beC (cellT T (hca1 1 _ rfl)))) ?_
    refine RQ.y (wantT (dj := 15) rfl (vb rfl c5)) (Y.binI (v := .bool (d0.level != d1.level)) rfl rfl rfl) ?_
    refine RQ.y rfl (Y.pick (b := false) (v := .bool (d0.level != d1.level)) (vb rfl c5) rfl) ?_
    refine RQ.y rfl (Y.move (v := .bool (d0.level != d1.level)) rfl) ?_
    rcases bcases (d0.level != d1.level) with c6 | c6
    · replace hm := cF c6 hm
      refine RQ.y (wantT (dj := 26) rfl (vb rfl c6)) (Y.move (v := .pointer (some ⟨ba0, oa0, none⟩)) s0) ?_
      refine RQ.y (wantT (dj := 26) rfl (vb rfl c6)) (Y.nilCheck rfl) ?_
      refine RQ.y (wantT (dj := 26) rfl (vb rfl c6)) (Y.fieldAddr (off := 2) rfl (by kernel_rfl)) ?_
      refine RQ.y (wantT (dj := 26) rfl (vb rfl c6)) (Y.load (v := .int .i64 d0.value) rfl (by kernel_rfl) (beC (cellT T (hca0 2 _ rfl)))) ?_
      refine RQ.y (wantT (dj := 26) rfl (vb rfl c6)) (Y.move (v := .pointer (some ⟨ba1, oa1, none⟩)) s1) ?_
      refine RQ.y (wantT (dj := 26) rfl (vb rfl c6)) (Y.nilCheck rfl) ?_
      refine RQ.y (wantT (dj := 26) rfl (vb rfl c6)) (Y.fieldAddr (off := 2) rfl (by kernel_rfl)) ?_
      refine RQ.y (wantT (dj := 26) rfl (vb rfl c6)) (Y.load (v := .int .i64 d1.value) rfl (by kernel_rfl) (beC (cellT T (hca1 2 _ rfl)))) ?_
      refine RQ.y (wantT (dj := 26) rfl (vb rfl c6)) (Y.binI (v := .bool (d0.value != d1.value)) rfl rfl rfl) ?_
      refine RQ.y rfl (Y.pick (b := false) (v := .bool (d0.value != d1.value)) (vb rfl c6) rfl) ?_
      refine RQ.y rfl (Y.move (v := .bool (d0.value != d1.value)) rfl) ?_
      rcases bcases (d0.value != d1.value) with c7 | c7
      · replace hm := cF c7 hm
        refine RQ.y (wantT (dj := 37) rfl (vb rfl c7)) (Y.move (v := .pointer (some ⟨ba0, oa0, none⟩)) s0) ?_
        refine RQ.y (wantT (dj := 37) rfl (vb rfl c7)) (Y.nilCheck rfl) ?_
        refine RQ.y (wantT (dj := 37) rfl (vb rfl c7)) (Y.fieldAddr (off := 3) rfl (by kernel_rfl)) ?_
        refine RQ.y (wantT (dj := 37) rfl (vb rfl c7)) (Y.load (v := .slice A1 d0.data.length c1) rfl (by kernel_rfl) (beC (cellT T (hca0 3 _ rfl)))) ?_
        refine RQ.y (wantT (dj := 37) rfl (vb rfl c7)) (Y.move (v := .pointer (some ⟨ba1, oa1, none⟩)) s1) ?_
        refine RQ.y (wantT (dj := 37) rfl (vb rfl c7)) (Y.nilCheck rfl) ?_
        refine RQ.y (wantT (dj := 37) rfl (vb rfl c7)) (Y.fieldAddr (off := 3) rfl (by kernel_rfl)) ?_
        refine RQ.y (wantT (dj := 37) rfl (vb rfl c7)) (Y.load (v := .slice A3 d1.data.length c3) rfl (by kernel_rfl) (beC (cellT T (hca1 3 _ rfl)))) ?_
        obtain ⟨y8, e9, hm⟩ := bnd hm
        refine RQ.call (wantT (dj := 37) rfl (vb rfl c7)) (am2 rfl rfl) (by kernel_rfl) (v := .bool y8) (bel (K := fun _ => True) fun w' hb' => (c_m_spec_l00Same d0.data d1.data _ e9 _ _ w' (slArg intRd_ok h1 r1 (Tt T hb')) (slArg intRd_ok h3 r3 (Tt T hb')))) ?_
        refine RQ.y (wantT (dj := 37) rfl (vb rfl c7)) (Y.not (b' := (!y8)) rfl rfl) ?_
        refine RQ.y rfl (Y.pick (b := false) (v := .bool (!y8)) (vb rfl c7) rfl) ?_
        refine RQ.y rfl (Y.move (v := .bool (!y8)) rfl) ?_
        rcases bcases y8 with c10 | c10
        · replace hm := cF c10 hm
          refine RQ.skip (wantN (dj := 49) rfl (vbn rfl c10 rfl) rfl) ?_
          refine RQ.skip (wantN (dj := 49) rfl (vbn rfl c10 rfl) rfl) ?_
          refine RQ.skip (wantN (dj := 49) rfl (vbn rfl c10 rfl) rfl) ?_
          refine RQ.skip (wantN (dj := 49) rfl (vbn rfl c10 rfl) rfl) ?_
          refine RQ.skip (wantN (dj := 49) rfl (vbn rfl c10 rfl) rfl) ?_
          refine RQ.skip (wantN (dj := 49) rfl (vbn rfl c10 rfl) rfl) ?_
          refine RQ.skip (wantN (dj := 49) rfl (vbn rfl c10 rfl) rfl) ?_
          refine RQ.skip (wantN (dj := 49) rfl (vbn rfl c10 rfl) rfl) ?_
          refine RQ.skip (wantN (dj := 49) rfl (vbn rfl c10 rfl) rfl) ?_
          refine RQ.skip (wantN (dj := 49) rfl (vbn rfl c10 rfl) rfl) ?_
          refine RQ.skip (wantN (dj := 49) rfl (vbn rfl c10 rfl) rfl) ?_
          refine RQ.y rfl (Y.pick (b := true) (v := .bool true) (vbn rfl c10 rfl) rfl) ?_
          refine RQ.nil ?_
          intro w11 hb12
          have szw11 := hb12.size
          have T := Tt T hb12
          refine then_n ?_
          refine cond_t rfl rfl ?_
          refine wp_seq ?_
          refine wp_rs rfl ?_
          refine RQ.y rfl (Y.assign (v := .bool false) rfl) ?_
          refine RQ.nil ?_
          refine then_n ?_
          refine wp_ret ?_
          obtain rfl := Option.some.inj hm
          exact (then_r (ret1 rfl rfl rfl ⟨rfl, T⟩))
        · replace hm := cT c10 hm
          refine RQ.y (wantT (dj := 49) rfl (vbn rfl c10 rfl)) (Y.move (v := .pointer (some ⟨ba0, oa0, none⟩)) s0) ?_
          refine RQ.y (wantT (dj := 49) rfl (vbn rfl c10 rfl)) (Y.nilCheck rfl) ?_
          refine RQ.y (wantT (dj := 49) rfl (vbn rfl c10 rfl)) (Y.fieldAddr (off := 4) rfl (by kernel_rfl)) ?_
          refine RQ.y (wantT (dj := 49) rfl (vbn rfl c10 rfl)) (Y.load (v := .slice A2 d0.ports.length c2) rfl (by kernel_rfl) (beC (cellT T (hca0 4 _ rfl)))) ?_
          refine RQ.y (wantT (dj := 49) rfl (vbn rfl c10 rfl)) (Y.len (by kernel_rfl) rfl) ?_
          refine RQ.y (wantT (dj := 49) rfl (vbn rfl c10 rfl)) (Y.move (v := .pointer (some ⟨ba1, oa1, none⟩)) s1) ?_
          refine RQ.y (wantT (dj := 49) rfl (vbn rfl c10 rfl)) (Y.nilCheck rfl) ?_
          refine RQ.y (wantT (dj := 49) rfl (vbn rfl c10 rfl)) (Y.fieldAddr (off := 4) rfl (by kernel_rfl)) ?_
          refine RQ.y (wantT (dj := 49) rfl (vbn rfl c10 rfl)) (Y.load (v := .slice A4 d1.ports.length c4) rfl (by kernel_rfl) (beC (cellT T (hca1 4 _ rfl)))) ?_
          refine RQ.y (wantT (dj := 49) rfl (vbn rfl c10 rfl)) (Y.len (by kernel_rfl) rfl) ?_
          refine RQ.y (wantT (dj := 49) rfl (vbn rfl c10 rfl)) (Y.binI (v := .bool ((d0.ports.length : Int) != (d1.ports.length : Int))) rfl rfl rfl) ?_
          refine RQ.y rfl (Y.pick (b := false) (v := .bool ((d0.ports.length : Int) != (d1.ports.length : Int))) (vbn rfl c10 rfl) rfl) ?_
          refine RQ.nil ?_
          intro w13 hb14
          have szw13 := hb14.size
          have T := Tt T hb14
          refine then_n ?_
          rcases bcases ((d0.ports.length : Int) != (d1.ports.length : Int)) with c15 | c15
          · replace hm := cF c15 hm
            refine cond_f rfl (vb rfl c15) ?_
            refine wp_skip ?_
            refine then_n ?_
            refine wp_seq ?_
            refine wp_seq ?_
            refine wp_rs rfl ?_
            refine RQ.y rfl (Y.assign (v := .int .i64 0) rfl) ?_
            refine RQ.nil ?_
            refine then_n ?_
            refine wp_block ?_
            obtain ⟨K1, hK1, hm⟩ : ∃ K, K = m_spec_l11SameAgent_A1 ∧ m_spec_l11SameAgent_L1 d0 d1 K (d0.ports.length + 1) 0 = some r := ⟨_, rfl, hm⟩
            refine wp_loopX (fun g f w' => ∃ (i17 : Int), f 0 = .pointer (some ⟨ba0, oa0, none⟩) ∧ f 1 = .pointer (some ⟨ba1, oa1, none⟩) ∧ f 5 = .int .i64 i17 ∧ 0 ≤ i17 ∧ Below w.heap.size w w' ∧ m_spec_l11SameAgent_L1 d0 d1 K1 g i17 = some r) 0 (fun f w' => Below w.heap.size w w' ∧ m_spec_l11SameAgent_A1  = some r) (d0.ports.length + 1) ⟨0, s0, s1, rfl, (by omega), T, hm⟩ ?_ ?_
            · rintro f w16 ⟨T, hm⟩
              unfold m_spec_l11SameAgent_A1 at hm
              refine blk_hit (then_n ?_)
              refine wp_seq ?_
              refine wp_rs rfl ?_
              refine RQ.y rfl (Y.assign (v := .bool true) rfl) ?_
              refine RQ.nil ?_
              refine then_n ?_
              refine wp_ret ?_
              obtain rfl := Option.some.inj hm
              exact (ret1 rfl rfl rfl ⟨rfl, T⟩)
            · rintro g f w18 ⟨i17, s0_1, s1_1, s5_1, nn5_1, T, hm⟩
              rcases g with _ | g
              · simp only [m_spec_l11SameAgent_L1] at hm; cases hm
              obtain ⟨rec1, hrec1, hm⟩ : ∃ z, z = m_spec_l11SameAgent_L1 d0 d1 K1 g ∧ m_spec_l11SameAgent_B1 d0 d1 z K1 i17 = some r := ⟨_, rfl, hm⟩
              unfold m_spec_l11SameAgent_B1 at hm
              refine wp_seq ?_
              refine wp_seq ?_
              refine wp_rs rfl ?_
              refine RQ.y rfl (Y.move (v := .int .i64 i17) s5_1) ?_
              refine RQ.y rfl (Y.move (v := .pointer (some ⟨ba0, oa0, none⟩)) s0_1) ?_
              refine RQ.y rfl (Y.nilCheck rfl) ?_
              refine RQ.y rfl (Y.fieldAddr (off := 4) rfl (by kernel_rfl)) ?_
              refine RQ.y rfl (Y.load (v := .slice A2 d0.ports.length c2) rfl (by kernel_rfl) (eqC (cellT T (hca0 4 _ rfl)))) ?_
              refine RQ.y rfl (Y.len (by kernel_rfl) rfl) ?_
              refine RQ.y rfl (Y.binI (v := .bool (decide (i17 < (d0.ports.length : Int)))) rfl rfl rfl) ?_
              refine RQ.nil ?_
              refine then_n ?_
              rcases bcases (decide (i17 < (d0.ports.length : Int))) with c19 | c19
              · replace hm := cF c19 hm
                have pc19 := of_decide_eq_false c19
                refine cond_f rfl (vb rfl c19) ?_
                refine wp_exit ?_
                exact (then_x (then_x (hit_x ⟨_, rfl, ⟨T, (by rw [hK1] at hm; exact hm)⟩⟩)))
              · replace hm := cT c19 hm
                have pc19 := of_decide_eq_true c19
                refine cond_t rfl (vb rfl c19) ?_
                refine wp_skip ?_
                refine then_n ?_
                refine wp_seq ?_
                refine wp_block ?_
                refine wp_seq ?_
                refine wp_rbd (by kernel_rfl) (by kernel_rfl) ?_
                refine RQ.y rfl (Y.move (v := .pointer (some ⟨ba0, oa0, none⟩)) s0_1) ?_
                refine RQ.y rfl (Y.nilCheck rfl) ?_
                refine RQ.y rfl (Y.fieldAddr (off := 4) rfl (by kernel_rfl)) ?_
                refine RQ.y rfl (Y.load (v := .slice A2 d0.ports.length c2) rfl (by kernel_rfl) (beC (cellT T (hca0 4 _ rfl)))) ?_
                refine RQ.y rfl (Y.move (v := .int .i64 i17) s5_1) ?_
                obtain ⟨x20, hx23, hm⟩ := bnd hm
                obtain ⟨k21, hk24, hl25, hx23⟩ := getI_some hx23
                obtain ⟨b27, o28, rfl, hbb27⟩ := h2.addr (by omega)
                obtain ⟨cs22, hRcs22, hc26⟩ := h2.el hx23
                have hScs22 := hRcs22
                obtain rfl := hRcs22
                refine RQ.y rfl (Y.indexAddr (m := k21) (sz := 2) rfl rfl hk24 hl25 (by kernel_rfl)) ?_
                refine RQ.y rfl (Y.loadN (cs := [.int .i64 x20.agent, .int .i64 x20.slot]) rfl (by kernel_rfl) (cells2 (beC (cellT T (hc26 0 _ rfl))) (beC (cellT T (hc26 1 _ rfl))))) ?_
                refine RQ.y rfl (Y.move (v := .pointer (some ⟨ba1, oa1, none⟩)) s1_1) ?_
                refine RQ.y rfl (Y.nilCheck rfl) ?_
                refine RQ.y rfl (Y.fieldAddr (off := 4) rfl (by kernel_rfl)) ?_
                refine RQ.y rfl (Y.load (v := .slice A4 d1.ports.length c4) rfl (by kernel_rfl) (beC (cellT T (hca1 4 _ rfl)))) ?_
                refine RQ.y rfl (Y.move (v := .int .i64 i17) s5_1) ?_
                obtain ⟨x29, hx32, hm⟩ := bnd hm
                obtain ⟨k30, hk33, hl34, hx32⟩ := getI_some hx32
                obtain ⟨b36, o37, rfl, hbb36⟩ := h4.addr (by omega)
                obtain ⟨cs31, hRcs31, hc35⟩ := h4.el hx32
                have hScs31 := hRcs31
                obtain rfl := hRcs31
                refine RQ.y rfl (Y.indexAddr (m := k30) (sz := 2) rfl rfl hk33 hl34 (by kernel_rfl)) ?_
                refine RQ.y rfl (Y.loadN (cs := [.int .i64 x29.agent, .int .i64 x29.slot]) rfl (by kernel_rfl) (cells2 (beC (cellT T (hc35 0 _ rfl))) (beC (cellT T (hc35 1 _ rfl))))) ?_
                refine RQ.y rfl (Y.neS (b := (x20.agent == x29.agent && x20.slot == x29.slot)) rfl rfl (eqPort_run _ _ _ _) (eqGuardPort_run _ _ _ _ _)) ?_
                refine RQ.nil ?_
                intro w38 hb39
                have szw38 := hb39.size
                have T := Tt T hb39
                refine then_n ?_
                rcases bcases (x20.agent == x29.agent && x20.slot == x29.slot) with c40 | c40
                · replace hm := cF c40 hm
                  refine cond_t rfl (vbn rfl c40 rfl) ?_
                  refine wp_seq ?_
                  refine wp_rs rfl ?_
                  refine RQ.y rfl (Y.assign (v := .bool false) rfl) ?_
                  refine RQ.nil ?_
                  refine then_n ?_
                  refine wp_ret ?_
                  obtain rfl := Option.some.inj hm
                  exact (blk_r (then_r (then_r (hit_r (blk_r (then_r (ret1 rfl rfl rfl ⟨rfl, T⟩)))))))
                · replace hm := cT c40 hm
                  refine cond_f rfl (vbn rfl c40 rfl) ?_
                  refine wp_skip ?_
                  refine blk_n (then_n ?_)
                  refine wp_rs rfl ?_
                  refine RQ.y rfl (Y.move (v := .int .i64 i17) s5_1) ?_
                  refine RQ.y rfl (Y.binI rfl rfl (binI_add (m := i17) (by omega))) ?_
                  refine RQ.y rfl (Y.assign (v := .int .i64 (i17 + 1)) rfl) ?_
                  refine RQ.nil ?_
                  exact (then_n ⟨g, _, Nat.lt_succ_self _, rfl, ⟨(i17 + 1), s0_1, s1_1, rfl, (by omega), T, (by rw [← hrec1]; exact hm)⟩⟩)
          · replace hm := cT c15 hm
            refine cond_t rfl (vb rfl c15) ?_
            refine wp_seq ?_
            refine wp_rs rfl ?_
            refine RQ.y rfl (Y.assign (v := .bool false) rfl) ?_
            refine RQ.nil ?_
            refine then_n ?_
            refine wp_ret ?_
            obtain rfl := Option.some.inj hm
            exact (then_r (ret1 rfl rfl rfl ⟨rfl, T⟩))
      · replace hm := cT c7 hm
        refine RQ.skip (wantN (dj := 37) rfl (vb rfl c7) rfl) ?_
        refine RQ.skip (wantN (dj := 37) rfl (vb rfl c7) rfl) ?_
        refine RQ.skip (wantN (dj := 37) rfl (vb rfl c7) rfl) ?_
        refine RQ.skip (wantN (dj := 37) rfl (vb rfl c7) rfl) ?_
        refine RQ.skip (wantN (dj := 37) rfl (vb rfl c7) rfl) ?_
        refine RQ.skip (wantN (dj := 37) rfl (vb rfl c7) rfl) ?_
        refine RQ.skip (wantN (dj := 37) rfl (vb rfl c7) rfl) ?_
        refine RQ.skip (wantN (dj := 37) rfl (vb rfl c7) rfl) ?_
        refine RQ.skip (wantN (dj := 37) rfl (vb rfl c7) rfl) ?_
        refine RQ.skip (wantN (dj := 37) rfl (vb rfl c7) rfl) ?_
        refine RQ.y rfl (Y.pick (b := true) (v := .bool true) (vb rfl c7) rfl) ?_
        refine RQ.y rfl (Y.move (v := .bool true) rfl) ?_
        refine RQ.skip (wantN (dj := 49) rfl rfl rfl) ?_
        refine RQ.skip (wantN (dj := 49) rfl rfl rfl) ?_
        refine RQ.skip (wantN (dj := 49) rfl rfl rfl) ?_
        refine RQ.skip (wantN (dj := 49) rfl rfl rfl) ?_
        refine RQ.skip (wantN (dj := 49) rfl rfl rfl) ?_
        refine RQ.skip (wantN (dj := 49) rfl rfl rfl) ?_
        refine RQ.skip (wantN (dj := 49) rfl rfl rfl) ?_
        refine RQ.skip (wantN (dj := 49) rfl rfl rfl) ?_
        refine RQ.skip (wantN (dj := 49) rfl rfl rfl) ?_
        refine RQ.skip (wantN (dj := 49) rfl rfl rfl) ?_
        refine RQ.skip (wantN (dj := 49) rfl rfl rfl) ?_
        refine RQ.y rfl (Y.pick (b := true) (v := .bool true) rfl rfl) ?_
        refine RQ.nil ?_
        intro w42 hb43
        have szw42 := hb43.size
        have T := Tt T hb43
        refine then_n ?_
        refine cond_t rfl rfl ?_
        refine wp_seq ?_
        refine wp_rs rfl ?_
        refine RQ.y rfl (Y.assign (v := .bool false) rfl) ?_
        refine RQ.nil ?_
        refine then_n ?_
        refine wp_ret ?_
        obtain rfl := Option.some.inj hm
        exact (then_r (ret1 rfl rfl rfl ⟨rfl, T⟩))
    · replace hm := cT c6 hm
      refine RQ.skip (wantN (dj := 26) rfl (vb rfl c6) rfl) ?_
      refine RQ.skip (wantN (dj := 26) rfl (vb rfl c6) rfl) ?_
      refine RQ.skip (wantN (dj := 26) rfl (vb rfl c6) rfl) ?_
      refine RQ.skip (wantN (dj := 26) rfl (vb rfl c6) rfl) ?_
      refine RQ.skip (wantN (dj := 26) rfl (vb rfl c6) rfl) ?_
      refine RQ.skip (wantN (dj := 26) rfl (vb rfl c6) rfl) ?_
      refine RQ.skip (wantN (dj := 26) rfl (vb rfl c6) rfl) ?_
      refine RQ.skip (wantN (dj := 26) rfl (vb rfl c6) rfl) ?_
      refine RQ.skip (wantN (dj := 26) rfl (vb rfl c6) rfl) ?_
      refine RQ.y rfl (Y.pick (b := true) (v := .bool true) (vb rfl c6) rfl) ?_
      refine RQ.y rfl (Y.move (v := .bool true) rfl) ?_
      refine RQ.skip (wantN (dj := 37) rfl rfl rfl) ?_
      refine RQ.skip (wantN (dj := 37) rfl rfl rfl) ?_
      refine RQ.skip (wantN (dj := 37) rfl rfl rfl) ?_
      refine RQ.skip (wantN (dj := 37) rfl rfl rfl) ?_
      refine RQ.skip (wantN (dj := 37) rfl rfl rfl) ?_
      refine RQ.skip (wantN (dj := 37) rfl rfl rfl) ?_
      refine RQ.skip (wantN (dj := 37) rfl rfl rfl) ?_
      refine RQ.skip (wantN (dj := 37) rfl rfl rfl) ?_
      refine RQ.skip (wantN (dj := 37) rfl rfl rfl) ?_
      refine RQ.skip (wantN (dj := 37) rfl rfl rfl) ?_
      refine RQ.y rfl (Y.pick (b := true) (v := .bool true) rfl rfl) ?_
      refine RQ.y rfl (Y.move (v := .bool true) rfl) ?_
      refine RQ.skip (wantN (dj := 49) rfl rfl rfl) ?_
      refine RQ.skip (wantN (dj := 49) rfl rfl rfl) ?_
      refine RQ.skip (wantN (dj := 49) rfl rfl rfl) ?_
      refine RQ.skip (wantN (dj := 49) rfl rfl rfl) ?_
      refine RQ.skip (wantN (dj := 49) rfl rfl rfl) ?_
      refine RQ.skip (wantN (dj := 49) rfl rfl rfl) ?_
      refine RQ.skip (wantN (dj := 49) rfl rfl rfl) ?_
      refine RQ.skip (wantN (dj := 49) rfl rfl rfl) ?_
      refine RQ.skip (wantN (dj := 49) rfl rfl rfl) ?_
      refine RQ.skip (wantN (dj := 49) rfl rfl rfl) ?_
      refine RQ.skip (wantN (dj := 49) rfl rfl rfl) ?_
      refine RQ.y rfl (Y.pick (b := true) (v := .bool true) rfl rfl) ?_
      refine RQ.nil ?_
      intro w44 hb45
      have szw44 := hb45.size
      have T := Tt T hb45
      refine then_n ?_
      refine cond_t rfl rfl ?_
      refine wp_seq ?_
      refine wp_rs rfl ?_
      refine RQ.y rfl (Y.assign (v := .bool false) rfl) ?_
      refine RQ.nil ?_
      refine then_n ?_
      refine wp_ret ?_
      obtain rfl := Option.some.inj hm
      exact (then_r (ret1 rfl rfl rfl ⟨rfl, T⟩))
  · replace hm := cT c5 hm
    refine RQ.skip (wantN (dj := 15) rfl (vb rfl c5) rfl) ?_
    refine RQ.skip (wantN (dj := 15) rfl (vb rfl c5) rfl) ?_
    refine RQ.skip (wantN (dj := 15) rfl (vb rfl c5) rfl) ?_
    refine RQ.skip (wantN (dj := 15) rfl (vb rfl c5) rfl) ?_
    refine RQ.skip (wantN (dj := 15) rfl (vb rfl c5) rfl) ?_
    refine RQ.skip (wantN (dj := 15) rfl (vb rfl c5) rfl) ?_
    refine RQ.skip (wantN (dj := 15) rfl (vb rfl c5) rfl) ?_
    refine RQ.skip (wantN (dj := 15) rfl (vb rfl c5) rfl) ?_
    refine RQ.skip (wantN (dj := 15) rfl (vb rfl c5) rfl) ?_
    refine RQ.y rfl (Y.pick (b := true) (v := .bool true) (vb rfl c5) rfl) ?_
    refine RQ.y rfl (Y.move (v := .bool true) rfl) ?_
    refine RQ.skip (wantN (dj := 26) rfl rfl rfl) ?_
    refine RQ.skip (wantN (dj := 26) rfl rfl rfl) ?_
    refine RQ.skip (wantN (dj := 26) rfl rfl rfl) ?_
    refine RQ.skip (wantN (dj := 26) rfl rfl rfl) ?_
    refine RQ.skip (wantN (dj := 26) rfl rfl rfl) ?_
    refine RQ.skip (wantN (dj := 26) rfl rfl rfl) ?_
    refine RQ.skip (wantN (dj := 26) rfl rfl rfl) ?_
    refine RQ.skip (wantN (dj := 26) rfl rfl rfl) ?_
    refine RQ.skip (wantN (dj := 26) rfl rfl rfl) ?_
    refine RQ.y rfl (Y.pick (b := true) (v := .bool true) rfl rfl) ?_
    refine RQ.y rfl (Y.move (v := .bool true) rfl) ?_
    refine RQ.skip (wantN (dj := 37) rfl rfl rfl) ?_
    refine RQ.skip (wantN (dj := 37) rfl rfl rfl) ?_
    refine RQ.skip (wantN (dj := 37) rfl rfl rfl) ?_
    refine RQ.skip (wantN (dj := 37) rfl rfl rfl) ?_
    refine RQ.skip (wantN (dj := 37) rfl rfl rfl) ?_
    refine RQ.skip (wantN (dj := 37) rfl rfl rfl) ?_
    refine RQ.skip (wantN (dj := 37) rfl rfl rfl) ?_
    refine RQ.skip (wantN (dj := 37) rfl rfl rfl) ?_
    refine RQ.skip (wantN (dj := 37) rfl rfl rfl) ?_
    refine RQ.skip (wantN (dj := 37) rfl rfl rfl) ?_
    refine RQ.y rfl (Y.pick (b := true) (v := .bool true) rfl rfl) ?_
    refine RQ.y rfl (Y.move (v := .bool true) rfl) ?_
    refine RQ.skip (wantN (dj := 49) rfl rfl rfl) ?_
    refine RQ.skip (wantN (dj := 49) rfl rfl rfl) ?_
    refine RQ.skip (wantN (dj := 49) rfl rfl rfl) ?_
    refine RQ.skip (wantN (dj := 49) rfl rfl rfl) ?_
    refine RQ.skip (wantN (dj := 49) rfl rfl rfl) ?_
    refine RQ.skip (wantN (dj := 49) rfl rfl rfl) ?_
    refine RQ.skip (wantN (dj := 49) rfl rfl rfl) ?_
    refine RQ.skip (wantN (dj := 49) rfl rfl rfl) ?_
    refine RQ.skip (wantN (dj := 49) rfl rfl rfl) ?_
    refine RQ.skip (wantN (dj := 49) rfl rfl rfl) ?_
    refine RQ.skip (wantN (dj := 49) rfl rfl rfl) ?_
    refine RQ.y rfl (Y.pick (b := true) (v := .bool true) rfl rfl) ?_
    refine RQ.nil ?_
    intro w46 hb47
    have szw46 := hb47.size
    have T := Tt T hb47
    refine then_n ?_
    refine cond_t rfl rfl ?_
    refine wp_seq ?_
    refine wp_rs rfl ?_
    refine RQ.y rfl (Y.assign (v := .bool false) rfl) ?_
    refine RQ.nil ?_
    refine then_n ?_
    refine wp_ret ?_
    obtain rfl := Option.some.inj hm
    exact (then_r (ret1 rfl rfl rfl ⟨rfl, T⟩))
def m_spec_l11Same_A1 : Option Bool :=
  some true
def m_spec_l11Same_B1 (d0 : DNet) (d1 : DNet) (rec1 : Int → Option Bool) (K1 : Option Bool) (i7 : Int) : Option Bool :=
  (bif (decide (i7 < (d0.agents.length : Int))) then ((getI d0.agents i7).bind fun x10 => ((getI d1.agents i7).bind fun x21 => ((m_spec_l11SameAgent x10 x21).bind fun y32 => (bif y32 then (rec1 (i7 + 1)) else some false)))) else (K1))
def m_spec_l11Same_L1 (d0 : DNet) (d1 : DNet) (K1 : Option Bool) : Nat → Int → Option Bool
  | 0, _ => none
  | g + 1, i7 => m_spec_l11Same_B1 d0 d1 (m_spec_l11Same_L1 d0 d1 K1 g) K1 i7
def m_spec_l11Same (d0 : DNet) (d1 : DNet) : Option Bool :=
  (bif ((d0.agents.length : Int) != (d1.agents.length : Int)) then some false else (m_spec_l11Same_L1 d0 d1 m_spec_l11Same_A1 (d0.agents.length + 1) 0))
set_option maxHeartbeats 2000000 in
theorem c_m_spec_l11Same (d0 : DNet) (d1 : DNet) (r : Bool) (hm : m_spec_l11Same d0 d1 = some r) (v0 : Value) (v1 : Value) (w : World) (hv0 : Pt netRd w v0 d0) (hv1 : Pt netRd w v1 d1) :
    Calls Try.prog 52 #[v0, v1] w fun e w' => e = .returned (.bool r) ∧ Below w.heap.size w w' := by
  obtain ⟨ba0, oa0, csa0, rfl, hba0, hRa0, hca0⟩ := hv0
  have hSa0 := hRa0
  obtain ⟨A1, n1, c1, rfl, ⟨h1, r1⟩⟩ := hRa0
  have e1 := h1.len; subst e1
  have q1 := len_le r1
  obtain ⟨ba1, oa1, csa1, rfl, hba1, hRa1, hca1⟩ := hv1
  have hSa1 := hRa1
  obtain ⟨A2, n2, c2, rfl, ⟨h2, r2⟩⟩ := hRa1
  have e2 := h2.len; subst e2
  have q2 := len_le r2
  have T := Below.refl w.heap.size w
  unfold m_spec_l11Same at hm
  refine enter 40 Try.func52 rfl rfl rfl ?_
  intro f hf
  have s0 : f 0 = .pointer (some ⟨ba0, oa0, none⟩) := hf 0 _ rfl
  have s1 : f 1 = .pointer (some ⟨ba1, oa1, none⟩) := hf 1 _ rfl
  refine wp_seq ?_
  refine wp_rs rfl ?_
  refine RQ.y rfl (Y.assign (v := .bool false) rfl) ?_
  refine RQ.nil ?_
  refine then_n ?_
  refine wp_seq ?_
  refine wp_seq ?_
  refine wp_rbd (by kernel_rfl) (by kernel_rfl) ?_
  refine RQ.y rfl (Y.move (v := .pointer (some ⟨ba0, oa0, none⟩)) s0) ?_
  refine RQ.y rfl (Y.nilCheck rfl) ?_
  refine RQ.y rfl (Y.fieldAddr (off := 0) rfl (by kernel_rfl)) ?_
  refine RQ.y rfl (Y.load (v := .slice A1 d0.agents.length c1) rfl (by kernel_rfl) (beC (cellT T (hca0 0 _ rfl)))) ?_
  refine RQ.y rfl (Y.len (by kernel_rfl) rfl) ?_
  refine RQ.y rfl (Y.move (v := .pointer (some ⟨ba1, oa1, none⟩)) s1) ?_
  refine RQ.y rfl (Y.nilCheck rfl) ?_
  refine RQ.y rfl (Y.fieldAddr (off := 0) rfl (by kernel_rfl)) ?_
  refine RQ.y rfl (Y.load (v := .slice A2 d1.agents.length c2) rfl (by kernel_rfl) (beC (cellT T (hca1 0 _ rfl)))) ?_
  refine RQ.y rfl (Y.len (by kernel_rfl) rfl) ?_
  refine RQ.y rfl (Y.binI (v := .bool ((d0.agents.length : Int) != (d1.agents.length : Int))) rfl rfl rfl) ?_
  refine RQ.nil ?_
  intro w3 hb4
  have szw3 := hb4.size
  have T := Tt T hb4
  refine then_n ?_
  rcases bcases ((d0.agents.length : Int) != (d1.agents.length : Int)) with c5 | c5
  · replace hm := cF c5 hm
    refine cond_f rfl (vb rfl c5) ?_
    refine wp_skip ?_
    refine then_n ?_
    refine wp_seq ?_
    refine wp_seq ?_
    refine wp_rs rfl ?_
    refine RQ.y rfl (Y.assign (v := .int .i64 0) rfl) ?_
    refine RQ.nil ?_
    refine then_n ?_
    refine wp_block ?_
    obtain ⟨K1, hK1, hm⟩ : ∃ K, K = m_spec_l11Same_A1 ∧ m_spec_l11Same_L1 d0 d1 K (d0.agents.length + 1) 0 = some r := ⟨_, rfl, hm⟩
    refine wp_loopX (fun g f w' => ∃ (i7 : Int), f 0 = .pointer (some ⟨ba0, oa0, none⟩) ∧ f 1 = .pointer (some ⟨ba1, oa1, none⟩) ∧ f 5 = .int .i64 i7 ∧ 0 ≤ i7 ∧ Below w.heap.size w w' ∧ m_spec_l11Same_L1 d0 d1 K1 g i7 = some r) 0 (fun f w' => Below w.heap.size w w' ∧ m_spec_l11Same_A1  = some r) (d0.agents.length + 1) ⟨0, s0, s1, rfl, (by omega), T, hm⟩ ?_ ?_
    · rintro f w6 ⟨T, hm⟩
      unfold m_spec_l11Same_A1 at hm
      refine blk_hit (then_n ?_)
      refine wp_seq ?_
      refine wp_rs rfl ?_
      refine RQ.y rfl (Y.assign (v := .bool true) rfl) ?_
      refine RQ.nil ?_
      refine then_n ?_
      refine wp_ret ?_
      obtain rfl := Option.some.inj hm
      exact (ret1 rfl rfl rfl ⟨rfl, T⟩)
    · rintro g f w8 ⟨i7, s0_1, s1_1, s5_1, nn5_1, T, hm⟩
      rcases g with _ | g
      · simp only [m_spec_l11Same_L1] at hm; cases hm
      obtain ⟨rec1, hrec1, hm⟩ : ∃ z, z = m_spec_l11Same_L1 d0 d1 K1 g ∧ m_spec_l11Same_B1 d0 d1 z K1 i7 = some r := ⟨_, rfl, hm⟩
      unfold m_spec_l11Same_B1 at hm
      refine wp_seq ?_
      refine wp_seq ?_
      refine wp_rs rfl ?_
      refine RQ.y rfl (Y.move (v := .int .i64 i7) s5_1) ?_
      refine RQ.y rfl (Y.move (v := .pointer (some ⟨ba0, oa0, none⟩)) s0_1) ?_
      refine RQ.y rfl (Y.nilCheck rfl) ?_
      refine RQ.y rfl (Y.fieldAddr (off := 0) rfl (by kernel_rfl)) ?_
      refine RQ.y rfl (Y.load (v := .slice A1 d0.agents.length c1) rfl (by kernel_rfl) (eqC (cellT T (hca0 0 _ rfl)))) ?_
      refine RQ.y rfl (Y.len (by kernel_rfl) rfl) ?_
      refine RQ.y rfl (Y.binI (v := .bool (decide (i7 < (d0.agents.length : Int)))) rfl rfl rfl) ?_
      refine RQ.nil ?_
      refine then_n ?_
      rcases bcases (decide (i7 < (d0.agents.length : Int))) with c9 | c9
      · replace hm := cF c9 hm
        have pc9 := of_decide_eq_false c9
        refine cond_f rfl (vb rfl c9) ?_
        refine wp_exit ?_
        exact (then_x (then_x (hit_x ⟨_, rfl, ⟨T, (by rw [hK1] at hm; exact hm)⟩⟩)))
      · replace hm := cT c9 hm
        have pc9 := of_decide_eq_true c9
        refine cond_t rfl (vb rfl c9) ?_
        refine wp_skip ?_
        refine then_n ?_
        refine wp_seq ?_
        refine wp_block ?_
        refine wp_seq ?_
        refine wp_rbd (by kernel_rfl) (by kernel_rfl) ?_
        refine RQ.y rfl (Y.move (v := .pointer (some ⟨ba0, oa0, none⟩)) s0_1) ?_
        refine RQ.y rfl (Y.nilCheck rfl) ?_
        refine RQ.y rfl (Y.fieldAddr (off := 0) rfl (by kernel_rfl)) ?_
        refine RQ.y rfl (Y.load (v := .slice A1 d0.agents.length c1) rfl (by kernel_rfl) (beC (cellT T (hca0 0 _ rfl)))) ?_
        refine RQ.y rfl (Y.move (v := .int .i64 i7) s5_1) ?_
        obtain ⟨x10, hx13, hm⟩ := bnd hm
        obtain ⟨k11, hk14, hl15, hx13⟩ := getI_some hx13
        obtain ⟨b17, o18, rfl, hbb17⟩ := h1.addr (by omega)
        obtain ⟨cs12, hRcs12, hc16⟩ := h1.el hx13
        have hScs12 := hRcs12
        obtain ⟨A19, n19, c19, A20, n20, c20, rfl, ⟨h19, r19⟩, ⟨h20, r20⟩⟩ := hRcs12
        have e19 := h19.len; subst e19
        have q19 := len_le r19
        have e20 := h20.len; subst e20
        have q20 := len_le r20
        refine RQ.y rfl (Y.indexAddr (m := k11) (sz := 5) rfl rfl hk14 hl15 (by kernel_rfl)) ?_
        refine RQ.y rfl (Y.move (v := .pointer (some ⟨ba1, oa1, none⟩)) s1_1) ?_
        refine RQ.y rfl (Y.nilCheck rfl) ?_
        refine RQ.y rfl (Y.fieldAddr (off := 0) rfl (by kernel_rfl)) ?_
        refine RQ.y rfl (Y.load (v := .slice A2 d1.agents.length c2) rfl (by kernel_rfl) (beC (cellT T (hca1 0 _ rfl)))) ?_
        refine RQ.y rfl (Y.move (v := .int .i64 i7) s5_1) ?_
        obtain ⟨x21, hx24, hm⟩ := bnd hm
        obtain ⟨k22, hk25, hl26, hx24⟩ := getI_some hx24
        obtain ⟨b28, o29, rfl, hbb28⟩ := h2.addr (by omega)
        obtain ⟨cs23, hRcs23, hc27⟩ := h2.el hx24
        have hScs23 := hRcs23
        obtain ⟨A30, n30, c30, A31, n31, c31, rfl, ⟨h30, r30⟩, ⟨h31, r31⟩⟩ := hRcs23
        have e30 := h30.len; subst e30
        have q30 := len_le r30
        have e31 := h31.len; subst e31
        have q31 := len_le r31
        refine RQ.y rfl (Y.indexAddr (m := k22) (sz := 5) rfl rfl hk25 hl26 (by kernel_rfl)) ?_
        obtain ⟨y32, e33, hm⟩ := bnd hm
        refine RQ.call rfl (am2 rfl rfl) (by kernel_rfl) (v := .bool y32) (bel (K := fun _ => True) fun w' hb' => (c_m_spec_l11SameAgent x10 x21 _ e33 _ _ w' (ptArg agentRd_ok hbb17 hScs12 hc16 (Tt T hb')) (ptArg agentRd_ok hbb28 hScs23 hc27 (Tt T hb')))) ?_
        refine RQ.y rfl (Y.not (b' := (!y32)) rfl rfl) ?_
        refine RQ.nil ?_
        intro w34 hb35
        have szw34 := hb35.size
        have T := Tt T hb35
        refine then_n ?_
        rcases bcases y32 with c36 | c36
        · replace hm := cF c36 hm
          refine cond_t rfl (vbn rfl c36 rfl) ?_
          refine wp_seq ?_
          refine wp_rs rfl ?_
          refine RQ.y rfl (Y.assign (v := .bool false) rfl) ?_
          refine RQ.nil ?_
          refine then_n ?_
          refine wp_ret ?_
          obtain rfl := Option.some.inj hm
          exact (blk_r (then_r (then_r (hit_r (blk_r (then_r (ret1 rfl rfl rfl ⟨rfl, T⟩)))))))
        · replace hm := cT c36 hm
          refine cond_f rfl (vbn rfl c36 rfl) ?_
          refine wp_skip ?_
          refine blk_n (then_n ?_)
          refine wp_rs rfl ?_
          refine RQ.y rfl (Y.move (v := .int .i64 i7) s5_1) ?_
          refine RQ.y rfl (Y.binI rfl rfl (binI_add (m := i7) (by omega))) ?_
          refine RQ.y rfl (Y.assign (v := .int .i64 (i7 + 1)) rfl) ?_
          refine RQ.nil ?_
          exact (then_n ⟨g, _, Nat.lt_succ_self _, rfl, ⟨(i7 + 1), s0_1, s1_1, rfl, (by omega), T, (by rw [← hrec1]; exact hm)⟩⟩)
  · replace hm := cT c5 hm
    refine cond_t rfl (vb rfl c5) ?_
    refine wp_seq ?_
    refine wp_rs rfl ?_
    refine RQ.y rfl (Y.assign (v := .bool false) rfl) ?_
    refine RQ.nil ?_
    refine then_n ?_
    refine wp_ret ?_
    obtain rfl := Option.some.inj hm
    exact (then_r (ret1 rfl rfl rfl ⟨rfl, T⟩))
def m_slices_Equal_int64_int64_A1 : Option Bool :=
  some true
def m_slices_Equal_int64_int64_B1 (d0 : List Int) (d1 : List Int) (rec1 : Int → Option Bool) (K1 : Option Bool) (i3 : Int) : Option Bool :=
  (bif (decide (i3 < (d0.length : Int))) then ((getI d0 i3).bind fun x6 => ((getI d1 i3).bind fun x15 => (bif (x6 != x15) then some false else (rec1 (i3 + 1))))) else (K1))
def m_slices_Equal_int64_int64_L1 (d0 : List Int) (d1 : List Int) (K1 : Option Bool) : Nat → Int → Option Bool
  | 0, _ => none
  | g + 1, i3 => m_slices_Equal_int64_int64_B1 d0 d1 (m_slices_Equal_int64_int64_L1 d0 d1 K1 g) K1 i3
def m_slices_Equal_int64_int64 (d0 : List Int) (d1 : List Int) : Option Bool :=
  (bif ((d0.length : Int) != (d1.length : Int)) then some false else (m_slices_Equal_int64_int64_L1 d0 d1 m_slices_Equal_int64_int64_A1 (d0.length + 1) 0))
set_option maxHeartbeats 2000000 in
theorem c_m_slices_Equal_int64_int64 (d0 : List Int) (d1 : List Int) (r : Bool) (hm : m_slices_Equal_int64_int64 d0 d1 = some r) (v0 : Value) (v1 : Value) (w : World) (hv0 : Sl intRd 1 w v0 d0) (hv1 : Sl intRd 1 w v1 d1) :
    Calls Try.prog 133 #[v0, v1] w fun e w' => e = .returned (.bool r) ∧ Below w.heap.size w w' := by
  obtain ⟨Aa0, na0, ca0, rfl, ha0, ra0⟩ := hv0
  have ea0 := ha0.len; subst ea0
  have qa0 := len_le ra0
  obtain ⟨Aa1, na1, ca1, rfl, ha1, ra1⟩ := hv1
  have ea1 := ha1.len; subst ea1
  have qa1 := len_le ra1
  have T := Below.refl w.heap.size w
  unfold m_slices_Equal_int64_int64 at hm
  refine enter 26 Try.func133 rfl rfl rfl ?_
  intro f hf
  have s0 : f 0 = .slice Aa0 d0.length ca0 := hf 0 _ rfl
  have s1 : f 1 = .slice Aa1 d1.length ca1 := hf 1 _ rfl
  refine wp_seq ?_
  refine wp_rs rfl ?_
  refine RQ.y rfl (Y.assign (v := .bool false) rfl) ?_
  refine RQ.nil ?_
  refine then_n ?_
  refine wp_seq ?_
  refine wp_seq ?_
  refine wp_rs rfl ?_
  refine RQ.y rfl (Y.move (v := .slice Aa0 d0.length ca0) s0) ?_
  refine RQ.y rfl (Y.len (by kernel_rfl) rfl) ?_
  refine RQ.y rfl (Y.move (v := .slice Aa1 d1.length ca1) s1) ?_
  refine RQ.y rfl (Y.len (by kernel_rfl) rfl) ?_
  refine RQ.y rfl (Y.binI (v := .bool ((d0.length : Int) != (d1.length : Int))) rfl rfl rfl) ?_
  refine RQ.nil ?_
  refine then_n ?_
  rcases bcases ((d0.length : Int) != (d1.length : Int)) with c1 | c1
  · replace hm := cF c1 hm
    refine cond_f rfl (vb rfl c1) ?_
    refine wp_skip ?_
    refine then_n ?_
    refine wp_seq ?_
    refine wp_seq ?_
    refine wp_rs rfl ?_
    refine RQ.y rfl (Y.move (v := .slice Aa0 d0.length ca0) s0) ?_
    refine RQ.y rfl (Y.len (by kernel_rfl) rfl) ?_
    refine RQ.y rfl (Y.move (v := .int .i64 0) rfl) ?_
    refine RQ.nil ?_
    refine then_n ?_
    refine wp_block ?_
    obtain ⟨K1, hK1, hm⟩ : ∃ K, K = m_slices_Equal_int64_int64_A1 ∧ m_slices_Equal_int64_int64_L1 d0 d1 K (d0.length + 1) 0 = some r := ⟨_, rfl, hm⟩
    refine wp_loopX (fun g f w' => ∃ (i3 : Int), f 0 = .slice Aa0 d0.length ca0 ∧ f 1 = .slice Aa1 d1.length ca1 ∧ f 12 = .int .i64 (d0.length : Int) ∧ f 13 = .int .i64 i3 ∧ 0 ≤ i3 ∧ Below w.heap.size w w' ∧ m_slices_Equal_int64_int64_L1 d0 d1 K1 g i3 = some r) 0 (fun f w' => Below w.heap.size w w' ∧ m_slices_Equal_int64_int64_A1  = some r) (d0.length + 1) ⟨0, s0, s1, rfl, rfl, (by omega), T, hm⟩ ?_ ?_
    · rintro f w2 ⟨T, hm⟩
      unfold m_slices_Equal_int64_int64_A1 at hm
      refine blk_hit (then_n ?_)
      refine wp_seq ?_
      refine wp_rs rfl ?_
      refine RQ.y rfl (Y.assign (v := .bool true) rfl) ?_
      refine RQ.nil ?_
      refine then_n ?_
      refine wp_ret ?_
      obtain rfl := Option.some.inj hm
      exact (ret1 rfl rfl rfl ⟨rfl, T⟩)
    · rintro g f w4 ⟨i3, s0_1, s1_1, s12_1, s13_1, nn13_1, T, hm⟩
      rcases g with _ | g
      · simp only [m_slices_Equal_int64_int64_L1] at hm; cases hm
      obtain ⟨rec1, hrec1, hm⟩ : ∃ z, z = m_slices_Equal_int64_int64_L1 d0 d1 K1 g ∧ m_slices_Equal_int64_int64_B1 d0 d1 z K1 i3 = some r := ⟨_, rfl, hm⟩
      unfold m_slices_Equal_int64_int64_B1 at hm
      refine wp_seq ?_
      refine wp_rs rfl ?_
      refine RQ.y rfl (Y.binI (v := .bool (decide (i3 < (d0.length : Int)))) s13_1 s12_1 rfl) ?_
      refine RQ.nil ?_
      refine then_n ?_
      refine wp_seq ?_
      rcases bcases (decide (i3 < (d0.length : Int))) with c5 | c5
      · replace hm := cF c5 hm
        have pc5 := of_decide_eq_false c5
        refine cond_f rfl (vb rfl c5) ?_
        refine wp_exit ?_
        exact (then_x (then_x (hit_x ⟨_, rfl, ⟨T, (by rw [hK1] at hm; exact hm)⟩⟩)))
      · replace hm := cT c5 hm
        have pc5 := of_decide_eq_true c5
        refine cond_t rfl (vb rfl c5) ?_
        refine wp_skip ?_
        refine then_n ?_
        refine wp_seq ?_
        refine wp_block ?_
        refine wp_seq ?_
        refine wp_rs rfl ?_
        refine RQ.y rfl (Y.move (v := .int .i64 i3) s13_1) ?_
        refine RQ.y rfl (Y.assign (v := .int .i64 i3) rfl) ?_
        refine RQ.nil ?_
        refine then_n ?_
        refine wp_seq ?_
        refine wp_rbd (by kernel_rfl) (by kernel_rfl) ?_
        refine RQ.y rfl (Y.move (v := .slice Aa0 d0.length ca0) s0_1) ?_
        refine RQ.y rfl (Y.move (v := .int .i64 i3) rfl) ?_
        obtain ⟨x6, hx9, hm⟩ := bnd hm
        obtain ⟨k7, hk10, hl11, hx9⟩ := getI_some hx9
        obtain ⟨b13, o14, rfl, hbb13⟩ := ha0.addr (by omega)
        obtain ⟨cs8, hRcs8, hc12⟩ := ha0.el hx9
        have hScs8 := hRcs8
        obtain rfl := hRcs8
        refine RQ.y rfl (Y.indexAddr (m := k7) (sz := 1) rfl rfl hk10 hl11 (by kernel_rfl)) ?_
        refine RQ.y rfl (Y.load (v := .int .i64 x6) rfl (by kernel_rfl) (beC (cellT T (hc12 0 _ rfl)))) ?_
        refine RQ.y rfl (Y.move (v := .slice Aa1 d1.length ca1) s1_1) ?_
        refine RQ.y rfl (Y.move (v := .int .i64 i3) rfl) ?_
        obtain ⟨x15, hx18, hm⟩ := bnd hm
        obtain ⟨k16, hk19, hl20, hx18⟩ := getI_some hx18
        obtain ⟨b22, o23, rfl, hbb22⟩ := ha1.addr (by omega)
        obtain ⟨cs17, hRcs17, hc21⟩ := ha1.el hx18
        have hScs17 := hRcs17
        obtain rfl := hRcs17
        refine RQ.y rfl (Y.indexAddr (m := k16) (sz := 1) rfl rfl hk19 hl20 (by kernel_rfl)) ?_
        refine RQ.y rfl (Y.load (v := .int .i64 x15) rfl (by kernel_rfl) (beC (cellT T (hc21 0 _ rfl)))) ?_
        refine RQ.y rfl (Y.binI (v := .bool (x6 != x15)) rfl rfl rfl) ?_
        refine RQ.nil ?_
        intro w24 hb25
        have szw24 := hb25.size
        have T := Tt T hb25
        refine then_n ?_
        rcases bcases (x6 != x15) with c26 | c26
        · replace hm := cF c26 hm
          refine cond_f rfl (vb rfl c26) ?_
          refine wp_skip ?_
          refine blk_n (then_n ?_)
          refine wp_rs rfl ?_
          refine RQ.y rfl (Y.binI s13_1 rfl (binI_add (m := i3) (by omega))) ?_
          refine RQ.y rfl (Y.move (v := .int .i64 (i3 + 1)) rfl) ?_
          refine RQ.nil ?_
          exact (then_n ⟨g, _, Nat.lt_succ_self _, rfl, ⟨(i3 + 1), s0_1, s1_1, s12_1, rfl, (by omega), T, (by rw [← hrec1]; exact hm)⟩⟩)
        · replace hm := cT c26 hm
          refine cond_t rfl (vb rfl c26) ?_
          refine wp_seq ?_
          refine wp_rs rfl ?_
          refine RQ.y rfl (Y.assign (v := .bool false) rfl) ?_
          refine RQ.nil ?_
          refine then_n ?_
          refine wp_ret ?_
          obtain rfl := Option.some.inj hm
          exact (blk_r (then_r (then_r (hit_r (blk_r (then_r (ret1 rfl rfl rfl ⟨rfl, T⟩)))))))
  · replace hm := cT c1 hm
    refine cond_t rfl (vb rfl c1) ?_
    refine wp_seq ?_
    refine wp_rs rfl ?_
    refine RQ.y rfl (Y.assign (v := .bool false) rfl) ?_
    refine RQ.nil ?_
    refine then_n ?_
    refine wp_ret ?_
    obtain rfl := Option.some.inj hm
    exact (then_r (ret1 rfl rfl rfl ⟨rfl, T⟩))
def m_slices_Equal_impl_Port_impl_Port_A1 : Option Bool :=
  some true
def m_slices_Equal_impl_Port_impl_Port_B1 (d0 : List DPort) (d1 : List DPort) (rec1 : Int → Option Bool) (K1 : Option Bool) (i3 : Int) : Option Bool :=
  (bif (decide (i3 < (d0.length : Int))) then ((getI d0 i3).bind fun x6 => ((getI d1 i3).bind fun x15 => (bif (x6.agent == x15.agent && x6.slot == x15.slot) then (rec1 (i3 + 1)) else some false))) else (K1))
def m_slices_Equal_impl_Port_impl_Port_L1 (d0 : List DPort) (d1 : List DPort) (K1 : Option Bool) : Nat → Int → Option Bool
  | 0, _ => none
  | g + 1, i3 => m_slices_Equal_impl_Port_impl_Port_B1 d0 d1 (m_slices_Equal_impl_Port_impl_Port_L1 d0 d1 K1 g) K1 i3
def m_slices_Equal_impl_Port_impl_Port (d0 : List DPort) (d1 : List DPort) : Option Bool :=
  (bif ((d0.length : Int) != (d1.length : Int)) then some false else (m_slices_Equal_impl_Port_impl_Port_L1 d0 d1 m_slices_Equal_impl_Port_impl_Port_A1 (d0.length + 1) 0))
set_option maxHeartbeats 2000000 in
theorem c_m_slices_Equal_impl_Port_impl_Port (d0 : List DPort) (d1 : List DPort) (r : Bool) (hm : m_slices_Equal_impl_Port_impl_Port d0 d1 = some r) (v0 : Value) (v1 : Value) (w : World) (hv0 : Sl portRd 2 w v0 d0) (hv1 : Sl portRd 2 w v1 d1) :
    Calls Try.prog 134 #[v0, v1] w fun e w' => e = .returned (.bool r) ∧ Below w.heap.size w w' := by
  obtain ⟨Aa0, na0, ca0, rfl, ha0, ra0⟩ := hv0
  have ea0 := ha0.len; subst ea0
  have qa0 := len_le ra0
  obtain ⟨Aa1, na1, ca1, rfl, ha1, ra1⟩ := hv1
  have ea1 := ha1.len; subst ea1
  have qa1 := len_le ra1
  have T := Below.refl w.heap.size w
  unfold m_slices_Equal_impl_Port_impl_Port at hm
  refine enter 26 Try.func134 rfl rfl rfl ?_
  intro f hf
  have s0 : f 0 = .slice Aa0 d0.length ca0 := hf 0 _ rfl
  have s1 : f 1 = .slice Aa1 d1.length ca1 := hf 1 _ rfl
  refine wp_seq ?_
  refine wp_rs rfl ?_
  refine RQ.y rfl (Y.assign (v := .bool false) rfl) ?_
  refine RQ.nil ?_
  refine then_n ?_
  refine wp_seq ?_
  refine wp_seq ?_
  refine wp_rs rfl ?_
  refine RQ.y rfl (Y.move (v := .slice Aa0 d0.length ca0) s0) ?_
  refine RQ.y rfl (Y.len (by kernel_rfl) rfl) ?_
  refine RQ.y rfl (Y.move (v := .slice Aa1 d1.length ca1) s1) ?_
  refine RQ.y rfl (Y.len (by kernel_rfl) rfl) ?_
  refine RQ.y rfl (Y.binI (v := .bool ((d0.length : Int) != (d1.length : Int))) rfl rfl rfl) ?_
  refine RQ.nil ?_
  refine then_n ?_
  rcases bcases ((d0.length : Int) != (d1.length : Int)) with c1 | c1
  · replace hm := cF c1 hm
    refine cond_f rfl (vb rfl c1) ?_
    refine wp_skip ?_
    refine then_n ?_
    refine wp_seq ?_
    refine wp_seq ?_
    refine wp_rs rfl ?_
    refine RQ.y rfl (Y.move (v := .slice Aa0 d0.length ca0) s0) ?_
    refine RQ.y rfl (Y.len (by kernel_rfl) rfl) ?_
    refine RQ.y rfl (Y.move (v := .int .i64 0) rfl) ?_
    refine RQ.nil ?_
    refine then_n ?_
    refine wp_block ?_
    obtain ⟨K1, hK1, hm⟩ : ∃ K, K = m_slices_Equal_impl_Port_impl_Port_A1 ∧ m_slices_Equal_impl_Port_impl_Port_L1 d0 d1 K (d0.length + 1) 0 = some r := ⟨_, rfl, hm⟩
    refine wp_loopX (fun g f w' => ∃ (i3 : Int), f 0 = .slice Aa0 d0.length ca0 ∧ f 1 = .slice Aa1 d1.length ca1 ∧ f 12 = .int .i64 (d0.length : Int) ∧ f 13 = .int .i64 i3 ∧ 0 ≤ i3 ∧ Below w.heap.size w w' ∧ m_slices_Equal_impl_Port_impl_Port_L1 d0 d1 K1 g i3 = some r) 0 (fun f w' => Below w.heap.size w w' ∧ m_slices_Equal_impl_Port_impl_Port_A1  = some r) (d0.length + 1) ⟨0, s0, s1, rfl, rfl, (by omega), T, hm⟩ ?_ ?_
    · rintro f w2 ⟨T, hm⟩
      unfold m_slices_Equal_impl_Port_impl_Port_A1 at hm
      refine blk_hit (then_n ?_)
      refine wp_seq ?_
      refine wp_rs rfl ?_
      refine RQ.y rfl (Y.assign (v := .bool true) rfl) ?_
      refine RQ.nil ?_
      refine then_n ?_
      refine wp_ret ?_
      obtain rfl := Option.some.inj hm
      exact (ret1 rfl rfl rfl ⟨rfl, T⟩)
    · rintro g f w4 ⟨i3, s0_1, s1_1, s12_1, s13_1, nn13_1, T, hm⟩
      rcases g with _ | g
      · simp only [m_slices_Equal_impl_Port_impl_Port_L1] at hm; cases hm
      obtain ⟨rec1, hrec1, hm⟩ : ∃ z, z = m_slices_Equal_impl_Port_impl_Port_L1 d0 d1 K1 g ∧ m_slices_Equal_impl_Port_impl_Port_B1 d0 d1 z K1 i3 = some r := ⟨_, rfl, hm⟩
      unfold m_slices_Equal_impl_Port_impl_Port_B1 at hm
      refine wp_seq ?_
      refine wp_rs rfl ?_
      refine RQ.y rfl (Y.binI (v := .bool (decide (i3 < (d0.length : Int)))) s13_1 s12_1 rfl) ?_
      refine RQ.nil ?_
      refine then_n ?_
      refine wp_seq ?_
      rcases bcases (decide (i3 < (d0.length : Int))) with c5 | c5
      · replace hm := cF c5 hm
        have pc5 := of_decide_eq_false c5
        refine cond_f rfl (vb rfl c5) ?_
        refine wp_exit ?_
        exact (then_x (then_x (hit_x ⟨_, rfl, ⟨T, (by rw [hK1] at hm; exact hm)⟩⟩)))
      · replace hm := cT c5 hm
        have pc5 := of_decide_eq_true c5
        refine cond_t rfl (vb rfl c5) ?_
        refine wp_skip ?_
        refine then_n ?_
        refine wp_seq ?_
        refine wp_block ?_
        refine wp_seq ?_
        refine wp_rs rfl ?_
        refine RQ.y rfl (Y.move (v := .int .i64 i3) s13_1) ?_
        refine RQ.y rfl (Y.assign (v := .int .i64 i3) rfl) ?_
        refine RQ.nil ?_
        refine then_n ?_
        refine wp_seq ?_
        refine wp_rbd (by kernel_rfl) (by kernel_rfl) ?_
        refine RQ.y rfl (Y.move (v := .slice Aa0 d0.length ca0) s0_1) ?_
        refine RQ.y rfl (Y.move (v := .int .i64 i3) rfl) ?_
        obtain ⟨x6, hx9, hm⟩ := bnd hm
        obtain ⟨k7, hk10, hl11, hx9⟩ := getI_some hx9
        obtain ⟨b13, o14, rfl, hbb13⟩ := ha0.addr (by omega)
        obtain ⟨cs8, hRcs8, hc12⟩ := ha0.el hx9
        have hScs8 := hRcs8
        obtain rfl := hRcs8
        refine RQ.y rfl (Y.indexAddr (m := k7) (sz := 2) rfl rfl hk10 hl11 (by kernel_rfl)) ?_
        refine RQ.y rfl (Y.loadN (cs := [.int .i64 x6.agent, .int .i64 x6.slot]) rfl (by kernel_rfl) (cells2 (beC (cellT T (hc12 0 _ rfl))) (beC (cellT T (hc12 1 _ rfl))))) ?_
        refine RQ.y rfl (Y.move (v := .slice Aa1 d1.length ca1) s1_1) ?_
        refine RQ.y rfl (Y.move (v := .int .i64 i3) rfl) ?_
        obtain ⟨x15, hx18, hm⟩ := bnd hm
        obtain ⟨k16, hk19, hl20, hx18⟩ := getI_some hx18
        obtain ⟨b22, o23, rfl, hbb22⟩ := ha1.addr (by omega)
        obtain ⟨cs17, hRcs17, hc21⟩ := ha1.el hx18
        have hScs17 := hRcs17
        obtain rfl := hRcs17
        refine RQ.y rfl (Y.indexAddr (m := k16) (sz := 2) rfl rfl hk19 hl20 (by kernel_rfl)) ?_
        refine RQ.y rfl (Y.loadN (cs := [.int .i64 x15.agent, .int .i64 x15.slot]) rfl (by kernel_rfl) (cells2 (beC (cellT T (hc21 0 _ rfl))) (beC (cellT T (hc21 1 _ rfl))))) ?_
        refine RQ.y rfl (Y.neS (b := (x6.agent == x15.agent && x6.slot == x15.slot)) rfl rfl (eqPort_run _ _ _ _) (eqGuardPort_run _ _ _ _ _)) ?_
        refine RQ.nil ?_
        intro w24 hb25
        have szw24 := hb25.size
        have T := Tt T hb25
        refine then_n ?_
        rcases bcases (x6.agent == x15.agent && x6.slot == x15.slot) with c26 | c26
        · replace hm := cF c26 hm
          refine cond_t rfl (vbn rfl c26 rfl) ?_
          refine wp_seq ?_
          refine wp_rs rfl ?_
          refine RQ.y rfl (Y.assign (v := .bool false) rfl) ?_
          refine RQ.nil ?_
          refine then_n ?_
          refine wp_ret ?_
          obtain rfl := Option.some.inj hm
          exact (blk_r (then_r (then_r (hit_r (blk_r (then_r (ret1 rfl rfl rfl ⟨rfl, T⟩)))))))
        · replace hm := cT c26 hm
          refine cond_f rfl (vbn rfl c26 rfl) ?_
          refine wp_skip ?_
          refine blk_n (then_n ?_)
          refine wp_rs rfl ?_
          refine RQ.y rfl (Y.binI s13_1 rfl (binI_add (m := i3) (by omega))) ?_
          refine RQ.y rfl (Y.move (v := .int .i64 (i3 + 1)) rfl) ?_
          refine RQ.nil ?_
          exact (then_n ⟨g, _, Nat.lt_succ_self _, rfl, ⟨(i3 + 1), s0_1, s1_1, s12_1, rfl, (by omega), T, (by rw [← hrec1]; exact hm)⟩⟩)
  · replace hm := cT c1 hm
    refine cond_t rfl (vb rfl c1) ?_
    refine wp_seq ?_
    refine wp_rs rfl ?_
    refine RQ.y rfl (Y.assign (v := .bool false) rfl) ?_
    refine RQ.nil ?_
    refine then_n ?_
    refine wp_ret ?_
    obtain rfl := Option.some.inj hm
    exact (then_r (ret1 rfl rfl rfl ⟨rfl, T⟩))
def m_impl_sameAgent (d0 : DAgent) (d1 : DAgent) : Option Bool :=
  (bif (d0.kind == d1.kind) then (bif (d0.level == d1.level) then (bif (d0.value == d1.value) then ((m_slices_Equal_int64_int64 d0.data d1.data).bind fun y22 => (bif y22 then ((m_slices_Equal_impl_Port_impl_Port d0.ports d1.ports).bind fun y27 => some y27) else some false)) else some false) else some false) else some false)
set_option maxHeartbeats 2000000 in
theorem c_m_impl_sameAgent (d0 : DAgent) (d1 : DAgent) (r : Bool) (hm : m_impl_sameAgent d0 d1 = some r) (v0 : Value) (v1 : Value) (w : World) (hv0 : St agentRd w v0 d0) (hv1 : St agentRd w v1 d1) :
    Calls Try.prog 103 #[v0, v1] w fun e w' => e = .returned (.bool r) ∧ Below w.heap.size w w' := by
  obtain ⟨csa0, rfl, ⟨A1, n1, c1, A2, n2, c2, rfl, ⟨h1, r1⟩, ⟨h2, r2⟩⟩⟩ := hv0
  have e1 := h1.len; subst e1
  have q1 := len_le r1
  have e2 := h2.len; subst e2
  have q2 := len_le r2
  obtain ⟨csa1, rfl, ⟨A3, n3, c3, A4, n4, c4, rfl, ⟨h3, r3⟩, ⟨h4, r4⟩⟩⟩ := hv1
  have e3 := h3.len; subst e3
  have q3 := len_le r3
  have e4 := h4.len; subst e4
  have q4 := len_le r4
  have T := Below.refl w.heap.size w
  unfold m_impl_sameAgent at hm
  refine enter 38 Try.func103 rfl rfl rfl ?_
  intro f hf
  have s0 : f 0 = .agg #[.int .i64 d0.kind, .int .i64 d0.level, .int .i64 d0.value, .slice A1 d0.data.length c1, .slice A2 d0.ports.length c2] := hf 0 _ rfl
  have s1 : f 1 = .agg #[.int .i64 d1.kind, .int .i64 d1.level, .int .i64 d1.value, .slice A3 d1.data.length c3, .slice A4 d1.ports.length c4] := hf 1 _ rfl
  refine wp_seq ?_
  refine wp_rl rfl ?_
  refine RL.box rfl s0 (fun w5 B6 hb7 szw5 => ?_)
  replace B6 : Blk w5 w.heap.size 122 #[.int .i64 d0.kind, .int .i64 d0.level, .int .i64 d0.value, .slice A1 d0.data.length c1, .slice A2 d0.ports.length c2] := B6
  have GB6 : w.heap.size ≤ w.heap.size := T.size
  have T := Tt T hb7
  refine RL.box rfl s1 (fun w9 B10 hb11 szw9 => ?_)
  replace B10 : Blk w9 w5.heap.size 122 #[.int .i64 d1.kind, .int .i64 d1.level, .int .i64 d1.value, .slice A3 d1.data.length c3, .slice A4 d1.ports.length c4] := B10
  have GB10 : w.heap.size ≤ w5.heap.size := T.size
  have Eob12_ob8 := Nat.ne_of_lt B6.lt
  have B6 := blkT B6 hb11
  have T := Tt T hb11
  refine RL.y rfl (Y.assign (v := .bool false) rfl) ?_
  refine RL.nil ?_
  refine then_n ?_
  refine wp_seq ?_
  refine wp_rb rfl ?_
  refine RQ.y rfl (Y.fieldAddr (off := 0) rfl (by kernel_rfl)) ?_
  refine RQ.y rfl (Y.load (v := .int .i64 d0.kind) rfl (by kernel_rfl) (beC (blkCell B6 (i := 0) rfl))) ?_
  refine RQ.y rfl (Y.fieldAddr (off := 0) rfl (by kernel_rfl)) ?_
  refine RQ.y rfl (Y.load (v := .int .i64 d1.kind) rfl (by kernel_rfl) (beC (blkCell B10 (i := 0) rfl))) ?_
  refine RQ.y rfl (Y.binI (v := .bool (d0.kind == d1.kind)) rfl rfl rfl) ?_
  refine RQ.y rfl (Y.move (v := .bool (d0.kind == d1.kind)) rfl) ?_
  rcases bcases (d0.kind == d1.kind) with c13 | c13
  · replace hm := cF c13 hm
    refine RQ.skip (wantN (dj := 10) rfl (vb rfl c13) rfl) ?_
    refine RQ.skip (wantN (dj := 10) rfl (vb rfl c13) rfl) ?_
    refine RQ.skip (wantN (dj := 10) rfl (vb rfl c13) rfl) ?_
    refine RQ.skip (wantN (dj := 10) rfl (vb rfl c13) rfl) ?_
    refine RQ.skip (wantN (dj := 10) rfl (vb rfl c13) rfl) ?_
    refine RQ.y rfl (Y.pick (b := false) (v := .bool false) (vb rfl c13) rfl) ?_
    refine RQ.y rfl (Y.move (v := .bool false) rfl) ?_
    refine RQ.skip (wantN (dj := 17) rfl rfl rfl) ?_
    refine RQ.skip (wantN (dj := 17) rfl rfl rfl) ?_
    refine RQ.skip (wantN (dj := 17) rfl rfl rfl) ?_
    refine RQ.skip (wantN (dj := 17) rfl rfl rfl) ?_
    refine RQ.skip (wantN (dj := 17) rfl rfl rfl) ?_
    refine RQ.y rfl (Y.pick (b := false) (v := .bool false) rfl rfl) ?_
    refine RQ.y rfl (Y.move (v := .bool false) rfl) ?_
    refine RQ.skip (wantN (dj := 24) rfl rfl rfl) ?_
    refine RQ.skip (wantN (dj := 24) rfl rfl rfl) ?_
    refine RQ.skip (wantN (dj := 24) rfl rfl rfl) ?_
    refine RQ.skip (wantN (dj := 24) rfl rfl rfl) ?_
    refine RQ.skip (wantN (dj := 24) rfl rfl rfl) ?_
    refine RQ.y rfl (Y.pick (b := false) (v := .bool false) rfl rfl) ?_
    refine RQ.y rfl (Y.move (v := .bool false) rfl) ?_
    refine RQ.skip (wantN (dj := 31) rfl rfl rfl) ?_
    refine RQ.skip (wantN (dj := 31) rfl rfl rfl) ?_
    refine RQ.skip (wantN (dj := 31) rfl rfl rfl) ?_
    refine RQ.skip (wantN (dj := 31) rfl rfl rfl) ?_
    refine RQ.skip (wantN (dj := 31) rfl rfl rfl) ?_
    refine RQ.y rfl (Y.pick (b := false) (v := .bool false) rfl rfl) ?_
    refine RQ.y rfl (Y.assign (v := .bool false) rfl) ?_
    refine RQ.nil ?_
    intro w14 hb15
    have szw14 := hb15.size
    have T := Tt T hb15
    refine then_n ?_
    refine wp_ret ?_
    obtain rfl := Option.some.inj hm
    exact (ret1 rfl rfl rfl ⟨rfl, T⟩)
  · replace hm := cT c13 hm
    refine RQ.y (wantT (dj := 10) rfl (vb rfl c13)) (Y.fieldAddr (off := 1) rfl (by kernel_rfl)) ?_
    refine RQ.y (wantT (dj := 10) rfl (vb rfl c13)) (Y.load (v := .int .i64 d0.level) rfl (by kernel_rfl) (beC (blkCell B6 (i := 1) rfl))) ?_
    refine RQ.y (wantT (dj := 10) rfl (vb rfl c13)) (Y.fieldAddr (off := 1) rfl (by kernel_rfl)) ?_
    refine RQ.y (wantT (dj := 10) rfl (vb rfl c13)) (Y.load (v := .int .i64 d1.level) rfl (by kernel_rfl) (beC (blkCell B10 (i := 1) rfl))) ?_
    refine RQ.y (wantT (dj := 10) rfl (vb rfl c13)) (Y.binI (v := .bool (d0.level == d1.level)) rfl rfl rfl) ?_
    refine RQ.y rfl (Y.pick (b := true) (v := .bool (d0.level == d1.level)) (vb rfl c13) rfl) ?_
    refine RQ.y rfl (Y.move (v := .bool (d0.level == d1.level)) rfl) ?_
    rcases bcases (d0.level == d1.level) with c16 | c16
    · replace hm := cF c16 hm
      refine RQ.skip (wantN (dj := 17) rfl (vb rfl c16) rfl) ?_
      refine RQ.skip (wantN (dj := 17) rfl (vb rfl c16) rfl) ?_
      refine RQ.skip (wantN (dj := 17) rfl (vb rfl c16) rfl) ?_
      refine RQ.skip (wantN (dj := 17) rfl (vb rfl c16) rfl) ?_
      refine RQ.skip (wantN (dj := 17) rfl (vb rfl c16) rfl) ?_
      refine RQ.y rfl (Y.pick (b := false) (v := .bool false) (vb rfl c16) rfl) ?_
      refine RQ.y rfl (Y.move (v := .bool false) rfl) ?_
      refine RQ.skip (wantN (dj := 24) rfl rfl rfl) ?_
      refine RQ.skip (wantN (dj := 24) rfl rfl rfl) ?_
      refine RQ.skip (wantN (dj := 24) rfl rfl rfl) ?_
      refine RQ.skip (wantN (dj := 24) rfl rfl rfl) ?_
      refine RQ.skip (wantN (dj := 24) rfl rfl rfl) ?_
      refine RQ.y rfl (Y.pick (b := false) (v := .bool false) rfl rfl) ?_
      refine RQ.y rfl (Y.move (v := .bool false) rfl) ?_
      refine RQ.skip (wantN (dj := 31) rfl rfl rfl) ?_
      refine RQ.skip (wantN (dj := 31) rfl rfl rfl) ?_
      refine RQ.skip (wantN (dj := 31) rfl rfl rfl) ?_
      refine RQ.skip (wantN (dj := 31) rfl rfl rfl) ?_
      refine RQ.skip (wantN (dj := 31) rfl rfl rfl) ?_
      refine RQ.y rfl (Y.pick (b := false) (v := .bool false) rfl rfl) ?_
      refine RQ.y rfl (Y.assign (v := .bool false) rfl) ?_
      refine RQ.nil ?_
      intro w17 hb18
      have szw17 := hb18.size
      have T := Tt T hb18
      refine then_n ?_
      refine wp_ret ?_
      obtain rfl := Option.some.inj hm
      exact (ret1 rfl rfl rfl ⟨rfl, T⟩)
    · replace hm := cT c16 hm
      refine RQ.y (wantT (dj := 17) rfl (vb rfl c16)) (Y.fieldAddr (off := 2) rfl (by kernel_rfl)) ?_
      refine RQ.y (wantT (dj := 17) rfl (vb rfl c16)) (Y.load (v := .int .i64 d0.value) rfl (by kernel_rfl) (beC (blkCell B6 (i := 2) rfl))) ?_
      refine RQ.y (wantT (dj := 17) rfl (vb rfl c16)) (Y.fieldAddr (off := 2) rfl (by kernel_rfl)) ?_
      refine RQ.y (wantT (dj := 17) rfl (vb rfl c16)) (Y.load (v := .int .i64 d1.value) rfl (by kernel_rfl) (beC (blkCell B10 (i := 2) rfl))) ?_
      refine RQ.y (wantT (dj := 17) rfl (vb rfl c16)) (Y.binI (v := .bool (d0.value == d1.value)) rfl rfl rfl) ?_
      refine RQ.y rfl (Y.pick (b := true) (v := .bool (d0.value == d1.value)) (vb rfl c16) rfl) ?_
      refine RQ.y rfl (Y.move (v := .bool (d0.value == d1.value)) rfl) ?_
      rcases bcases (d0.value == d1.value) with c19 | c19
      · replace hm := cF c19 hm
        refine RQ.skip (wantN (dj := 24) rfl (vb rfl c19) rfl) ?_
        refine RQ.skip (wantN (dj := 24) rfl (vb rfl c19) rfl) ?_
        refine RQ.skip (wantN (dj := 24) rfl (vb rfl c19) rfl) ?_
        refine RQ.skip (wantN (dj := 24) rfl (vb rfl c19) rfl) ?_
        refine RQ.skip (wantN (dj := 24) rfl (vb rfl c19) rfl) ?_
        refine RQ.y rfl (Y.pick (b := false) (v := .bool false) (vb rfl c19) rfl) ?_
        refine RQ.y rfl (Y.move (v := .bool false) rfl) ?_
        refine RQ.skip (wantN (dj := 31) rfl rfl rfl) ?_
        refine RQ.skip (wantN (dj := 31) rfl rfl rfl) ?_
        refine RQ.skip (wantN (dj := 31) rfl rfl rfl) ?_
        refine RQ.skip (wantN (dj := 31) rfl rfl rfl) ?_
        refine RQ.skip (wantN (dj := 31) rfl rfl rfl) ?_
        refine RQ.y rfl (Y.pick (b := false) (v := .bool false) rfl rfl) ?_
        refine RQ.y rfl (Y.assign (v := .bool false) rfl) ?_
        refine RQ.nil ?_
        intro w20 hb21
        have szw20 := hb21.size
        have T := Tt T hb21
        refine then_n ?_
        refine wp_ret ?_
        obtain rfl := Option.some.inj hm
        exact (ret1 rfl rfl rfl ⟨rfl, T⟩)
      · replace hm := cT c19 hm
        refine RQ.y (wantT (dj := 24) rfl (vb rfl c19)) (Y.fieldAddr (off := 3) rfl (by kernel_rfl)) ?_
        refine RQ.y (wantT (dj := 24) rfl (vb rfl c19)) (Y.load (v := .slice A1 d0.data.length c1) rfl (by kernel_rfl) (beC (blkCell B6 (i := 3) rfl))) ?_
        refine RQ.y (wantT (dj := 24) rfl (vb rfl c19)) (Y.fieldAddr (off := 3) rfl (by kernel_rfl)) ?_
        refine RQ.y (wantT (dj := 24) rfl (vb rfl c19)) (Y.load (v := .slice A3 d1.data.length c3) rfl (by kernel_rfl) (beC (blkCell B10 (i := 3) rfl))) ?_
        obtain ⟨y22, e23, hm⟩ := bnd hm
        refine RQ.call (wantT (dj := 24) rfl (vb rfl c19)) (am2 rfl rfl) (by kernel_rfl) (v := .bool y22) (bel (K := fun _ => True) fun w' hb' => (c_m_slices_Equal_int64_int64 d0.data d1.data _ e23 _ _ w' (slArg intRd_ok h1 r1 (Tt T hb')) (slArg intRd_ok h3 r3 (Tt T hb')))) ?_
        refine RQ.y rfl (Y.pick (b := true) (v := .bool y22) (vb rfl c19) rfl) ?_
        refine RQ.y rfl (Y.move (v := .bool y22) rfl) ?_
        rcases bcases y22 with c24 | c24
        · replace hm := cF c24 hm
          refine RQ.skip (wantN (dj := 31) rfl (vb rfl c24) rfl) ?_
          refine RQ.skip (wantN (dj := 31) rfl (vb rfl c24) rfl) ?_
          refine RQ.skip (wantN (dj := 31) rfl (vb rfl c24) rfl) ?_
          refine RQ.skip (wantN (dj := 31) rfl (vb rfl c24) rfl) ?_
          refine RQ.skip (wantN (dj := 31) rfl (vb rfl c24) rfl) ?_
          refine RQ.y rfl (Y.pick (b := false) (v := .bool false) (vb rfl c24) rfl) ?_
          refine RQ.y rfl (Y.assign (v := .bool false) rfl) ?_
          refine RQ.nil ?_
          intro w25 hb26
          have szw25 := hb26.size
          have T := Tt T hb26
          refine then_n ?_
          refine wp_ret ?_
          obtain rfl := Option.some.inj hm
          exact (ret1 rfl rfl rfl ⟨rfl, T⟩)
        · replace hm := cT c24 hm
          refine RQ.y (wantT (dj := 31) rfl (vb rfl c24)) (Y.fieldAddr (off := 4) rfl (by kernel_rfl)) ?_
          refine RQ.y (wantT (dj := 31) rfl (vb rfl c24)) (Y.load (v := .slice A2 d0.ports.length c2) rfl (by kernel_rfl) (beC (blkCell B6 (i := 4) rfl))) ?_
          refine RQ.y (wantT (dj := 31) rfl (vb rfl c24)) (Y.fieldAddr (off := 4) rfl (by kernel_rfl)) ?_
          refine RQ.y (wantT (dj := 31) rfl (vb rfl c24)) (Y.load (v := .slice A4 d1.ports.length c4) rfl (by kernel_rfl) (beC (blkCell B10 (i := 4) rfl))) ?_
          obtain ⟨y27, e28, hm⟩ := bnd hm
          refine RQ.call (wantT (dj := 31) rfl (vb rfl c24)) (am2 rfl rfl) (by kernel_rfl) (v := .bool y27) (bel (K := fun _ => True) fun w' hb' => (c_m_slices_Equal_impl_Port_impl_Port d0.ports d1.ports _ e28 _ _ w' (slArg portRd_ok h2 r2 (Tt T hb')) (slArg portRd_ok h4 r4 (Tt T hb')))) ?_
          refine RQ.y rfl (Y.pick (b := true) (v := .bool y27) (vb rfl c24) rfl) ?_
          refine RQ.y rfl (Y.assign (v := .bool y27) rfl) ?_
          refine RQ.nil ?_
          intro w29 hb30
          have szw29 := hb30.size
          have T := Tt T hb30
          refine then_n ?_
          refine wp_ret ?_
          obtain rfl := Option.some.inj hm
          exact (ret1 rfl rfl rfl ⟨rfl, T⟩)
def m_slices_EqualFunc_impl_Agent_impl_Agent_impl_Agent_impl_Agent_A1 : Option Bool :=
  some true
def m_slices_EqualFunc_impl_Agent_impl_Agent_impl_Agent_impl_Agent_B1 (d0 : List DAgent) (d1 : List DAgent) (d2 : DAgent → DAgent → Option Bool) (rec1 : Int → Option Bool) (K1 : Option Bool) (i3 : Int) : Option Bool :=
  (bif (decide (i3 < (d0.length : Int))) then ((getI d0 i3).bind fun x6 => ((getI d1 i3).bind fun x24 => ((d2 x6 x24).bind fun y42 => (bif y42 then (rec1 (i3 + 1)) else some false)))) else (K1))
def m_slices_EqualFunc_impl_Agent_impl_Agent_impl_Agent_impl_Agent_L1 (d0 : List DAgent) (d1 : List DAgent) (d2 : DAgent → DAgent → Option Bool) (K1 : Option Bool) : Nat → Int → Option Bool
  | 0, _ => none
  | g + 1, i3 => m_slices_EqualFunc_impl_Agent_impl_Agent_impl_Agent_impl_Agent_B1 d0 d1 d2 (m_slices_EqualFunc_impl_Agent_impl_Agent_impl_Agent_impl_Agent_L1 d0 d1 d2 K1 g) K1 i3
def m_slices_EqualFunc_impl_Agent_impl_Agent_impl_Agent_impl_Agent (d0 : List DAgent) (d1 : List DAgent) (d2 : DAgent → DAgent → Option Bool) : Option Bool :=
  (bif ((d0.length : Int) != (d1.length : Int)) then some false else (m_slices_EqualFunc_impl_Agent_impl_Agent_impl_Agent_impl_Agent_L1 d0 d1 d2 m_slices_EqualFunc_impl_Agent_impl_Agent_impl_Agent_impl_Agent_A1 (d0.length + 1) 0))
set_option maxHeartbeats 2000000 in
theorem c_m_slices_EqualFunc_impl_Agent_impl_Agent_impl_Agent_impl_Agent (d0 : List DAgent) (d1 : List DAgent) (d2 : DAgent → DAgent → Option Bool) (r : Bool) (hm : m_slices_EqualFunc_impl_Agent_impl_Agent_impl_Agent_impl_Agent d0 d1 d2 = some r) (v0 : Value) (v1 : Value) (gf2 : FuncId) (caps2 : Array Value) (w : World) (hv0 : Sl agentRd 5 w v0 d0) (hv1 : Sl agentRd 5 w v1 d1) (hgo2 : isGo Try.prog gf2 = true) (hf2 : ∀ (x0 : DAgent) (x1 : DAgent) (b : Bool), d2 x0 x1 = some b → ∀ w1, Below w.heap.size w w1 → ∀ y0, St agentRd w1 y0 x0 → ∀ y1, St agentRd w1 y1 x1 → Calls Try.prog gf2 (#[y0, y1] ++ caps2) w1 fun e w2 => e = .returned (.bool b) ∧ Below w1.heap.size w1 w2) :
    Calls Try.prog 102 #[v0, v1, .func (.func gf2) #[] caps2] w fun e w' => e = .returned (.bool r) ∧ Below w.heap.size w w' := by
  obtain ⟨Aa0, na0, ca0, rfl, ha0, ra0⟩ := hv0
  have ea0 := ha0.len; subst ea0
  have qa0 := len_le ra0
  obtain ⟨Aa1, na1, ca1, rfl, ha1, ra1⟩ := hv1
  have ea1 := ha1.len; subst ea1
  have qa1 := len_le ra1
  have T := Below.refl w.heap.size w
  unfold m_slices_EqualFunc_impl_Agent_impl_Agent_impl_Agent_impl_Agent at hm
  refine enter 32 Try.func102 rfl rfl rfl ?_
  intro f hf
  have s0 : f 0 = .slice Aa0 d0.length ca0 := hf 0 _ rfl
  have s1 : f 1 = .slice Aa1 d1.length ca1 := hf 1 _ rfl
  have s2 : f 2 = .func (.func gf2) #[] caps2 := hf 2 _ rfl
  refine wp_seq ?_
  refine wp_rs rfl ?_
  refine RQ.y rfl (Y.assign (v := .bool false) rfl) ?_
  refine RQ.nil ?_
  refine then_n ?_
  refine wp_seq ?_
  refine wp_seq ?_
  refine wp_rs rfl ?_
  refine RQ.y rfl (Y.move (v := .slice Aa0 d0.length ca0) s0) ?_
  refine RQ.y rfl (Y.len (by kernel_rfl) rfl) ?_
  refine RQ.y rfl (Y.move (v := .slice Aa1 d1.length ca1) s1) ?_
  refine RQ.y rfl (Y.len (by kernel_rfl) rfl) ?_
  refine RQ.y rfl (Y.binI (v := .bool ((d0.length : Int) != (d1.length : Int))) rfl rfl rfl) ?_
  refine RQ.nil ?_
  refine then_n ?_
  rcases bcases ((d0.length : Int) != (d1.length : Int)) with c1 | c1
  · replace hm := cF c1 hm
    refine cond_f rfl (vb rfl c1) ?_
    refine wp_skip ?_
    refine then_n ?_
    refine wp_seq ?_
    refine wp_seq ?_
    refine wp_rs rfl ?_
    refine RQ.y rfl (Y.move (v := .slice Aa0 d0.length ca0) s0) ?_
    refine RQ.y rfl (Y.len (by kernel_rfl) rfl) ?_
    refine RQ.y rfl (Y.move (v := .int .i64 0) rfl) ?_
    refine RQ.nil ?_
    refine then_n ?_
    refine wp_block ?_
    obtain ⟨K1, hK1, hm⟩ : ∃ K, K = m_slices_EqualFunc_impl_Agent_impl_Agent_impl_Agent_impl_Agent_A1 ∧ m_slices_EqualFunc_impl_Agent_impl_Agent_impl_Agent_impl_Agent_L1 d0 d1 d2 K (d0.length + 1) 0 = some r := ⟨_, rfl, hm⟩
    refine wp_loopX (fun g f w' => ∃ (i3 : Int), f 1 = .slice Aa1 d1.length ca1 ∧ f 2 = .func (.func gf2) #[] caps2 ∧ f 15 = .slice Aa0 d0.length ca0 ∧ f 16 = .int .i64 (d0.length : Int) ∧ f 17 = .int .i64 i3 ∧ 0 ≤ i3 ∧ Below w.heap.size w w' ∧ m_slices_EqualFunc_impl_Agent_impl_Agent_impl_Agent_impl_Agent_L1 d0 d1 d2 K1 g i3 = some r) 0 (fun f w' => Below w.heap.size w w' ∧ m_slices_EqualFunc_impl_Agent_impl_Agent_impl_Agent_impl_Agent_A1  = some r) (d0.length + 1) ⟨0, s1, s2, rfl, rfl, rfl, (by omega), T, hm⟩ ?_ ?_
    · rintro f w2 ⟨T, hm⟩
      unfold m_slices_EqualFunc_impl_Agent_impl_Agent_impl_Agent_impl_Agent_A1 at hm
      refine blk_hit (then_n ?_)
      refine wp_seq ?_
      refine wp_rs rfl ?_
      refine RQ.y rfl (Y.assign (v := .bool true) rfl) ?_
      refine RQ.nil ?_
      refine then_n ?_
      refine wp_ret ?_
      obtain rfl := Option.some.inj hm
      exact (ret1 rfl rfl rfl ⟨rfl, T⟩)
    · rintro g f w4 ⟨i3, s1_1, s2_1, s15_1, s16_1, s17_1, nn17_1, T, hm⟩
      rcases g with _ | g
      · simp only [m_slices_EqualFunc_impl_Agent_impl_Agent_impl_Agent_impl_Agent_L1] at hm; cases hm
      obtain ⟨rec1, hrec1, hm⟩ : ∃ z, z = m_slices_EqualFunc_impl_Agent_impl_Agent_impl_Agent_impl_Agent_L1 d0 d1 d2 K1 g ∧ m_slices_EqualFunc_impl_Agent_impl_Agent_impl_Agent_impl_Agent_B1 d0 d1 d2 z K1 i3 = some r := ⟨_, rfl, hm⟩
      unfold m_slices_EqualFunc_impl_Agent_impl_Agent_impl_Agent_impl_Agent_B1 at hm
      refine wp_seq ?_
      refine wp_rs rfl ?_
      refine RQ.y rfl (Y.binI (v := .bool (decide (i3 < (d0.length : Int)))) s17_1 s16_1 rfl) ?_
      refine RQ.nil ?_
      refine then_n ?_
      refine wp_seq ?_
      rcases bcases (decide (i3 < (d0.length : Int))) with c5 | c5
      · replace hm := cF c5 hm
        have pc5 := of_decide_eq_false c5
        refine cond_f rfl (vb rfl c5) ?_
        refine wp_exit ?_
        exact (then_x (then_x (hit_x ⟨_, rfl, ⟨T, (by rw [hK1] at hm; exact hm)⟩⟩)))
      · replace hm := cT c5 hm
        have pc5 := of_decide_eq_true c5
        refine cond_t rfl (vb rfl c5) ?_
        refine wp_skip ?_
        refine then_n ?_
        refine wp_seq ?_
        refine wp_block ?_
        refine wp_seq ?_
        refine wp_rl rfl ?_
        refine RL.y rfl (Y.move (v := .int .i64 i3) s17_1) ?_
        obtain ⟨x6, hx9, hm⟩ := bnd hm
        obtain ⟨k7, hk10, hl11, hx9⟩ := getI_some hx9
        obtain ⟨b13, o14, rfl, hbb13⟩ := ha0.addr (by omega)
        obtain ⟨cs8, hRcs8, hc12⟩ := ha0.el hx9
        have hScs8 := hRcs8
        obtain ⟨A15, n15, c15, A16, n16, c16, rfl, ⟨h15, r15⟩, ⟨h16, r16⟩⟩ := hRcs8
        have e15 := h15.len; subst e15
        have q15 := len_le r15
        have e16 := h16.len; subst e16
        have q16 := len_le r16
        refine RL.y rfl (Y.indexAddr (m := k7) (sz := 5) s15_1 s17_1 hk10 hl11 (by kernel_rfl)) ?_
        refine RL.y rfl (Y.loadN (cs := [.int .i64 x6.kind, .int .i64 x6.level, .int .i64 x6.value, .slice A15 x6.data.length c15, .slice A16 x6.ports.length c16]) rfl (by kernel_rfl) (cells5 (eqC (cellT T (hc12 0 _ rfl))) (eqC (cellT T (hc12 1 _ rfl))) (eqC (cellT T (hc12 2 _ rfl))) (eqC (cellT T (hc12 3 _ rfl))) (eqC (cellT T (hc12 4 _ rfl))))) ?_
        refine RL.alloc (z := .agg #[.int .i64 0, .int .i64 0, .int .i64 0, .slice none 0 0, .slice none 0 0]) rfl (by kernel_rfl) (fun w17 B18 hb19 szw17 => ?_)
        replace B18 : Blk w17 w4.heap.size 122 #[.int .i64 0, .int .i64 0, .int .i64 0, .slice none 0 0, .slice none 0 0] := B18
        have GB18 : w.heap.size ≤ w4.heap.size := T.size
        have T := Tt T hb19
        refine RL.y rfl (Y.assign (v := .int .i64 i3) rfl) ?_
        refine RL.store (v := .agg #[.int .i64 x6.kind, .int .i64 x6.level, .int .i64 x6.value, .slice A15 x6.data.length c15, .slice A16 x6.ports.length c16]) (cs' := #[.int .i64 x6.kind, .int .i64 x6.level, .int .i64 x6.value, .slice A15 x6.data.length c15, .slice A16 x6.ports.length c16]) rfl rfl rfl B18 (by kernel_rfl) (by rfl) (by rfl) (by rfl) (fun w21 B22 ho23 => ?_)
        have szw21 := ho23.size
        have T := T.trans (ho23.below (by first | (simp; done) | (simp; omega)))
        refine RL.nil ?_
        refine then_n ?_
        refine wp_seq ?_
        refine wp_rl rfl ?_
        refine RL.y rfl (Y.move (v := .slice Aa1 d1.length ca1) s1_1) ?_
        refine RL.y rfl (Y.move (v := .int .i64 i3) rfl) ?_
        obtain ⟨x24, hx27, hm⟩ := bnd hm
        obtain ⟨k25, hk28, hl29, hx27⟩ := getI_some hx27
        obtain ⟨b31, o32, rfl, hbb31⟩ := ha1.addr (by omega)
        obtain ⟨cs26, hRcs26, hc30⟩ := ha1.el hx27
        have hScs26 := hRcs26
        obtain ⟨A33, n33, c33, A34, n34, c34, rfl, ⟨h33, r33⟩, ⟨h34, r34⟩⟩ := hRcs26
        have e33 := h33.len; subst e33
        have q33 := len_le r33
        have e34 := h34.len; subst e34
        have q34 := len_le r34
        refine RL.y rfl (Y.indexAddr (m := k25) (sz := 5) rfl rfl hk28 hl29 (by kernel_rfl)) ?_
        refine RL.y rfl (Y.loadN (cs := [.int .i64 x24.kind, .int .i64 x24.level, .int .i64 x24.value, .slice A33 x24.data.length c33, .slice A34 x24.ports.length c34]) rfl (by kernel_rfl) (cells5 (eqC (cellT T (hc30 0 _ rfl))) (eqC (cellT T (hc30 1 _ rfl))) (eqC (cellT T (hc30 2 _ rfl))) (eqC (cellT T (hc30 3 _ rfl))) (eqC (cellT T (hc30 4 _ rfl))))) ?_
        refine RL.alloc (z := .agg #[.int .i64 0, .int .i64 0, .int .i64 0, .slice none 0 0, .slice none 0 0]) rfl (by kernel_rfl) (fun w35 B36 hb37 szw35 => ?_)
        replace B36 : Blk w35 w21.heap.size 122 #[.int .i64 0, .int .i64 0, .int .i64 0, .slice none 0 0, .slice none 0 0] := B36
        have GB36 : w.heap.size ≤ w21.heap.size := T.size
        have Eob38_ob20 := Nat.ne_of_lt B22.lt
        have B22 := blkT B22 hb37
        have T := Tt T hb37
        refine RL.store (v := .agg #[.int .i64 x24.kind, .int .i64 x24.level, .int .i64 x24.value, .slice A33 x24.data.length c33, .slice A34 x24.ports.length c34]) (cs' := #[.int .i64 x24.kind, .int .i64 x24.level, .int .i64 x24.value, .slice A33 x24.data.length c33, .slice A34 x24.ports.length c34]) rfl rfl rfl B36 (by kernel_rfl) (by rfl) (by rfl) (by rfl) (fun w39 B40 ho41 => ?_)
        have szw39 := ho41.size
        have B22 := B22.only_ ho41 (by intro hin; simp at hin; exact Eob38_ob20 hin)
        have T := T.trans (ho41.below (by first | (simp; done) | (simp; omega)))
        refine RL.nil ?_
        refine then_n ?_
        refine wp_seq ?_
        refine wp_rb rfl ?_
        refine RQ.y rfl (Y.move (v := .func (.func gf2) #[] caps2) s2_1) ?_
        refine RQ.y rfl (Y.loadN (cs := [.int .i64 x6.kind, .int .i64 x6.level, .int .i64 x6.value, .slice A15 x6.data.length c15, .slice A16 x6.ports.length c16]) rfl (by kernel_rfl) (cells5 (beC (blkCell B22 (i := 0) rfl)) (beC (blkCell B22 (i := 1) rfl)) (beC (blkCell B22 (i := 2) rfl)) (beC (blkCell B22 (i := 3) rfl)) (beC (blkCell B22 (i := 4) rfl)))) ?_
        refine RQ.y rfl (Y.loadN (cs := [.int .i64 x24.kind, .int .i64 x24.level, .int .i64 x24.value, .slice A33 x24.data.length c33, .slice A34 x24.ports.length c34]) rfl (by kernel_rfl) (cells5 (beC (blkCell B40 (i := 0) rfl)) (beC (blkCell B40 (i := 1) rfl)) (beC (blkCell B40 (i := 2) rfl)) (beC (blkCell B40 (i := 3) rfl)) (beC (blkCell B40 (i := 4) rfl)))) ?_
        obtain ⟨y42, e43, hm⟩ := bnd hm
        refine RQ.callV rfl rfl (am2 rfl rfl) hgo2 (v := .bool y42) (bel (K := fun _ => True) fun w' hb' => hf2 x6 x24 y42 e43 w' (Tt T hb') _ (stArg (R := agentRd) ⟨_, _, _, _, _, _, rfl, ⟨SlAt.now intRd_ok h15 (Nat.le_refl _) (Tt T hb'), r15⟩, ⟨SlAt.now portRd_ok h16 (Nat.le_refl _) (Tt T hb'), r16⟩⟩) _ (stArg (R := agentRd) ⟨_, _, _, _, _, _, rfl, ⟨SlAt.now intRd_ok h33 (Nat.le_refl _) (Tt T hb'), r33⟩, ⟨SlAt.now portRd_ok h34 (Nat.le_refl _) (Tt T hb'), r34⟩⟩)) ?_
        refine RQ.y rfl (Y.not (b' := (!y42)) rfl rfl) ?_
        refine RQ.nil ?_
        intro w44 hb45
        have szw44 := hb45.size
        have T := Tt T hb45
        refine then_n ?_
        rcases bcases y42 with c46 | c46
        · replace hm := cF c46 hm
          refine cond_t rfl (vbn rfl c46 rfl) ?_
          refine wp_seq ?_
          refine wp_rs rfl ?_
          refine RQ.y rfl (Y.assign (v := .bool false) rfl) ?_
          refine RQ.nil ?_
          refine then_n ?_
          refine wp_ret ?_
          obtain rfl := Option.some.inj hm
          exact (blk_r (then_r (then_r (hit_r (blk_r (then_r (ret1 rfl rfl rfl ⟨rfl, T⟩)))))))
        · replace hm := cT c46 hm
          refine cond_f rfl (vbn rfl c46 rfl) ?_
          refine wp_skip ?_
          refine blk_n (then_n ?_)
          refine wp_rs rfl ?_
          refine RQ.y rfl (Y.binI s17_1 rfl (binI_add (m := i3) (by omega))) ?_
          refine RQ.y rfl (Y.move (v := .int .i64 (i3 + 1)) rfl) ?_
          refine RQ.nil ?_
          exact (then_n ⟨g, _, Nat.lt_succ_self _, rfl, ⟨(i3 + 1), s1_1, s2_1, s15_1, s16_1, rfl, (by omega), T, (by rw [← hrec1]; exact hm)⟩⟩)
  · replace hm := cT c1 hm
    refine cond_t rfl (vb rfl c1) ?_
    refine wp_seq ?_
    refine wp_rs rfl ?_
    refine RQ.y rfl (Y.assign (v := .bool false) rfl) ?_
    refine RQ.nil ?_
    refine then_n ?_
    refine wp_ret ?_
    obtain rfl := Option.some.inj hm
    exact (then_r (ret1 rfl rfl rfl ⟨rfl, T⟩))
def m_impl_SameNet (d0 : DNet) (d1 : DNet) : Option Bool :=
  ((m_slices_EqualFunc_impl_Agent_impl_Agent_impl_Agent_impl_Agent d0.agents d1.agents (fun x0 x1 => m_impl_sameAgent x0 x1)).bind fun y11 => some y11)
set_option maxHeartbeats 2000000 in
theorem c_m_impl_SameNet (d0 : DNet) (d1 : DNet) (r : Bool) (hm : m_impl_SameNet d0 d1 = some r) (v0 : Value) (v1 : Value) (w : World) (hv0 : St netRd w v0 d0) (hv1 : St netRd w v1 d1) :
    Calls Try.prog 55 #[v0, v1] w fun e w' => e = .returned (.bool r) ∧ Below w.heap.size w w' := by
  obtain ⟨csa0, rfl, ⟨A1, n1, c1, rfl, ⟨h1, r1⟩⟩⟩ := hv0
  have e1 := h1.len; subst e1
  have q1 := len_le r1
  obtain ⟨csa1, rfl, ⟨A2, n2, c2, rfl, ⟨h2, r2⟩⟩⟩ := hv1
  have e2 := h2.len; subst e2
  have q2 := len_le r2
  have T := Below.refl w.heap.size w
  unfold m_impl_SameNet at hm
  refine enter 10 Try.func55 rfl rfl rfl ?_
  intro f hf
  have s0 : f 0 = .agg #[.slice A1 d0.agents.length c1] := hf 0 _ rfl
  have s1 : f 1 = .agg #[.slice A2 d1.agents.length c2] := hf 1 _ rfl
  refine wp_seq ?_
  refine wp_rl rfl ?_
  refine RL.box rfl s0 (fun w3 B4 hb5 szw3 => ?_)
  replace B4 : Blk w3 w.heap.size 31 #[.slice A1 d0.agents.length c1] := B4
  have GB4 : w.heap.size ≤ w.heap.size := T.size
  have T := Tt T hb5
  refine RL.box rfl s1 (fun w7 B8 hb9 szw7 => ?_)
  replace B8 : Blk w7 w3.heap.size 31 #[.slice A2 d1.agents.length c2] := B8
  have GB8 : w.heap.size ≤ w3.heap.size := T.size
  have Eob10_ob6 := Nat.ne_of_lt B4.lt
  have B4 := blkT B4 hb9
  have T := Tt T hb9
  refine RL.y rfl (Y.assign (v := .bool false) rfl) ?_
  refine RL.nil ?_
  refine then_n ?_
  refine wp_seq ?_
  refine wp_rb rfl ?_
  refine RQ.y rfl (Y.fieldAddr (off := 0) rfl (by kernel_rfl)) ?_
  refine RQ.y rfl (Y.load (v := .slice A1 d0.agents.length c1) rfl (by kernel_rfl) (beC (blkCell B4 (i := 0) rfl))) ?_
  refine RQ.y rfl (Y.fieldAddr (off := 0) rfl (by kernel_rfl)) ?_
  refine RQ.y rfl (Y.load (v := .slice A2 d1.agents.length c2) rfl (by kernel_rfl) (beC (blkCell B8 (i := 0) rfl))) ?_
  obtain ⟨y11, e12, hm⟩ := bnd hm
  refine RQ.call rfl (am3 rfl rfl rfl) (by kernel_rfl) (v := .bool y11) (bel (K := fun _ => True) fun w' hb' => (c_m_slices_EqualFunc_impl_Agent_impl_Agent_impl_Agent_impl_Agent d0.agents d1.agents (fun x0 x1 => m_impl_sameAgent x0 x1) _ e12 _ _ _ _ w' (slArg agentRd_ok h1 r1 (Tt T hb')) (slArg agentRd_ok h2 r2 (Tt T hb')) (by kernel_rfl) (fun x0 x1 b hx w1 hb1 y0 hy0 y1 hy1 => Calls.arr (by simp) (c_m_impl_sameAgent x0 x1 _ hx _ _  w1 hy0 hy1 )))) ?_
  refine RQ.y rfl (Y.assign (v := .bool y11) rfl) ?_
  refine RQ.nil ?_
  intro w13 hb14
  have szw13 := hb14.size
  have T := Tt T hb14
  refine then_n ?_
  refine wp_ret ?_
  obtain rfl := Option.some.inj hm
  exact (ret1 rfl rfl rfl ⟨rfl, T⟩)
end
end Go.Proofs.Ytpbobilkejblgaa
