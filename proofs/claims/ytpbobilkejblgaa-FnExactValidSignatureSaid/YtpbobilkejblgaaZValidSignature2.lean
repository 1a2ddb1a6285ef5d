/- Lemmas of the proof of ValidSignature, part 2. No condition. -/
import Derived.Test.YtpbobilkejblgaaZValidSignature1
namespace Go.Proofs.Ytpbobilkejblgaa
section
open Go.RowKit
set_option linter.unusedVariables false
set_option linter.unusedSimpArgs false
set_option maxRecDepth 100000
noncomputable def m_laws_szConstructor (d0 : DConstructor) (d1 : Int) : Option Int :=
  ((ck (d1 - (d0.name.size : Int))).bind fun s6 => (bif (decide (s6 < 0)) then some (-1) else ((m_laws_szTypeS (SizeOf.sizeOf d0.fields) d0.fields s6).bind fun y8 => (bif (decide (y8 < 0)) then some (-1) else some y8))))
set_option maxHeartbeats 2000000 in
theorem c_m_laws_szConstructor (d0 : DConstructor) (d1 : Int) (r : Int) (hm : m_laws_szConstructor d0 d1 = some r) (v0 : Value) (w : World) (hv0 : St constructorRd w v0 d0) :
    Calls Try.prog 165 #[v0, .int .i64 d1] w fun e w' => e = .returned (.int .i64 r) ∧ Below w.heap.size w w' := by
  obtain ⟨csa0, rfl, ⟨A1, n1, c1, rfl, ⟨h1, r1⟩⟩⟩ := hv0
  have e1 := h1.len; subst e1
  have q1 := len_le r1
  have T := Below.refl w.heap.size w
  unfold m_laws_szConstructor at hm
  refine enter 19 Try.func165 rfl rfl rfl ?_
  intro f hf
  have s0 : f 0 = .agg #[.string d0.name, .slice A1 d0.fields.length c1] := hf 0 _ rfl
  have s1 : f 1 = .int .i64 d1 := hf 1 _ rfl
  refine wp_seq ?_
  refine wp_rl rfl ?_
  refine RL.box rfl s0 (fun w2 B3 hb4 szw2 => ?_)
  replace B3 : Blk w2 w.heap.size 199 #[.string d0.name, .slice A1 d0.fields.length c1] := B3
  have GB3 : w.heap.size ≤ w.heap.size := T.size
  have T := Tt T hb4
  refine RL.y rfl (Y.assign (v := .int .i64 0) rfl) ?_
  refine RL.nil ?_
  refine then_n ?_
  refine wp_seq ?_
  refine wp_rs rfl ?_
  refine RQ.y rfl (Y.move (v := .int .i64 d1) s1) ?_
  refine RQ.y rfl (Y.fieldAddr (off := 0) rfl (by kernel_rfl)) ?_
  refine RQ.y rfl (Y.load (v := .string d0.name) rfl (by kernel_rfl) (eqC (blkCell B3 (i := 0) rfl))) ?_
  refine RQ.y rfl (Y.lenS (by kernel_rfl) rfl) ?_
  obtain ⟨s6, ks6, hm⟩ := bnd hm
  replace ks6 := ck_some ks6
  refine RQ.y rfl (Y.binI (v := .int .i64 s6) rfl rfl (by rw [binI_sub ks6.2, ks6.1])) ?_
  refine RQ.y rfl (Y.assign (v := .int .i64 s6) rfl) ?_
  refine RQ.nil ?_
  refine then_n ?_
  refine wp_seq ?_
  refine wp_seq ?_
  refine wp_rs rfl ?_
  refine RQ.y rfl (Y.move (v := .int .i64 s6) rfl) ?_
  refine RQ.y rfl (Y.binI (v := .bool (decide (s6 < 0))) rfl rfl rfl) ?_
  refine RQ.nil ?_
  refine then_n ?_
  rcases bcases (decide (s6 < 0)) with c7 | c7
  · replace hm := cF c7 hm
    have pc7 := of_decide_eq_false c7
    refine cond_f rfl (vb rfl c7) ?_
    refine wp_skip ?_
    refine then_n ?_
    refine wp_seq ?_
    refine wp_rb rfl ?_
    refine RQ.y rfl (Y.fieldAddr (off := 1) rfl (by kernel_rfl)) ?_
    refine RQ.y rfl (Y.load (v := .slice A1 d0.fields.length c1) rfl (by kernel_rfl) (beC (blkCell B3 (i := 1) rfl))) ?_
    refine RQ.y rfl (Y.move (v := .int .i64 s6) rfl) ?_
    obtain ⟨y8, e9, hm⟩ := bnd hm
    refine RQ.call rfl (am2 rfl rfl) (by kernel_rfl) (v := .int .i64 y8) (bel (K := fun _ => True) fun w' hb' => (c_m_laws_szTypeS (SizeOf.sizeOf d0.fields) d0.fields s6 _ e9 _ w' (slArg typeRd_ok h1 r1 (Tt T hb')))) ?_
    refine RQ.y rfl (Y.assign (v := .int .i64 y8) rfl) ?_
    refine RQ.nil ?_
    intro w10 hb11
    have szw10 := hb11.size
    have T := Tt T hb11
    refine then_n ?_
    refine wp_seq ?_
    refine wp_seq ?_
    refine wp_rs rfl ?_
    refine RQ.y rfl (Y.move (v := .int .i64 y8) rfl) ?_
    refine RQ.y rfl (Y.binI (v := .bool (decide (y8 < 0))) rfl rfl rfl) ?_
    refine RQ.nil ?_
    refine then_n ?_
    rcases bcases (decide (y8 < 0)) with c12 | c12
    · replace hm := cF c12 hm
      have pc12 := of_decide_eq_false c12
      refine cond_f rfl (vb rfl c12) ?_
      refine wp_skip ?_
      refine then_n ?_
      refine wp_seq ?_
      refine wp_rs rfl ?_
      refine RQ.y rfl (Y.move (v := .int .i64 y8) rfl) ?_
      refine RQ.y rfl (Y.assign (v := .int .i64 y8) rfl) ?_
      refine RQ.nil ?_
      refine then_n ?_
      refine wp_ret ?_
      obtain rfl := Option.some.inj hm
      exact (ret1 rfl rfl rfl ⟨rfl, T⟩)
    · replace hm := cT c12 hm
      have pc12 := of_decide_eq_true c12
      refine cond_t rfl (vb rfl c12) ?_
      refine wp_seq ?_
      refine wp_rs rfl ?_
      refine RQ.y rfl (Y.assign (v := .int .i64 (-1)) rfl) ?_
      refine RQ.nil ?_
      refine then_n ?_
      refine wp_ret ?_
      obtain rfl := Option.some.inj hm
      exact (then_r (ret1 rfl rfl rfl ⟨rfl, T⟩))
  · replace hm := cT c7 hm
    have pc7 := of_decide_eq_true c7
    refine cond_t rfl (vb rfl c7) ?_
    refine wp_seq ?_
    refine wp_rs rfl ?_
    refine RQ.y rfl (Y.assign (v := .int .i64 (-1)) rfl) ?_
    refine RQ.nil ?_
    refine then_n ?_
    refine wp_ret ?_
    obtain rfl := Option.some.inj hm
    exact (then_r (ret1 rfl rfl rfl ⟨rfl, T⟩))
noncomputable def m_laws_szConstructorS_A1 (i3 : Int) : Option Int :=
  some i3
noncomputable def m_laws_szConstructorS_B1 (d0 : List DConstructor) (rec1 : Int → Int → Option Int) (K1 : Int → Option Int) (i5 : Int) (i6 : Int) : Option Int :=
  (bif (decide (i6 < (d0.length : Int))) then ((getI d0 i6).bind fun x9 => ((m_laws_szConstructor x9 i5).bind fun y19 => (bif (decide (y19 < 0)) then some (-1) else (rec1 y19 (i6 + 1))))) else (K1 i5))
noncomputable def m_laws_szConstructorS_L1 (d0 : List DConstructor) (K1 : Int → Option Int) : Nat → Int → Int → Option Int
  | 0, _, _ => none
  | g + 1, i5, i6 => m_laws_szConstructorS_B1 d0 (m_laws_szConstructorS_L1 d0 K1 g) K1 i5 i6
noncomputable def m_laws_szConstructorS (d0 : List DConstructor) (d1 : Int) : Option Int :=
  ((ck (d1 - (d0.length : Int))).bind fun s1 => (bif (decide (s1 < 0)) then some (-1) else (m_laws_szConstructorS_L1 d0 m_laws_szConstructorS_A1 (d0.length + 1) s1 0)))
set_option maxHeartbeats 2000000 in
theorem c_m_laws_szConstructorS (d0 : List DConstructor) (d1 : Int) (r : Int) (hm : m_laws_szConstructorS d0 d1 = some r) (v0 : Value) (w : World) (hv0 : Sl constructorRd 2 w v0 d0) :
    Calls Try.prog 135 #[v0, .int .i64 d1] w fun e w' => e = .returned (.int .i64 r) ∧ Below w.heap.size w w' := by
  obtain ⟨Aa0, na0, ca0, rfl, ha0, ra0⟩ := hv0
  have ea0 := ha0.len; subst ea0
  have qa0 := len_le ra0
  have T := Below.refl w.heap.size w
  unfold m_laws_szConstructorS at hm
  refine enter 27 Try.func135 rfl rfl rfl ?_
  intro f hf
  have s0 : f 0 = .slice Aa0 d0.length ca0 := hf 0 _ rfl
  have s1 : f 1 = .int .i64 d1 := hf 1 _ rfl
  refine wp_seq ?_
  refine wp_rs rfl ?_
  refine RQ.y rfl (Y.assign (v := .int .i64 0) rfl) ?_
  refine RQ.nil ?_
  refine then_n ?_
  refine wp_seq ?_
  refine wp_rs rfl ?_
  refine RQ.y rfl (Y.move (v := .int .i64 d1) s1) ?_
  refine RQ.y rfl (Y.move (v := .slice Aa0 d0.length ca0) s0) ?_
  refine RQ.y rfl (Y.len (by kernel_rfl) rfl) ?_
  obtain ⟨s1, ks1, hm⟩ := bnd hm
  replace ks1 := ck_some ks1
  refine RQ.y rfl (Y.binI (v := .int .i64 s1) rfl rfl (by rw [binI_sub ks1.2, ks1.1])) ?_
  refine RQ.y rfl (Y.assign (v := .int .i64 s1) rfl) ?_
  refine RQ.nil ?_
  refine then_n ?_
  refine wp_seq ?_
  refine wp_seq ?_
  refine wp_rs rfl ?_
  refine RQ.y rfl (Y.move (v := .int .i64 s1) rfl) ?_
  refine RQ.y rfl (Y.binI (v := .bool (decide (s1 < 0))) rfl rfl rfl) ?_
  refine RQ.nil ?_
  refine then_n ?_
  rcases bcases (decide (s1 < 0)) with c2 | c2
  · replace hm := cF c2 hm
    have pc2 := of_decide_eq_false c2
    refine cond_f rfl (vb rfl c2) ?_
    refine wp_skip ?_
    refine then_n ?_
    refine wp_seq ?_
    refine wp_seq ?_
    refine wp_rs rfl ?_
    refine RQ.y rfl (Y.assign (v := .int .i64 0) rfl) ?_
    refine RQ.nil ?_
    refine then_n ?_
    refine wp_block ?_
    obtain ⟨K1, hK1, hm⟩ : ∃ K, K = m_laws_szConstructorS_A1 ∧ m_laws_szConstructorS_L1 d0 K (d0.length + 1) s1 0 = some r := ⟨_, rfl, hm⟩
    refine wp_loopX (fun g f w' => ∃ (i5 : Int) (i6 : Int), f 0 = .slice Aa0 d0.length ca0 ∧ f 1 = .int .i64 i5 ∧ f 5 = .int .i64 i6 ∧ 0 ≤ i6 ∧ Below w.heap.size w w' ∧ m_laws_szConstructorS_L1 d0 K1 g i5 i6 = some r) 0 (fun f w' => ∃ (i3 : Int), f 1 = .int .i64 i3 ∧ Below w.heap.size w w' ∧ m_laws_szConstructorS_A1 i3 = some r) (d0.length + 1) ⟨s1, 0, s0, rfl, rfl, (by omega), T, hm⟩ ?_ ?_
    · rintro f w4 ⟨i3, s1_1x, T, hm⟩
      unfold m_laws_szConstructorS_A1 at hm
      refine blk_hit (then_n ?_)
      refine wp_seq ?_
      refine wp_rs rfl ?_
      refine RQ.y rfl (Y.move (v := .int .i64 i3) s1_1x) ?_
      refine RQ.y rfl (Y.assign (v := .int .i64 i3) rfl) ?_
      refine RQ.nil ?_
      refine then_n ?_
      refine wp_ret ?_
      obtain rfl := Option.some.inj hm
      exact (ret1 rfl rfl rfl ⟨rfl, T⟩)
    · rintro g f w7 ⟨i5, i6, s0_1, s1_1, s5_1, nn5_1, T, hm⟩
      rcases g with _ | g
      · simp only [m_laws_szConstructorS_L1] at hm; cases hm
      obtain ⟨rec1, hrec1, hm⟩ : ∃ z, z = m_laws_szConstructorS_L1 d0 K1 g ∧ m_laws_szConstructorS_B1 d0 z K1 i5 i6 = some r := ⟨_, rfl, hm⟩
      unfold m_laws_szConstructorS_B1 at hm
      refine wp_seq ?_
      refine wp_seq ?_
      refine wp_rs rfl ?_
      refine RQ.y rfl (Y.move (v := .int .i64 i6) s5_1) ?_
      refine RQ.y rfl (Y.move (v := .slice Aa0 d0.length ca0) s0_1) ?_
      refine RQ.y rfl (Y.len (by kernel_rfl) rfl) ?_
      refine RQ.y rfl (Y.binI (v := .bool (decide (i6 < (d0.length : Int)))) rfl rfl rfl) ?_
      refine RQ.nil ?_
      refine then_n ?_
      rcases bcases (decide (i6 < (d0.length : Int))) with c8 | c8
      · replace hm := cF c8 hm
        have pc8 := of_decide_eq_false c8
        refine cond_f rfl (vb rfl c8) ?_
        refine wp_exit ?_
        exact (then_x (then_x (hit_x ⟨_, rfl, ⟨i5, s1_1, T, (by rw [hK1] at hm; exact hm)⟩⟩)))
      · replace hm := cT c8 hm
        have pc8 := of_decide_eq_true c8
        refine cond_t rfl (vb rfl c8) ?_
        refine wp_skip ?_
        refine then_n ?_
        refine wp_seq ?_
        refine wp_block ?_
        refine wp_seq ?_
        refine wp_rb rfl ?_
        refine RQ.y rfl (Y.move (v := .slice Aa0 d0.length ca0) s0_1) ?_
        refine RQ.y rfl (Y.move (v := .int .i64 i6) s5_1) ?_
        obtain ⟨x9, hx12, hm⟩ := bnd hm
        obtain ⟨k10, hk13, hl14, hx12⟩ := getI_some hx12
        obtain ⟨b16, o17, rfl, hbb16⟩ := ha0.addr (by omega)
        obtain ⟨cs11, hRcs11, hc15⟩ := ha0.el hx12
        have hScs11 := hRcs11
        obtain ⟨A18, n18, c18, rfl, ⟨h18, r18⟩⟩ := hRcs11
        have e18 := h18.len; subst e18
        have q18 := len_le r18
        refine RQ.y rfl (Y.indexAddr (m := k10) (sz := 2) rfl rfl hk13 hl14 (by kernel_rfl)) ?_
        refine RQ.y rfl (Y.loadN (cs := [.string x9.name, .slice A18 x9.fields.length c18]) rfl (by kernel_rfl) (cells2 (beC (cellT T (hc15 0 _ rfl))) (beC (cellT T (hc15 1 _ rfl))))) ?_
        refine RQ.y rfl (Y.move (v := .int .i64 i5) s1_1) ?_
        obtain ⟨y19, e20, hm⟩ := bnd hm
        refine RQ.call rfl (am2 rfl rfl) (by kernel_rfl) (v := .int .i64 y19) (bel (K := fun _ => True) fun w' hb' => (c_m_laws_szConstructor x9 i5 _ e20 _ w' (stArg (R := constructorRd) ⟨_, _, _, rfl, ⟨SlAt.now typeRd_ok h18 (Nat.le_refl _) (Tt T hb'), r18⟩⟩))) ?_
        refine RQ.y rfl (Y.assign (v := .int .i64 y19) rfl) ?_
        refine RQ.nil ?_
        intro w21 hb22
        have szw21 := hb22.size
        have T := Tt T hb22
        refine then_n ?_
        refine wp_seq ?_
        refine wp_rs rfl ?_
        refine RQ.y rfl (Y.move (v := .int .i64 y19) rfl) ?_
        refine RQ.y rfl (Y.binI (v := .bool (decide (y19 < 0))) rfl rfl rfl) ?_
        refine RQ.nil ?_
        refine then_n ?_
        rcases bcases (decide (y19 < 0)) with c23 | c23
        · replace hm := cF c23 hm
          have pc23 := of_decide_eq_false c23
          refine cond_f rfl (vb rfl c23) ?_
          refine wp_skip ?_
          refine blk_n (then_n ?_)
          refine wp_rs rfl ?_
          refine RQ.y rfl (Y.move (v := .int .i64 i6) s5_1) ?_
          refine RQ.y rfl (Y.binI rfl rfl (binI_add (m := i6) (by omega))) ?_
          refine RQ.y rfl (Y.assign (v := .int .i64 (i6 + 1)) rfl) ?_
          refine RQ.nil ?_
          exact (then_n ⟨g, _, Nat.lt_succ_self _, rfl, ⟨y19, (i6 + 1), s0_1, rfl, rfl, (by omega), T, (by rw [← hrec1]; exact hm)⟩⟩)
        · replace hm := cT c23 hm
          have pc23 := of_decide_eq_true c23
          refine cond_t rfl (vb rfl c23) ?_
          refine wp_seq ?_
          refine wp_rs rfl ?_
          refine RQ.y rfl (Y.assign (v := .int .i64 (-1)) rfl) ?_
          refine RQ.nil ?_
          refine then_n ?_
          refine wp_ret ?_
          obtain rfl := Option.some.inj hm
          exact (blk_r (then_r (then_r (hit_r (blk_r (then_r (ret1 rfl rfl rfl ⟨rfl, T⟩)))))))
  · replace hm := cT c2 hm
    have pc2 := of_decide_eq_true c2
    refine cond_t rfl (vb rfl c2) ?_
    refine wp_seq ?_
    refine wp_rs rfl ?_
    refine RQ.y rfl (Y.assign (v := .int .i64 (-1)) rfl) ?_
    refine RQ.nil ?_
    refine then_n ?_
    refine wp_ret ?_
    obtain rfl := Option.some.inj hm
    exact (then_r (ret1 rfl rfl rfl ⟨rfl, T⟩))
noncomputable def m_laws_szData (d0 : DData) (d1 : Int) : Option Int :=
  ((ck (d1 - (d0.name.size : Int))).bind fun s6 => (bif (decide (s6 < 0)) then some (-1) else ((m_laws_szConstructorS d0.cons s6).bind fun y8 => (bif (decide (y8 < 0)) then some (-1) else some y8))))
set_option maxHeartbeats 2000000 in
theorem c_m_laws_szData (d0 : DData) (d1 : Int) (r : Int) (hm : m_laws_szData d0 d1 = some r) (v0 : Value) (w : World) (hv0 : St dataRd w v0 d0) :
    Calls Try.prog 106 #[v0, .int .i64 d1] w fun e w' => e = .returned (.int .i64 r) ∧ Below w.heap.size w w' := by
  obtain ⟨csa0, rfl, ⟨A1, n1, c1, rfl, ⟨h1, r1⟩⟩⟩ := hv0
  have e1 := h1.len; subst e1
  have q1 := len_le r1
  have T := Below.refl w.heap.size w
  unfold m_laws_szData at hm
  refine enter 19 Try.func106 rfl rfl rfl ?_
  intro f hf
  have s0 : f 0 = .agg #[.string d0.name, .slice A1 d0.cons.length c1] := hf 0 _ rfl
  have s1 : f 1 = .int .i64 d1 := hf 1 _ rfl
  refine wp_seq ?_
  refine wp_rl rfl ?_
  refine RL.box rfl s0 (fun w2 B3 hb4 szw2 => ?_)
  replace B3 : Blk w2 w.heap.size 152 #[.string d0.name, .slice A1 d0.cons.length c1] := B3
  have GB3 : w.heap.size ≤ w.heap.size := T.size
  have T := Tt T hb4
  refine RL.y rfl (Y.assign (v := .int .i64 0) rfl) ?_
  refine RL.nil ?_
  refine then_n ?_
  refine wp_seq ?_
  refine wp_rs rfl ?_
  refine RQ.y rfl (Y.move (v := .int .i64 d1) s1) ?_
  refine RQ.y rfl (Y.fieldAddr (off := 0) rfl (by kernel_rfl)) ?_
  refine RQ.y rfl (Y.load (v := .string d0.name) rfl (by kernel_rfl) (eqC (blkCell B3 (i := 0) rfl))) ?_
  refine RQ.y rfl (Y.lenS (by kernel_rfl) rfl) ?_
  obtain ⟨s6, ks6, hm⟩ := bnd hm
  replace ks6 := ck_some ks6
  refine RQ.y rfl (Y.binI (v := .int .i64 s6) rfl rfl (by rw [binI_sub ks6.2, ks6.1])) ?_
  refine RQ.y rfl (Y.assign (v := .int .i64 s6) rfl) ?_
  refine RQ.nil ?_
  refine then_n ?_
  refine wp_seq ?_
  refine wp_seq ?_
  refine wp_rs rfl ?_
  refine RQ.y rfl (Y.move (v := .int .i64 s6) rfl) ?_
  refine RQ.y rfl (Y.binI (v := .bool (decide (s6 < 0))) rfl rfl rfl) ?_
  refine RQ.nil ?_
  refine then_n ?_
  rcases bcases (decide (s6 < 0)) with c7 | c7
  · replace hm := cF c7 hm
    have pc7 := of_decide_eq_false c7
    refine cond_f rfl (vb rfl c7) ?_
    refine wp_skip ?_
    refine then_n ?_
    refine wp_seq ?_
    refine wp_rb rfl ?_
    refine RQ.y rfl (Y.fieldAddr (off := 1) rfl (by kernel_rfl)) ?_
    refine RQ.y rfl (Y.load (v := .slice A1 d0.cons.length c1) rfl (by kernel_rfl) (beC (blkCell B3 (i := 1) rfl))) ?_
    refine RQ.y rfl (Y.move (v := .int .i64 s6) rfl) ?_
    obtain ⟨y8, e9, hm⟩ := bnd hm
    refine RQ.call rfl (am2 rfl rfl) (by kernel_rfl) (v := .int .i64 y8) (bel (K := fun _ => True) fun w' hb' => (c_m_laws_szConstructorS d0.cons s6 _ e9 _ w' (slArg constructorRd_ok h1 r1 (Tt T hb')))) ?_
    refine RQ.y rfl (Y.assign (v := .int .i64 y8) rfl) ?_
    refine RQ.nil ?_
    intro w10 hb11
    have szw10 := hb11.size
    have T := Tt T hb11
    refine then_n ?_
    refine wp_seq ?_
    refine wp_seq ?_
    refine wp_rs rfl ?_
    refine RQ.y rfl (Y.move (v := .int .i64 y8) rfl) ?_
    refine RQ.y rfl (Y.binI (v := .bool (decide (y8 < 0))) rfl rfl rfl) ?_
    refine RQ.nil ?_
    refine then_n ?_
    rcases bcases (decide (y8 < 0)) with c12 | c12
    · replace hm := cF c12 hm
      have pc12 := of_decide_eq_false c12
      refine cond_f rfl (vb rfl c12) ?_
      refine wp_skip ?_
      refine then_n ?_
      refine wp_seq ?_
      refine wp_rs rfl ?_
      refine RQ.y rfl (Y.move (v := .int .i64 y8) rfl) ?_
      refine RQ.y rfl (Y.assign (v := .int .i64 y8) rfl) ?_
      refine RQ.nil ?_
      refine then_n ?_
      refine wp_ret ?_
      obtain rfl := Option.some.inj hm
      exact (ret1 rfl rfl rfl ⟨rfl, T⟩)
    · replace hm := cT c12 hm
      have pc12 := of_decide_eq_true c12
      refine cond_t rfl (vb rfl c12) ?_
      refine wp_seq ?_
      refine wp_rs rfl ?_
      refine RQ.y rfl (Y.assign (v := .int .i64 (-1)) rfl) ?_
      refine RQ.nil ?_
      refine then_n ?_
      refine wp_ret ?_
      obtain rfl := Option.some.inj hm
      exact (then_r (ret1 rfl rfl rfl ⟨rfl, T⟩))
  · replace hm := cT c7 hm
    have pc7 := of_decide_eq_true c7
    refine cond_t rfl (vb rfl c7) ?_
    refine wp_seq ?_
    refine wp_rs rfl ?_
    refine RQ.y rfl (Y.assign (v := .int .i64 (-1)) rfl) ?_
    refine RQ.nil ?_
    refine then_n ?_
    refine wp_ret ?_
    obtain rfl := Option.some.inj hm
    exact (then_r (ret1 rfl rfl rfl ⟨rfl, T⟩))
noncomputable def m_laws_szDataS_A1 (i3 : Int) : Option Int :=
  some i3
noncomputable def m_laws_szDataS_B1 (d0 : List DData) (rec1 : Int → Int → Option Int) (K1 : Int → Option Int) (i5 : Int) (i6 : Int) : Option Int :=
  (bif (decide (i6 < (d0.length : Int))) then ((getI d0 i6).bind fun x9 => ((m_laws_szData x9 i5).bind fun y19 => (bif (decide (y19 < 0)) then some (-1) else (rec1 y19 (i6 + 1))))) else (K1 i5))
noncomputable def m_laws_szDataS_L1 (d0 : List DData) (K1 : Int → Option Int) : Nat → Int → Int → Option Int
  | 0, _, _ => none
  | g + 1, i5, i6 => m_laws_szDataS_B1 d0 (m_laws_szDataS_L1 d0 K1 g) K1 i5 i6
noncomputable def m_laws_szDataS (d0 : List DData) (d1 : Int) : Option Int :=
  ((ck (d1 - (d0.length : Int))).bind fun s1 => (bif (decide (s1 < 0)) then some (-1) else (m_laws_szDataS_L1 d0 m_laws_szDataS_A1 (d0.length + 1) s1 0)))
set_option maxHeartbeats 2000000 in
theorem c_m_laws_szDataS (d0 : List DData) (d1 : Int) (r : Int) (hm : m_laws_szDataS d0 d1 = some r) (v0 : Value) (w : World) (hv0 : Sl dataRd 2 w v0 d0) :
    Calls Try.prog 59 #[v0, .int .i64 d1] w fun e w' => e = .returned (.int .i64 r) ∧ Below w.heap.size w w' := by
  obtain ⟨Aa0, na0, ca0, rfl, ha0, ra0⟩ := hv0
  have ea0 := ha0.len; subst ea0
  have qa0 := len_le ra0
  have T := Below.refl w.heap.size w
  unfold m_laws_szDataS at hm
  refine enter 27 Try.func59 rfl rfl rfl ?_
  intro f hf
  have s0 : f 0 = .slice Aa0 d0.length ca0 := hf 0 _ rfl
  have s1 : f 1 = .int .i64 d1 := hf 1 _ rfl
  refine wp_seq ?_
  refine wp_rs rfl ?_
  refine RQ.y rfl (Y.assign (v := .int .i64 0) rfl) ?_
  refine RQ.nil ?_
  refine then_n ?_
  refine wp_seq ?_
  refine wp_rs rfl ?_
  refine RQ.y rfl (Y.move (v := .int .i64 d1) s1) ?_
  refine RQ.y rfl (Y.move (v := .slice Aa0 d0.length ca0) s0) ?_
  refine RQ.y rfl (Y.len (by kernel_rfl) rfl) ?_
  obtain ⟨s1, ks1, hm⟩ := bnd hm
  replace ks1 := ck_some ks1
  refine RQ.y rfl (Y.binI (v := .int .i64 s1) rfl rfl (by rw [binI_sub ks1.2, ks1.1])) ?_
  refine RQ.y rfl (Y.assign (v := .int .i64 s1) rfl) ?_
  refine RQ.nil ?_
  refine then_n ?_
  refine wp_seq ?_
  refine wp_seq ?_
  refine wp_rs rfl ?_
  refine RQ.y rfl (Y.move (v := .int .i64 s1) rfl) ?_
  refine RQ.y rfl (Y.binI (v := .bool (decide (s1 < 0))) rfl rfl rfl) ?_
  refine RQ.nil ?_
  refine then_n ?_
  rcases bcases (decide (s1 < 0)) with c2 | c2
  · replace hm := cF c2 hm
    have pc2 := of_decide_eq_false c2
    refine cond_f rfl (vb rfl c2) ?_
    refine wp_skip ?_
    refine then_n ?_
    refine wp_seq ?_
    refine wp_seq ?_
    refine wp_rs rfl ?_
    refine RQ.y rfl (Y.assign (v := .int .i64 0) rfl) ?_
    refine RQ.nil ?_
    refine then_n ?_
    refine wp_block ?_
    obtain ⟨K1, hK1, hm⟩ : ∃ K, K = m_laws_szDataS_A1 ∧ m_laws_szDataS_L1 d0 K (d0.length + 1) s1 0 = some r := ⟨_, rfl, hm⟩
    refine wp_loopX (fun g f w' => ∃ (i5 : Int) (i6 : Int), f 0 = .slice Aa0 d0.length ca0 ∧ f 1 = .int .i64 i5 ∧ f 5 = .int .i64 i6 ∧ 0 ≤ i6 ∧ Below w.heap.size w w' ∧ m_laws_szDataS_L1 d0 K1 g i5 i6 = some r) 0 (fun f w' => ∃ (i3 : Int), f 1 = .int .i64 i3 ∧ Below w.heap.size w w' ∧ m_laws_szDataS_A1 i3 = some r) (d0.length + 1) ⟨s1, 0, s0, rfl, rfl, (by omega), T, hm⟩ ?_ ?_
    · rintro f w4 ⟨i3, s1_1x, T, hm⟩
      unfold m_laws_szDataS_A1 at hm
      refine blk_hit (then_n ?_)
      refine wp_seq ?_
      refine wp_rs rfl ?_
      refine RQ.y rfl (Y.move (v := .int .i64 i3) s1_1x) ?_
      refine RQ.y rfl (Y.assign (v := .int .i64 i3) rfl) ?_
      refine RQ.nil ?_
      refine then_n ?_
      refine wp_ret ?_
      obtain rfl := Option.some.inj hm
      exact (ret1 rfl rfl rfl ⟨rfl, T⟩)
    · rintro g f w7 ⟨i5, i6, s0_1, s1_1, s5_1, nn5_1, T, hm⟩
      rcases g with _ | g
      · simp only [m_laws_szDataS_L1] at hm; cases hm
      obtain ⟨rec1, hrec1, hm⟩ : ∃ z, z = m_laws_szDataS_L1 d0 K1 g ∧ m_laws_szDataS_B1 d0 z K1 i5 i6 = some r := ⟨_, rfl, hm⟩
      unfold m_laws_szDataS_B1 at hm
      refine wp_seq ?_
      refine wp_seq ?_
      refine wp_rs rfl ?_
      refine RQ.y rfl (Y.move (v := .int .i64 i6) s5_1) ?_
      refine RQ.y rfl (Y.move (v := .slice Aa0 d0.length ca0) s0_1) ?_
      refine RQ.y rfl (Y.len (by kernel_rfl) rfl) ?_
      refine RQ.y rfl (Y.binI (v := .bool (decide (i6 < (d0.length : Int)))) rfl rfl rfl) ?_
      refine RQ.nil ?_
      refine then_n ?_
      rcases bcases (decide (i6 < (d0.length : Int))) with c8 | c8
      · replace hm := cF c8 hm
        have pc8 := of_decide_eq_false c8
        refine cond_f rfl (vb rfl c8) ?_
        refine wp_exit ?_
        exact (then_x (then_x (hit_x ⟨_, rfl, ⟨i5, s1_1, T, (by rw [hK1] at hm; exact hm)⟩⟩)))
      · replace hm := cT c8 hm
        have pc8 := of_decide_eq_true c8
        refine cond_t rfl (vb rfl c8) ?_
        refine wp_skip ?_
        refine then_n ?_
        refine wp_seq ?_
        refine wp_block ?_
        refine wp_seq ?_
        refine wp_rb rfl ?_
        refine RQ.y rfl (Y.move (v := .slice Aa0 d0.length ca0) s0_1) ?_
        refine RQ.y rfl (Y.move (v := .int .i64 i6) s5_1) ?_
        obtain ⟨x9, hx12, hm⟩ := bnd hm
        obtain ⟨k10, hk13, hl14, hx12⟩ := getI_some hx12
        obtain ⟨b16, o17, rfl, hbb16⟩ := ha0.addr (by omega)
        obtain ⟨cs11, hRcs11, hc15⟩ := ha0.el hx12
        have hScs11 := hRcs11
        obtain ⟨A18, n18, c18, rfl, ⟨h18, r18⟩⟩ := hRcs11
        have e18 := h18.len; subst e18
        have q18 := len_le r18
        refine RQ.y rfl (Y.indexAddr (m := k10) (sz := 2) rfl rfl hk13 hl14 (by kernel_rfl)) ?_
        refine RQ.y rfl (Y.loadN (cs := [.string x9.name, .slice A18 x9.cons.length c18]) rfl (by kernel_rfl) (cells2 (beC (cellT T (hc15 0 _ rfl))) (beC (cellT T (hc15 1 _ rfl))))) ?_
        refine RQ.y rfl (Y.move (v := .int .i64 i5) s1_1) ?_
        obtain ⟨y19, e20, hm⟩ := bnd hm
        refine RQ.call rfl (am2 rfl rfl) (by kernel_rfl) (v := .int .i64 y19) (bel (K := fun _ => True) fun w' hb' => (c_m_laws_szData x9 i5 _ e20 _ w' (stArg (R := dataRd) ⟨_, _, _, rfl, ⟨SlAt.now constructorRd_ok h18 (Nat.le_refl _) (Tt T hb'), r18⟩⟩))) ?_
        refine RQ.y rfl (Y.assign (v := .int .i64 y19) rfl) ?_
        refine RQ.nil ?_
        intro w21 hb22
        have szw21 := hb22.size
        have T := Tt T hb22
        refine then_n ?_
        refine wp_seq ?_
        refine wp_rs rfl ?_
        refine RQ.y rfl (Y.move (v := .int .i64 y19) rfl) ?_
        refine RQ.y rfl (Y.binI (v := .bool (decide (y19 < 0))) rfl rfl rfl) ?_
        refine RQ.nil ?_
        refine then_n ?_
        rcases bcases (decide (y19 < 0)) with c23 | c23
        · replace hm := cF c23 hm
          have pc23 := of_decide_eq_false c23
          refine cond_f rfl (vb rfl c23) ?_
          refine wp_skip ?_
          refine blk_n (then_n ?_)
          refine wp_rs rfl ?_
          refine RQ.y rfl (Y.move (v := .int .i64 i6) s5_1) ?_
          refine RQ.y rfl (Y.binI rfl rfl (binI_add (m := i6) (by omega))) ?_
          refine RQ.y rfl (Y.assign (v := .int .i64 (i6 + 1)) rfl) ?_
          refine RQ.nil ?_
          exact (then_n ⟨g, _, Nat.lt_succ_self _, rfl, ⟨y19, (i6 + 1), s0_1, rfl, rfl, (by omega), T, (by rw [← hrec1]; exact hm)⟩⟩)
        · replace hm := cT c23 hm
          have pc23 := of_decide_eq_true c23
          refine cond_t rfl (vb rfl c23) ?_
          refine wp_seq ?_
          refine wp_rs rfl ?_
          refine RQ.y rfl (Y.assign (v := .int .i64 (-1)) rfl) ?_
          refine RQ.nil ?_
          refine then_n ?_
          refine wp_ret ?_
          obtain rfl := Option.some.inj hm
          exact (blk_r (then_r (then_r (hit_r (blk_r (then_r (ret1 rfl rfl rfl ⟨rfl, T⟩)))))))
  · replace hm := cT c2 hm
    have pc2 := of_decide_eq_true c2
    refine cond_t rfl (vb rfl c2) ?_
    refine wp_seq ?_
    refine wp_rs rfl ?_
    refine RQ.y rfl (Y.assign (v := .int .i64 (-1)) rfl) ?_
    refine RQ.nil ?_
    refine then_n ?_
    refine wp_ret ?_
    obtain rfl := Option.some.inj hm
    exact (then_r (ret1 rfl rfl rfl ⟨rfl, T⟩))
noncomputable def m_laws_szSignature (d0 : DSignature) (d1 : Int) : Option Int :=
  ((m_laws_szDataS d0.datas d1).bind fun y7 => (bif (decide (y7 < 0)) then some (-1) else ((m_laws_szTypeS (SizeOf.sizeOf d0.defs) d0.defs y7).bind fun y12 => (bif (decide (y12 < 0)) then some (-1) else some y12))))
set_option maxHeartbeats 2000000 in
theorem c_m_laws_szSignature (d0 : DSignature) (d1 : Int) (r : Int) (hm : m_laws_szSignature d0 d1 = some r) (v0 : Value) (w : World) (hv0 : St signatureRd w v0 d0) :
    Calls Try.prog 29 #[v0, .int .i64 d1] w fun e w' => e = .returned (.int .i64 r) ∧ Below w.heap.size w w' := by
  obtain ⟨csa0, rfl, ⟨A1, n1, c1, A2, n2, c2, rfl, ⟨h1, r1⟩, ⟨h2, r2⟩⟩⟩ := hv0
  have e1 := h1.len; subst e1
  have q1 := len_le r1
  have e2 := h2.len; subst e2
  have q2 := len_le r2
  have T := Below.refl w.heap.size w
  unfold m_laws_szSignature at hm
  refine enter 18 Try.func29 rfl rfl rfl ?_
  intro f hf
  have s0 : f 0 = .agg #[.slice A1 d0.datas.length c1, .slice A2 d0.defs.length c2] := hf 0 _ rfl
  have s1 : f 1 = .int .i64 d1 := hf 1 _ rfl
  refine wp_seq ?_
  refine wp_rl rfl ?_
  refine RL.box rfl s0 (fun w3 B4 hb5 szw3 => ?_)
  replace B4 : Blk w3 w.heap.size 60 #[.slice A1 d0.datas.length c1, .slice A2 d0.defs.length c2] := B4
  have GB4 : w.heap.size ≤ w.heap.size := T.size
  have T := Tt T hb5
  refine RL.y rfl (Y.assign (v := .int .i64 0) rfl) ?_
  refine RL.nil ?_
  refine then_n ?_
  refine wp_seq ?_
  refine wp_rb rfl ?_
  refine RQ.y rfl (Y.fieldAddr (off := 0) rfl (by kernel_rfl)) ?_
  refine RQ.y rfl (Y.load (v := .slice A1 d0.datas.length c1) rfl (by kernel_rfl) (beC (blkCell B4 (i := 0) rfl))) ?_
  refine RQ.y rfl (Y.move (v := .int .i64 d1) s1) ?_
  obtain ⟨y7, e8, hm⟩ := bnd hm
  refine RQ.call rfl (am2 rfl rfl) (by kernel_rfl) (v := .int .i64 y7) (bel (K := fun _ => True) fun w' hb' => (c_m_laws_szDataS d0.datas d1 _ e8 _ w' (slArg dataRd_ok h1 r1 (Tt T hb')))) ?_
  refine RQ.y rfl (Y.assign (v := .int .i64 y7) rfl) ?_
  refine RQ.nil ?_
  intro w9 hb10
  have szw9 := hb10.size
  have B4 := blkT B4 hb10
  have T := Tt T hb10
  refine then_n ?_
  refine wp_seq ?_
  refine wp_seq ?_
  refine wp_rs rfl ?_
  refine RQ.y rfl (Y.move (v := .int .i64 y7) rfl) ?_
  refine RQ.y rfl (Y.binI (v := .bool (decide (y7 < 0))) rfl rfl rfl) ?_
  refine RQ.nil ?_
  refine then_n ?_
  rcases bcases (decide (y7 < 0)) with c11 | c11
  · replace hm := cF c11 hm
    have pc11 := of_decide_eq_false c11
    refine cond_f rfl (vb rfl c11) ?_
    refine wp_skip ?_
    refine then_n ?_
    refine wp_seq ?_
    refine wp_rb rfl ?_
    refine RQ.y rfl (Y.fieldAddr (off := 1) rfl (by kernel_rfl)) ?_
    refine RQ.y rfl (Y.load (v := .slice A2 d0.defs.length c2) rfl (by kernel_rfl) (beC (blkCell B4 (i := 1) rfl))) ?_
    refine RQ.y rfl (Y.move (v := .int .i64 y7) rfl) ?_
    obtain ⟨y12, e13, hm⟩ := bnd hm
    refine RQ.call rfl (am2 rfl rfl) (by kernel_rfl) (v := .int .i64 y12) (bel (K := fun _ => True) fun w' hb' => (c_m_laws_szTypeS (SizeOf.sizeOf d0.defs) d0.defs y7 _ e13 _ w' (slArg typeRd_ok h2 r2 (Tt T hb')))) ?_
    refine RQ.y rfl (Y.assign (v := .int .i64 y12) rfl) ?_
    refine RQ.nil ?_
    intro w14 hb15
    have szw14 := hb15.size
    have T := Tt T hb15
    refine then_n ?_
    refine wp_seq ?_
    refine wp_seq ?_
    refine wp_rs rfl ?_
    refine RQ.y rfl (Y.move (v := .int .i64 y12) rfl) ?_
    refine RQ.y rfl (Y.binI (v := .bool (decide (y12 < 0))) rfl rfl rfl) ?_
    refine RQ.nil ?_
    refine then_n ?_
    rcases bcases (decide (y12 < 0)) with c16 | c16
    · replace hm := cF c16 hm
      have pc16 := of_decide_eq_false c16
      refine cond_f rfl (vb rfl c16) ?_
      refine wp_skip ?_
      refine then_n ?_
      refine wp_seq ?_
      refine wp_rs rfl ?_
      refine RQ.y rfl (Y.move (v := .int .i64 y12) rfl) ?_
      refine RQ.y rfl (Y.assign (v := .int .i64 y12) rfl) ?_
      refine RQ.nil ?_
      refine then_n ?_
      refine wp_ret ?_
      obtain rfl := Option.some.inj hm
      exact (ret1 rfl rfl rfl ⟨rfl, T⟩)
    · replace hm := cT c16 hm
      have pc16 := of_decide_eq_true c16
      refine cond_t rfl (vb rfl c16) ?_
      refine wp_seq ?_
      refine wp_rs rfl ?_
      refine RQ.y rfl (Y.assign (v := .int .i64 (-1)) rfl) ?_
      refine RQ.nil ?_
      refine then_n ?_
      refine wp_ret ?_
      obtain rfl := Option.some.inj hm
      exact (then_r (ret1 rfl rfl rfl ⟨rfl, T⟩))
  · replace hm := cT c11 hm
    have pc11 := of_decide_eq_true c11
    refine cond_t rfl (vb rfl c11) ?_
    refine wp_seq ?_
    refine wp_rs rfl ?_
    refine RQ.y rfl (Y.assign (v := .int .i64 (-1)) rfl) ?_
    refine RQ.nil ?_
    refine then_n ?_
    refine wp_ret ?_
    obtain rfl := Option.some.inj hm
    exact (then_r (ret1 rfl rfl rfl ⟨rfl, T⟩))
noncomputable def m_laws_toConstructor (d0 : DConstructor) : Option DConstructor :=
  ((m_laws_toTypeS (SizeOf.sizeOf d0.fields) d0.fields).bind fun y17 => some (⟨d0.name, y17⟩ : DConstructor))
set_option maxHeartbeats 2000000 in
theorem c_m_laws_toConstructor (d0 : DConstructor) (r : DConstructor) (hm : m_laws_toConstructor d0 = some r) (v0 : Value) (w : World) (hv0 : St constructorRd w v0 d0) :
    Calls Try.prog 169 #[v0] w fun e w' => (∃ (v0 : Value) (bs0 : List Nat), e = .returned (.agg #[.string r.name, v0]) ∧ OwN 110 typeOw 3 w' w.heap.size v0 r.fields bs0) ∧ Below w.heap.size w w' := by
  obtain ⟨csa0, rfl, ⟨A1, n1, c1, rfl, ⟨h1, r1⟩⟩⟩ := hv0
  have e1 := h1.len; subst e1
  have q1 := len_le r1
  have T := Below.refl w.heap.size w
  unfold m_laws_toConstructor at hm
  refine enter 12 Try.func169 rfl rfl rfl ?_
  intro f hf
  have s0 : f 0 = .agg #[.string d0.name, .slice A1 d0.fields.length c1] := hf 0 _ rfl
  refine wp_seq ?_
  refine wp_rl rfl ?_
  refine RL.box rfl s0 (fun w2 B3 hb4 szw2 => ?_)
  replace B3 : Blk w2 w.heap.size 199 #[.string d0.name, .slice A1 d0.fields.length c1] := B3
  have GB3 : w.heap.size ≤ w.heap.size := T.size
  have T := Tt T hb4
  refine RL.alloc (z := .agg #[.string ByteArray.empty, .slice none 0 0]) rfl (by kernel_rfl) (fun w6 B7 hb8 szw6 => ?_)
  replace B7 : Blk w6 w2.heap.size 107 #[.string ByteArray.empty, .slice none 0 0] := B7
  have GB7 : w.heap.size ≤ w2.heap.size := T.size
  have Eob9_ob5 := Nat.ne_of_lt B3.lt
  have B3 := blkT B3 hb8
  have T := Tt T hb8
  refine RL.nil ?_
  refine then_n ?_
  refine wp_seq ?_
  refine wp_rl rfl ?_
  refine RL.alloc (z := .agg #[.string ByteArray.empty, .slice none 0 0]) rfl (by kernel_rfl) (fun w10 B11 hb12 szw10 => ?_)
  replace B11 : Blk w10 w6.heap.size 107 #[.string ByteArray.empty, .slice none 0 0] := B11
  have GB11 : w.heap.size ≤ w6.heap.size := T.size
  have Eob13_ob5 := Nat.ne_of_lt B3.lt
  have Eob13_ob9 := Nat.ne_of_lt B7.lt
  have B3 := blkT B3 hb12
  have B7 := blkT B7 hb12
  have T := Tt T hb12
  refine RL.nil ?_
  refine then_n ?_
  refine wp_seq ?_
  refine wp_rl rfl ?_
  refine RL.y rfl (Y.fieldAddr (off := 0) rfl (by kernel_rfl)) ?_
  refine RL.y rfl (Y.load (v := .string d0.name) rfl (by kernel_rfl) (eqC (blkCell B3 (i := 0) rfl))) ?_
  refine RL.y rfl (Y.fieldAddr (off := 0) rfl (by kernel_rfl)) ?_
  refine RL.store (v := .string d0.name) (cs' := #[.string d0.name, .slice none 0 0]) rfl rfl rfl B11 (by kernel_rfl) (by rfl) (by rfl) (by rfl) (fun w14 B15 ho16 => ?_)
  have szw14 := ho16.size
  have B3 := B3.only_ ho16 (by intro hin; simp at hin; exact Eob13_ob5 hin)
  have B7 := B7.only_ ho16 (by intro hin; simp at hin; exact Eob13_ob9 hin)
  have T := T.trans (ho16.below (by first | (simp; done) | (simp; omega)))
  refine RL.nil ?_
  refine then_n ?_
  refine wp_seq ?_
  refine wp_rl rfl ?_
  refine RL.y rfl (Y.fieldAddr (off := 1) rfl (by kernel_rfl)) ?_
  refine RL.y rfl (Y.load (v := .slice A1 d0.fields.length c1) rfl (by kernel_rfl) (eqC (blkCell B3 (i := 1) rfl))) ?_
  obtain ⟨y17, e18, hm⟩ := bnd hm
  refine RL.call rfl (am1 rfl) (by kernel_rfl) ((c_m_laws_toTypeS (SizeOf.sizeOf d0.fields) d0.fields _ e18 _ _ (slArg typeRd_ok h1 r1 T)).mono ?_)
  rintro _ w23 ⟨⟨v19, bs22, rfl, G20⟩, hb24⟩
  refine ⟨_, rfl, ?_⟩
  have szw23 := hb24.size
  have T0w23 := T.size
  have Zo21_ob5 : Ap bs22 [w.heap.size] := (Ap.new (OwN.lo_ G20) (one_hi B3.lt))
  have Zo21_ob9 : Ap bs22 [w2.heap.size] := (Ap.new (OwN.lo_ G20) (one_hi B7.lt))
  have Zo21_ob13 : Ap bs22 [w6.heap.size] := (Ap.new (OwN.lo_ G20) (one_hi B15.lt))
  have B3 := blkT B3 hb24
  have B7 := blkT B7 hb24
  have B15 := blkT B15 hb24
  have T := Tt T hb24
  replace G20 := OwN.mono G20 T0w23
  refine RL.y rfl (Y.fieldAddr (off := 1) rfl (by kernel_rfl)) ?_
  obtain ⟨A25, c26, rfl⟩ := OwN.form G20
  have qbA25 := OwN.bound G20
  refine RL.store (v := .slice A25 y17.length c26) (cs' := #[.string d0.name, .slice A25 y17.length c26]) rfl rfl rfl B15 (by kernel_rfl) (by rfl) (by rfl) (by rfl) (fun w27 B28 ho29 => ?_)
  have szw27 := ho29.size
  have B3 := B3.only_ ho29 (by intro hin; simp at hin; exact Eob13_ob5 hin)
  have B7 := B7.only_ ho29 (by intro hin; simp at hin; exact Eob13_ob9 hin)
  have G20 := OwN.only typeOw_ok G20 ho29 (Ap.one Zo21_ob13)
  have T := T.trans (ho29.below (by first | (simp; done) | (simp; omega)))
  refine RL.nil ?_
  refine then_n ?_
  refine wp_seq ?_
  refine wp_rl rfl ?_
  refine RL.y rfl (Y.loadN (cs := [.string d0.name, .slice A25 y17.length c26]) rfl (by kernel_rfl) (cells2 (eqC (blkCell B28 (i := 0) rfl)) (eqC (blkCell B28 (i := 1) rfl)))) ?_
  refine RL.store (v := .agg #[.string d0.name, .slice A25 y17.length c26]) (cs' := #[.string d0.name, .slice A25 y17.length c26]) rfl rfl rfl B7 (by kernel_rfl) (by rfl) (by rfl) (by rfl) (fun w30 B31 ho32 => ?_)
  have szw30 := ho32.size
  have B28 := B28.only_ ho32 (by intro hin; simp at hin; exact Eob13_ob9.symm hin)
  have G20 := OwN.only typeOw_ok G20 ho32 (Ap.one Zo21_ob9)
  have T := T.trans (ho32.below (by first | (simp; done) | (simp; omega)))
  refine RL.nil ?_
  refine then_n ?_
  refine wp_ret ?_
  obtain rfl := Option.some.inj hm
  exact (retc (cs := [.string d0.name, .slice A25 y17.length c26]) rfl rfl rfl (by kernel_rfl) (blkCells B31) ⟨⟨_, _, rfl, G20⟩, T⟩)
noncomputable def m_laws_toConstructorS_A1 (xs8 : List DConstructor) : Option (List DConstructor) :=
  some xs8
noncomputable def m_laws_toConstructorS_B1 (d0 : List DConstructor) (rec1 : List DConstructor → Int → Option (List DConstructor)) (K1 : List DConstructor → Option (List DConstructor)) (xs10 : List DConstructor) (i11 : Int) : Option (List DConstructor) :=
  (bif (decide (i11 < (d0.length : Int))) then ((getI d0 i11).bind fun x14 => ((m_laws_toConstructor x14).bind fun y24 => ((getI xs10 i11).bind fun x34 => (rec1 (setI xs10 i11 y24) (i11 + 1))))) else (K1 xs10))
noncomputable def m_laws_toConstructorS_L1 (d0 : List DConstructor) (K1 : List DConstructor → Option (List DConstructor)) : Nat → List DConstructor → Int → Option (List DConstructor)
  | 0, _, _ => none
  | g + 1, xs10, i11 => m_laws_toConstructorS_B1 d0 (m_laws_toConstructorS_L1 d0 K1 g) K1 xs10 i11
noncomputable def m_laws_toConstructorS (d0 : List DConstructor) : Option (List DConstructor) :=
  ((mustP (d0.length ≤ 4294967296)).bind fun _ => (m_laws_toConstructorS_L1 d0 m_laws_toConstructorS_A1 (d0.length + 1) (List.replicate d0.length ((⟨ByteArray.empty, []⟩ : DConstructor) : DConstructor)) 0))
set_option maxHeartbeats 2000000 in
theorem c_m_laws_toConstructorS (d0 : List DConstructor) (r : List DConstructor) (hm : m_laws_toConstructorS d0 = some r) (v0 : Value) (w : World) (hv0 : Sl constructorRd 2 w v0 d0) :
    Calls Try.prog 139 #[v0] w fun e w' => (∃ (v0 : Value) (bs0 : List Nat), e = .returned (v0) ∧ OwN 107 constructorOw 2 w' w.heap.size v0 r bs0) ∧ Below w.heap.size w w' := by
  obtain ⟨Aa0, na0, ca0, rfl, ha0, ra0⟩ := hv0
  have ea0 := ha0.len; subst ea0
  have qa0 := len_le ra0
  have T := Below.refl w.heap.size w
  unfold m_laws_toConstructorS at hm
  refine enter 23 Try.func139 rfl rfl rfl ?_
  intro f hf
  have s0 : f 0 = .slice Aa0 d0.length ca0 := hf 0 _ rfl
  refine wp_seq ?_
  refine wp_rs rfl ?_
  refine RQ.y rfl (Y.assign (v := .slice none 0 0) rfl) ?_
  refine RQ.nil ?_
  refine then_n ?_
  refine wp_seq ?_
  refine wp_rl rfl ?_
  refine RL.y rfl (Y.move (v := .slice Aa0 d0.length ca0) s0) ?_
  refine RL.y rfl (Y.len (by kernel_rfl) rfl) ?_
  obtain ⟨_, m1, hm⟩ := bnd hm
  have hk2 := mustP_some m1
  refine RL.makeN (O := constructorOw) (x0 := (⟨ByteArray.empty, []⟩ : DConstructor)) (n := d0.length) app_impl_Constructor (by decide) (fun w => ⟨none, 0, 0, [], rfl, ⟨⟨rfl, .inl ⟨rfl, rfl⟩⟩, Nat.le_refl _, Nat.zero_le _⟩, rfl⟩) rfl rfl rfl hk2 (fun w3 G4 hb5 szw3 => ?_)
  replace G4 := OwN.mono G4 T.size
  have T := Tt T hb5
  refine RL.y rfl (Y.assign (v := .slice (some ⟨w.heap.size, 0, none⟩) d0.length d0.length) rfl) ?_
  refine RL.nil ?_
  refine then_n ?_
  refine wp_seq ?_
  refine wp_seq ?_
  refine wp_rs rfl ?_
  refine RQ.y rfl (Y.assign (v := .int .i64 0) rfl) ?_
  refine RQ.nil ?_
  refine then_n ?_
  refine wp_block ?_
  obtain ⟨K1, hK1, hm⟩ : ∃ K, K = m_laws_toConstructorS_A1 ∧ m_laws_toConstructorS_L1 d0 K (d0.length + 1) (List.replicate d0.length ((⟨ByteArray.empty, []⟩ : DConstructor) : DConstructor)) 0 = some r := ⟨_, rfl, hm⟩
  refine wp_loopX (fun g f w' => ∃ (xs10 : List DConstructor) (i11 : Int) (uxs10 : Value) (bsxs10 : List Nat), f 0 = .slice Aa0 d0.length ca0 ∧ f 3 = uxs10 ∧ OwN 107 constructorOw 2 w' w.heap.size uxs10 xs10 bsxs10 ∧ f 4 = .int .i64 i11 ∧ 0 ≤ i11 ∧ Below w.heap.size w w' ∧ m_laws_toConstructorS_L1 d0 K1 g xs10 i11 = some r) 0 (fun f w' => ∃ (xs8 : List DConstructor) (uxs8 : Value) (bsxs8 : List Nat), f 3 = uxs8 ∧ OwN 107 constructorOw 2 w' w.heap.size uxs8 xs8 bsxs8 ∧ Below w.heap.size w w' ∧ m_laws_toConstructorS_A1 xs8 = some r) (d0.length + 1) ⟨(List.replicate d0.length ((⟨ByteArray.empty, []⟩ : DConstructor) : DConstructor)), 0, (.slice (some ⟨w.heap.size, 0, none⟩) d0.length d0.length), ([w.heap.size]), s0, rfl, G4, rfl, (by omega), T, hm⟩ ?_ ?_
  · rintro f w9 ⟨xs8, uxs8, bsxs8, s3_1x, Guxs8, T, hm⟩
    unfold m_laws_toConstructorS_A1 at hm
    refine blk_hit (then_n ?_)
    refine wp_seq ?_
    refine wp_rs rfl ?_
    refine RQ.y rfl (Y.move (v := uxs8) s3_1x) ?_
    refine RQ.y rfl (Y.assign (v := uxs8) rfl) ?_
    refine RQ.nil ?_
    refine then_n ?_
    refine wp_ret ?_
    obtain rfl := Option.some.inj hm
    exact (ret1 rfl rfl rfl ⟨⟨_, _, rfl, Guxs8⟩, T⟩)
  · rintro g f w12 ⟨xs10, i11, uxs10, bsxs10, s0_1, s3_1, Guxs10, s4_1, nn4_1, T, hm⟩
    rcases g with _ | g
    · simp only [m_laws_toConstructorS_L1] at hm; cases hm
    obtain ⟨rec1, hrec1, hm⟩ : ∃ z, z = m_laws_toConstructorS_L1 d0 K1 g ∧ m_laws_toConstructorS_B1 d0 z K1 xs10 i11 = some r := ⟨_, rfl, hm⟩
    unfold m_laws_toConstructorS_B1 at hm
    refine wp_seq ?_
    refine wp_seq ?_
    refine wp_rs rfl ?_
    refine RQ.y rfl (Y.move (v := .int .i64 i11) s4_1) ?_
    refine RQ.y rfl (Y.move (v := .slice Aa0 d0.length ca0) s0_1) ?_
    refine RQ.y rfl (Y.len (by kernel_rfl) rfl) ?_
    refine RQ.y rfl (Y.binI (v := .bool (decide (i11 < (d0.length : Int)))) rfl rfl rfl) ?_
    refine RQ.nil ?_
    refine then_n ?_
    rcases bcases (decide (i11 < (d0.length : Int))) with c13 | c13
    · replace hm := cF c13 hm
      have pc13 := of_decide_eq_false c13
      refine cond_f rfl (vb rfl c13) ?_
      refine wp_exit ?_
      exact (then_x (then_x (hit_x ⟨_, rfl, ⟨xs10, (uxs10), bsxs10, s3_1, Guxs10, T, (by rw [hK1] at hm; exact hm)⟩⟩)))
    · replace hm := cT c13 hm
      have pc13 := of_decide_eq_true c13
      refine cond_t rfl (vb rfl c13) ?_
      refine wp_skip ?_
      refine then_n ?_
      refine wp_seq ?_
      refine wp_block ?_
      refine wp_rl rfl ?_
      refine RL.y rfl (Y.move (v := uxs10) s3_1) ?_
      refine RL.y rfl (Y.move (v := .int .i64 i11) s4_1) ?_
      refine RL.y rfl (Y.move (v := .slice Aa0 d0.length ca0) s0_1) ?_
      refine RL.y rfl (Y.move (v := .int .i64 i11) s4_1) ?_
      obtain ⟨x14, hx17, hm⟩ := bnd hm
      obtain ⟨k15, hk18, hl19, hx17⟩ := getI_some hx17
      obtain ⟨b21, o22, rfl, hbb21⟩ := ha0.addr (by omega)
      obtain ⟨cs16, hRcs16, hc20⟩ := ha0.el hx17
      have hScs16 := hRcs16
      obtain ⟨A23, n23, c23, rfl, ⟨h23, r23⟩⟩ := hRcs16
      have e23 := h23.len; subst e23
      have q23 := len_le r23
      refine RL.y rfl (Y.indexAddr (m := k15) (sz := 2) rfl rfl hk18 hl19 (by kernel_rfl)) ?_
      refine RL.y rfl (Y.loadN (cs := [.string x14.name, .slice A23 x14.fields.length c23]) rfl (by kernel_rfl) (cells2 (eqC (cellT T (hc20 0 _ rfl))) (eqC (cellT T (hc20 1 _ rfl))))) ?_
      obtain ⟨y24, e25, hm⟩ := bnd hm
      refine RL.call rfl (am1 rfl) (by kernel_rfl) ((c_m_laws_toConstructor x14 _ e25 _ _ (stArg (R := constructorRd) ⟨_, _, _, rfl, ⟨SlAt.now typeRd_ok h23 (Nat.le_refl _) T, r23⟩⟩)).mono ?_)
      rintro _ w30 ⟨⟨v26, bs29, rfl, G27⟩, hb31⟩
      refine ⟨_, rfl, ?_⟩
      have szw30 := hb31.size
      have T0w30 := T.size
      have Zo28_oxs10 : Ap bs29 bsxs10 := (Ap.new (OwN.lo_ G27) (OwN.hi Guxs10))
      have Guxs10 := OwN.below constructorOw_ok Guxs10 hb31
      have T := Tt T hb31
      replace G27 := OwN.mono G27 T0w30
      obtain ⟨A32, c33, rfl⟩ := OwN.form Guxs10
      have qbA32 := OwN.bound Guxs10
      obtain ⟨x34, hx36, hm⟩ := bnd hm
      obtain ⟨k35, hk37, hl38, hx36⟩ := getI_some hx36
      obtain ⟨b39, rfl⟩ := OwN.addr0 Guxs10 (by omega)
      refine RL.y rfl (Y.indexAddr (m := k35) (sz := 2) rfl rfl hk37 hl38 (by kernel_rfl)) ?_
      obtain ⟨A40, c41, rfl⟩ := OwN.form G27
      have qbA40 := OwN.bound G27
      obtain ⟨_, _, _, l43, hea42, a42, nd44, sb45, r46⟩ := OwN.own1 typeOw_ok G27
      injection hea42 with e1 e2 e3; subst e1 e2 e3
      refine RL.storeNW (k := k35) (a' := y24) (l := l43) (fp := bs29) constructorOw_ok constructorOw_one rfl rfl rfl Guxs10 hx36 ⟨_, _, _, l43, rfl, ⟨a42, r46⟩, rfl⟩ nd44 sb45 (Ap.symm Zo28_oxs10) (OwN.both G27 (Nat.le_refl _)) (by kernel_rfl) (fun w47 G48 ho49 => ?_)
      have szw47 := ho49.size
      have T := T.trans (ho49.below (by intro b hb; simp at hb; subst hb; exact OwN.lo_ Guxs10 _ (OwN.row Guxs10 rfl)))
      have G48 : OwN 107 constructorOw 2 w47 w.heap.size (.slice (some ⟨b39, 0, none⟩) xs10.length c33) (setI xs10 i11 y24) (bsxs10 ++ bs29) := by rw [setI_eq hk37]; exact G48
      refine RL.nil ?_
      refine blk_n (then_n ?_)
      refine wp_rs rfl ?_
      refine RQ.y rfl (Y.move (v := .int .i64 i11) s4_1) ?_
      refine RQ.y rfl (Y.binI rfl rfl (binI_add (m := i11) (by omega))) ?_
      refine RQ.y rfl (Y.assign (v := .int .i64 (i11 + 1)) rfl) ?_
      refine RQ.nil ?_
      exact (then_n ⟨g, _, Nat.lt_succ_self _, rfl, ⟨(setI xs10 i11 y24), (i11 + 1), (.slice (some ⟨b39, 0, none⟩) xs10.length c33), (bsxs10 ++ bs29), s0_1, s3_1, G48, rfl, (by omega), T, (by rw [← hrec1]; exact hm)⟩⟩)
noncomputable def m_laws_toData (d0 : DData) : Option DData :=
  ((m_laws_toConstructorS d0.cons).bind fun y17 => some (⟨d0.name, y17⟩ : DData))
set_option maxHeartbeats 2000000 in
theorem c_m_laws_toData (d0 : DData) (r : DData) (hm : m_laws_toData d0 = some r) (v0 : Value) (w : World) (hv0 : St dataRd w v0 d0) :
    Calls Try.prog 110 #[v0] w fun e w' => (∃ (v0 : Value) (bs0 : List Nat), e = .returned (.agg #[.string r.name, v0]) ∧ OwN 107 constructorOw 2 w' w.heap.size v0 r.cons bs0) ∧ Below w.heap.size w w' := by
  obtain ⟨csa0, rfl, ⟨A1, n1, c1, rfl, ⟨h1, r1⟩⟩⟩ := hv0
  have e1 := h1.len; subst e1
  have q1 := len_le r1
  have T := Below.refl w.heap.size w
  unfold m_laws_toData at hm
  refine enter 12 Try.func110 rfl rfl rfl ?_
  intro f hf
  have s0 : f 0 = .agg #[.string d0.name, .slice A1 d0.cons.length c1] := hf 0 _ rfl
  refine wp_seq ?_
  refine wp_rl rfl ?_
  refine RL.box rfl s0 (fun w2 B3 hb4 szw2 => ?_)
  replace B3 : Blk w2 w.heap.size 152 #[.string d0.name, .slice A1 d0.cons.length c1] := B3
  have GB3 : w.heap.size ≤ w.heap.size := T.size
  have T := Tt T hb4
  refine RL.alloc (z := .agg #[.string ByteArray.empty, .slice none 0 0]) rfl (by kernel_rfl) (fun w6 B7 hb8 szw6 => ?_)
  replace B7 : Blk w6 w2.heap.size 105 #[.string ByteArray.empty, .slice none 0 0] := B7
  have GB7 : w.heap.size ≤ w2.heap.size := T.size
  have Eob9_ob5 := Nat.ne_of_lt B3.lt
  have B3 := blkT B3 hb8
  have T := Tt T hb8
  refine RL.nil ?_
  refine then_n ?_
  refine wp_seq ?_
  refine wp_rl rfl ?_
  refine RL.alloc (z := .agg #[.string ByteArray.empty, .slice none 0 0]) rfl (by kernel_rfl) (fun w10 B11 hb12 szw10 => ?_)
  replace B11 : Blk w10 w6.heap.size 105 #[.string ByteArray.empty, .slice none 0 0] := B11
  have GB11 : w.heap.size ≤ w6.heap.size := T.size
  have Eob13_ob5 := Nat.ne_of_lt B3.lt
  have Eob13_ob9 := Nat.ne_of_lt B7.lt
  have B3 := blkT B3 hb12
  have B7 := blkT B7 hb12
  have T := Tt T hb12
  refine RL.nil ?_
  refine then_n ?_
  refine wp_seq ?_
  refine wp_rl rfl ?_
  refine RL.y rfl (Y.fieldAddr (off := 0) rfl (by kernel_rfl)) ?_
  refine RL.y rfl (Y.load (v := .string d0.name) rfl (by kernel_rfl) (eqC (blkCell B3 (i := 0) rfl))) ?_
  refine RL.y rfl (Y.fieldAddr (off := 0) rfl (by kernel_rfl)) ?_
  refine RL.store (v := .string d0.name) (cs' := #[.string d0.name, .slice none 0 0]) rfl rfl rfl B11 (by kernel_rfl) (by rfl) (by rfl) (by rfl) (fun w14 B15 ho16 => ?_)
  have szw14 := ho16.size
  have B3 := B3.only_ ho16 (by intro hin; simp at hin; exact Eob13_ob5 hin)
  have B7 := B7.only_ ho16 (by intro hin; simp at hin; exact Eob13_ob9 hin)
  have T := T.trans (ho16.below (by first | (simp; done) | (simp; omega)))
  refine RL.nil ?_
  refine then_n ?_
  refine wp_seq ?_
  refine wp_rl rfl ?_
  refine RL.y rfl (Y.fieldAddr (off := 1) rfl (by kernel_rfl)) ?_
  refine RL.y rfl (Y.load (v := .slice A1 d0.cons.length c1) rfl (by kernel_rfl) (eqC (blkCell B3 (i := 1) rfl))) ?_
  obtain ⟨y17, e18, hm⟩ := bnd hm
  refine RL.call rfl (am1 rfl) (by kernel_rfl) ((c_m_laws_toConstructorS d0.cons _ e18 _ _ (slArg constructorRd_ok h1 r1 T)).mono ?_)
  rintro _ w23 ⟨⟨v19, bs22, rfl, G20⟩, hb24⟩
  refine ⟨_, rfl, ?_⟩
  have szw23 := hb24.size
  have T0w23 := T.size
  have Zo21_ob5 : Ap bs22 [w.heap.size] := (Ap.new (OwN.lo_ G20) (one_hi B3.lt))
  have Zo21_ob9 : Ap bs22 [w2.heap.size] := (Ap.new (OwN.lo_ G20) (one_hi B7.lt))
  have Zo21_ob13 : Ap bs22 [w6.heap.size] := (Ap.new (OwN.lo_ G20) (one_hi B15.lt))
  have B3 := blkT B3 hb24
  have B7 := blkT B7 hb24
  have B15 := blkT B15 hb24
  have T := Tt T hb24
  replace G20 := OwN.mono G20 T0w23
  refine RL.y rfl (Y.fieldAddr (off := 1) rfl (by kernel_rfl)) ?_
  obtain ⟨A25, c26, rfl⟩ := OwN.form G20
  have qbA25 := OwN.bound G20
  refine RL.store (v := .slice A25 y17.length c26) (cs' := #[.string d0.name, .slice A25 y17.length c26]) rfl rfl rfl B15 (by kernel_rfl) (by rfl) (by rfl) (by rfl) (fun w27 B28 ho29 => ?_)
  have szw27 := ho29.size
  have B3 := B3.only_ ho29 (by intro hin; simp at hin; exact Eob13_ob5 hin)
  have B7 := B7.only_ ho29 (by intro hin; simp at hin; exact Eob13_ob9 hin)
  have G20 := OwN.only constructorOw_ok G20 ho29 (Ap.one Zo21_ob13)
  have T := T.trans (ho29.below (by first | (simp; done) | (simp; omega)))
  refine RL.nil ?_
  refine then_n ?_
  refine wp_seq ?_
  refine wp_rl rfl ?_
  refine RL.y rfl (Y.loadN (cs := [.string d0.name, .slice A25 y17.length c26]) rfl (by kernel_rfl) (cells2 (eqC (blkCell B28 (i := 0) rfl)) (eqC (blkCell B28 (i := 1) rfl)))) ?_
  refine RL.store (v := .agg #[.string d0.name, .slice A25 y17.length c26]) (cs' := #[.string d0.name, .slice A25 y17.length c26]) rfl rfl rfl B7 (by kernel_rfl) (by rfl) (by rfl) (by rfl) (fun w30 B31 ho32 => ?_)
  have szw30 := ho32.size
  have B28 := B28.only_ ho32 (by intro hin; simp at hin; exact Eob13_ob9.symm hin)
  have G20 := OwN.only constructorOw_ok G20 ho32 (Ap.one Zo21_ob9)
  have T := T.trans (ho32.below (by first | (simp; done) | (simp; omega)))
  refine RL.nil ?_
  refine then_n ?_
  refine wp_ret ?_
  obtain rfl := Option.some.inj hm
  exact (retc (cs := [.string d0.name, .slice A25 y17.length c26]) rfl rfl rfl (by kernel_rfl) (blkCells B31) ⟨⟨_, _, rfl, G20⟩, T⟩)
noncomputable def m_laws_toDataS_A1 (xs8 : List DData) : Option (List DData) :=
  some xs8
noncomputable def m_laws_toDataS_B1 (d0 : List DData) (rec1 : List DData → Int → Option (List DData)) (K1 : List DData → Option (List DData)) (xs10 : List DData) (i11 : Int) : Option (List DData) :=
  (bif (decide (i11 < (d0.length : Int))) then ((getI d0 i11).bind fun x14 => ((m_laws_toData x14).bind fun y24 => ((getI xs10 i11).bind fun x34 => (rec1 (setI xs10 i11 y24) (i11 + 1))))) else (K1 xs10))
noncomputable def m_laws_toDataS_L1 (d0 : List DData) (K1 : List DData → Option (List DData)) : Nat → List DData → Int → Option (List DData)
  | 0, _, _ => none
  | g + 1, xs10, i11 => m_laws_toDataS_B1 d0 (m_laws_toDataS_L1 d0 K1 g) K1 xs10 i11
noncomputable def m_laws_toDataS (d0 : List DData) : Option (List DData) :=
  ((mustP (d0.length ≤ 4294967296)).bind fun _ => (m_laws_toDataS_L1 d0 m_laws_toDataS_A1 (d0.length + 1) (List.replicate d0.length ((⟨ByteArray.empty, []⟩ : DData) : DData)) 0))
set_option maxHeartbeats 2000000 in
theorem c_m_laws_toDataS (d0 : List DData) (r : List DData) (hm : m_laws_toDataS d0 = some r) (v0 : Value) (w : World) (hv0 : Sl dataRd 2 w v0 d0) :
    Calls Try.prog 62 #[v0] w fun e w' => (∃ (v0 : Value) (bs0 : List Nat), e = .returned (v0) ∧ OwN 105 dataOw 2 w' w.heap.size v0 r bs0) ∧ Below w.heap.size w w' := by
  obtain ⟨Aa0, na0, ca0, rfl, ha0, ra0⟩ := hv0
  have ea0 := ha0.len; subst ea0
  have qa0 := len_le ra0
  have T := Below.refl w.heap.size w
  unfold m_laws_toDataS at hm
  refine enter 23 Try.func62 rfl rfl rfl ?_
  intro f hf
  have s0 : f 0 = .slice Aa0 d0.length ca0 := hf 0 _ rfl
  refine wp_seq ?_
  refine wp_rs rfl ?_
  refine RQ.y rfl (Y.assign (v := .slice none 0 0) rfl) ?_
  refine RQ.nil ?_
  refine then_n ?_
  refine wp_seq ?_
  refine wp_rl rfl ?_
  refine RL.y rfl (Y.move (v := .slice Aa0 d0.length ca0) s0) ?_
  refine RL.y rfl (Y.len (by kernel_rfl) rfl) ?_
  obtain ⟨_, m1, hm⟩ := bnd hm
  have hk2 := mustP_some m1
  refine RL.makeN (O := dataOw) (x0 := (⟨ByteArray.empty, []⟩ : DData)) (n := d0.length) app_impl_Data (by decide) (fun w => ⟨none, 0, 0, [], rfl, ⟨⟨rfl, .inl ⟨rfl, rfl⟩⟩, Nat.le_refl _, Nat.zero_le _⟩, rfl⟩) rfl rfl rfl hk2 (fun w3 G4 hb5 szw3 => ?_)
  replace G4 := OwN.mono G4 T.size
  have T := Tt T hb5
  refine RL.y rfl (Y.assign (v := .slice (some ⟨w.heap.size, 0, none⟩) d0.length d0.length) rfl) ?_
  refine RL.nil ?_
  refine then_n ?_
  refine wp_seq ?_
  refine wp_seq ?_
  refine wp_rs rfl ?_
  refine RQ.y rfl (Y.assign (v := .int .i64 0) rfl) ?_
  refine RQ.nil ?_
  refine then_n ?_
  refine wp_block ?_
  obtain ⟨K1, hK1, hm⟩ : ∃ K, K = m_laws_toDataS_A1 ∧ m_laws_toDataS_L1 d0 K (d0.length + 1) (List.replicate d0.length ((⟨ByteArray.empty, []⟩ : DData) : DData)) 0 = some r := ⟨_, rfl, hm⟩
  refine wp_loopX (fun g f w' => ∃ (xs10 : List DData) (i11 : Int) (uxs10 : Value) (bsxs10 : List Nat), f 0 = .slice Aa0 d0.length ca0 ∧ f 3 = uxs10 ∧ OwN 105 dataOw 2 w' w.heap.size uxs10 xs10 bsxs10 ∧ f 4 = .int .i64 i11 ∧ 0 ≤ i11 ∧ Below w.heap.size w w' ∧ m_laws_toDataS_L1 d0 K1 g xs10 i11 = some r) 0 (fun f w' => ∃ (xs8 : List DData) (uxs8 : Value) (bsxs8 : List Nat), f 3 = uxs8 ∧ OwN 105 dataOw 2 w' w.heap.size uxs8 xs8 bsxs8 ∧ Below w.heap.size w w' ∧ m_laws_toDataS_A1 xs8 = some r) (d0.length + 1) ⟨(List.replicate d0.length ((⟨ByteArray.empty, []⟩ : DData) : DData)), 0, (.slice (some ⟨w.heap.size, 0, none⟩) d0.length d0.length), ([w.heap.size]), s0, rfl, G4, rfl, (by omega), T, hm⟩ ?_ ?_
  · rintro f w9 ⟨xs8, uxs8, bsxs8, s3_1x, Guxs8, T, hm⟩
    unfold m_laws_toDataS_A1 at hm
    refine blk_hit (then_n ?_)
    refine wp_seq ?_
    refine wp_rs rfl ?_
    refine RQ.y rfl (Y.move (v := uxs8) s3_1x) ?_
    refine RQ.y rfl (Y.assign (v := uxs8) rfl) ?_
    refine RQ.nil ?_
    refine then_n ?_
    refine wp_ret ?_
    obtain rfl := Option.some.inj hm
    exact (ret1 rfl rfl rfl ⟨⟨_, _, rfl, Guxs8⟩, T⟩)
  · rintro g f w12 ⟨xs10, i11, uxs10, bsxs10, s0_1, s3_1, Guxs10, s4_1, nn4_1, T, hm⟩
    rcases g with _ | g
    · simp only [m_laws_toDataS_L1] at hm; cases hm
    obtain ⟨rec1, hrec1, hm⟩ : ∃ z, z = m_laws_toDataS_L1 d0 K1 g ∧ m_laws_toDataS_B1 d0 z K1 xs10 i11 = some r := ⟨_, rfl, hm⟩
    unfold m_laws_toDataS_B1 at hm
    refine wp_seq ?_
    refine wp_seq ?_
    refine wp_rs rfl ?_
    refine RQ.y rfl (Y.move (v := .int .i64 i11) s4_1) ?_
    refine RQ.y rfl (Y.move (v := .slice Aa0 d0.length ca0) s0_1) ?_
    refine RQ.y rfl (Y.len (by kernel_rfl) rfl) ?_
    refine RQ.y rfl (Y.binI (v := .bool (decide (i11 < (d0.length : Int)))) rfl rfl rfl) ?_
    refine RQ.nil ?_
    refine then_n ?_
    rcases bcases (decide (i11 < (d0.length : Int))) with c13 | c13
    · replace hm := cF c13 hm
      have pc13 := of_decide_eq_false c13
      refine cond_f rfl (vb rfl c13) ?_
      refine wp_exit ?_
      exact (then_x (then_x (hit_x ⟨_, rfl, ⟨xs10, (uxs10), bsxs10, s3_1, Guxs10, T, (by rw [hK1] at hm; exact hm)⟩⟩)))
    · replace hm := cT c13 hm
      have pc13 := of_decide_eq_true c13
      refine cond_t rfl (vb rfl c13) ?_
      refine wp_skip ?_
      refine then_n ?_
      refine wp_seq ?_
      refine wp_block ?_
      refine wp_rl rfl ?_
      refine RL.y rfl (Y.move (v := uxs10) s3_1) ?_
      refine RL.y rfl (Y.move (v := .int .i64 i11) s4_1) ?_
      refine RL.y rfl (Y.move (v := .slice Aa0 d0.length ca0) s0_1) ?_
      refine RL.y rfl (Y.move (v := .int .i64 i11) s4_1) ?_
      obtain ⟨x14, hx17, hm⟩ := bnd hm
      obtain ⟨k15, hk18, hl19, hx17⟩ := getI_some hx17
      obtain ⟨b21, o22, rfl, hbb21⟩ := ha0.addr (by omega)
      obtain ⟨cs16, hRcs16, hc20⟩ := ha0.el hx17
      have hScs16 := hRcs16
      obtain ⟨A23, n23, c23, rfl, ⟨h23, r23⟩⟩ := hRcs16
      have e23 := h23.len; subst e23
      have q23 := len_le r23
      refine RL.y rfl (Y.indexAddr (m := k15) (sz := 2) rfl rfl hk18 hl19 (by kernel_rfl)) ?_
      refine RL.y rfl (Y.loadN (cs := [.string x14.name, .slice A23 x14.cons.length c23]) rfl (by kernel_rfl) (cells2 (eqC (cellT T (hc20 0 _ rfl))) (eqC (cellT T (hc20 1 _ rfl))))) ?_
      obtain ⟨y24, e25, hm⟩ := bnd hm
      refine RL.call rfl (am1 rfl) (by kernel_rfl) ((c_m_laws_toData x14 _ e25 _ _ (stArg (R := dataRd) ⟨_, _, _, rfl, ⟨SlAt.now constructorRd_ok h23 (Nat.le_refl _) T, r23⟩⟩)).mono ?_)
      rintro _ w30 ⟨⟨v26, bs29, rfl, G27⟩, hb31⟩
      refine ⟨_, rfl, ?_⟩
      have szw30 := hb31.size
      have T0w30 := T.size
      have Zo28_oxs10 : Ap bs29 bsxs10 := (Ap.new (OwN.lo_ G27) (OwN.hi Guxs10))
      have Guxs10 := OwN.below dataOw_ok Guxs10 hb31
      have T := Tt T hb31
      replace G27 := OwN.mono G27 T0w30
      obtain ⟨A32, c33, rfl⟩ := OwN.form Guxs10
      have qbA32 := OwN.bound Guxs10
      obtain ⟨x34, hx36, hm⟩ := bnd hm
      obtain ⟨k35, hk37, hl38, hx36⟩ := getI_some hx36
      obtain ⟨b39, rfl⟩ := OwN.addr0 Guxs10 (by omega)
      refine RL.y rfl (Y.indexAddr (m := k35) (sz := 2) rfl rfl hk37 hl38 (by kernel_rfl)) ?_
      obtain ⟨A40, c41, rfl⟩ := OwN.form G27
      have qbA40 := OwN.bound G27
      obtain ⟨_, _, _, l43, hea42, a42, nd44, sb45, r46⟩ := OwN.own1 constructorOw_ok G27
      injection hea42 with e1 e2 e3; subst e1 e2 e3
      refine RL.storeNW (k := k35) (a' := y24) (l := l43) (fp := bs29) dataOw_ok dataOw_one rfl rfl rfl Guxs10 hx36 ⟨_, _, _, l43, rfl, ⟨a42, r46⟩, rfl⟩ nd44 sb45 (Ap.symm Zo28_oxs10) (OwN.both G27 (Nat.le_refl _)) (by kernel_rfl) (fun w47 G48 ho49 => ?_)
      have szw47 := ho49.size
      have T := T.trans (ho49.below (by intro b hb; simp at hb; subst hb; exact OwN.lo_ Guxs10 _ (OwN.row Guxs10 rfl)))
      have G48 : OwN 105 dataOw 2 w47 w.heap.size (.slice (some ⟨b39, 0, none⟩) xs10.length c33) (setI xs10 i11 y24) (bsxs10 ++ bs29) := by rw [setI_eq hk37]; exact G48
      refine RL.nil ?_
      refine blk_n (then_n ?_)
      refine wp_rs rfl ?_
      refine RQ.y rfl (Y.move (v := .int .i64 i11) s4_1) ?_
      refine RQ.y rfl (Y.binI rfl rfl (binI_add (m := i11) (by omega))) ?_
      refine RQ.y rfl (Y.assign (v := .int .i64 (i11 + 1)) rfl) ?_
      refine RQ.nil ?_
      exact (then_n ⟨g, _, Nat.lt_succ_self _, rfl, ⟨(setI xs10 i11 y24), (i11 + 1), (.slice (some ⟨b39, 0, none⟩) xs10.length c33), (bsxs10 ++ bs29), s0_1, s3_1, G48, rfl, (by omega), T, (by rw [← hrec1]; exact hm)⟩⟩)
noncomputable def m_laws_toSignature (d0 : DSignature) : Option DSignature :=
  ((m_laws_toDataS d0.datas).bind fun y15 => ((m_laws_toTypeS (SizeOf.sizeOf d0.defs) d0.defs).bind fun y28 => some (⟨y15, y28⟩ : DSignature)))
set_option maxHeartbeats 2000000 in
theorem c_m_laws_toSignature (d0 : DSignature) (r : DSignature) (hm : m_laws_toSignature d0 = some r) (v0 : Value) (w : World) (hv0 : St signatureRd w v0 d0) :
    Calls Try.prog 31 #[v0] w fun e w' => (∃ (v0 : Value) (bs0 : List Nat) (v1 : Value) (bs1 : List Nat), e = .returned (.agg #[v0, v1]) ∧ OwN 105 dataOw 2 w' w.heap.size v0 r.datas bs0 ∧ OwN 110 typeOw 3 w' w.heap.size v1 r.defs bs1 ∧ Ap bs0 bs1) ∧ Below w.heap.size w w' := by
  obtain ⟨csa0, rfl, ⟨A1, n1, c1, A2, n2, c2, rfl, ⟨h1, r1⟩, ⟨h2, r2⟩⟩⟩ := hv0
  have e1 := h1.len; subst e1
  have q1 := len_le r1
  have e2 := h2.len; subst e2
  have q2 := len_le r2
  have T := Below.refl w.heap.size w
  unfold m_laws_toSignature at hm
  refine enter 13 Try.func31 rfl rfl rfl ?_
  intro f hf
  have s0 : f 0 = .agg #[.slice A1 d0.datas.length c1, .slice A2 d0.defs.length c2] := hf 0 _ rfl
  refine wp_seq ?_
  refine wp_rl rfl ?_
  refine RL.box rfl s0 (fun w3 B4 hb5 szw3 => ?_)
  replace B4 : Blk w3 w.heap.size 60 #[.slice A1 d0.datas.length c1, .slice A2 d0.defs.length c2] := B4
  have GB4 : w.heap.size ≤ w.heap.size := T.size
  have T := Tt T hb5
  refine RL.alloc (z := .agg #[.slice none 0 0, .slice none 0 0]) rfl (by kernel_rfl) (fun w7 B8 hb9 szw7 => ?_)
  replace B8 : Blk w7 w3.heap.size 66 #[.slice none 0 0, .slice none 0 0] := B8
  have GB8 : w.heap.size ≤ w3.heap.size := T.size
  have Eob10_ob6 := Nat.ne_of_lt B4.lt
  have B4 := blkT B4 hb9
  have T := Tt T hb9
  refine RL.nil ?_
  refine then_n ?_
  refine wp_seq ?_
  refine wp_rl rfl ?_
  refine RL.alloc (z := .agg #[.slice none 0 0, .slice none 0 0]) rfl (by kernel_rfl) (fun w11 B12 hb13 szw11 => ?_)
  replace B12 : Blk w11 w7.heap.size 66 #[.slice none 0 0, .slice none 0 0] := B12
  have GB12 : w.heap.size ≤ w7.heap.size := T.size
  have Eob14_ob6 := Nat.ne_of_lt B4.lt
  have Eob14_ob10 := Nat.ne_of_lt B8.lt
  have B4 := blkT B4 hb13
  have B8 := blkT B8 hb13
  have T := Tt T hb13
  refine RL.nil ?_
  refine then_n ?_
  refine wp_seq ?_
  refine wp_rl rfl ?_
  refine RL.y rfl (Y.fieldAddr (off := 0) rfl (by kernel_rfl)) ?_
  refine RL.y rfl (Y.load (v := .slice A1 d0.datas.length c1) rfl (by kernel_rfl) (eqC (blkCell B4 (i := 0) rfl))) ?_
  obtain ⟨y15, e16, hm⟩ := bnd hm
  refine RL.call rfl (am1 rfl) (by kernel_rfl) ((c_m_laws_toDataS d0.datas _ e16 _ _ (slArg dataRd_ok h1 r1 T)).mono ?_)
  rintro _ w21 ⟨⟨v17, bs20, rfl, G18⟩, hb22⟩
  refine ⟨_, rfl, ?_⟩
  have szw21 := hb22.size
  have T0w21 := T.size
  have Zo19_ob6 : Ap bs20 [w.heap.size] := (Ap.new (OwN.lo_ G18) (one_hi B4.lt))
  have Zo19_ob10 : Ap bs20 [w3.heap.size] := (Ap.new (OwN.lo_ G18) (one_hi B8.lt))
  have Zo19_ob14 : Ap bs20 [w7.heap.size] := (Ap.new (OwN.lo_ G18) (one_hi B12.lt))
  have B4 := blkT B4 hb22
  have B8 := blkT B8 hb22
  have B12 := blkT B12 hb22
  have T := Tt T hb22
  replace G18 := OwN.mono G18 T0w21
  refine RL.y rfl (Y.fieldAddr (off := 0) rfl (by kernel_rfl)) ?_
  obtain ⟨A23, c24, rfl⟩ := OwN.form G18
  have qbA23 := OwN.bound G18
  refine RL.store (v := .slice A23 y15.length c24) (cs' := #[.slice A23 y15.length c24, .slice none 0 0]) rfl rfl rfl B12 (by kernel_rfl) (by rfl) (by rfl) (by rfl) (fun w25 B26 ho27 => ?_)
  have szw25 := ho27.size
  have B4 := B4.only_ ho27 (by intro hin; simp at hin; exact Eob14_ob6 hin)
  have B8 := B8.only_ ho27 (by intro hin; simp at hin; exact Eob14_ob10 hin)
  have G18 := OwN.only dataOw_ok G18 ho27 (Ap.one Zo19_ob14)
  have T := T.trans (ho27.below (by first | (simp; done) | (simp; omega)))
  refine RL.nil ?_
  refine then_n ?_
  refine wp_seq ?_
  refine wp_rl rfl ?_
  refine RL.y rfl (Y.fieldAddr (off := 1) rfl (by kernel_rfl)) ?_
  refine RL.y rfl (Y.load (v := .slice A2 d0.defs.length c2) rfl (by kernel_rfl) (eqC (blkCell B4 (i := 1) rfl))) ?_
  obtain ⟨y28, e29, hm⟩ := bnd hm
  refine RL.call rfl (am1 rfl) (by kernel_rfl) ((c_m_laws_toTypeS (SizeOf.sizeOf d0.defs) d0.defs _ e29 _ _ (slArg typeRd_ok h2 r2 T)).mono ?_)
  rintro _ w34 ⟨⟨v30, bs33, rfl, G31⟩, hb35⟩
  refine ⟨_, rfl, ?_⟩
  have szw34 := hb35.size
  have T0w34 := T.size
  have Zo32_ob6 : Ap bs33 [w.heap.size] := (Ap.new (OwN.lo_ G31) (one_hi B4.lt))
  have Zo32_ob10 : Ap bs33 [w3.heap.size] := (Ap.new (OwN.lo_ G31) (one_hi B8.lt))
  have Zo32_ob14 : Ap bs33 [w7.heap.size] := (Ap.new (OwN.lo_ G31) (one_hi B26.lt))
  have Zo32_o19 : Ap bs33 bs20 := (Ap.new (OwN.lo_ G31) (OwN.hi G18))
  have B4 := blkT B4 hb35
  have B8 := blkT B8 hb35
  have B26 := blkT B26 hb35
  have G18 := OwN.below dataOw_ok G18 hb35
  have T := Tt T hb35
  replace G31 := OwN.mono G31 T0w34
  refine RL.y rfl (Y.fieldAddr (off := 1) rfl (by kernel_rfl)) ?_
  obtain ⟨A36, c37, rfl⟩ := OwN.form G31
  have qbA36 := OwN.bound G31
  refine RL.store (v := .slice A36 y28.length c37) (cs' := #[.slice A23 y15.length c24, .slice A36 y28.length c37]) rfl rfl rfl B26 (by kernel_rfl) (by rfl) (by rfl) (by rfl) (fun w38 B39 ho40 => ?_)
  have szw38 := ho40.size
  have B4 := B4.only_ ho40 (by intro hin; simp at hin; exact Eob14_ob6 hin)
  have B8 := B8.only_ ho40 (by intro hin; simp at hin; exact Eob14_ob10 hin)
  have G18 := OwN.only dataOw_ok G18 ho40 (Ap.one Zo19_ob14)
  have G31 := OwN.only typeOw_ok G31 ho40 (Ap.one Zo32_ob14)
  have T := T.trans (ho40.below (by first | (simp; done) | (simp; omega)))
  refine RL.nil ?_
  refine then_n ?_
  refine wp_seq ?_
  refine wp_rl rfl ?_
  refine RL.y rfl (Y.loadN (cs := [.slice A23 y15.length c24, .slice A36 y28.length c37]) rfl (by kernel_rfl) (cells2 (eqC (blkCell B39 (i := 0) rfl)) (eqC (blkCell B39 (i := 1) rfl)))) ?_
  refine RL.store (v := .agg #[.slice A23 y15.length c24, .slice A36 y28.length c37]) (cs' := #[.slice A23 y15.length c24, .slice A36 y28.length c37]) rfl rfl rfl B8 (by kernel_rfl) (by rfl) (by rfl) (by rfl) (fun w41 B42 ho43 => ?_)
  have szw41 := ho43.size
  have B39 := B39.only_ ho43 (by intro hin; simp at hin; exact Eob14_ob10.symm hin)
  have G18 := OwN.only dataOw_ok G18 ho43 (Ap.one Zo19_ob10)
  have G31 := OwN.only typeOw_ok G31 ho43 (Ap.one Zo32_ob10)
  have T := T.trans (ho43.below (by first | (simp; done) | (simp; omega)))
  refine RL.nil ?_
  refine then_n ?_
  refine wp_ret ?_
  obtain rfl := Option.some.inj hm
  exact (retc (cs := [.slice A23 y15.length c24, .slice A36 y28.length c37]) rfl rfl rfl (by kernel_rfl) (blkCells B42) ⟨⟨_, _, _, _, rfl, G18, G31, (Ap.symm Zo32_o19)⟩, T⟩)
noncomputable def m_laws_eqConstructor (d0 : DConstructor) (d1 : DConstructor) : Option Bool :=
  (bif (d0.name.toList == d1.name.toList) then ((m_laws_eqTypeS (SizeOf.sizeOf d0.fields) d0.fields d1.fields).bind fun y12 => (bif y12 then some true else some false)) else some false)
set_option maxHeartbeats 2000000 in
theorem c_m_laws_eqConstructor (d0 : DConstructor) (d1 : DConstructor) (r : Bool) (hm : m_laws_eqConstructor d0 d1 = some r) (v0 : Value) (v1 : Value) (w : World) (hv0 : St constructorRd w v0 d0) (hv1 : St constructorRd w v1 d1) :
    Calls Try.prog 175 #[v0, v1] w fun e w' => e = .returned (.bool r) ∧ Below w.heap.size w w' := by
  obtain ⟨csa0, rfl, ⟨A1, n1, c1, rfl, ⟨h1, r1⟩⟩⟩ := hv0
  have e1 := h1.len; subst e1
  have q1 := len_le r1
  obtain ⟨csa1, rfl, ⟨A2, n2, c2, rfl, ⟨h2, r2⟩⟩⟩ := hv1
  have e2 := h2.len; subst e2
  have q2 := len_le r2
  have T := Below.refl w.heap.size w
  unfold m_laws_eqConstructor at hm
  refine enter 16 Try.func175 rfl rfl rfl ?_
  intro f hf
  have s0 : f 0 = .agg #[.string d0.name, .slice A1 d0.fields.length c1] := hf 0 _ rfl
  have s1 : f 1 = .agg #[.string d1.name, .slice A2 d1.fields.length c2] := hf 1 _ rfl
  refine wp_seq ?_
  refine wp_rl rfl ?_
  refine RL.box rfl s0 (fun w3 B4 hb5 szw3 => ?_)
  replace B4 : Blk w3 w.heap.size 107 #[.string d0.name, .slice A1 d0.fields.length c1] := B4
  have GB4 : w.heap.size ≤ w.heap.size := T.size
  have T := Tt T hb5
  refine RL.box rfl s1 (fun w7 B8 hb9 szw7 => ?_)
  replace B8 : Blk w7 w3.heap.size 107 #[.string d1.name, .slice A2 d1.fields.length c2] := B8
  have GB8 : w.heap.size ≤ w3.heap.size := T.size
  have Eob10_ob6 := Nat.ne_of_lt B4.lt
  have B4 := blkT B4 hb9
  have T := Tt T hb9
  refine RL.y rfl (Y.assign (v := .bool false) rfl) ?_
  refine RL.nil ?_
  refine then_n ?_
  refine wp_seq ?_
  refine wp_seq ?_
  refine wp_rs rfl ?_
  refine RQ.y rfl (Y.fieldAddr (off := 0) rfl (by kernel_rfl)) ?_
  refine RQ.y rfl (Y.load (v := .string d0.name) rfl (by kernel_rfl) (eqC (blkCell B4 (i := 0) rfl))) ?_
  refine RQ.y rfl (Y.fieldAddr (off := 0) rfl (by kernel_rfl)) ?_
  refine RQ.y rfl (Y.load (v := .string d1.name) rfl (by kernel_rfl) (eqC (blkCell B8 (i := 0) rfl))) ?_
  refine RQ.y rfl (Y.neStr rfl rfl (by kernel_rfl)) ?_
  refine RQ.nil ?_
  refine then_n ?_
  rcases bcases (d0.name.toList == d1.name.toList) with c11 | c11
  · replace hm := cF c11 hm
    refine cond_t rfl (vbn rfl c11 rfl) ?_
    refine wp_seq ?_
    refine wp_rs rfl ?_
    refine RQ.y rfl (Y.assign (v := .bool false) rfl) ?_
    refine RQ.nil ?_
    refine then_n ?_
    refine wp_ret ?_
    obtain rfl := Option.some.inj hm
    exact (then_r (ret1 rfl rfl rfl ⟨rfl, T⟩))
  · replace hm := cT c11 hm
    refine cond_f rfl (vbn rfl c11 rfl) ?_
    refine wp_skip ?_
    refine then_n ?_
    refine wp_seq ?_
    refine wp_seq ?_
    refine wp_rb rfl ?_
    refine RQ.y rfl (Y.fieldAddr (off := 1) rfl (by kernel_rfl)) ?_
    refine RQ.y rfl (Y.load (v := .slice A1 d0.fields.length c1) rfl (by kernel_rfl) (beC (blkCell B4 (i := 1) rfl))) ?_
    refine RQ.y rfl (Y.fieldAddr (off := 1) rfl (by kernel_rfl)) ?_
    refine RQ.y rfl (Y.load (v := .slice A2 d1.fields.length c2) rfl (by kernel_rfl) (beC (blkCell B8 (i := 1) rfl))) ?_
    obtain ⟨y12, e13, hm⟩ := bnd hm
    refine RQ.call rfl (am2 rfl rfl) (by kernel_rfl) (v := .bool y12) (bel (K := fun _ => True) fun w' hb' => (c_m_laws_eqTypeS (SizeOf.sizeOf d0.fields) d0.fields d1.fields _ e13 _ _ w' (slArg typeRd_ok h1 r1 (Tt T hb')) (slArg typeRd_ok h2 r2 (Tt T hb')))) ?_
    refine RQ.y rfl (Y.not (b' := (!y12)) rfl rfl) ?_
    refine RQ.nil ?_
    intro w14 hb15
    have szw14 := hb15.size
    have T := Tt T hb15
    refine then_n ?_
    rcases bcases y12 with c16 | c16
    · replace hm := cF c16 hm
      refine cond_t rfl (vbn rfl c16 rfl) ?_
      refine wp_seq ?_
      refine wp_rs rfl ?_
      refine RQ.y rfl (Y.assign (v := .bool false) rfl) ?_
      refine RQ.nil ?_
      refine then_n ?_
      refine wp_ret ?_
      obtain rfl := Option.some.inj hm
      exact (then_r (ret1 rfl rfl rfl ⟨rfl, T⟩))
    · replace hm := cT c16 hm
      refine cond_f rfl (vbn rfl c16 rfl) ?_
      refine wp_skip ?_
      refine then_n ?_
      refine wp_seq ?_
      refine wp_rs rfl ?_
      refine RQ.y rfl (Y.assign (v := .bool true) rfl) ?_
      refine RQ.nil ?_
      refine then_n ?_
      refine wp_ret ?_
      obtain rfl := Option.some.inj hm
      exact (ret1 rfl rfl rfl ⟨rfl, T⟩)
noncomputable def m_laws_eqConstructorS_A1 : Option Bool :=
  some true
noncomputable def m_laws_eqConstructorS_B1 (d0 : List DConstructor) (d1 : List DConstructor) (rec1 : Int → Option Bool) (K1 : Option Bool) (i3 : Int) : Option Bool :=
  (bif (decide (i3 < (d0.length : Int))) then ((getI d0 i3).bind fun x6 => ((getI d1 i3).bind fun x16 => ((m_laws_eqConstructor x6 x16).bind fun y26 => (bif y26 then (rec1 (i3 + 1)) else some false)))) else (K1))
noncomputable def m_laws_eqConstructorS_L1 (d0 : List DConstructor) (d1 : List DConstructor) (K1 : Option Bool) : Nat → Int → Option Bool
  | 0, _ => none
  | g + 1, i3 => m_laws_eqConstructorS_B1 d0 d1 (m_laws_eqConstructorS_L1 d0 d1 K1 g) K1 i3
noncomputable def m_laws_eqConstructorS (d0 : List DConstructor) (d1 : List DConstructor) : Option Bool :=
  (bif ((d0.length : Int) != (d1.length : Int)) then some false else (m_laws_eqConstructorS_L1 d0 d1 m_laws_eqConstructorS_A1 (d0.length + 1) 0))
set_option maxHeartbeats 2000000 in
theorem c_m_laws_eqConstructorS (d0 : List DConstructor) (d1 : List DConstructor) (r : Bool) (hm : m_laws_eqConstructorS d0 d1 = some r) (v0 : Value) (v1 : Value) (w : World) (hv0 : Sl constructorRd 2 w v0 d0) (hv1 : Sl constructorRd 2 w v1 d1) :
    Calls Try.prog 147 #[v0, v1] w fun e w' => e = .returned (.bool r) ∧ Below w.heap.size w w' := by
  obtain ⟨Aa0, na0, ca0, rfl, ha0, ra0⟩ := hv0
  have ea0 := ha0.len; subst ea0
  have qa0 := len_le ra0
  obtain ⟨Aa1, na1, ca1, rfl, ha1, ra1⟩ := hv1
  have ea1 := ha1.len; subst ea1
  have qa1 := len_le ra1
  have T := Below.refl w.heap.size w
  unfold m_laws_eqConstructorS at hm
  refine enter 27 Try.func147 rfl rfl rfl ?_
  intro f hf
  have s0 : f 0 = .slice Aa0 d0.length ca0 := hf 0 _ rfl
  have s1 : f 1 = .slice Aa1 d1.length ca1 := hf 1 _ rfl
  refine wp_seq ?_
  refine wp_rs rfl ?_
  refine RQ.y rfl (Y.assign (v := .bool false) rfl) ?_
  refine RQ.nil ?_
  refine then_n ?_
  refine wp_seq ?_
  refine wp_seq ?_
  refine wp_rs rfl ?_
  refine RQ.y rfl (Y.move (v := .slice Aa0 d0.length ca0) s0) ?_
  refine RQ.y rfl (Y.len (by kernel_rfl) rfl) ?_
  refine RQ.y rfl (Y.move (v := .slice Aa1 d1.length ca1) s1) ?_
  refine RQ.y rfl (Y.len (by kernel_rfl) rfl) ?_
  refine RQ.y rfl (Y.binI (v := .bool ((d0.length : Int) != (d1.length : Int))) rfl rfl rfl) ?_
  refine RQ.nil ?_
  refine then_n ?_
  rcases bcases ((d0.length : Int) != (d1.length : Int)) with c1 | c1
  · replace hm := cF c1 hm
    refine cond_f rfl (vb rfl c1) ?_
    refine wp_skip ?_
    refine then_n ?_
    refine wp_seq ?_
    refine wp_seq ?_
    refine wp_rs rfl ?_
    refine RQ.y rfl (Y.assign (v := .int .i64 0) rfl) ?_
    refine RQ.nil ?_
    refine then_n ?_
    refine wp_block ?_
    obtain ⟨K1, hK1, hm⟩ : ∃ K, K = m_laws_eqConstructorS_A1 ∧ m_laws_eqConstructorS_L1 d0 d1 K (d0.length + 1) 0 = some r := ⟨_, rfl, hm⟩
    refine wp_loopX (fun g f w' => ∃ (i3 : Int), f 0 = .slice Aa0 d0.length ca0 ∧ f 1 = .slice Aa1 d1.length ca1 ∧ f 5 = .int .i64 i3 ∧ 0 ≤ i3 ∧ Below w.heap.size w w' ∧ m_laws_eqConstructorS_L1 d0 d1 K1 g i3 = some r) 0 (fun f w' => Below w.heap.size w w' ∧ m_laws_eqConstructorS_A1  = some r) (d0.length + 1) ⟨0, s0, s1, rfl, (by omega), T, hm⟩ ?_ ?_
    · rintro f w2 ⟨T, hm⟩
      unfold m_laws_eqConstructorS_A1 at hm
      refine blk_hit (then_n ?_)
      refine wp_seq ?_
      refine wp_rs rfl ?_
      refine RQ.y rfl (Y.assign (v := .bool true) rfl) ?_
      refine RQ.nil ?_
      refine then_n ?_
      refine wp_ret ?_
      obtain rfl := Option.some.inj hm
      exact (ret1 rfl rfl rfl ⟨rfl, T⟩)
    · rintro g f w4 ⟨i3, s0_1, s1_1, s5_1, nn5_1, T, hm⟩
      rcases g with _ | g
      · simp only [m_laws_eqConstructorS_L1] at hm; cases hm
      obtain ⟨rec1, hrec1, hm⟩ : ∃ z, z = m_laws_eqConstructorS_L1 d0 d1 K1 g ∧ m_laws_eqConstructorS_B1 d0 d1 z K1 i3 = some r := ⟨_, rfl, hm⟩
      unfold m_laws_eqConstructorS_B1 at hm
      refine wp_seq ?_
      refine wp_seq ?_
      refine wp_rs rfl ?_
      refine RQ.y rfl (Y.move (v := .int .i64 i3) s5_1) ?_
      refine RQ.y rfl (Y.move (v := .slice Aa0 d0.length ca0) s0_1) ?_
      refine RQ.y rfl (Y.len (by kernel_rfl) rfl) ?_
      refine RQ.y rfl (Y.binI (v := .bool (decide (i3 < (d0.length : Int)))) rfl rfl rfl) ?_
      refine RQ.nil ?_
      refine then_n ?_
      rcases bcases (decide (i3 < (d0.length : Int))) with c5 | c5
      · replace hm := cF c5 hm
        have pc5 := of_decide_eq_false c5
        refine cond_f rfl (vb rfl c5) ?_
        refine wp_exit ?_
        exact (then_x (then_x (hit_x ⟨_, rfl, ⟨T, (by rw [hK1] at hm; exact hm)⟩⟩)))
      · replace hm := cT c5 hm
        have pc5 := of_decide_eq_true c5
        refine cond_t rfl (vb rfl c5) ?_
        refine wp_skip ?_
        refine then_n ?_
        refine wp_seq ?_
        refine wp_block ?_
        refine wp_seq ?_
        refine wp_rbd (by kernel_rfl) (by kernel_rfl) ?_
        refine RQ.y rfl (Y.move (v := .slice Aa0 d0.length ca0) s0_1) ?_
        refine RQ.y rfl (Y.move (v := .int .i64 i3) s5_1) ?_
        obtain ⟨x6, hx9, hm⟩ := bnd hm
        obtain ⟨k7, hk10, hl11, hx9⟩ := getI_some hx9
        obtain ⟨b13, o14, rfl, hbb13⟩ := ha0.addr (by omega)
        obtain ⟨cs8, hRcs8, hc12⟩ := ha0.el hx9
        have hScs8 := hRcs8
        obtain ⟨A15, n15, c15, rfl, ⟨h15, r15⟩⟩ := hRcs8
        have e15 := h15.len; subst e15
        have q15 := len_le r15
        refine RQ.y rfl (Y.indexAddr (m := k7) (sz := 2) rfl rfl hk10 hl11 (by kernel_rfl)) ?_
        refine RQ.y rfl (Y.loadN (cs := [.string x6.name, .slice A15 x6.fields.length c15]) rfl (by kernel_rfl) (cells2 (beC (cellT T (hc12 0 _ rfl))) (beC (cellT T (hc12 1 _ rfl))))) ?_
        refine RQ.y rfl (Y.move (v := .slice Aa1 d1.length ca1) s1_1) ?_
        refine RQ.y rfl (Y.move (v := .int .i64 i3) s5_1) ?_
        obtain ⟨x16, hx19, hm⟩ := bnd hm
        obtain ⟨k17, hk20, hl21, hx19⟩ := getI_some hx19
        obtain ⟨b23, o24, rfl, hbb23⟩ := ha1.addr (by omega)
        obtain ⟨cs18, hRcs18, hc22⟩ := ha1.el hx19
        have hScs18 := hRcs18
        obtain ⟨A25, n25, c25, rfl, ⟨h25, r25⟩⟩ := hRcs18
        have e25 := h25.len; subst e25
        have q25 := len_le r25
        refine RQ.y rfl (Y.indexAddr (m := k17) (sz := 2) rfl rfl hk20 hl21 (by kernel_rfl)) ?_
        refine RQ.y rfl (Y.loadN (cs := [.string x16.name, .slice A25 x16.fields.length c25]) rfl (by kernel_rfl) (cells2 (beC (cellT T (hc22 0 _ rfl))) (beC (cellT T (hc22 1 _ rfl))))) ?_
        obtain ⟨y26, e27, hm⟩ := bnd hm
        refine RQ.call rfl (am2 rfl rfl) (by kernel_rfl) (v := .bool y26) (bel (K := fun _ => True) fun w' hb' => (c_m_laws_eqConstructor x6 x16 _ e27 _ _ w' (stArg (R := constructorRd) ⟨_, _, _, rfl, ⟨SlAt.now typeRd_ok h15 (Nat.le_refl _) (Tt T hb'), r15⟩⟩) (stArg (R := constructorRd) ⟨_, _, _, rfl, ⟨SlAt.now typeRd_ok h25 (Nat.le_refl _) (Tt T hb'), r25⟩⟩))) ?_
        refine RQ.y rfl (Y.not (b' := (!y26)) rfl rfl) ?_
        refine RQ.nil ?_
        intro w28 hb29
        have szw28 := hb29.size
        have T := Tt T hb29
        refine then_n ?_
        rcases bcases y26 with c30 | c30
        · replace hm := cF c30 hm
          refine cond_t rfl (vbn rfl c30 rfl) ?_
          refine wp_seq ?_
          refine wp_rs rfl ?_
          refine RQ.y rfl (Y.assign (v := .bool false) rfl) ?_
          refine RQ.nil ?_
          refine then_n ?_
          refine wp_ret ?_
          obtain rfl := Option.some.inj hm
          exact (blk_r (then_r (then_r (hit_r (blk_r (then_r (ret1 rfl rfl rfl ⟨rfl, T⟩)))))))
        · replace hm := cT c30 hm
          refine cond_f rfl (vbn rfl c30 rfl) ?_
          refine wp_skip ?_
          refine blk_n (then_n ?_)
          refine wp_rs rfl ?_
          refine RQ.y rfl (Y.move (v := .int .i64 i3) s5_1) ?_
          refine RQ.y rfl (Y.binI rfl rfl (binI_add (m := i3) (by omega))) ?_
          refine RQ.y rfl (Y.assign (v := .int .i64 (i3 + 1)) rfl) ?_
          refine RQ.nil ?_
          exact (then_n ⟨g, _, Nat.lt_succ_self _, rfl, ⟨(i3 + 1), s0_1, s1_1, rfl, (by omega), T, (by rw [← hrec1]; exact hm)⟩⟩)
  · replace hm := cT c1 hm
    refine cond_t rfl (vb rfl c1) ?_
    refine wp_seq ?_
    refine wp_rs rfl ?_
    refine RQ.y rfl (Y.assign (v := .bool false) rfl) ?_
    refine RQ.nil ?_
    refine then_n ?_
    refine wp_ret ?_
    obtain rfl := Option.some.inj hm
    exact (then_r (ret1 rfl rfl rfl ⟨rfl, T⟩))
noncomputable def m_laws_eqData (d0 : DData) (d1 : DData) : Option Bool :=
  (bif (d0.name.toList == d1.name.toList) then ((m_laws_eqConstructorS d0.cons d1.cons).bind fun y12 => (bif y12 then some true else some false)) else some false)
set_option maxHeartbeats 2000000 in
theorem c_m_laws_eqData (d0 : DData) (d1 : DData) (r : Bool) (hm : m_laws_eqData d0 d1 = some r) (v0 : Value) (v1 : Value) (w : World) (hv0 : St dataRd w v0 d0) (hv1 : St dataRd w v1 d1) :
    Calls Try.prog 116 #[v0, v1] w fun e w' => e = .returned (.bool r) ∧ Below w.heap.size w w' := by
  obtain ⟨csa0, rfl, ⟨A1, n1, c1, rfl, ⟨h1, r1⟩⟩⟩ := hv0
  have e1 := h1.len; subst e1
  have q1 := len_le r1
  obtain ⟨csa1, rfl, ⟨A2, n2, c2, rfl, ⟨h2, r2⟩⟩⟩ := hv1
  have e2 := h2.len; subst e2
  have q2 := len_le r2
  have T := Below.refl w.heap.size w
  unfold m_laws_eqData at hm
  refine enter 16 Try.func116 rfl rfl rfl ?_
  intro f hf
  have s0 : f 0 = .agg #[.string d0.name, .slice A1 d0.cons.length c1] := hf 0 _ rfl
  have s1 : f 1 = .agg #[.string d1.name, .slice A2 d1.cons.length c2] := hf 1 _ rfl
  refine wp_seq ?_
  refine wp_rl rfl ?_
  refine RL.box rfl s0 (fun w3 B4 hb5 szw3 => ?_)
  replace B4 : Blk w3 w.heap.size 105 #[.string d0.name, .slice A1 d0.cons.length c1] := B4
  have GB4 : w.heap.size ≤ w.heap.size := T.size
  have T := Tt T hb5
  refine RL.box rfl s1 (fun w7 B8 hb9 szw7 => ?_)
  replace B8 : Blk w7 w3.heap.size 105 #[.string d1.name, .slice A2 d1.cons.length c2] := B8
  have GB8 : w.heap.size ≤ w3.heap.size := T.size
  have Eob10_ob6 := Nat.ne_of_lt B4.lt
  have B4 := blkT B4 hb9
  have T := Tt T hb9
  refine RL.y rfl (Y.assign (v := .bool false) rfl) ?_
  refine RL.nil ?_
  refine then_n ?_
  refine wp_seq ?_
  refine wp_seq ?_
  refine wp_rs rfl ?_
  refine RQ.y rfl (Y.fieldAddr (off := 0) rfl (by kernel_rfl)) ?_
  refine RQ.y rfl (Y.load (v := .string d0.name) rfl (by kernel_rfl) (eqC (blkCell B4 (i := 0) rfl))) ?_
  refine RQ.y rfl (Y.fieldAddr (off := 0) rfl (by kernel_rfl)) ?_
  refine RQ.y rfl (Y.load (v := .string d1.name) rfl (by kernel_rfl) (eqC (blkCell B8 (i := 0) rfl))) ?_
  refine RQ.y rfl (Y.neStr rfl rfl (by kernel_rfl)) ?_
  refine RQ.nil ?_
  refine then_n ?_
  rcases bcases (d0.name.toList == d1.name.toList) with c11 | c11
  · replace hm := cF c11 hm
    refine cond_t rfl (vbn rfl c11 rfl) ?_
    refine wp_seq ?_
    refine wp_rs rfl ?_
    refine RQ.y rfl (Y.assign (v := .bool false) rfl) ?_
    refine RQ.nil ?_
    refine then_n ?_
    refine wp_ret ?_
    obtain rfl := Option.some.inj hm
    exact (then_r (ret1 rfl rfl rfl ⟨rfl, T⟩))
  · replace hm := cT c11 hm
    refine cond_f rfl (vbn rfl c11 rfl) ?_
    refine wp_skip ?_
    refine then_n ?_
    refine wp_seq ?_
    refine wp_seq ?_
    refine wp_rb rfl ?_
    refine RQ.y rfl (Y.fieldAddr (off := 1) rfl (by kernel_rfl)) ?_
    refine RQ.y rfl (Y.load (v := .slice A1 d0.cons.length c1) rfl (by kernel_rfl) (beC (blkCell B4 (i := 1) rfl))) ?_
    refine RQ.y rfl (Y.fieldAddr (off := 1) rfl (by kernel_rfl)) ?_
    refine RQ.y rfl (Y.load (v := .slice A2 d1.cons.length c2) rfl (by kernel_rfl) (beC (blkCell B8 (i := 1) rfl))) ?_
    obtain ⟨y12, e13, hm⟩ := bnd hm
    refine RQ.call rfl (am2 rfl rfl) (by kernel_rfl) (v := .bool y12) (bel (K := fun _ => True) fun w' hb' => (c_m_laws_eqConstructorS d0.cons d1.cons _ e13 _ _ w' (slArg constructorRd_ok h1 r1 (Tt T hb')) (slArg constructorRd_ok h2 r2 (Tt T hb')))) ?_
    refine RQ.y rfl (Y.not (b' := (!y12)) rfl rfl) ?_
    refine RQ.nil ?_
    intro w14 hb15
    have szw14 := hb15.size
    have T := Tt T hb15
    refine then_n ?_
    rcases bcases y12 with c16 | c16
    · replace hm := cF c16 hm
      refine cond_t rfl (vbn rfl c16 rfl) ?_
      refine wp_seq ?_
      refine wp_rs rfl ?_
      refine RQ.y rfl (Y.assign (v := .bool false) rfl) ?_
      refine RQ.nil ?_
      refine then_n ?_
      refine wp_ret ?_
      obtain rfl := Option.some.inj hm
      exact (then_r (ret1 rfl rfl rfl ⟨rfl, T⟩))
    · replace hm := cT c16 hm
      refine cond_f rfl (vbn rfl c16 rfl) ?_
      refine wp_skip ?_
      refine then_n ?_
      refine wp_seq ?_
      refine wp_rs rfl ?_
      refine RQ.y rfl (Y.assign (v := .bool true) rfl) ?_
      refine RQ.nil ?_
      refine then_n ?_
      refine wp_ret ?_
      obtain rfl := Option.some.inj hm
      exact (ret1 rfl rfl rfl ⟨rfl, T⟩)
noncomputable def m_laws_eqDataS_A1 : Option Bool :=
  some true
noncomputable def m_laws_eqDataS_B1 (d0 : List DData) (d1 : List DData) (rec1 : Int → Option Bool) (K1 : Option Bool) (i3 : Int) : Option Bool :=
  (bif (decide (i3 < (d0.length : Int))) then ((getI d0 i3).bind fun x6 => ((getI d1 i3).bind fun x16 => ((m_laws_eqData x6 x16).bind fun y26 => (bif y26 then (rec1 (i3 + 1)) else some false)))) else (K1))
noncomputable def m_laws_eqDataS_L1 (d0 : List DData) (d1 : List DData) (K1 : Option Bool) : Nat → Int → Option Bool
  | 0, _ => none
  | g + 1, i3 => m_laws_eqDataS_B1 d0 d1 (m_laws_eqDataS_L1 d0 d1 K1 g) K1 i3
noncomputable def m_laws_eqDataS (d0 : List DData) (d1 : List DData) : Option Bool :=
  (bif ((d0.length : Int) != (d1.length : Int)) then some false else (m_laws_eqDataS_L1 d0 d1 m_laws_eqDataS_A1 (d0.length + 1) 0))
set_option maxHeartbeats 2000000 in
theorem c_m_laws_eqDataS (d0 : List DData) (d1 : List DData) (r : Bool) (hm : m_laws_eqDataS d0 d1 = some r) (v0 : Value) (v1 : Value) (w : World) (hv0 : Sl dataRd 2 w v0 d0) (hv1 : Sl dataRd 2 w v1 d1) :
    Calls Try.prog 69 #[v0, v1] w fun e w' => e = .returned (.bool r) ∧ Below w.heap.size w w' := by
  obtain ⟨Aa0, na0, ca0, rfl, ha0, ra0⟩ := hv0
  have ea0 := ha0.len; subst ea0
  have qa0 := len_le ra0
  obtain ⟨Aa1, na1, ca1, rfl, ha1, ra1⟩ := hv1
  have ea1 := ha1.len; subst ea1
  have qa1 := len_le ra1
  have T := Below.refl w.heap.size w
  unfold m_laws_eqDataS at hm
  refine enter 27 Try.func69 rfl rfl rfl ?_
  intro f hf
  have s0 : f 0 = .slice Aa0 d0.length ca0 := hf 0 _ rfl
  have s1 : f 1 = .slice Aa1 d1.length ca1 := hf 1 _ rfl
  refine wp_seq ?_
  refine wp_rs rfl ?_
  refine RQ.y rfl (Y.assign (v := .bool false) rfl) ?_
  refine RQ.nil ?_
  refine then_n ?_
  refine wp_seq ?_
  refine wp_seq ?_
  refine wp_rs rfl ?_
  refine RQ.y rfl (Y.move (v := .slice Aa0 d0.length ca0) s0) ?_
  refine RQ.y rfl (Y.len (by kernel_rfl) rfl) ?_
  refine RQ.y rfl (Y.move (v := .slice Aa1 d1.length ca1) s1) ?_
  refine RQ.y rfl (Y.len (by kernel_rfl) rfl) ?_
  refine RQ.y rfl (Y.binI (v := .bool ((d0.length : Int) != (d1.length : Int))) rfl rfl rfl) ?_
  refine RQ.nil ?_
  refine then_n ?_
  rcases bcases ((d0.length : Int) != (d1.length : Int)) with c1 | c1
  · replace hm := cF c1 hm
    refine cond_f rfl (vb rfl c1) ?_
    refine wp_skip ?_
    refine then_n ?_
    refine wp_seq ?_
    refine wp_seq ?_
    refine wp_rs rfl ?_
    refine RQ.y rfl (Y.assign (v := .int .i64 0) rfl) ?_
    refine RQ.nil ?_
    refine then_n ?_
    refine wp_block ?_
    obtain ⟨K1, hK1, hm⟩ : ∃ K, K = m_laws_eqDataS_A1 ∧ m_laws_eqDataS_L1 d0 d1 K (d0.length + 1) 0 = some r := ⟨_, rfl, hm⟩
    refine wp_loopX (fun g f w' => ∃ (i3 : Int), f 0 = .slice Aa0 d0.length ca0 ∧ f 1 = .slice Aa1 d1.length ca1 ∧ f 5 = .int .i64 i3 ∧ 0 ≤ i3 ∧ Below w.heap.size w w' ∧ m_laws_eqDataS_L1 d0 d1 K1 g i3 = some r) 0 (fun f w' => Below w.heap.size w w' ∧ m_laws_eqDataS_A1  = some r) (d0.length + 1) ⟨0, s0, s1, rfl, (by omega), T, hm⟩ ?_ ?_
    · rintro f w2 ⟨T, hm⟩
      unfold m_laws_eqDataS_A1 at hm
      refine blk_hit (then_n ?_)
      refine wp_seq ?_
      refine wp_rs rfl ?_
      refine RQ.y rfl (Y.assign (v := .bool true) rfl) ?_
      refine RQ.nil ?_
      refine then_n ?_
      refine wp_ret ?_
      obtain rfl := Option.some.inj hm
      exact (ret1 rfl rfl rfl ⟨rfl, T⟩)
    · rintro g f w4 ⟨i3, s0_1, s1_1, s5_1, nn5_1, T, hm⟩
      rcases g with _ | g
      · simp only [m_laws_eqDataS_L1] at hm; cases hm
      obtain ⟨rec1, hrec1, hm⟩ : ∃ z, z = m_laws_eqDataS_L1 d0 d1 K1 g ∧ m_laws_eqDataS_B1 d0 d1 z K1 i3 = some r := ⟨_, rfl, hm⟩
      unfold m_laws_eqDataS_B1 at hm
      refine wp_seq ?_
      refine wp_seq ?_
      refine wp_rs rfl ?_
      refine RQ.y rfl (Y.move (v := .int .i64 i3) s5_1) ?_
      refine RQ.y rfl (Y.move (v := .slice Aa0 d0.length ca0) s0_1) ?_
      refine RQ.y rfl (Y.len (by kernel_rfl) rfl) ?_
      refine RQ.y rfl (Y.binI (v := .bool (decide (i3 < (d0.length : Int)))) rfl rfl rfl) ?_
      refine RQ.nil ?_
      refine then_n ?_
      rcases bcases (decide (i3 < (d0.length : Int))) with c5 | c5
      · replace hm := cF c5 hm
        have pc5 := of_decide_eq_false c5
        refine cond_f rfl (vb rfl c5) ?_
        refine wp_exit ?_
        exact (then_x (then_x (hit_x ⟨_, rfl, ⟨T, (by rw [hK1] at hm; exact hm)⟩⟩)))
      · replace hm := cT c5 hm
        have pc5 := of_decide_eq_true c5
        refine cond_t rfl (vb rfl c5) ?_
        refine wp_skip ?_
        refine then_n ?_
        refine wp_seq ?_
        refine wp_block ?_
        refine wp_seq ?_
        refine wp_rbd (by kernel_rfl) (by kernel_rfl) ?_
        refine RQ.y rfl (Y.move (v := .slice Aa0 d0.length ca0) s0_1) ?_
        refine RQ.y rfl (Y.move (v := .int .i64 i3) s5_1) ?_
        obtain ⟨x6, hx9, hm⟩ := bnd hm
        obtain ⟨k7, hk10, hl11, hx9⟩ := getI_some hx9
        obtain ⟨b13, o14, rfl, hbb13⟩ := ha0.addr (by omega)
        obtain ⟨cs8, hRcs8, hc12⟩ := ha0.el hx9
        have hScs8 := hRcs8
        obtain ⟨A15, n15, c15, rfl, ⟨h15, r15⟩⟩ := hRcs8
        have e15 := h15.len; subst e15
        have q15 := len_le r15
        refine RQ.y rfl (Y.indexAddr (m := k7) (sz := 2) rfl rfl hk10 hl11 (by kernel_rfl)) ?_
        refine RQ.y rfl (Y.loadN (cs := [.string x6.name, .slice A15 x6.cons.length c15]) rfl (by kernel_rfl) (cells2 (beC (cellT T (hc12 0 _ rfl))) (beC (cellT T (hc12 1 _ rfl))))) ?_
        refine RQ.y rfl (Y.move (v := .slice Aa1 d1.length ca1) s1_1) ?_
        refine RQ.y rfl (Y.move (v := .int .i64 i3) s5_1) ?_
        obtain ⟨x16, hx19, hm⟩ := bnd hm
        obtain ⟨k17, hk20, hl21, hx19⟩ := getI_some hx19
        obtain ⟨b23, o24, rfl, hbb23⟩ := ha1.addr (by omega)
        obtain ⟨cs18, hRcs18, hc22⟩ := ha1.el hx19
        have hScs18 := hRcs18
        obtain ⟨A25, n25, c25, rfl, ⟨h25, r25⟩⟩ := hRcs18
        have e25 := h25.len; subst e25
        have q25 := len_le r25
        refine RQ.y rfl (Y.indexAddr (m := k17) (sz := 2) rfl rfl hk20 hl21 (by kernel_rfl)) ?_
        refine RQ.y rfl (Y.loadN (cs := [.string x16.name, .slice A25 x16.cons.length c25]) rfl (by kernel_rfl) (cells2 (beC (cellT T (hc22 0 _ rfl))) (beC (cellT T (hc22 1 _ rfl))))) ?_
        obtain ⟨y26, e27, hm⟩ := bnd hm
        refine RQ.call rfl (am2 rfl rfl) (by kernel_rfl) (v := .bool y26) (bel (K := fun _ => True) fun w' hb' => (c_m_laws_eqData x6 x16 _ e27 _ _ w' (stArg (R := dataRd) ⟨_, _, _, rfl, ⟨SlAt.now constructorRd_ok h15 (Nat.le_refl _) (Tt T hb'), r15⟩⟩) (stArg (R := dataRd) ⟨_, _, _, rfl, ⟨SlAt.now constructorRd_ok h25 (Nat.le_refl _) (Tt T hb'), r25⟩⟩))) ?_
        refine RQ.y rfl (Y.not (b' := (!y26)) rfl rfl) ?_
        refine RQ.nil ?_
        intro w28 hb29
        have szw28 := hb29.size
        have T := Tt T hb29
        refine then_n ?_
        rcases bcases y26 with c30 | c30
        · replace hm := cF c30 hm
          refine cond_t rfl (vbn rfl c30 rfl) ?_
          refine wp_seq ?_
          refine wp_rs rfl ?_
          refine RQ.y rfl (Y.assign (v := .bool false) rfl) ?_
          refine RQ.nil ?_
          refine then_n ?_
          refine wp_ret ?_
          obtain rfl := Option.some.inj hm
          exact (blk_r (then_r (then_r (hit_r (blk_r (then_r (ret1 rfl rfl rfl ⟨rfl, T⟩)))))))
        · replace hm := cT c30 hm
          refine cond_f rfl (vbn rfl c30 rfl) ?_
          refine wp_skip ?_
          refine blk_n (then_n ?_)
          refine wp_rs rfl ?_
          refine RQ.y rfl (Y.move (v := .int .i64 i3) s5_1) ?_
          refine RQ.y rfl (Y.binI rfl rfl (binI_add (m := i3) (by omega))) ?_
          refine RQ.y rfl (Y.assign (v := .int .i64 (i3 + 1)) rfl) ?_
          refine RQ.nil ?_
          exact (then_n ⟨g, _, Nat.lt_succ_self _, rfl, ⟨(i3 + 1), s0_1, s1_1, rfl, (by omega), T, (by rw [← hrec1]; exact hm)⟩⟩)
  · replace hm := cT c1 hm
    refine cond_t rfl (vb rfl c1) ?_
    refine wp_seq ?_
    refine wp_rs rfl ?_
    refine RQ.y rfl (Y.assign (v := .bool false) rfl) ?_
    refine RQ.nil ?_
    refine then_n ?_
    refine wp_ret ?_
    obtain rfl := Option.some.inj hm
    exact (then_r (ret1 rfl rfl rfl ⟨rfl, T⟩))
noncomputable def m_laws_eqSignature (d0 : DSignature) (d1 : DSignature) : Option Bool :=
  ((m_laws_eqDataS d0.datas d1.datas).bind fun y13 => (bif y13 then ((m_laws_eqTypeS (SizeOf.sizeOf d0.defs) d0.defs d1.defs).bind fun y18 => (bif y18 then some true else some false)) else some false))
set_option maxHeartbeats 2000000 in
theorem c_m_laws_eqSignature (d0 : DSignature) (d1 : DSignature) (r : Bool) (hm : m_laws_eqSignature d0 d1 = some r) (v0 : Value) (v1 : Value) (w : World) (hv0 : St signatureRd w v0 d0) (hv1 : St signatureRd w v1 d1) :
    Calls Try.prog 33 #[v0, v1] w fun e w' => e = .returned (.bool r) ∧ Below w.heap.size w w' := by
  obtain ⟨csa0, rfl, ⟨A1, n1, c1, A2, n2, c2, rfl, ⟨h1, r1⟩, ⟨h2, r2⟩⟩⟩ := hv0
  have e1 := h1.len; subst e1
  have q1 := len_le r1
  have e2 := h2.len; subst e2
  have q2 := len_le r2
  obtain ⟨csa1, rfl, ⟨A3, n3, c3, A4, n4, c4, rfl, ⟨h3, r3⟩, ⟨h4, r4⟩⟩⟩ := hv1
  have e3 := h3.len; subst e3
  have q3 := len_le r3
  have e4 := h4.len; subst e4
  have q4 := len_le r4
  have T := Below.refl w.heap.size w
  unfold m_laws_eqSignature at hm
  refine enter 17 Try.func33 rfl rfl rfl ?_
  intro f hf
  have s0 : f 0 = .agg #[.slice A1 d0.datas.length c1, .slice A2 d0.defs.length c2] := hf 0 _ rfl
  have s1 : f 1 = .agg #[.slice A3 d1.datas.length c3, .slice A4 d1.defs.length c4] := hf 1 _ rfl
  refine wp_seq ?_
  refine wp_rl rfl ?_
  refine RL.box rfl s0 (fun w5 B6 hb7 szw5 => ?_)
  replace B6 : Blk w5 w.heap.size 66 #[.slice A1 d0.datas.length c1, .slice A2 d0.defs.length c2] := B6
  have GB6 : w.heap.size ≤ w.heap.size := T.size
  have T := Tt T hb7
  refine RL.box rfl s1 (fun w9 B10 hb11 szw9 => ?_)
  replace B10 : Blk w9 w5.heap.size 66 #[.slice A3 d1.datas.length c3, .slice A4 d1.defs.length c4] := B10
  have GB10 : w.heap.size ≤ w5.heap.size := T.size
  have Eob12_ob8 := Nat.ne_of_lt B6.lt
  have B6 := blkT B6 hb11
  have T := Tt T hb11
  refine RL.y rfl (Y.assign (v := .bool false) rfl) ?_
  refine RL.nil ?_
  refine then_n ?_
  refine wp_seq ?_
  refine wp_seq ?_
  refine wp_rb rfl ?_
  refine RQ.y rfl (Y.fieldAddr (off := 0) rfl (by kernel_rfl)) ?_
  refine RQ.y rfl (Y.load (v := .slice A1 d0.datas.length c1) rfl (by kernel_rfl) (beC (blkCell B6 (i := 0) rfl))) ?_
  refine RQ.y rfl (Y.fieldAddr (off := 0) rfl (by kernel_rfl)) ?_
  refine RQ.y rfl (Y.load (v := .slice A3 d1.datas.length c3) rfl (by kernel_rfl) (beC (blkCell B10 (i := 0) rfl))) ?_
  obtain ⟨y13, e14, hm⟩ := bnd hm
  refine RQ.call rfl (am2 rfl rfl) (by kernel_rfl) (v := .bool y13) (bel (K := fun _ => True) fun w' hb' => (c_m_laws_eqDataS d0.datas d1.datas _ e14 _ _ w' (slArg dataRd_ok h1 r1 (Tt T hb')) (slArg dataRd_ok h3 r3 (Tt T hb')))) ?_
  refine RQ.y rfl (Y.not (b' := (!y13)) rfl rfl) ?_
  refine RQ.nil ?_
  intro w15 hb16
  have szw15 := hb16.size
  have B6 := blkT B6 hb16
  have B10 := blkT B10 hb16
  have T := Tt T hb16
  refine then_n ?_
  rcases bcases y13 with c17 | c17
  · replace hm := cF c17 hm
    refine cond_t rfl (vbn rfl c17 rfl) ?_
    refine wp_seq ?_
    refine wp_rs rfl ?_
    refine RQ.y rfl (Y.assign (v := .bool false) rfl) ?_
    refine RQ.nil ?_
    refine then_n ?_
    refine wp_ret ?_
    obtain rfl := Option.some.inj hm
    exact (then_r (ret1 rfl rfl rfl ⟨rfl, T⟩))
  · replace hm := cT c17 hm
    refine cond_f rfl (vbn rfl c17 rfl) ?_
    refine wp_skip ?_
    refine then_n ?_
    refine wp_seq ?_
    refine wp_seq ?_
    refine wp_rb rfl ?_
    refine RQ.y rfl (Y.fieldAddr (off := 1) rfl (by kernel_rfl)) ?_
    refine RQ.y rfl (Y.load (v := .slice A2 d0.defs.length c2) rfl (by kernel_rfl) (beC (blkCell B6 (i := 1) rfl))) ?_
    refine RQ.y rfl (Y.fieldAddr (off := 1) rfl (by kernel_rfl)) ?_
    refine RQ.y rfl (Y.load (v := .slice A4 d1.defs.length c4) rfl (by kernel_rfl) (beC (blkCell B10 (i := 1) rfl))) ?_
    obtain ⟨y18, e19, hm⟩ := bnd hm
    refine RQ.call rfl (am2 rfl rfl) (by kernel_rfl) (v := .bool y18) (bel (K := fun _ => True) fun w' hb' => (c_m_laws_eqTypeS (SizeOf.sizeOf d0.defs) d0.defs d1.defs _ e19 _ _ w' (slArg typeRd_ok h2 r2 (Tt T hb')) (slArg typeRd_ok h4 r4 (Tt T hb')))) ?_
    refine RQ.y rfl (Y.not (b' := (!y18)) rfl rfl) ?_
    refine RQ.nil ?_
    intro w20 hb21
    have szw20 := hb21.size
    have T := Tt T hb21
    refine then_n ?_
    rcases bcases y18 with c22 | c22
    · replace hm := cF c22 hm
      refine cond_t rfl (vbn rfl c22 rfl) ?_
      refine wp_seq ?_
      refine wp_rs rfl ?_
      refine RQ.y rfl (Y.assign (v := .bool false) rfl) ?_
      refine RQ.nil ?_
      refine then_n ?_
      refine wp_ret ?_
      obtain rfl := Option.some.inj hm
      exact (then_r (ret1 rfl rfl rfl ⟨rfl, T⟩))
    · replace hm := cT c22 hm
      refine cond_f rfl (vbn rfl c22 rfl) ?_
      refine wp_skip ?_
      refine then_n ?_
      refine wp_seq ?_
      refine wp_rs rfl ?_
      refine RQ.y rfl (Y.assign (v := .bool true) rfl) ?_
      refine RQ.nil ?_
      refine then_n ?_
      refine wp_ret ?_
      obtain rfl := Option.some.inj hm
      exact (ret1 rfl rfl rfl ⟨rfl, T⟩)
end
section
open Go.RowKit
set_option linter.unusedVariables false
set_option linter.unusedSimpArgs false
noncomputable instance : DecidableEq DConstructor := fun a b => Classical.propDecidable (a = b)
noncomputable instance : DecidableEq DData := fun a b => Classical.propDecidable (a = b)
noncomputable instance : DecidableEq DSignature := fun a b => Classical.propDecidable (a = b)
def OkCon (x : DConstructor) : Prop := x.name.size ≤ maxLen ∧ OkTyS x.fields
def OkConS (xs : List DConstructor) : Prop := xs.length ≤ maxLen ∧ ∀ y ∈ xs, OkCon y
def OkDat (x : DData) : Prop := x.name.size ≤ maxLen ∧ OkConS x.cons
def OkDatS (xs : List DData) : Prop := xs.length ≤ maxLen ∧ ∀ y ∈ xs, OkDat y
def OkSig (x : DSignature) : Prop := OkDatS x.datas ∧ OkTyS x.defs
def szConstructor (x : DConstructor) : Nat := x.name.size + szTypeS x.fields
def szConstructorS (xs : List DConstructor) : Nat := xs.length + (xs.map szConstructor).sum
def szData (x : DData) : Nat := x.name.size + szConstructorS x.cons
def szDataS (xs : List DData) : Nat := xs.length + (xs.map szData).sum
def szSignature (x : DSignature) : Nat := szDataS x.datas + szTypeS x.defs
theorem szL_back {l : Int} {n : Nat} (h : szL l n < 0) : szL l n = -1 := by
  unfold szL at h ⊢
  split
  · rfl
  · rename_i h3; rw [if_neg h3] at h; omega
theorem szL_le {l : Int} {n : Nat} (h : l ≤ 1048576) : szL l n ≤ 1048576 := by unfold szL; split <;> omega
theorem p_szConstructor (x : DConstructor) (left : Int) (ho : OkCon x) (h0 : 0 ≤ left) (h1 : left ≤ 1048576) : m_laws_szConstructor x left = some (szL left (szConstructor x)) := by
  unfold m_laws_szConstructor szConstructor
  have hl := maxLen_le ho.1
  rw [ck_ok (by omega), Option.bind_some]
  by_cases hn : left - (x.name.size : Int) < 0
  · rw [decide_eq_true hn, cond_true, szL_neg (by omega)]
  · rw [decide_eq_false hn, cond_false, (p_szTy _).1 _ _ (Nat.le_refl _) ho.2 (by omega) (by omega), Option.bind_some, ← szL_step, szL_pos hn, if_neg hn]
    by_cases h2 : szL (left - (x.name.size : Int)) (szTypeS x.fields) < 0
    · rw [decide_eq_true h2, cond_true, szL_back h2]
    · rw [decide_eq_false h2, cond_false]
theorem p_szConstructorS (xs : List DConstructor) (left : Int) (ho : OkConS xs) (h0 : 0 ≤ left) (h1 : left ≤ 1048576) : m_laws_szConstructorS xs left = some (szL left (szConstructorS xs)) := by
  unfold m_laws_szConstructorS szConstructorS
  have hl := maxLen_le ho.1
  rw [ck_ok (by omega), Option.bind_some]
  by_cases hn : left - (xs.length : Int) < 0
  · rw [decide_eq_true hn, cond_true, szL_neg (by omega)]
  · rw [decide_eq_false hn, cond_false]
    have key := subI (L := m_laws_szConstructorS_L1 xs m_laws_szConstructorS_A1) (d := xs) (s := szConstructor) (ok := OkCon)
      (fun g k x left hx h0 h1 => by
        have hm := List.mem_of_getElem? hx
        simp -implicitDefEqProofs only [m_laws_szConstructorS_L1, m_laws_szConstructorS_B1, dlt (lt_of_some hx), cond_true, getI_nat hx, Option.bind_some, p_szConstructor x left (ho.2 x hm) h0 h1])
      (fun g left => by simp -implicitDefEqProofs only [m_laws_szConstructorS_L1, m_laws_szConstructorS_B1, dge, cond_false, m_laws_szConstructorS_A1])
      xs.length 0 (xs.length + 1) (left - xs.length) (by omega) (by omega) (by omega) (by omega)
    refine key.trans ?_
    rw [List.drop_zero]
    congr 1
    rw [← szL_step, szL_pos hn, if_neg hn]
theorem p_szData (x : DData) (left : Int) (ho : OkDat x) (h0 : 0 ≤ left) (h1 : left ≤ 1048576) : m_laws_szData x left = some (szL left (szData x)) := by
  unfold m_laws_szData szData
  have hl := maxLen_le ho.1
  rw [ck_ok (by omega), Option.bind_some]
  by_cases hn : left - (x.name.size : Int) < 0
  · rw [decide_eq_true hn, cond_true, szL_neg (by omega)]
  · rw [decide_eq_false hn, cond_false, p_szConstructorS _ _ ho.2 (by omega) (by omega), Option.bind_some, ← szL_step, szL_pos hn, if_neg hn]
    by_cases h2 : szL (left - (x.name.size : Int)) (szConstructorS x.cons) < 0
    · rw [decide_eq_true h2, cond_true, szL_back h2]
    · rw [decide_eq_false h2, cond_false]
theorem p_szDataS (xs : List DData) (left : Int) (ho : OkDatS xs) (h0 : 0 ≤ left) (h1 : left ≤ 1048576) : m_laws_szDataS xs left = some (szL left (szDataS xs)) := by
  unfold m_laws_szDataS szDataS
  have hl := maxLen_le ho.1
  rw [ck_ok (by omega), Option.bind_some]
  by_cases hn : left - (xs.length : Int) < 0
  · rw [decide_eq_true hn, cond_true, szL_neg (by omega)]
  · rw [decide_eq_false hn, cond_false]
    have key := subI (L := m_laws_szDataS_L1 xs m_laws_szDataS_A1) (d := xs) (s := szData) (ok := OkDat)
      (fun g k x left hx h0 h1 => by
        have hm := List.mem_of_getElem? hx
        simp -implicitDefEqProofs only [m_laws_szDataS_L1, m_laws_szDataS_B1, dlt (lt_of_some hx), cond_true, getI_nat hx, Option.bind_some, p_szData x left (ho.2 x hm) h0 h1])
      (fun g left => by simp -implicitDefEqProofs only [m_laws_szDataS_L1, m_laws_szDataS_B1, dge, cond_false, m_laws_szDataS_A1])
      xs.length 0 (xs.length + 1) (left - xs.length) (by omega) (by omega) (by omega) (by omega)
    refine key.trans ?_
    rw [List.drop_zero]
    congr 1
    rw [← szL_step, szL_pos hn, if_neg hn]
theorem p_szSignature (x : DSignature) (left : Int) (ho : OkSig x) (h0 : 0 ≤ left) (h1 : left ≤ 1048576) : m_laws_szSignature x left = some (szL left (szSignature x)) := by
  unfold m_laws_szSignature szSignature
  rw [p_szDataS _ _ ho.1 h0 h1, Option.bind_some, ← szL_step]
  by_cases hn : szL left (szDataS x.datas) < 0
  · rw [decide_eq_true hn, cond_true, if_pos hn]
  · have hle : szL left (szDataS x.datas) ≤ 1048576 := szL_le h1
    rw [decide_eq_false hn, cond_false, if_neg hn, (p_szTy _).1 _ _ (Nat.le_refl _) ho.2 (by omega) hle, Option.bind_some]
    by_cases h2 : szL (szL left (szDataS x.datas)) (szTypeS x.defs) < 0
    · rw [decide_eq_true h2, cond_true, szL_back h2]
    · rw [decide_eq_false h2, cond_false]
theorem decConstructor (x y : DConstructor) : decide (x = y) = (decide (x.name = y.name) && decide (x.fields = y.fields)) := by
  rw [Bool.eq_iff_iff]
  simp only [decide_eq_true_eq, Bool.and_eq_true]
  obtain ⟨a, b⟩ := x
  obtain ⟨c, d⟩ := y
  simp
theorem p_eqConstructor (x y : DConstructor) : m_laws_eqConstructor x y = some (decide (x = y)) := by
  unfold m_laws_eqConstructor
  rw [nameEq, (p_eqTy _).1 _ _ (Nat.le_refl _), Option.bind_some, decConstructor]
  cases decide (x.name = y.name) <;> cases decide (x.fields = y.fields) <;> rfl
theorem p_eqConstructorS (xs ys : List DConstructor) : m_laws_eqConstructorS xs ys = some (decide (xs = ys)) := by
  unfold m_laws_eqConstructorS
  rw [bne_nat]
  by_cases hl : xs.length = ys.length
  · rw [decide_eq_true hl, Bool.not_true, cond_false]
    exact rowEq (L := m_laws_eqConstructorS_L1 xs ys m_laws_eqConstructorS_A1) (q := m_laws_eqConstructor) hl (fun x hx y => p_eqConstructor x y)
      (fun g k hx hy => by simp -implicitDefEqProofs only [m_laws_eqConstructorS_L1, m_laws_eqConstructorS_B1, dlt hx, cond_true, getI_nat (List.getElem?_eq_getElem hx), getI_nat (List.getElem?_eq_getElem hy), Option.bind_some])
      (fun g => by simp -implicitDefEqProofs only [m_laws_eqConstructorS_L1, m_laws_eqConstructorS_B1, dge, cond_false, m_laws_eqConstructorS_A1])
  · rw [decide_eq_false hl, Bool.not_false, cond_true, decide_len hl]
theorem decData (x y : DData) : decide (x = y) = (decide (x.name = y.name) && decide (x.cons = y.cons)) := by
  rw [Bool.eq_iff_iff]
  simp only [decide_eq_true_eq, Bool.and_eq_true]
  obtain ⟨a, b⟩ := x
  obtain ⟨c, d⟩ := y
  simp
theorem p_eqData (x y : DData) : m_laws_eqData x y = some (decide (x = y)) := by
  unfold m_laws_eqData
  rw [nameEq, p_eqConstructorS, Option.bind_some, decData]
  cases decide (x.name = y.name) <;> cases decide (x.cons = y.cons) <;> rfl
theorem p_eqDataS (xs ys : List DData) : m_laws_eqDataS xs ys = some (decide (xs = ys)) := by
  unfold m_laws_eqDataS
  rw [bne_nat]
  by_cases hl : xs.length = ys.length
  · rw [decide_eq_true hl, Bool.not_true, cond_false]
    exact rowEq (L := m_laws_eqDataS_L1 xs ys m_laws_eqDataS_A1) (q := m_laws_eqData) hl (fun x hx y => p_eqData x y)
      (fun g k hx hy => by simp -implicitDefEqProofs only [m_laws_eqDataS_L1, m_laws_eqDataS_B1, dlt hx, cond_true, getI_nat (List.getElem?_eq_getElem hx), getI_nat (List.getElem?_eq_getElem hy), Option.bind_some])
      (fun g => by simp -implicitDefEqProofs only [m_laws_eqDataS_L1, m_laws_eqDataS_B1, dge, cond_false, m_laws_eqDataS_A1])
  · rw [decide_eq_false hl, Bool.not_false, cond_true, decide_len hl]
theorem decSignature (x y : DSignature) : decide (x = y) = (decide (x.datas = y.datas) && decide (x.defs = y.defs)) := by
  rw [Bool.eq_iff_iff]
  simp only [decide_eq_true_eq, Bool.and_eq_true]
  obtain ⟨a, b⟩ := x
  obtain ⟨c, d⟩ := y
  simp
theorem p_eqSignature (x y : DSignature) : m_laws_eqSignature x y = some (decide (x = y)) := by
  unfold m_laws_eqSignature
  rw [p_eqDataS, Option.bind_some, (p_eqTy _).1 _ _ (Nat.le_refl _), Option.bind_some, decSignature]
  cases decide (x.datas = y.datas) <;> cases decide (x.defs = y.defs) <;> rfl
theorem p_toConstructor (x : DConstructor) (hs : szConstructor x ≤ 1048576) : m_laws_toConstructor x = some x := by
  unfold szConstructor at hs
  unfold m_laws_toConstructor
  rw [(p_toTy _).1 _ (Nat.le_refl _) (by omega), Option.bind_some]
theorem p_toConstructorS (xs : List DConstructor) (hs : szConstructorS xs ≤ 1048576) : m_laws_toConstructorS xs = some xs := by
  unfold szConstructorS at hs
  unfold m_laws_toConstructorS
  rw [mustP_ok (by omega), Option.bind_some]
  exact copyI (L := m_laws_toConstructorS_L1 xs m_laws_toConstructorS_A1) (K := some)
    (fun g k acc hk hg => by
      have hm := sum_mem (f := szConstructor) (List.getElem_mem hk)
      simp -implicitDefEqProofs only [m_laws_toConstructorS_L1, m_laws_toConstructorS_B1, dlt hk, cond_true, getI_nat (List.getElem?_eq_getElem hk), Option.bind_some, hg, p_toConstructor xs[k] (by omega)])
    (fun g acc => by simp -implicitDefEqProofs only [m_laws_toConstructorS_L1, m_laws_toConstructorS_B1, dge, cond_false, m_laws_toConstructorS_A1])
theorem p_toData (x : DData) (hs : szData x ≤ 1048576) : m_laws_toData x = some x := by
  unfold szData at hs
  unfold m_laws_toData
  rw [p_toConstructorS _ (by omega), Option.bind_some]
theorem p_toDataS (xs : List DData) (hs : szDataS xs ≤ 1048576) : m_laws_toDataS xs = some xs := by
  unfold szDataS at hs
  unfold m_laws_toDataS
  rw [mustP_ok (by omega), Option.bind_some]
  exact copyI (L := m_laws_toDataS_L1 xs m_laws_toDataS_A1) (K := some)
    (fun g k acc hk hg => by
      have hm := sum_mem (f := szData) (List.getElem_mem hk)
      simp -implicitDefEqProofs only [m_laws_toDataS_L1, m_laws_toDataS_B1, dlt hk, cond_true, getI_nat (List.getElem?_eq_getElem hk), Option.bind_some, hg, p_toData xs[k] (by omega)])
    (fun g acc => by simp -implicitDefEqProofs only [m_laws_toDataS_L1, m_laws_toDataS_B1, dge, cond_false, m_laws_toDataS_A1])
theorem p_toSignature (x : DSignature) (hs : szSignature x ≤ 1048576) : m_laws_toSignature x = some x := by
  unfold szSignature at hs
  unfold m_laws_toSignature
  rw [p_toDataS _ (by omega), Option.bind_some, (p_toTy _).1 _ (Nat.le_refl _) (by omega), Option.bind_some]
end
section
open Go.RowKit Go.Maps
set_option linter.unusedVariables false
set_option linter.unusedSimpArgs false
def getB (s : ByteArray) (i : Int) : Option Int := if 0 ≤ i then (s[i.toNat]?).map fun b => (b.toNat : Int) else none
section
variable {P : Program} {C : World → Prop} {f : Nat → Value} {d : Option Tmp} {ty : TypeId} {pos : String} {af : Array Edge} {g : Option (Nat × Bool)} {x y : Operand} {t : TypeId} {a : ByteArray} {i b : Int}
theorem Y.idxStr (hx : ev f x = .string a) (hy : ev f y = .int .i64 i) (ht : stringT P t = true) (hb : getB a i = some b) : Y P C f ⟨d, .index t x y, ty, pos, af, g⟩ (.int .u8 b) := fun w _ => by
  have hu := str_of ht
  unfold getB at hb
  by_cases h0 : 0 ≤ i
  · rw [if_pos h0] at hb
    obtain ⟨c, hc, rfl⟩ := Option.map_eq_some_iff.1 hb
    simp [execOp, hx, hy, Instr.index, asIntOf, run_underlying hu, h0, hc]
  · rw [if_neg h0] at hb
    cases hb
end
section
variable {α : Type} {R : Rd α} {sz B n c l : Nat} {w : World} {A Av : Option Addr} {xs : List α}
theorem SlAt.takeV (h : SlAt R sz w B A n xs) (r : n ≤ c ∧ c ≤ maxLen) (hl : l ≤ xs.length) (eA : (if c = 0 then A else A.map (·.add (0 * sz))) = Av) : SlAt R sz w B Av l (xs.take l) ∧ l ≤ c ∧ c ≤ maxLen := by
  have hn := h.1
  refine ⟨⟨by rw [List.length_take]; omega, fun h0 => ?_⟩, by omega, r.2⟩
  obtain ⟨b, off, ea, hb, hc⟩ := h.2 (by omega)
  subst ea
  rw [if_neg (by omega)] at eA
  subst eA
  refine ⟨b, off + 0 * sz, by simp only [Option.map_some, Addr.add_eq], hb, fun i x hx => ?_⟩
  have hil : i < l := by have := lt_of_some hx; rw [List.length_take] at this; omega
  rw [List.getElem?_take_of_lt hil] at hx
  obtain ⟨cs, h1, h2⟩ := hc _ x hx
  refine ⟨cs, h1, fun j v hj => ?_⟩
  have := h2 j v hj
  rwa [Nat.zero_mul, Nat.add_zero]
end
section
variable {P : Program} {C : World → Prop} {f : Nat → Value} {d : Option Tmp} {ty : TypeId} {pos : String} {af : Array Edge} {g : Option (Nat × Bool)} {x y : Operand} {t : TypeId} {A Av : Option Addr} {n c : Nat}
theorem Y.sliceH {l sz N : Nat} {k : IntKind} {j : Int} (hx : ev f x = .slice A N c) (hy : ev f y = .int k j) (hj : j = (l : Int)) (hl : l ≤ N) (hc : N ≤ c) (ht : elemO P t = some sz) (eA : (if c = 0 then A else A.map (·.add (0 * sz))) = Av) :
    Y P C f ⟨d, .slice t x none (some y) none, ty, pos, af, g⟩ (.slice Av l c) := fun w _ => by
  subst hj
  unfold elemO at ht
  split at ht
  · rename_i e hu
    cases hinf : P.info? e with
    | none => rw [hinf] at ht; cases ht
    | some inf =>
      rw [hinf] at ht
      simp at ht
      subst ht
      have he : P.elem t = e := by simp [Program.elem, hu]
      have hu' : P.underlying t = some (.slice (P.elem t)) := by rw [he]; exact hu
      have := run_slice_h (P := P) (w := w) t A N c hu' k (l : Int) (by omega) (by omega)
      simp only [Nat.zero_mul] at eA
      simp [execOp, hx, hy, run_sliceAt_slice, hu', this, he, sizeOf, typeInfo, hinf, sliced, eA]
  · cases ht
end
/-- Keys that are strings. -/
def keyS (x : ByteArray) : Value := .string x
def litS (x : ByteArray) : Lit := .string x.data.toList
def goodS (x : ByteArray) : Prop := x.size ≤ maxLen
theorem mapTS {P : Program} {t k e : TypeId} {z : Value} (hk : P.underlying k = some .string) (ht : P.underlying t = some (.map k e)) (hz : (P.info? e).bind (·.zero) = some z) : MapT P t k keyS litS goodS z :=
  ⟨string_keyed hk, ⟨e, ht, fun w => by
    cases hi : P.info? e with
    | none => rw [hi] at hz; cases hz
    | some inf =>
      rw [hi] at hz
      simp only [Option.bind_some] at hz
      simp [zeroValue, typeInfo, hi, hz]⟩, fun x hx => Go.WideMaps.keyOf_string_mk hk hx, fun x y h => by
      unfold litS at h
      injection h with h
      exact Go.WideShapes.bytes_inj h⟩
theorem mt_string_bool : MapT Try.prog 160 9 keyS litS goodS (.bool false) := mapTS (e := 4) Try.underlying9 Try.underlying160 (by kernel_rfl)
theorem app_string : AppT Try.prog 182 9 (.string ByteArray.empty) 1 16 := ⟨by kernel_rfl, by kernel_rfl, rfl, by decide⟩
end
end Go.Proofs.Ytpbobilkejblgaa
