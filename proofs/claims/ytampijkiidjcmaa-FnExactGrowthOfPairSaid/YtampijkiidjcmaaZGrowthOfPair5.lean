/- Lemmas of the proof of GrowthOfPair, part 5. No condition. -/
import Derived.Test.YtampijkiidjcmaaZGrowthOfPair4
namespace Go.Proofs.Ytampijkiidjcmaa
section
open Go.RowKit
set_option linter.unusedVariables false
set_option linter.unusedSimpArgs false
set_option maxRecDepth 100000
def m_spec_l13Highest_A1 (i2 : Int) : Option Int :=
  some i2
def m_spec_l13Highest_B1 (d0 : DNet) (rec1 : Int → Int → Option Int) (K1 : Int → Option Int) (i4 : Int) (i5 : Int) : Option Int :=
  (bif (decide (i5 < (d0.agents.length : Int))) then ((getI d0.agents i5).bind fun x8 => ((m_spec_l00Max i4 x8.level).bind fun y19 => (rec1 y19 (i5 + 1)))) else (K1 i4))
def m_spec_l13Highest_L1 (d0 : DNet) (K1 : Int → Option Int) : Nat → Int → Int → Option Int
  | 0, _, _ => none
  | g + 1, i4, i5 => m_spec_l13Highest_B1 d0 (m_spec_l13Highest_L1 d0 K1 g) K1 i4 i5
def m_spec_l13Highest (d0 : DNet) : Option Int :=
  (m_spec_l13Highest_L1 d0 m_spec_l13Highest_A1 (d0.agents.length + 1) 0 0)
set_option maxHeartbeats 2000000 in
theorem c_m_spec_l13Highest (d0 : DNet) (r : Int) (hm : m_spec_l13Highest d0 = some r) (v0 : Value) (w : World) (hv0 : Pt netRd w v0 d0) :
    Calls Try.prog 76 #[v0] w fun e w' => e = .returned (.int .i64 r) ∧ Below w.heap.size w w' := by
  obtain ⟨ba0, oa0, csa0, rfl, hba0, hRa0, hca0⟩ := hv0
  have hSa0 := hRa0
  obtain ⟨A1, n1, c1, rfl, ⟨h1, r1⟩⟩ := hRa0
  have e1 := h1.len; subst e1
  have q1 := len_le r1
  have T := Below.refl w.heap.size w
  unfold m_spec_l13Highest at hm
  refine enter 25 Try.func76 rfl rfl rfl ?_
  intro f hf
  have s0 : f 0 = .pointer (some ⟨ba0, oa0, none⟩) := hf 0 _ rfl
  refine wp_seq ?_
  refine wp_rs rfl ?_
  refine RQ.y rfl (Y.assign (v := .int .i64 0) rfl) ?_
  refine RQ.nil ?_
  refine then_n ?_
  refine wp_seq ?_
  refine wp_rs rfl ?_
  refine RQ.y rfl (Y.assign (v := .int .i64 0) rfl) ?_
  refine RQ.nil ?_
  refine then_n ?_
  refine wp_seq ?_
  refine wp_seq ?_
  refine wp_rs rfl ?_
  refine RQ.y rfl (Y.assign (v := .int .i64 0) rfl) ?_
  refine RQ.nil ?_
  refine then_n ?_
  refine wp_block ?_
  obtain ⟨K1, hK1, hm⟩ : ∃ K, K = m_spec_l13Highest_A1 ∧ m_spec_l13Highest_L1 d0 K (d0.agents.length + 1) 0 0 = some r := ⟨_, rfl, hm⟩
  refine wp_loopX (fun g f w' => ∃ (i4 : Int) (i5 : Int), f 0 = .pointer (some ⟨ba0, oa0, none⟩) ∧ f 3 = .int .i64 i4 ∧ f 4 = .int .i64 i5 ∧ 0 ≤ i5 ∧ Below w.heap.size w w' ∧ m_spec_l13Highest_L1 d0 K1 g i4 i5 = some r) 0 (fun f w' => ∃ (i2 : Int), f 3 = .int .i64 i2 ∧ Below w.heap.size w w' ∧ m_spec_l13Highest_A1 i2 = some r) (d0.agents.length + 1) ⟨0, 0, s0, rfl, rfl, (by omega), T, hm⟩ ?_ ?_
  · rintro f w3 ⟨i2, s3_1x, T, hm⟩
    unfold m_spec_l13Highest_A1 at hm
    refine blk_hit (then_n ?_)
    refine wp_seq ?_
    refine wp_rs rfl ?_
    refine RQ.y rfl (Y.move (v := .int .i64 i2) s3_1x) ?_
    refine RQ.y rfl (Y.assign (v := .int .i64 i2) rfl) ?_
    refine RQ.nil ?_
    refine then_n ?_
    refine wp_ret ?_
    obtain rfl := Option.some.inj hm
    exact (ret1 rfl rfl rfl ⟨rfl, T⟩)
  · rintro g f w6 ⟨i4, i5, s0_1, s3_1, s4_1, nn4_1, T, hm⟩
    rcases g with _ | g
    · simp only [m_spec_l13Highest_L1] at hm; cases hm
    obtain ⟨rec1, hrec1, hm⟩ : ∃ z, z = m_spec_l13Highest_L1 d0 K1 g ∧ m_spec_l13Highest_B1 d0 z K1 i4 i5 = some r := ⟨_, rfl, hm⟩
    unfold m_spec_l13Highest_B1 at hm
    refine wp_seq ?_
    refine wp_seq ?_
    refine wp_rs rfl ?_
    refine RQ.y rfl (Y.move (v := .int .i64 i5) s4_1) ?_
    refine RQ.y rfl (Y.move (v := .pointer (some ⟨ba0, oa0, none⟩)) s0_1) ?_
    refine RQ.y rfl (Y.nilCheck rfl) ?_
    refine RQ.y rfl (Y.fieldAddr (off := 0) rfl (by kernel_rfl)) ?_
    refine RQ.y rfl (Y.load (v := .slice A1 d0.agents.length c1) rfl (by kernel_rfl) (eqC (cellT T (hca0 0 _ rfl)))) ?_
    refine RQ.y rfl (Y.len (by kernel_rfl) rfl) ?_
    refine RQ.y rfl (Y.binI (v := .bool (decide (i5 < (d0.agents.length : Int)))) rfl rfl rfl) ?_
    refine RQ.nil ?_
    refine then_n ?_
    rcases bcases (decide (i5 < (d0.agents.length : Int))) with c7 | c7
    · replace hm := cF c7 hm
      have pc7 := of_decide_eq_false c7
      refine cond_f rfl (vb rfl c7) ?_
      refine wp_exit ?_
      exact (then_x (then_x (hit_x ⟨_, rfl, ⟨i4, s3_1, T, (by rw [hK1] at hm; exact hm)⟩⟩)))
    · replace hm := cT c7 hm
      have pc7 := of_decide_eq_true c7
      refine cond_t rfl (vb rfl c7) ?_
      refine wp_skip ?_
      refine then_n ?_
      refine wp_seq ?_
      refine wp_block ?_
      refine wp_rb rfl ?_
      refine RQ.y rfl (Y.move (v := .int .i64 i4) s3_1) ?_
      refine RQ.y rfl (Y.move (v := .pointer (some ⟨ba0, oa0, none⟩)) s0_1) ?_
      refine RQ.y rfl (Y.nilCheck rfl) ?_
      refine RQ.y rfl (Y.fieldAddr (off := 0) rfl (by kernel_rfl)) ?_
      refine RQ.y rfl (Y.load (v := .slice A1 d0.agents.length c1) rfl (by kernel_rfl) (beC (cellT T (hca0 0 _ rfl)))) ?_
      refine RQ.y rfl (Y.move (v := .int .i64 i5) s4_1) ?_
      obtain ⟨x8, hx11, hm⟩ := bnd hm
      obtain ⟨k9, hk12, hl13, hx11⟩ := getI_some hx11
      obtain ⟨b15, o16, rfl, hbb15⟩ := h1.addr (by omega)
      obtain ⟨cs10, hRcs10, hc14⟩ := h1.el hx11
      have hScs10 := hRcs10
      obtain ⟨A17, n17, c17, A18, n18, c18, rfl, ⟨h17, r17⟩, ⟨h18, r18⟩⟩ := hRcs10
      have e17 := h17.len; subst e17
      have q17 := len_le r17
      have e18 := h18.len; subst e18
      have q18 := len_le r18
      refine RQ.y rfl (Y.indexAddr (m := k9) (sz := 5) rfl rfl hk12 hl13 (by kernel_rfl)) ?_
      refine RQ.y rfl (Y.fieldAddr (off := 1) rfl (by kernel_rfl)) ?_
      refine RQ.y rfl (Y.load (v := .int .i64 x8.level) rfl (by kernel_rfl) (beC (cellT T (hc14 1 _ rfl)))) ?_
      obtain ⟨y19, e20, hm⟩ := bnd hm
      refine RQ.call rfl (am2 rfl rfl) (by kernel_rfl) (v := .int .i64 y19) (bel (K := fun _ => True) fun w' hb' => (c_m_spec_l00Max i4 x8.level _ e20  w' )) ?_
      refine RQ.y rfl (Y.assign (v := .int .i64 y19) rfl) ?_
      refine RQ.nil ?_
      intro w21 hb22
      have szw21 := hb22.size
      have T := Tt T hb22
      refine blk_n (then_n ?_)
      refine wp_rs rfl ?_
      refine RQ.y rfl (Y.move (v := .int .i64 i5) s4_1) ?_
      refine RQ.y rfl (Y.binI rfl rfl (binI_add (m := i5) (by omega))) ?_
      refine RQ.y rfl (Y.assign (v := .int .i64 (i5 + 1)) rfl) ?_
      refine RQ.nil ?_
      exact (then_n ⟨g, _, Nat.lt_succ_self _, rfl, ⟨y19, (i5 + 1), s0_1, rfl, rfl, (by omega), T, (by rw [← hrec1]; exact hm)⟩⟩)
def m_slices_Clone_int64_int64 (d0 : List Int) : Option (List Int) :=
  ((mustP (([] : List Int).length + d0.length ≤ 4294967296)).bind fun _ => some (([] : List Int) ++ d0))
set_option maxHeartbeats 2000000 in
theorem c_m_slices_Clone_int64_int64 (d0 : List Int) (r : List Int) (hm : m_slices_Clone_int64_int64 d0 = some r) (v0 : Value) (w : World) (hv0 : Sl intRd 1 w v0 d0) :
    Calls Try.prog 171 #[v0] w fun e w' => (∃ (v0 : Value), e = .returned (v0) ∧ OwF 2 encI 1 w' w.heap.size v0 r) ∧ Below w.heap.size w w' := by
  obtain ⟨Aa0, na0, ca0, rfl, ha0, ra0⟩ := hv0
  have ea0 := ha0.len; subst ea0
  have qa0 := len_le ra0
  have T := Below.refl w.heap.size w
  unfold m_slices_Clone_int64_int64 at hm
  refine enter 8 Try.func171 rfl rfl rfl ?_
  intro f hf
  have s0 : f 0 = .slice Aa0 d0.length ca0 := hf 0 _ rfl
  refine wp_seq ?_
  refine wp_rs rfl ?_
  refine RQ.y rfl (Y.assign (v := .slice none 0 0) rfl) ?_
  refine RQ.nil ?_
  refine then_n ?_
  refine wp_seq ?_
  refine wp_seq ?_
  refine wp_rs rfl ?_
  refine RQ.y rfl (Y.move (v := .slice Aa0 d0.length ca0) s0) ?_
  refine RQ.y rfl (Y.eqNil (e := 2) rfl rfl (by kernel_rfl)) ?_
  refine RQ.nil ?_
  refine then_n ?_
  rcases bcases Aa0.isNone with c1 | c1
  · refine cond_f rfl (vb rfl c1) ?_
    refine wp_skip ?_
    refine then_n ?_
    refine wp_seq ?_
    refine wp_rl rfl ?_
    refine RL.bslice (e := 2) (cells := #[]) rfl pm0 (by kernel_rfl) (fun w2 B3 hb4 szw2 => ?_)
    have ZB3 : w.heap.size ≤ w.heap.size := T.size
    have T := Tt T hb4
    have G6 := OwF.lit (enc := encI) (sz := 1) (xs := ([] : List Int)) B3 ZB3 rfl rfl rfl rfl
    refine RL.y rfl (Y.move (v := .slice Aa0 d0.length ca0) s0) ?_
    obtain ⟨_, m8, hm⟩ := bnd hm
    have hk9 := mustP_some m8
    refine RL.append fI app_int64 rfl rfl rfl G6 (slArg intRd_ok ha0 ra0 T) T.size hk9 (fun v10 w11 G12 hgr13 hbl14 hnb15 => ?_)
    have szw11 := hbl14.size
    have T := T.trans hbl14
    refine RL.y rfl (Y.assign (v := v10) rfl) ?_
    refine RL.nil ?_
    refine then_n ?_
    refine wp_ret ?_
    obtain rfl := Option.some.inj hm
    exact (ret1 rfl rfl rfl ⟨⟨_, rfl, G12⟩, T⟩)
  · have hd17 := SlAt.nilOf ha0 c1
    replace hm : some ([]) = some r := by rw [hd17] at hm; simpa [mustP] using hm
    refine cond_t rfl (vb rfl c1) ?_
    refine wp_seq ?_
    refine wp_rs rfl ?_
    refine RQ.y rfl (Y.assign (v := .slice none 0 0) rfl) ?_
    refine RQ.nil ?_
    refine then_n ?_
    refine wp_ret ?_
    obtain rfl := Option.some.inj hm
    exact (then_r (ret1 rfl rfl rfl ⟨⟨_, rfl, OwF.nil⟩, T⟩))
def m_slices_Clone_impl_Port_impl_Port (d0 : List DPort) : Option (List DPort) :=
  ((mustP (([] : List DPort).length + d0.length ≤ 4294967296)).bind fun _ => some (([] : List DPort) ++ d0))
set_option maxHeartbeats 2000000 in
theorem c_m_slices_Clone_impl_Port_impl_Port (d0 : List DPort) (r : List DPort) (hm : m_slices_Clone_impl_Port_impl_Port d0 = some r) (v0 : Value) (w : World) (hv0 : Sl portRd 2 w v0 d0) :
    Calls Try.prog 172 #[v0] w fun e w' => (∃ (v0 : Value), e = .returned (v0) ∧ OwF 53 encPort 2 w' w.heap.size v0 r) ∧ Below w.heap.size w w' := by
  obtain ⟨Aa0, na0, ca0, rfl, ha0, ra0⟩ := hv0
  have ea0 := ha0.len; subst ea0
  have qa0 := len_le ra0
  have T := Below.refl w.heap.size w
  unfold m_slices_Clone_impl_Port_impl_Port at hm
  refine enter 8 Try.func172 rfl rfl rfl ?_
  intro f hf
  have s0 : f 0 = .slice Aa0 d0.length ca0 := hf 0 _ rfl
  refine wp_seq ?_
  refine wp_rs rfl ?_
  refine RQ.y rfl (Y.assign (v := .slice none 0 0) rfl) ?_
  refine RQ.nil ?_
  refine then_n ?_
  refine wp_seq ?_
  refine wp_seq ?_
  refine wp_rs rfl ?_
  refine RQ.y rfl (Y.move (v := .slice Aa0 d0.length ca0) s0) ?_
  refine RQ.y rfl (Y.eqNil (e := 53) rfl rfl (by kernel_rfl)) ?_
  refine RQ.nil ?_
  refine then_n ?_
  rcases bcases Aa0.isNone with c1 | c1
  · refine cond_f rfl (vb rfl c1) ?_
    refine wp_skip ?_
    refine then_n ?_
    refine wp_seq ?_
    refine wp_rl rfl ?_
    refine RL.bslice (e := 53) (cells := #[]) rfl pm0 (by kernel_rfl) (fun w2 B3 hb4 szw2 => ?_)
    have ZB3 : w.heap.size ≤ w.heap.size := T.size
    have T := Tt T hb4
    have G6 := OwF.lit (enc := encPort) (sz := 2) (xs := ([] : List DPort)) B3 ZB3 rfl rfl rfl rfl
    refine RL.y rfl (Y.move (v := .slice Aa0 d0.length ca0) s0) ?_
    obtain ⟨_, m8, hm⟩ := bnd hm
    have hk9 := mustP_some m8
    refine RL.append fPort app_impl_Port rfl rfl rfl G6 (slArg portRd_ok ha0 ra0 T) T.size hk9 (fun v10 w11 G12 hgr13 hbl14 hnb15 => ?_)
    have szw11 := hbl14.size
    have T := T.trans hbl14
    refine RL.y rfl (Y.assign (v := v10) rfl) ?_
    refine RL.nil ?_
    refine then_n ?_
    refine wp_ret ?_
    obtain rfl := Option.some.inj hm
    exact (ret1 rfl rfl rfl ⟨⟨_, rfl, G12⟩, T⟩)
  · have hd17 := SlAt.nilOf ha0 c1
    replace hm : some ([]) = some r := by rw [hd17] at hm; simpa [mustP] using hm
    refine cond_t rfl (vb rfl c1) ?_
    refine wp_seq ?_
    refine wp_rs rfl ?_
    refine RQ.y rfl (Y.assign (v := .slice none 0 0) rfl) ?_
    refine RQ.nil ?_
    refine then_n ?_
    refine wp_ret ?_
    obtain rfl := Option.some.inj hm
    exact (then_r (ret1 rfl rfl rfl ⟨⟨_, rfl, OwF.nil⟩, T⟩))
def m_impl_copyAgent (d0 : DAgent) : Option DAgent :=
  ((m_slices_Clone_int64_int64 d0.data).bind fun y13 => ((m_slices_Clone_impl_Port_impl_Port d0.ports).bind fun y20 => some (⟨d0.kind, d0.level, d0.value, y13, y20⟩ : DAgent)))
set_option maxHeartbeats 2000000 in
theorem c_m_impl_copyAgent (d0 : DAgent) (r : DAgent) (hm : m_impl_copyAgent d0 = some r) (v0 : Value) (w : World) (hv0 : St agentRd w v0 d0) :
    Calls Try.prog 136 #[v0] w fun e w' => (∃ (v0 : Value) (v1 : Value), e = .returned (.agg #[.int .i64 r.kind, .int .i64 r.level, .int .i64 r.value, v0, v1]) ∧ OwF 2 encI 1 w' w.heap.size v0 r.data ∧ OwF 53 encPort 2 w' w.heap.size v1 r.ports ∧ Dj v0 v1) ∧ Below w.heap.size w w' := by
  obtain ⟨csa0, rfl, ⟨A1, n1, c1, A2, n2, c2, rfl, ⟨h1, r1⟩, ⟨h2, r2⟩⟩⟩ := hv0
  have e1 := h1.len; subst e1
  have q1 := len_le r1
  have e2 := h2.len; subst e2
  have q2 := len_le r2
  have T := Below.refl w.heap.size w
  unfold m_impl_copyAgent at hm
  refine enter 12 Try.func136 rfl rfl rfl ?_
  intro f hf
  have s0 : f 0 = .agg #[.int .i64 d0.kind, .int .i64 d0.level, .int .i64 d0.value, .slice A1 d0.data.length c1, .slice A2 d0.ports.length c2] := hf 0 _ rfl
  refine wp_seq ?_
  refine wp_rl rfl ?_
  refine RL.box rfl s0 (fun w3 B4 hb5 szw3 => ?_)
  replace B4 : Blk w3 w.heap.size 89 #[.int .i64 d0.kind, .int .i64 d0.level, .int .i64 d0.value, .slice A1 d0.data.length c1, .slice A2 d0.ports.length c2] := B4
  have GB4 : w.heap.size ≤ w.heap.size := T.size
  have T := Tt T hb5
  refine RL.alloc (z := .agg #[.int .i64 0, .int .i64 0, .int .i64 0, .slice none 0 0, .slice none 0 0]) rfl (by kernel_rfl) (fun w7 B8 hb9 szw7 => ?_)
  replace B8 : Blk w7 w3.heap.size 89 #[.int .i64 0, .int .i64 0, .int .i64 0, .slice none 0 0, .slice none 0 0] := B8
  have GB8 : w.heap.size ≤ w3.heap.size := T.size
  have Eob10_ob6 := Nat.ne_of_lt B4.lt
  have B4 := blkT B4 hb9
  have T := Tt T hb9
  refine RL.nil ?_
  refine then_n ?_
  refine wp_seq ?_
  refine wp_rgt (fun w' => Below w.heap.size w w') (.q 0 (.q 3 (.two 1 (.two 2 (.a 4 (.q 6 (.a 5 (.a 7 (.q 8 (.a 9 .nil)))))) 4 (.a 2 (.q 6 (.a 5 (.a 7 (.q 8 (.a 9 .nil))))))) 4 (.a 1 (.a 2 (.q 6 (.a 5 (.a 7 (.q 8 (.a 9 .nil)))))))))) (by kernel_rfl) (by kernel_rfl) (fun w11 hb12 szw11 => ?_)
  have B4 := blkT B4 hb12
  have B8 := blkT B8 hb12
  have T := Tt T hb12
  refine ⟨T, ?_⟩
  refine RT.y rfl rfl (Y.fieldAddr (off := 3) rfl (by kernel_rfl)) ?_
  refine RT.y rfl rfl (Y.fieldAddr (off := 4) rfl (by kernel_rfl)) ?_
  refine RT.both rfl rfl ?_ ?_
  · refine RL.y rfl (Y.load (v := .slice A1 d0.data.length c1) rfl (by kernel_rfl) (eqC (blkCell B4 (i := 3) rfl))) ?_
    refine RL.nil ⟨T, ?_⟩
    refine RT.both rfl rfl ?_ ?_
    · obtain ⟨y13, e14, hm⟩ := bnd hm
      refine RL.call rfl (am1 rfl) (by kernel_rfl) ((c_m_slices_Clone_int64_int64 d0.data _ e14 _ _ (slArg intRd_ok h1 r1 T)).mono ?_)
      rintro _ w18 ⟨⟨v15, rfl, G16⟩, hb19⟩
      refine ⟨_, rfl, ?_⟩
      have szw18 := hb19.size
      have T0w18 := T.size
      have Zo17_ob6 := ap_ne (Ap.new (OwF.flo G16) (one_hi B4.lt))
      have Zo17_ob10 := ap_ne (Ap.new (OwF.flo G16) (one_hi B8.lt))
      have B4 := blkT B4 hb19
      have B8 := blkT B8 hb19
      have T := Tt T hb19
      replace G16 := OwF.mono G16 T0w18
      refine RL.nil ⟨T, ?_⟩
      refine RT.act rfl ?_
      refine RL.y rfl (Y.load (v := .slice A2 d0.ports.length c2) rfl (by kernel_rfl) (eqC (blkCell B4 (i := 4) rfl))) ?_
      refine RL.nil ⟨T, ?_⟩
      refine RT.y rfl rfl (Y.fieldAddr (off := 3) rfl (by kernel_rfl)) ?_
      refine RT.act rfl ?_
      obtain ⟨y20, e21, hm⟩ := bnd hm
      refine RL.call rfl (am1 rfl) (by kernel_rfl) ((c_m_slices_Clone_impl_Port_impl_Port d0.ports _ e21 _ _ (slArg portRd_ok h2 r2 T)).mono ?_)
      rintro _ w25 ⟨⟨v22, rfl, G23⟩, hb26⟩
      refine ⟨_, rfl, ?_⟩
      have szw25 := hb26.size
      have T0w25 := T.size
      have Zo24_ob6 := ap_ne (Ap.new (OwF.flo G23) (one_hi B4.lt))
      have Zo24_ob10 := ap_ne (Ap.new (OwF.flo G23) (one_hi B8.lt))
      have Zo24_o17 := Ap.dj (Ap.new (OwF.flo G23) (OwF.fhi G16))
      have B4 := blkT B4 hb26
      have B8 := blkT B8 hb26
      have G16 := OwF.below G16 hb26
      have T := Tt T hb26
      replace G23 := OwF.mono G23 T0w25
      refine RL.nil ⟨T, ?_⟩
      refine RT.act rfl ?_
      obtain ⟨A27, c28, rfl⟩ := OwF.form G16
      have qbA27 := OwF.bound G16
      refine RL.store (v := .slice A27 y13.length c28) (cs' := #[.int .i64 d0.kind, .int .i64 d0.level, .int .i64 d0.value, .slice A27 y13.length c28, .slice A2 d0.ports.length c2]) rfl rfl rfl B4 (by kernel_rfl) (by rfl) (by rfl) (by rfl) (fun w29 B30 ho31 => ?_)
      have szw29 := ho31.size
      have B8 := B8.only_ ho31 (by intro hin; simp at hin; exact Eob10_ob6.symm hin)
      have G16 := OwF.only G16 ho31 Zo17_ob6
      have G23 := OwF.only G23 ho31 Zo24_ob6
      have T := T.trans (ho31.below (by first | (simp; done) | (simp; omega)))
      refine RL.nil ⟨T, ?_⟩
      refine RT.y rfl rfl (Y.fieldAddr (off := 4) rfl (by kernel_rfl)) ?_
      refine RT.act rfl ?_
      obtain ⟨A32, c33, rfl⟩ := OwF.form G23
      have qbA32 := OwF.bound G23
      refine RL.store (v := .slice A32 y20.length c33) (cs' := #[.int .i64 d0.kind, .int .i64 d0.level, .int .i64 d0.value, .slice A27 y13.length c28, .slice A32 y20.length c33]) rfl rfl rfl B30 (by kernel_rfl) (by rfl) (by rfl) (by rfl) (fun w34 B35 ho36 => ?_)
      have szw34 := ho36.size
      have B8 := B8.only_ ho36 (by intro hin; simp at hin; exact Eob10_ob6.symm hin)
      have G16 := OwF.only G16 ho36 Zo17_ob6
      have G23 := OwF.only G23 ho36 Zo24_ob6
      have T := T.trans (ho36.below (by first | (simp; done) | (simp; omega)))
      refine RL.nil ⟨T, ?_⟩
      refine RT.nil_ ?_
      refine then_n ?_
      refine wp_seq ?_
      refine wp_rl rfl ?_
      refine RL.y rfl (Y.loadN (cs := [.int .i64 d0.kind, .int .i64 d0.level, .int .i64 d0.value, .slice A27 y13.length c28, .slice A32 y20.length c33]) rfl (by kernel_rfl) (cells5 (eqC (blkCell B35 (i := 0) rfl)) (eqC (blkCell B35 (i := 1) rfl)) (eqC (blkCell B35 (i := 2) rfl)) (eqC (blkCell B35 (i := 3) rfl)) (eqC (blkCell B35 (i := 4) rfl)))) ?_
      refine RL.store (v := .agg #[.int .i64 d0.kind, .int .i64 d0.level, .int .i64 d0.value, .slice A27 y13.length c28, .slice A32 y20.length c33]) (cs' := #[.int .i64 d0.kind, .int .i64 d0.level, .int .i64 d0.value, .slice A27 y13.length c28, .slice A32 y20.length c33]) rfl rfl rfl B8 (by kernel_rfl) (by rfl) (by rfl) (by rfl) (fun w37 B38 ho39 => ?_)
      have szw37 := ho39.size
      have B35 := B35.only_ ho39 (by intro hin; simp at hin; exact Eob10_ob6 hin)
      have G16 := OwF.only G16 ho39 Zo17_ob10
      have G23 := OwF.only G23 ho39 Zo24_ob10
      have T := T.trans (ho39.below (by first | (simp; done) | (simp; omega)))
      refine RL.nil ?_
      refine then_n ?_
      refine wp_ret ?_
      obtain rfl := Option.some.inj hm
      exact (retc (cs := [.int .i64 d0.kind, .int .i64 d0.level, .int .i64 d0.value, .slice A27 y13.length c28, .slice A32 y20.length c33]) rfl rfl rfl (by kernel_rfl) (blkCells B38) ⟨⟨_, _, rfl, G16, G23, (Ap.dj (Ap.symm (Dj.ap Zo24_o17)))⟩, T⟩)
    · refine RL.y rfl (Y.load (v := .slice A2 d0.ports.length c2) rfl (by kernel_rfl) (eqC (blkCell B4 (i := 4) rfl))) ?_
      refine RL.nil ⟨T, ?_⟩
      refine RT.act rfl ?_
      obtain ⟨y40, e41, hm⟩ := bnd hm
      refine RL.call rfl (am1 rfl) (by kernel_rfl) ((c_m_slices_Clone_int64_int64 d0.data _ e41 _ _ (slArg intRd_ok h1 r1 T)).mono ?_)
      rintro _ w45 ⟨⟨v42, rfl, G43⟩, hb46⟩
      refine ⟨_, rfl, ?_⟩
      have szw45 := hb46.size
      have T0w45 := T.size
      have Zo44_ob6 := ap_ne (Ap.new (OwF.flo G43) (one_hi B4.lt))
      have Zo44_ob10 := ap_ne (Ap.new (OwF.flo G43) (one_hi B8.lt))
      have B4 := blkT B4 hb46
      have B8 := blkT B8 hb46
      have T := Tt T hb46
      replace G43 := OwF.mono G43 T0w45
      refine RL.nil ⟨T, ?_⟩
      refine RT.y rfl rfl (Y.fieldAddr (off := 3) rfl (by kernel_rfl)) ?_
      refine RT.act rfl ?_
      obtain ⟨y47, e48, hm⟩ := bnd hm
      refine RL.call rfl (am1 rfl) (by kernel_rfl) ((c_m_slices_Clone_impl_Port_impl_Port d0.ports _ e48 _ _ (slArg portRd_ok h2 r2 T)).mono ?_)
      rintro _ w52 ⟨⟨v49, rfl, G50⟩, hb53⟩
      refine ⟨_, rfl, ?_⟩
      have szw52 := hb53.size
      have T0w52 := T.size
      have Zo51_ob6 := ap_ne (Ap.new (OwF.flo G50) (one_hi B4.lt))
      have Zo51_ob10 := ap_ne (Ap.new (OwF.flo G50) (one_hi B8.lt))
      have Zo51_o44 := Ap.dj (Ap.new (OwF.flo G50) (OwF.fhi G43))
      have B4 := blkT B4 hb53
      have B8 := blkT B8 hb53
      have G43 := OwF.below G43 hb53
      have T := Tt T hb53
      replace G50 := OwF.mono G50 T0w52
      refine RL.nil ⟨T, ?_⟩
      refine RT.act rfl ?_
      obtain ⟨A54, c55, rfl⟩ := OwF.form G43
      have qbA54 := OwF.bound G43
      refine RL.store (v := .slice A54 y40.length c55) (cs' := #[.int .i64 d0.kind, .int .i64 d0.level, .int .i64 d0.value, .slice A54 y40.length c55, .slice A2 d0.ports.length c2]) rfl rfl rfl B4 (by kernel_rfl) (by rfl) (by rfl) (by rfl) (fun w56 B57 ho58 => ?_)
      have szw56 := ho58.size
      have B8 := B8.only_ ho58 (by intro hin; simp at hin; exact Eob10_ob6.symm hin)
      have G43 := OwF.only G43 ho58 Zo44_ob6
      have G50 := OwF.only G50 ho58 Zo51_ob6
      have T := T.trans (ho58.below (by first | (simp; done) | (simp; omega)))
      refine RL.nil ⟨T, ?_⟩
      refine RT.y rfl rfl (Y.fieldAddr (off := 4) rfl (by kernel_rfl)) ?_
      refine RT.act rfl ?_
      obtain ⟨A59, c60, rfl⟩ := OwF.form G50
      have qbA59 := OwF.bound G50
      refine RL.store (v := .slice A59 y47.length c60) (cs' := #[.int .i64 d0.kind, .int .i64 d0.level, .int .i64 d0.value, .slice A54 y40.length c55, .slice A59 y47.length c60]) rfl rfl rfl B57 (by kernel_rfl) (by rfl) (by rfl) (by rfl) (fun w61 B62 ho63 => ?_)
      have szw61 := ho63.size
      have B8 := B8.only_ ho63 (by intro hin; simp at hin; exact Eob10_ob6.symm hin)
      have G43 := OwF.only G43 ho63 Zo44_ob6
      have G50 := OwF.only G50 ho63 Zo51_ob6
      have T := T.trans (ho63.below (by first | (simp; done) | (simp; omega)))
      refine RL.nil ⟨T, ?_⟩
      refine RT.nil_ ?_
      refine then_n ?_
      refine wp_seq ?_
      refine wp_rl rfl ?_
      refine RL.y rfl (Y.loadN (cs := [.int .i64 d0.kind, .int .i64 d0.level, .int .i64 d0.value, .slice A54 y40.length c55, .slice A59 y47.length c60]) rfl (by kernel_rfl) (cells5 (eqC (blkCell B62 (i := 0) rfl)) (eqC (blkCell B62 (i := 1) rfl)) (eqC (blkCell B62 (i := 2) rfl)) (eqC (blkCell B62 (i := 3) rfl)) (eqC (blkCell B62 (i := 4) rfl)))) ?_
      refine RL.store (v := .agg #[.int .i64 d0.kind, .int .i64 d0.level, .int .i64 d0.value, .slice A54 y40.length c55, .slice A59 y47.length c60]) (cs' := #[.int .i64 d0.kind, .int .i64 d0.level, .int .i64 d0.value, .slice A54 y40.length c55, .slice A59 y47.length c60]) rfl rfl rfl B8 (by kernel_rfl) (by rfl) (by rfl) (by rfl) (fun w64 B65 ho66 => ?_)
      have szw64 := ho66.size
      have B62 := B62.only_ ho66 (by intro hin; simp at hin; exact Eob10_ob6 hin)
      have G43 := OwF.only G43 ho66 Zo44_ob10
      have G50 := OwF.only G50 ho66 Zo51_ob10
      have T := T.trans (ho66.below (by first | (simp; done) | (simp; omega)))
      refine RL.nil ?_
      refine then_n ?_
      refine wp_ret ?_
      obtain rfl := Option.some.inj hm
      exact (retc (cs := [.int .i64 d0.kind, .int .i64 d0.level, .int .i64 d0.value, .slice A54 y40.length c55, .slice A59 y47.length c60]) rfl rfl rfl (by kernel_rfl) (blkCells B65) ⟨⟨_, _, rfl, G43, G50, (Ap.dj (Ap.symm (Dj.ap Zo51_o44)))⟩, T⟩)
  · refine RL.y rfl (Y.load (v := .slice A2 d0.ports.length c2) rfl (by kernel_rfl) (eqC (blkCell B4 (i := 4) rfl))) ?_
    refine RL.nil ⟨T, ?_⟩
    refine RT.act rfl ?_
    refine RL.y rfl (Y.load (v := .slice A1 d0.data.length c1) rfl (by kernel_rfl) (eqC (blkCell B4 (i := 3) rfl))) ?_
    refine RL.nil ⟨T, ?_⟩
    refine RT.act rfl ?_
    obtain ⟨y67, e68, hm⟩ := bnd hm
    refine RL.call rfl (am1 rfl) (by kernel_rfl) ((c_m_slices_Clone_int64_int64 d0.data _ e68 _ _ (slArg intRd_ok h1 r1 T)).mono ?_)
    rintro _ w72 ⟨⟨v69, rfl, G70⟩, hb73⟩
    refine ⟨_, rfl, ?_⟩
    have szw72 := hb73.size
    have T0w72 := T.size
    have Zo71_ob6 := ap_ne (Ap.new (OwF.flo G70) (one_hi B4.lt))
    have Zo71_ob10 := ap_ne (Ap.new (OwF.flo G70) (one_hi B8.lt))
    have B4 := blkT B4 hb73
    have B8 := blkT B8 hb73
    have T := Tt T hb73
    replace G70 := OwF.mono G70 T0w72
    refine RL.nil ⟨T, ?_⟩
    refine RT.y rfl rfl (Y.fieldAddr (off := 3) rfl (by kernel_rfl)) ?_
    refine RT.act rfl ?_
    obtain ⟨y74, e75, hm⟩ := bnd hm
    refine RL.call rfl (am1 rfl) (by kernel_rfl) ((c_m_slices_Clone_impl_Port_impl_Port d0.ports _ e75 _ _ (slArg portRd_ok h2 r2 T)).mono ?_)
    rintro _ w79 ⟨⟨v76, rfl, G77⟩, hb80⟩
    refine ⟨_, rfl, ?_⟩
    have szw79 := hb80.size
    have T0w79 := T.size
    have Zo78_ob6 := ap_ne (Ap.new (OwF.flo G77) (one_hi B4.lt))
    have Zo78_ob10 := ap_ne (Ap.new (OwF.flo G77) (one_hi B8.lt))
    have Zo78_o71 := Ap.dj (Ap.new (OwF.flo G77) (OwF.fhi G70))
    have B4 := blkT B4 hb80
    have B8 := blkT B8 hb80
    have G70 := OwF.below G70 hb80
    have T := Tt T hb80
    replace G77 := OwF.mono G77 T0w79
    refine RL.nil ⟨T, ?_⟩
    refine RT.act rfl ?_
    obtain ⟨A81, c82, rfl⟩ := OwF.form G70
    have qbA81 := OwF.bound G70
    refine RL.store (v := .slice A81 y67.length c82) (cs' := #[.int .i64 d0.kind, .int .i64 d0.level, .int .i64 d0.value, .slice A81 y67.length c82, .slice A2 d0.ports.length c2]) rfl rfl rfl B4 (by kernel_rfl) (by rfl) (by rfl) (by rfl) (fun w83 B84 ho85 => ?_)
    have szw83 := ho85.size
    have B8 := B8.only_ ho85 (by intro hin; simp at hin; exact Eob10_ob6.symm hin)
    have G70 := OwF.only G70 ho85 Zo71_ob6
    have G77 := OwF.only G77 ho85 Zo78_ob6
    have T := T.trans (ho85.below (by first | (simp; done) | (simp; omega)))
    refine RL.nil ⟨T, ?_⟩
    refine RT.y rfl rfl (Y.fieldAddr (off := 4) rfl (by kernel_rfl)) ?_
    refine RT.act rfl ?_
    obtain ⟨A86, c87, rfl⟩ := OwF.form G77
    have qbA86 := OwF.bound G77
    refine RL.store (v := .slice A86 y74.length c87) (cs' := #[.int .i64 d0.kind, .int .i64 d0.level, .int .i64 d0.value, .slice A81 y67.length c82, .slice A86 y74.length c87]) rfl rfl rfl B84 (by kernel_rfl) (by rfl) (by rfl) (by rfl) (fun w88 B89 ho90 => ?_)
    have szw88 := ho90.size
    have B8 := B8.only_ ho90 (by intro hin; simp at hin; exact Eob10_ob6.symm hin)
    have G70 := OwF.only G70 ho90 Zo71_ob6
    have G77 := OwF.only G77 ho90 Zo78_ob6
    have T := T.trans (ho90.below (by first | (simp; done) | (simp; omega)))
    refine RL.nil ⟨T, ?_⟩
    refine RT.nil_ ?_
    refine then_n ?_
    refine wp_seq ?_
    refine wp_rl rfl ?_
    refine RL.y rfl (Y.loadN (cs := [.int .i64 d0.kind, .int .i64 d0.level, .int .i64 d0.value, .slice A81 y67.length c82, .slice A86 y74.length c87]) rfl (by kernel_rfl) (cells5 (eqC (blkCell B89 (i := 0) rfl)) (eqC (blkCell B89 (i := 1) rfl)) (eqC (blkCell B89 (i := 2) rfl)) (eqC (blkCell B89 (i := 3) rfl)) (eqC (blkCell B89 (i := 4) rfl)))) ?_
    refine RL.store (v := .agg #[.int .i64 d0.kind, .int .i64 d0.level, .int .i64 d0.value, .slice A81 y67.length c82, .slice A86 y74.length c87]) (cs' := #[.int .i64 d0.kind, .int .i64 d0.level, .int .i64 d0.value, .slice A81 y67.length c82, .slice A86 y74.length c87]) rfl rfl rfl B8 (by kernel_rfl) (by rfl) (by rfl) (by rfl) (fun w91 B92 ho93 => ?_)
    have szw91 := ho93.size
    have B89 := B89.only_ ho93 (by intro hin; simp at hin; exact Eob10_ob6 hin)
    have G70 := OwF.only G70 ho93 Zo71_ob10
    have G77 := OwF.only G77 ho93 Zo78_ob10
    have T := T.trans (ho93.below (by first | (simp; done) | (simp; omega)))
    refine RL.nil ?_
    refine then_n ?_
    refine wp_ret ?_
    obtain rfl := Option.some.inj hm
    exact (retc (cs := [.int .i64 d0.kind, .int .i64 d0.level, .int .i64 d0.value, .slice A81 y67.length c82, .slice A86 y74.length c87]) rfl rfl rfl (by kernel_rfl) (blkCells B92) ⟨⟨_, _, rfl, G70, G77, (Ap.dj (Ap.symm (Dj.ap Zo78_o71)))⟩, T⟩)
def m_impl_copyNet_A1 (z26 : DNet) : Option DNet :=
  some z26
def m_impl_copyNet_B1 (d0 : DNet) (rec1 : Int → DNet → Option DNet) (K1 : DNet → Option DNet) (i33 : Int) (z34 : DNet) : Option DNet :=
  (bif (decide (i33 < (d0.agents.length : Int))) then ((getI d0.agents i33).bind fun x37 => ((m_impl_copyAgent x37).bind fun y57 => ((mustP (z34.agents.length + ([y57]).length ≤ 4294967296)).bind fun _ => (rec1 (i33 + 1) (⟨(z34.agents ++ [y57])⟩ : DNet))))) else (K1 z34))
def m_impl_copyNet_L1 (d0 : DNet) (K1 : DNet → Option DNet) : Nat → Int → DNet → Option DNet
  | 0, _, _ => none
  | g + 1, i33, z34 => m_impl_copyNet_B1 d0 (m_impl_copyNet_L1 d0 K1 g) K1 i33 z34
def m_impl_copyNet (d0 : DNet) : Option DNet :=
  ((mustP (d0.agents.length ≤ 4294967296)).bind fun _ => (m_impl_copyNet_L1 d0 m_impl_copyNet_A1 (d0.agents.length + 1) 0 (⟨([] : List DAgent)⟩ : DNet)))
set_option maxHeartbeats 2000000 in
theorem c_m_impl_copyNet (d0 : DNet) (r : DNet) (hm : m_impl_copyNet d0 = some r) (v0 : Value) (w : World) (hv0 : St netRd w v0 d0) :
    Calls Try.prog 132 #[v0] w fun e w' => (∃ (v0 : Value) (bs0 : List Nat), e = .returned (.agg #[v0]) ∧ OwN 89 agentOw 5 w' w.heap.size v0 r.agents bs0) ∧ Below w.heap.size w w' := by
  obtain ⟨csa0, rfl, ⟨A1, n1, c1, rfl, ⟨h1, r1⟩⟩⟩ := hv0
  have e1 := h1.len; subst e1
  have q1 := len_le r1
  have T := Below.refl w.heap.size w
  unfold m_impl_copyNet at hm
  refine enter 27 Try.func132 rfl rfl rfl ?_
  intro f hf
  have s0 : f 0 = .agg #[.slice A1 d0.agents.length c1] := hf 0 _ rfl
  refine wp_seq ?_
  refine wp_rl rfl ?_
  refine RL.box rfl s0 (fun w2 B3 hb4 szw2 => ?_)
  replace B3 : Blk w2 w.heap.size 30 #[.slice A1 d0.agents.length c1] := B3
  have GB3 : w.heap.size ≤ w.heap.size := T.size
  have T := Tt T hb4
  refine RL.alloc (z := .agg #[.slice none 0 0]) rfl (by kernel_rfl) (fun w6 B7 hb8 szw6 => ?_)
  replace B7 : Blk w6 w2.heap.size 30 #[.slice none 0 0] := B7
  have GB7 : w.heap.size ≤ w2.heap.size := T.size
  have Eob9_ob5 := Nat.ne_of_lt B3.lt
  have B3 := blkT B3 hb8
  have T := Tt T hb8
  refine RL.nil ?_
  refine then_n ?_
  refine wp_seq ?_
  refine wp_rl rfl ?_
  refine RL.y rfl (Y.fieldAddr (off := 0) rfl (by kernel_rfl)) ?_
  refine RL.y rfl (Y.load (v := .slice A1 d0.agents.length c1) rfl (by kernel_rfl) (eqC (blkCell B3 (i := 0) rfl))) ?_
  refine RL.y rfl (Y.len (by kernel_rfl) rfl) ?_
  obtain ⟨_, m10, hm⟩ := bnd hm
  have hk11 := mustP_some m10
  refine RL.make0N (O := agentOw) (n := d0.agents.length) app_impl_Agent rfl rfl rfl hk11 (fun w12 G13 hb14 szw12 => ?_)
  replace G13 := OwN.mono G13 T.size
  have z17 := Ap.farL (g := w6.heap.size) (one_hi B3.lt)
  have z18 := Ap.farL (g := w6.heap.size) (one_hi B7.lt)
  have B3 := blkT B3 hb14
  have B7 := blkT B7 hb14
  have T := Tt T hb14
  refine RL.y rfl (Y.build1 (cells := #[.slice (some ⟨w6.heap.size, 0, none⟩) 0 d0.agents.length]) rfl (by kernel_rfl) (by kernel_rfl)) ?_
  refine RL.alloc (z := .agg #[.slice none 0 0]) rfl (by kernel_rfl) (fun w19 B20 hb21 szw19 => ?_)
  replace B20 : Blk w19 w12.heap.size 30 #[.slice none 0 0] := B20
  have GB20 : w.heap.size ≤ w12.heap.size := T.size
  have Eob22_ob5 := Nat.ne_of_lt B3.lt
  have Eob22_ob9 := Nat.ne_of_lt B7.lt
  have No15_ob22 := Ap.far (OwN.hi G13)
  have B3 := blkT B3 hb21
  have B7 := blkT B7 hb21
  have G13 := OwN.below agentOw_ok G13 hb21
  have T := Tt T hb21
  refine RL.store (v := .agg #[.slice (some ⟨w6.heap.size, 0, none⟩) 0 d0.agents.length]) (cs' := #[.slice (some ⟨w6.heap.size, 0, none⟩) 0 d0.agents.length]) rfl rfl rfl B20 (by kernel_rfl) (by rfl) (by rfl) (by rfl) (fun w23 B24 ho25 => ?_)
  have szw23 := ho25.size
  have B3 := B3.only_ ho25 (by intro hin; simp at hin; exact Eob22_ob5 hin)
  have B7 := B7.only_ ho25 (by intro hin; simp at hin; exact Eob22_ob9 hin)
  have G13 := OwN.only agentOw_ok G13 ho25 (Ap.one No15_ob22)
  have T := T.trans (ho25.below (by first | (simp; done) | (simp; omega)))
  refine RL.nil ?_
  refine then_n ?_
  refine wp_seq ?_
  refine wp_seq ?_
  refine wp_rs rfl ?_
  refine RQ.y rfl (Y.fieldAddr (off := 0) rfl (by kernel_rfl)) ?_
  refine RQ.y rfl (Y.load (v := .slice A1 d0.agents.length c1) rfl (by kernel_rfl) (eqC (blkCell B3 (i := 0) rfl))) ?_
  refine RQ.y rfl (Y.len (by kernel_rfl) rfl) ?_
  refine RQ.y rfl (Y.move (v := .int .i64 0) rfl) ?_
  refine RQ.nil ?_
  refine then_n ?_
  refine wp_block ?_
  obtain ⟨K1, hK1, hm⟩ : ∃ K, K = m_impl_copyNet_A1 ∧ m_impl_copyNet_L1 d0 K (d0.agents.length + 1) 0 (⟨([] : List DAgent)⟩ : DNet) = some r := ⟨_, rfl, hm⟩
  refine wp_loopX (fun g f w' => ∃ (i33 : Int) (z34 : DNet) (uz34_0 : Value) (bsz34_0 : List Nat), f 2 = .pointer (some ⟨w2.heap.size, 0, none⟩) ∧ f 3 = .pointer (some ⟨w12.heap.size, 0, none⟩) ∧ f 12 = .slice A1 d0.agents.length c1 ∧ f 13 = .int .i64 (d0.agents.length : Int) ∧ f 14 = .int .i64 i33 ∧ 0 ≤ i33 ∧ Blk w' w12.heap.size 30 #[uz34_0] ∧ OwN 89 agentOw 5 w' w.heap.size uz34_0 z34.agents bsz34_0 ∧ Ap bsz34_0 [w2.heap.size] ∧ Ap bsz34_0 [w12.heap.size] ∧ Blk w' w2.heap.size 30 #[.slice none 0 0] ∧ Below w.heap.size w w' ∧ m_impl_copyNet_L1 d0 K1 g i33 z34 = some r) 0 (fun f w' => ∃ (z26 : DNet) (uz26_0 : Value) (bsz26_0 : List Nat), f 2 = .pointer (some ⟨w2.heap.size, 0, none⟩) ∧ f 3 = .pointer (some ⟨w12.heap.size, 0, none⟩) ∧ Blk w' w12.heap.size 30 #[uz26_0] ∧ OwN 89 agentOw 5 w' w.heap.size uz26_0 z26.agents bsz26_0 ∧ Ap bsz26_0 [w2.heap.size] ∧ Ap bsz26_0 [w12.heap.size] ∧ Blk w' w2.heap.size 30 #[.slice none 0 0] ∧ Below w.heap.size w w' ∧ m_impl_copyNet_A1 z26 = some r) (d0.agents.length + 1) ⟨0, (⟨([] : List DAgent)⟩ : DNet), (.slice (some ⟨w6.heap.size, 0, none⟩) 0 d0.agents.length), ([w6.heap.size]), rfl, rfl, rfl, rfl, rfl, (by omega), B24, G13, z18, No15_ob22, B7, T, hm⟩ ?_ ?_
  · rintro f w27 ⟨z26, uz26_0, bsz26_0, s2_1x, s3_1x, Bz26, Guz26_0, Noz26_0_ob9, Noz26_0_ob22, B7, T, hm⟩
    unfold m_impl_copyNet_A1 at hm
    refine blk_hit (then_n ?_)
    refine wp_seq ?_
    refine wp_rl rfl ?_
    refine RL.y rfl (Y.loadN (cs := [uz26_0]) s3_1x (by kernel_rfl) (cells1 (eqC (blkCell Bz26 (i := 0) rfl)))) ?_
    obtain ⟨A28, c29, rfl⟩ := OwN.form Guz26_0
    have qbA28 := OwN.bound Guz26_0
    refine RL.store (v := .agg #[.slice A28 z26.agents.length c29]) (cs' := #[.slice A28 z26.agents.length c29]) rfl s2_1x rfl B7 (by kernel_rfl) (by rfl) (by rfl) (by rfl) (fun w30 B31 ho32 => ?_)
    have szw30 := ho32.size
    have Bz26 := Bz26.only_ ho32 (by intro hin; simp at hin; exact Eob22_ob9.symm hin)
    have Guz26_0 := OwN.only agentOw_ok Guz26_0 ho32 (Ap.one Noz26_0_ob9)
    have T := T.trans (ho32.below (by first | (simp; done) | (simp; omega)))
    refine RL.nil ?_
    refine then_n ?_
    refine wp_ret ?_
    obtain rfl := Option.some.inj hm
    exact (retc (cs := [.slice A28 z26.agents.length c29]) rfl rfl s2_1x (by kernel_rfl) (blkCells B31) ⟨⟨_, _, rfl, Guz26_0⟩, T⟩)
  · rintro g f w35 ⟨i33, z34, uz34_0, bsz34_0, s2_1, s3_1, s12_1, s13_1, s14_1, nn14_1, Bz34, Guz34_0, Noz34_0_ob9, Noz34_0_ob22, B7, T, hm⟩
    rcases g with _ | g
    · simp only [m_impl_copyNet_L1] at hm; cases hm
    obtain ⟨rec1, hrec1, hm⟩ : ∃ z, z = m_impl_copyNet_L1 d0 K1 g ∧ m_impl_copyNet_B1 d0 z K1 i33 z34 = some r := ⟨_, rfl, hm⟩
    unfold m_impl_copyNet_B1 at hm
    refine wp_seq ?_
    refine wp_rs rfl ?_
    refine RQ.y rfl (Y.binI (v := .bool (decide (i33 < (d0.agents.length : Int)))) s14_1 s13_1 rfl) ?_
    refine RQ.nil ?_
    refine then_n ?_
    refine wp_seq ?_
    rcases bcases (decide (i33 < (d0.agents.length : Int))) with c36 | c36
    · replace hm := cF c36 hm
      have pc36 := of_decide_eq_false c36
      refine cond_f rfl (vb rfl c36) ?_
      refine wp_exit ?_
      exact (then_x (then_x (hit_x ⟨_, rfl, ⟨z34, (uz34_0), bsz34_0, s2_1, s3_1, Bz34, Guz34_0, Noz34_0_ob9, Noz34_0_ob22, B7, T, (by rw [hK1] at hm; exact hm)⟩⟩)))
    · replace hm := cT c36 hm
      have pc36 := of_decide_eq_true c36
      refine cond_t rfl (vb rfl c36) ?_
      refine wp_skip ?_
      refine then_n ?_
      refine wp_seq ?_
      refine wp_block ?_
      refine wp_seq ?_
      refine wp_rl rfl ?_
      obtain ⟨x37, hx40, hm⟩ := bnd hm
      obtain ⟨k38, hk41, hl42, hx40⟩ := getI_some hx40
      obtain ⟨b44, o45, rfl, hbb44⟩ := h1.addr (by omega)
      obtain ⟨cs39, hRcs39, hc43⟩ := h1.el hx40
      have hScs39 := hRcs39
      obtain ⟨A46, n46, c46, A47, n47, c47, rfl, ⟨h46, r46⟩, ⟨h47, r47⟩⟩ := hRcs39
      have e46 := h46.len; subst e46
      have q46 := len_le r46
      have e47 := h47.len; subst e47
      have q47 := len_le r47
      refine RL.y rfl (Y.indexAddr (m := k38) (sz := 5) s12_1 s14_1 hk41 hl42 (by kernel_rfl)) ?_
      refine RL.y rfl (Y.loadN (cs := [.int .i64 x37.kind, .int .i64 x37.level, .int .i64 x37.value, .slice A46 x37.data.length c46, .slice A47 x37.ports.length c47]) rfl (by kernel_rfl) (cells5 (eqC (cellT T (hc43 0 _ rfl))) (eqC (cellT T (hc43 1 _ rfl))) (eqC (cellT T (hc43 2 _ rfl))) (eqC (cellT T (hc43 3 _ rfl))) (eqC (cellT T (hc43 4 _ rfl))))) ?_
      refine RL.alloc (z := .agg #[.int .i64 0, .int .i64 0, .int .i64 0, .slice none 0 0, .slice none 0 0]) rfl (by kernel_rfl) (fun w48 B49 hb50 szw48 => ?_)
      replace B49 : Blk w48 w35.heap.size 89 #[.int .i64 0, .int .i64 0, .int .i64 0, .slice none 0 0, .slice none 0 0] := B49
      have GB49 : w.heap.size ≤ w35.heap.size := T.size
      have Eob51_ob9 := Nat.ne_of_lt B7.lt
      have Eob51_ob22 := Nat.ne_of_lt Bz34.lt
      have Noz34_0_ob51 := Ap.far (OwN.hi Guz34_0)
      have B7 := blkT B7 hb50
      have Bz34 := blkT Bz34 hb50
      have Guz34_0 := OwN.below agentOw_ok Guz34_0 hb50
      have T := Tt T hb50
      refine RL.store (v := .agg #[.int .i64 x37.kind, .int .i64 x37.level, .int .i64 x37.value, .slice A46 x37.data.length c46, .slice A47 x37.ports.length c47]) (cs' := #[.int .i64 x37.kind, .int .i64 x37.level, .int .i64 x37.value, .slice A46 x37.data.length c46, .slice A47 x37.ports.length c47]) rfl rfl rfl B49 (by kernel_rfl) (by rfl) (by rfl) (by rfl) (fun w52 B53 ho54 => ?_)
      have szw52 := ho54.size
      have B7 := B7.only_ ho54 (by intro hin; simp at hin; exact Eob51_ob9 hin)
      have Bz34 := Bz34.only_ ho54 (by intro hin; simp at hin; exact Eob51_ob22 hin)
      have Guz34_0 := OwN.only agentOw_ok Guz34_0 ho54 (Ap.one Noz34_0_ob51)
      have T := T.trans (ho54.below (by first | (simp; done) | (simp; omega)))
      refine RL.nil ?_
      refine then_n ?_
      refine wp_rgt (fun w' => Below w.heap.size w w' ∧ Blk w' w35.heap.size 89 #[.int .i64 x37.kind, .int .i64 x37.level, .int .i64 x37.value, .slice A46 x37.data.length c46, .slice A47 x37.ports.length c47]) (.q 0 (.q 2 (.two 1 (.a 3 (.a 4 (.a 5 (.q 6 (.a 7 .nil))))) 3 (.two 1 (.a 4 (.a 5 (.q 6 (.a 7 .nil)))) 4 (.a 1 (.a 5 (.q 6 (.a 7 .nil)))))))) (by kernel_rfl) (by kernel_rfl) (fun w55 hb56 szw55 => ?_)
      have B7 := blkT B7 hb56
      have Bz34 := blkT Bz34 hb56
      have B53 := blkT B53 hb56
      have Guz34_0 := OwN.below agentOw_ok Guz34_0 hb56
      have T := Tt T hb56
      refine ⟨⟨T, B53⟩, ?_⟩
      refine RT.y rfl rfl (Y.fieldAddr (off := 0) s3_1 (by kernel_rfl)) ?_
      refine RT.y rfl rfl (Y.loadN (cs := [.int .i64 x37.kind, .int .i64 x37.level, .int .i64 x37.value, .slice A46 x37.data.length c46, .slice A47 x37.ports.length c47]) rfl (by kernel_rfl) (cells5 (fun w' hS => (blkCell hS.2 (i := 0) rfl)) (fun w' hS => (blkCell hS.2 (i := 1) rfl)) (fun w' hS => (blkCell hS.2 (i := 2) rfl)) (fun w' hS => (blkCell hS.2 (i := 3) rfl)) (fun w' hS => (blkCell hS.2 (i := 4) rfl)))) ?_
      refine RT.both rfl rfl ?_ ?_
      · refine RL.y rfl (Y.load (v := uz34_0) rfl (by kernel_rfl) (eqC (blkCell Bz34 (i := 0) rfl))) ?_
        refine RL.nil ⟨⟨T, B53⟩, ?_⟩
        refine RT.act rfl ?_
        obtain ⟨y57, e58, hm⟩ := bnd hm
        refine RL.call rfl (am1 rfl) (by kernel_rfl) ((c_m_impl_copyAgent x37 _ e58 _ _ (stArg (R := agentRd) ⟨_, _, _, _, _, _, rfl, ⟨SlAt.now intRd_ok h46 (Nat.le_refl _) T, r46⟩, ⟨SlAt.now portRd_ok h47 (Nat.le_refl _) T, r47⟩⟩)).mono ?_)
        rintro _ w65 ⟨⟨v59, v62, rfl, G60, G63, Ro61_o64⟩, hb66⟩
        refine ⟨_, rfl, ?_⟩
        have szw65 := hb66.size
        have T0w65 := T.size
        have Zo61_ob9 := ap_ne (Ap.new (OwF.flo G60) (one_hi B7.lt))
        have Zo61_ob22 := ap_ne (Ap.new (OwF.flo G60) (one_hi Bz34.lt))
        have Zo61_ob51 := ap_ne (Ap.new (OwF.flo G60) (one_hi B53.lt))
        have Zo61_oz34_0 : Ap (fb v59) bsz34_0 := (Ap.new (OwF.flo G60) (OwN.hi Guz34_0))
        have Zo64_ob9 := ap_ne (Ap.new (OwF.flo G63) (one_hi B7.lt))
        have Zo64_ob22 := ap_ne (Ap.new (OwF.flo G63) (one_hi Bz34.lt))
        have Zo64_ob51 := ap_ne (Ap.new (OwF.flo G63) (one_hi B53.lt))
        have Zo64_oz34_0 : Ap (fb v62) bsz34_0 := (Ap.new (OwF.flo G63) (OwN.hi Guz34_0))
        have B7 := blkT B7 hb66
        have Bz34 := blkT Bz34 hb66
        have B53 := blkT B53 hb66
        have Guz34_0 := OwN.below agentOw_ok Guz34_0 hb66
        have T := Tt T hb66
        replace G60 := OwF.mono G60 T0w65
        replace G63 := OwF.mono G63 T0w65
        refine RL.nil ⟨⟨T, B53⟩, ?_⟩
        refine RT.act rfl ?_
        obtain ⟨A71, c72, rfl⟩ := OwF.form G60
        have qbA71 := OwF.bound G60
        obtain ⟨A73, c74, rfl⟩ := OwF.form G63
        have qbA73 := OwF.bound G63
        refine RL.bslice (e := 89) (cells := #[.int .i64 y57.kind, .int .i64 y57.level, .int .i64 y57.value, .slice A71 y57.data.length c72, .slice A73 y57.ports.length c74]) rfl (pm1 rfl) (by kernel_rfl) (fun w67 B68 hb69 szw67 => ?_)
        have ZB68 : w.heap.size ≤ w65.heap.size := T.size
        have q75 := OwF.fboth G60 (Nat.le_refl _)
        have q76 := OwF.fboth G63 (Nat.le_refl _)
        have z77 := Ap.cons (Ap.farL (one_hi B7.lt)) (Ap.append (ne_ap Zo61_ob9) (ne_ap Zo64_ob9))
        have z78 := Ap.cons (Ap.farL (one_hi Bz34.lt)) (Ap.append (ne_ap Zo61_ob22) (ne_ap Zo64_ob22))
        have z79 := Ap.cons (Ap.farL (one_hi B53.lt)) (Ap.append (ne_ap Zo61_ob51) (ne_ap Zo64_ob51))
        have z80 := Ap.cons (Ap.farL (OwN.hi Guz34_0)) (Ap.append Zo61_oz34_0 Zo64_oz34_0)
        have B7 := blkT B7 hb69
        have Bz34 := blkT Bz34 hb69
        have B53 := blkT B53 hb69
        have Guz34_0 := OwN.below agentOw_ok Guz34_0 hb69
        have G60 := OwF.below G60 hb69
        have G63 := OwF.below G63 hb69
        have T := Tt T hb69
        obtain ⟨l82, a81, nd83, sb84, r85⟩ := OwF.own2 fI G60
        obtain ⟨l87, a86, nd88, sb89, r90⟩ := OwF.own2 fPort G63
        have G91 : OwN 89 agentOw 5 w67 w.heap.size (.slice (some ⟨w65.heap.size, 0, none⟩) 1 1) [y57] (w65.heap.size :: ((fb (.slice A71 y57.data.length c72)) ++ (fb (.slice A73 y57.ports.length c74)))) := OwN.lit1 (b1 := (l82 ++ l87)) B68 ZB68 ⟨_, _, _, _, _, _, l82, l87, rfl, ⟨a81, r85⟩, ⟨a86, r90⟩, rfl⟩ agentOw_ok (nodup2 nd83 nd88 sb84 sb89 (Dj.ap Ro61_o64)) (sub2 sb84 sb89) (all2 q75 q76)
        refine RL.nil ⟨⟨T, B53⟩, ?_⟩
        refine RT.act rfl ?_
        obtain ⟨_, m93, hm⟩ := bnd hm
        have hk94 := mustP_some m93
        refine RL.appendN agentOw_ok agentOw_one (by decide) app_impl_Agent rfl rfl rfl Guz34_0 G91 (Ap.symm z80) T.size hk94 (fun v95 w96 bs97 G98 hgr99 hbl100 hnb101 => ?_)
        have szw96 := hbl100.size
        have z103 := Ap.app hnb101 Noz34_0_ob9 z77 (one_hi B7.lt)
        have z104 := Ap.app hnb101 Noz34_0_ob22 z78 (one_hi Bz34.lt)
        have z105 := Ap.app hnb101 Noz34_0_ob51 z79 (one_hi B53.lt)
        have B7 := Blk.kept B7 hgr99 (OwN.neB Guz34_0 Noz34_0_ob9)
        have Bz34 := Blk.kept Bz34 hgr99 (OwN.neB Guz34_0 Noz34_0_ob22)
        have B53 := Blk.kept B53 hgr99 (OwN.neB Guz34_0 Noz34_0_ob51)
        have T := T.trans hbl100
        refine RL.nil ⟨⟨T, B53⟩, ?_⟩
        refine RT.y rfl rfl (Y.fieldAddr (off := 0) s3_1 (by kernel_rfl)) ?_
        refine RT.act rfl ?_
        obtain ⟨A106, c107, rfl⟩ := OwN.form G98
        have qbA106 := OwN.bound G98
        refine RL.store (v := .slice A106 ((z34.agents ++ [y57]).length) c107) (cs' := #[.slice A106 ((z34.agents ++ [y57]).length) c107]) rfl rfl rfl Bz34 (by kernel_rfl) (by rfl) (by rfl) (by rfl) (fun w108 B109 ho110 => ?_)
        have szw108 := ho110.size
        have B7 := B7.only_ ho110 (by intro hin; simp at hin; exact Eob22_ob9 hin)
        have B53 := B53.only_ ho110 (by intro hin; simp at hin; exact Eob51_ob22.symm hin)
        have G98 := OwN.only agentOw_ok G98 ho110 (Ap.one z104)
        have T := T.trans (ho110.below (by first | (simp; done) | (simp; omega)))
        refine RL.nil ⟨⟨T, B53⟩, ?_⟩
        refine RT.nil_ ?_
        refine blk_n (then_n ?_)
        refine wp_rs rfl ?_
        refine RQ.y rfl (Y.binI s14_1 rfl (binI_add (m := i33) (by omega))) ?_
        refine RQ.y rfl (Y.move (v := .int .i64 (i33 + 1)) rfl) ?_
        refine RQ.nil ?_
        exact (then_n ⟨g, _, Nat.lt_succ_self _, rfl, ⟨(i33 + 1), (⟨(z34.agents ++ [y57])⟩ : DNet), (.slice A106 ((z34.agents ++ [y57]).length) c107), bs97, s2_1, s3_1, s12_1, s13_1, rfl, (by omega), B109, G98, z103, z104, B7, T, (by rw [← hrec1]; exact hm)⟩⟩)
      · obtain ⟨y111, e112, hm⟩ := bnd hm
        refine RL.call rfl (am1 rfl) (by kernel_rfl) ((c_m_impl_copyAgent x37 _ e112 _ _ (stArg (R := agentRd) ⟨_, _, _, _, _, _, rfl, ⟨SlAt.now intRd_ok h46 (Nat.le_refl _) T, r46⟩, ⟨SlAt.now portRd_ok h47 (Nat.le_refl _) T, r47⟩⟩)).mono ?_)
        rintro _ w119 ⟨⟨v113, v116, rfl, G114, G117, Ro115_o118⟩, hb120⟩
        refine ⟨_, rfl, ?_⟩
        have szw119 := hb120.size
        have T0w119 := T.size
        have Zo115_ob9 := ap_ne (Ap.new (OwF.flo G114) (one_hi B7.lt))
        have Zo115_ob22 := ap_ne (Ap.new (OwF.flo G114) (one_hi Bz34.lt))
        have Zo115_ob51 := ap_ne (Ap.new (OwF.flo G114) (one_hi B53.lt))
        have Zo115_oz34_0 : Ap (fb v113) bsz34_0 := (Ap.new (OwF.flo G114) (OwN.hi Guz34_0))
        have Zo118_ob9 := ap_ne (Ap.new (OwF.flo G117) (one_hi B7.lt))
        have Zo118_ob22 := ap_ne (Ap.new (OwF.flo G117) (one_hi Bz34.lt))
        have Zo118_ob51 := ap_ne (Ap.new (OwF.flo G117) (one_hi B53.lt))
        have Zo118_oz34_0 : Ap (fb v116) bsz34_0 := (Ap.new (OwF.flo G117) (OwN.hi Guz34_0))
        have B7 := blkT B7 hb120
        have Bz34 := blkT Bz34 hb120
        have B53 := blkT B53 hb120
        have Guz34_0 := OwN.below agentOw_ok Guz34_0 hb120
        have T := Tt T hb120
        replace G114 := OwF.mono G114 T0w119
        replace G117 := OwF.mono G117 T0w119
        refine RL.nil ⟨⟨T, B53⟩, ?_⟩
        refine RT.both rfl rfl ?_ ?_
        · refine RL.y rfl (Y.load (v := uz34_0) rfl (by kernel_rfl) (eqC (blkCell Bz34 (i := 0) rfl))) ?_
          refine RL.nil ⟨⟨T, B53⟩, ?_⟩
          refine RT.act rfl ?_
          obtain ⟨A125, c126, rfl⟩ := OwF.form G114
          have qbA125 := OwF.bound G114
          obtain ⟨A127, c128, rfl⟩ := OwF.form G117
          have qbA127 := OwF.bound G117
          refine RL.bslice (e := 89) (cells := #[.int .i64 y111.kind, .int .i64 y111.level, .int .i64 y111.value, .slice A125 y111.data.length c126, .slice A127 y111.ports.length c128]) rfl (pm1 rfl) (by kernel_rfl) (fun w121 B122 hb123 szw121 => ?_)
          have ZB122 : w.heap.size ≤ w119.heap.size := T.size
          have q129 := OwF.fboth G114 (Nat.le_refl _)
          have q130 := OwF.fboth G117 (Nat.le_refl _)
          have z131 := Ap.cons (Ap.farL (one_hi B7.lt)) (Ap.append (ne_ap Zo115_ob9) (ne_ap Zo118_ob9))
          have z132 := Ap.cons (Ap.farL (one_hi Bz34.lt)) (Ap.append (ne_ap Zo115_ob22) (ne_ap Zo118_ob22))
          have z133 := Ap.cons (Ap.farL (one_hi B53.lt)) (Ap.append (ne_ap Zo115_ob51) (ne_ap Zo118_ob51))
          have z134 := Ap.cons (Ap.farL (OwN.hi Guz34_0)) (Ap.append Zo115_oz34_0 Zo118_oz34_0)
          have B7 := blkT B7 hb123
          have Bz34 := blkT Bz34 hb123
          have B53 := blkT B53 hb123
          have Guz34_0 := OwN.below agentOw_ok Guz34_0 hb123
          have G114 := OwF.below G114 hb123
          have G117 := OwF.below G117 hb123
          have T := Tt T hb123
          obtain ⟨l136, a135, nd137, sb138, r139⟩ := OwF.own2 fI G114
          obtain ⟨l141, a140, nd142, sb143, r144⟩ := OwF.own2 fPort G117
          have G145 : OwN 89 agentOw 5 w121 w.heap.size (.slice (some ⟨w119.heap.size, 0, none⟩) 1 1) [y111] (w119.heap.size :: ((fb (.slice A125 y111.data.length c126)) ++ (fb (.slice A127 y111.ports.length c128)))) := OwN.lit1 (b1 := (l136 ++ l141)) B122 ZB122 ⟨_, _, _, _, _, _, l136, l141, rfl, ⟨a135, r139⟩, ⟨a140, r144⟩, rfl⟩ agentOw_ok (nodup2 nd137 nd142 sb138 sb143 (Dj.ap Ro115_o118)) (sub2 sb138 sb143) (all2 q129 q130)
          refine RL.nil ⟨⟨T, B53⟩, ?_⟩
          refine RT.act rfl ?_
          obtain ⟨_, m147, hm⟩ := bnd hm
          have hk148 := mustP_some m147
          refine RL.appendN agentOw_ok agentOw_one (by decide) app_impl_Agent rfl rfl rfl Guz34_0 G145 (Ap.symm z134) T.size hk148 (fun v149 w150 bs151 G152 hgr153 hbl154 hnb155 => ?_)
          have szw150 := hbl154.size
          have z157 := Ap.app hnb155 Noz34_0_ob9 z131 (one_hi B7.lt)
          have z158 := Ap.app hnb155 Noz34_0_ob22 z132 (one_hi Bz34.lt)
          have z159 := Ap.app hnb155 Noz34_0_ob51 z133 (one_hi B53.lt)
          have B7 := Blk.kept B7 hgr153 (OwN.neB Guz34_0 Noz34_0_ob9)
          have Bz34 := Blk.kept Bz34 hgr153 (OwN.neB Guz34_0 Noz34_0_ob22)
          have B53 := Blk.kept B53 hgr153 (OwN.neB Guz34_0 Noz34_0_ob51)
          have T := T.trans hbl154
          refine RL.nil ⟨⟨T, B53⟩, ?_⟩
          refine RT.y rfl rfl (Y.fieldAddr (off := 0) s3_1 (by kernel_rfl)) ?_
          refine RT.act rfl ?_
          obtain ⟨A160, c161, rfl⟩ := OwN.form G152
          have qbA160 := OwN.bound G152
          refine RL.store (v := .slice A160 ((z34.agents ++ [y111]).length) c161) (cs' := #[.slice A160 ((z34.agents ++ [y111]).length) c161]) rfl rfl rfl Bz34 (by kernel_rfl) (by rfl) (by rfl) (by rfl) (fun w162 B163 ho164 => ?_)
          have szw162 := ho164.size
          have B7 := B7.only_ ho164 (by intro hin; simp at hin; exact Eob22_ob9 hin)
          have B53 := B53.only_ ho164 (by intro hin; simp at hin; exact Eob51_ob22.symm hin)
          have G152 := OwN.only agentOw_ok G152 ho164 (Ap.one z158)
          have T := T.trans (ho164.below (by first | (simp; done) | (simp; omega)))
          refine RL.nil ⟨⟨T, B53⟩, ?_⟩
          refine RT.nil_ ?_
          refine blk_n (then_n ?_)
          refine wp_rs rfl ?_
          refine RQ.y rfl (Y.binI s14_1 rfl (binI_add (m := i33) (by omega))) ?_
          refine RQ.y rfl (Y.move (v := .int .i64 (i33 + 1)) rfl) ?_
          refine RQ.nil ?_
          exact (then_n ⟨g, _, Nat.lt_succ_self _, rfl, ⟨(i33 + 1), (⟨(z34.agents ++ [y111])⟩ : DNet), (.slice A160 ((z34.agents ++ [y111]).length) c161), bs151, s2_1, s3_1, s12_1, s13_1, rfl, (by omega), B163, G152, z157, z158, B7, T, (by rw [← hrec1]; exact hm)⟩⟩)
        · obtain ⟨A169, c170, rfl⟩ := OwF.form G114
          have qbA169 := OwF.bound G114
          obtain ⟨A171, c172, rfl⟩ := OwF.form G117
          have qbA171 := OwF.bound G117
          refine RL.bslice (e := 89) (cells := #[.int .i64 y111.kind, .int .i64 y111.level, .int .i64 y111.value, .slice A169 y111.data.length c170, .slice A171 y111.ports.length c172]) rfl (pm1 rfl) (by kernel_rfl) (fun w165 B166 hb167 szw165 => ?_)
          have ZB166 : w.heap.size ≤ w119.heap.size := T.size
          have q173 := OwF.fboth G114 (Nat.le_refl _)
          have q174 := OwF.fboth G117 (Nat.le_refl _)
          have z175 := Ap.cons (Ap.farL (one_hi B7.lt)) (Ap.append (ne_ap Zo115_ob9) (ne_ap Zo118_ob9))
          have z176 := Ap.cons (Ap.farL (one_hi Bz34.lt)) (Ap.append (ne_ap Zo115_ob22) (ne_ap Zo118_ob22))
          have z177 := Ap.cons (Ap.farL (one_hi B53.lt)) (Ap.append (ne_ap Zo115_ob51) (ne_ap Zo118_ob51))
          have z178 := Ap.cons (Ap.farL (OwN.hi Guz34_0)) (Ap.append Zo115_oz34_0 Zo118_oz34_0)
          have B7 := blkT B7 hb167
          have Bz34 := blkT Bz34 hb167
          have B53 := blkT B53 hb167
          have Guz34_0 := OwN.below agentOw_ok Guz34_0 hb167
          have G114 := OwF.below G114 hb167
          have G117 := OwF.below G117 hb167
          have T := Tt T hb167
          obtain ⟨l180, a179, nd181, sb182, r183⟩ := OwF.own2 fI G114
          obtain ⟨l185, a184, nd186, sb187, r188⟩ := OwF.own2 fPort G117
          have G189 : OwN 89 agentOw 5 w165 w.heap.size (.slice (some ⟨w119.heap.size, 0, none⟩) 1 1) [y111] (w119.heap.size :: ((fb (.slice A169 y111.data.length c170)) ++ (fb (.slice A171 y111.ports.length c172)))) := OwN.lit1 (b1 := (l180 ++ l185)) B166 ZB166 ⟨_, _, _, _, _, _, l180, l185, rfl, ⟨a179, r183⟩, ⟨a184, r188⟩, rfl⟩ agentOw_ok (nodup2 nd181 nd186 sb182 sb187 (Dj.ap Ro115_o118)) (sub2 sb182 sb187) (all2 q173 q174)
          refine RL.nil ⟨⟨T, B53⟩, ?_⟩
          refine RT.act rfl ?_
          refine RL.y rfl (Y.load (v := uz34_0) rfl (by kernel_rfl) (eqC (blkCell Bz34 (i := 0) rfl))) ?_
          refine RL.nil ⟨⟨T, B53⟩, ?_⟩
          refine RT.act rfl ?_
          obtain ⟨_, m191, hm⟩ := bnd hm
          have hk192 := mustP_some m191
          refine RL.appendN agentOw_ok agentOw_one (by decide) app_impl_Agent rfl rfl rfl Guz34_0 G189 (Ap.symm z178) T.size hk192 (fun v193 w194 bs195 G196 hgr197 hbl198 hnb199 => ?_)
          have szw194 := hbl198.size
          have z201 := Ap.app hnb199 Noz34_0_ob9 z175 (one_hi B7.lt)
          have z202 := Ap.app hnb199 Noz34_0_ob22 z176 (one_hi Bz34.lt)
          have z203 := Ap.app hnb199 Noz34_0_ob51 z177 (one_hi B53.lt)
          have B7 := Blk.kept B7 hgr197 (OwN.neB Guz34_0 Noz34_0_ob9)
          have Bz34 := Blk.kept Bz34 hgr197 (OwN.neB Guz34_0 Noz34_0_ob22)
          have B53 := Blk.kept B53 hgr197 (OwN.neB Guz34_0 Noz34_0_ob51)
          have T := T.trans hbl198
          refine RL.nil ⟨⟨T, B53⟩, ?_⟩
          refine RT.y rfl rfl (Y.fieldAddr (off := 0) s3_1 (by kernel_rfl)) ?_
          refine RT.act rfl ?_
          obtain ⟨A204, c205, rfl⟩ := OwN.form G196
          have qbA204 := OwN.bound G196
          refine RL.store (v := .slice A204 ((z34.agents ++ [y111]).length) c205) (cs' := #[.slice A204 ((z34.agents ++ [y111]).length) c205]) rfl rfl rfl Bz34 (by kernel_rfl) (by rfl) (by rfl) (by rfl) (fun w206 B207 ho208 => ?_)
          have szw206 := ho208.size
          have B7 := B7.only_ ho208 (by intro hin; simp at hin; exact Eob22_ob9 hin)
          have B53 := B53.only_ ho208 (by intro hin; simp at hin; exact Eob51_ob22.symm hin)
          have G196 := OwN.only agentOw_ok G196 ho208 (Ap.one z202)
          have T := T.trans (ho208.below (by first | (simp; done) | (simp; omega)))
          refine RL.nil ⟨⟨T, B53⟩, ?_⟩
          refine RT.nil_ ?_
          refine blk_n (then_n ?_)
          refine wp_rs rfl ?_
          refine RQ.y rfl (Y.binI s14_1 rfl (binI_add (m := i33) (by omega))) ?_
          refine RQ.y rfl (Y.move (v := .int .i64 (i33 + 1)) rfl) ?_
          refine RQ.nil ?_
          exact (then_n ⟨g, _, Nat.lt_succ_self _, rfl, ⟨(i33 + 1), (⟨(z34.agents ++ [y111])⟩ : DNet), (.slice A204 ((z34.agents ++ [y111]).length) c205), bs195, s2_1, s3_1, s12_1, s13_1, rfl, (by omega), B207, G196, z201, z202, B7, T, (by rw [← hrec1]; exact hm)⟩⟩)
def m_impl_shifted_A1 (z27 : DNet) (z28 : DNet) : Option (DNet × Bool) :=
  some (z28, true)
def m_impl_shifted_B1 (d1 : Int) (y10 : DNet) (rec1 : Int → DNet → DNet → Option (DNet × Bool)) (K1 : DNet → DNet → Option (DNet × Bool)) (i35 : Int) (z36 : DNet) (z37 : DNet) : Option (DNet × Bool) :=
  (bif (decide (i35 < (y10.agents.length : Int))) then ((getI z37.agents i35).bind fun x42 => (bif (hasLevel x42.kind) then ((ck (x42.level + d1)).bind fun s61 => (bif (decide ((⟨x42.kind, s61, x42.value, x42.data, x42.ports⟩ : DAgent).level > 8)) then some ((⟨[]⟩ : DNet), false) else (rec1 (i35 + 1) z36 (⟨(setI z37.agents i35 (⟨x42.kind, s61, x42.value, x42.data, x42.ports⟩ : DAgent))⟩ : DNet)))) else (rec1 (i35 + 1) z36 z37))) else (K1 z36 z37))
def m_impl_shifted_L1 (d1 : Int) (y10 : DNet) (K1 : DNet → DNet → Option (DNet × Bool)) : Nat → Int → DNet → DNet → Option (DNet × Bool)
  | 0, _, _, _ => none
  | g + 1, i35, z36, z37 => m_impl_shifted_B1 d1 y10 (m_impl_shifted_L1 d1 y10 K1 g) K1 i35 z36 z37
def m_impl_shifted (d0 : DNet) (d1 : Int) : Option (DNet × Bool) :=
  ((m_impl_copyNet d0).bind fun y10 => (m_impl_shifted_L1 d1 y10 m_impl_shifted_A1 (y10.agents.length + 1) 0 (⟨[]⟩ : DNet) y10))
set_option maxHeartbeats 2000000 in
theorem c_m_impl_shifted (d0 : DNet) (d1 : Int) (r : DNet × Bool) (hm : m_impl_shifted d0 d1 = some r) (v0 : Value) (w : World) (hv0 : St netRd w v0 d0) :
    Calls Try.prog 80 #[v0, .int .i64 d1] w fun e w' => (∃ (v0 : Value) (bs0 : List Nat), e = .returned (.tuple #[.agg #[v0], .bool r.2]) ∧ OwN 89 agentOw 5 w' w.heap.size v0 r.1.agents bs0) ∧ Below w.heap.size w w' := by
  obtain ⟨csa0, rfl, ⟨A1, n1, c1, rfl, ⟨h1, r1⟩⟩⟩ := hv0
  have e1 := h1.len; subst e1
  have q1 := len_le r1
  have T := Below.refl w.heap.size w
  unfold m_impl_shifted at hm
  refine enter 43 Try.func80 rfl rfl rfl ?_
  intro f hf
  have s0 : f 0 = .agg #[.slice A1 d0.agents.length c1] := hf 0 _ rfl
  have s1 : f 1 = .int .i64 d1 := hf 1 _ rfl
  refine wp_seq ?_
  refine wp_rl rfl ?_
  refine RL.box rfl s0 (fun w2 B3 hb4 szw2 => ?_)
  replace B3 : Blk w2 w.heap.size 30 #[.slice A1 d0.agents.length c1] := B3
  have GB3 : w.heap.size ≤ w.heap.size := T.size
  have T := Tt T hb4
  refine RL.alloc (z := .agg #[.slice none 0 0]) rfl (by kernel_rfl) (fun w6 B7 hb8 szw6 => ?_)
  replace B7 : Blk w6 w2.heap.size 30 #[.slice none 0 0] := B7
  have GB7 : w.heap.size ≤ w2.heap.size := T.size
  have Eob9_ob5 := Nat.ne_of_lt B3.lt
  have B3 := blkT B3 hb8
  have T := Tt T hb8
  refine RL.y rfl (Y.assign (v := .bool false) rfl) ?_
  refine RL.nil ?_
  refine then_n ?_
  refine wp_seq ?_
  refine wp_rl rfl ?_
  refine RL.y rfl (Y.loadN (cs := [.slice A1 d0.agents.length c1]) rfl (by kernel_rfl) (cells1 (eqC (blkCell B3 (i := 0) rfl)))) ?_
  obtain ⟨y10, e11, hm⟩ := bnd hm
  refine RL.call rfl (am1 rfl) (by kernel_rfl) ((c_m_impl_copyNet d0 _ e11 _ _ (stArg (R := netRd) ⟨_, _, _, rfl, ⟨SlAt.now agentRd_ok h1 (Nat.le_refl _) T, r1⟩⟩)).mono ?_)
  rintro _ w16 ⟨⟨v12, bs15, rfl, G13⟩, hb17⟩
  refine ⟨_, rfl, ?_⟩
  have szw16 := hb17.size
  have T0w16 := T.size
  have Zo14_ob5 : Ap bs15 [w.heap.size] := (Ap.new (OwN.lo_ G13) (one_hi B3.lt))
  have Zo14_ob9 : Ap bs15 [w2.heap.size] := (Ap.new (OwN.lo_ G13) (one_hi B7.lt))
  have B3 := blkT B3 hb17
  have B7 := blkT B7 hb17
  have T := Tt T hb17
  replace G13 := OwN.mono G13 T0w16
  refine RL.alloc (z := .agg #[.slice none 0 0]) rfl (by kernel_rfl) (fun w18 B19 hb20 szw18 => ?_)
  replace B19 : Blk w18 w16.heap.size 30 #[.slice none 0 0] := B19
  have GB19 : w.heap.size ≤ w16.heap.size := T.size
  have Eob21_ob5 := Nat.ne_of_lt B3.lt
  have Eob21_ob9 := Nat.ne_of_lt B7.lt
  have No14_ob21 := Ap.far (OwN.hi G13)
  have B3 := blkT B3 hb20
  have B7 := blkT B7 hb20
  have G13 := OwN.below agentOw_ok G13 hb20
  have T := Tt T hb20
  obtain ⟨A22, c23, rfl⟩ := OwN.form G13
  have qbA22 := OwN.bound G13
  refine RL.store (v := .agg #[.slice A22 y10.agents.length c23]) (cs' := #[.slice A22 y10.agents.length c23]) rfl rfl rfl B19 (by kernel_rfl) (by rfl) (by rfl) (by rfl) (fun w24 B25 ho26 => ?_)
  have szw24 := ho26.size
  have B3 := B3.only_ ho26 (by intro hin; simp at hin; exact Eob21_ob5 hin)
  have B7 := B7.only_ ho26 (by intro hin; simp at hin; exact Eob21_ob9 hin)
  have G13 := OwN.only agentOw_ok G13 ho26 (Ap.one No14_ob21)
  have T := T.trans (ho26.below (by first | (simp; done) | (simp; omega)))
  refine RL.nil ?_
  refine then_n ?_
  refine wp_seq ?_
  refine wp_seq ?_
  refine wp_rs rfl ?_
  refine RQ.y rfl (Y.fieldAddr (off := 0) rfl (by kernel_rfl)) ?_
  refine RQ.y rfl (Y.load (v := .slice A22 y10.agents.length c23) rfl (by kernel_rfl) (eqC (blkCell B25 (i := 0) rfl))) ?_
  refine RQ.y rfl (Y.len (by kernel_rfl) rfl) ?_
  refine RQ.y rfl (Y.move (v := .int .i64 0) rfl) ?_
  refine RQ.nil ?_
  refine then_n ?_
  refine wp_block ?_
  obtain ⟨K1, hK1, hm⟩ : ∃ K, K = m_impl_shifted_A1 ∧ m_impl_shifted_L1 d1 y10 K (y10.agents.length + 1) 0 (⟨[]⟩ : DNet) y10 = some r := ⟨_, rfl, hm⟩
  refine wp_loopX (fun g f w' => ∃ (i35 : Int) (z36 : DNet) (z37 : DNet) (uz36_0 : Value) (bsz36_0 : List Nat) (uz37_0 : Value) (bsz37_0 : List Nat), f 1 = .int .i64 d1 ∧ f 4 = .pointer (some ⟨w2.heap.size, 0, none⟩) ∧ f 6 = .pointer (some ⟨w16.heap.size, 0, none⟩) ∧ f 13 = .int .i64 (y10.agents.length : Int) ∧ f 14 = .int .i64 i35 ∧ 0 ≤ i35 ∧ Blk w' w2.heap.size 30 #[uz36_0] ∧ OwN 89 agentOw 5 w' w.heap.size uz36_0 z36.agents bsz36_0 ∧ Blk w' w16.heap.size 30 #[uz37_0] ∧ OwN 89 agentOw 5 w' w.heap.size uz37_0 z37.agents bsz37_0 ∧ Ap bsz36_0 [w2.heap.size] ∧ Ap bsz36_0 [w16.heap.size] ∧ Ap bsz37_0 bsz36_0 ∧ Ap bsz37_0 [w2.heap.size] ∧ Ap bsz37_0 [w16.heap.size] ∧ Below w.heap.size w w' ∧ m_impl_shifted_L1 d1 y10 K1 g i35 z36 z37 = some r) 0 (fun f w' => ∃ (z27 : DNet) (z28 : DNet) (uz27_0 : Value) (bsz27_0 : List Nat) (uz28_0 : Value) (bsz28_0 : List Nat), f 4 = .pointer (some ⟨w2.heap.size, 0, none⟩) ∧ f 6 = .pointer (some ⟨w16.heap.size, 0, none⟩) ∧ Blk w' w2.heap.size 30 #[uz27_0] ∧ OwN 89 agentOw 5 w' w.heap.size uz27_0 z27.agents bsz27_0 ∧ Blk w' w16.heap.size 30 #[uz28_0] ∧ OwN 89 agentOw 5 w' w.heap.size uz28_0 z28.agents bsz28_0 ∧ Ap bsz27_0 [w2.heap.size] ∧ Ap bsz27_0 [w16.heap.size] ∧ Ap bsz28_0 bsz27_0 ∧ Ap bsz28_0 [w2.heap.size] ∧ Ap bsz28_0 [w16.heap.size] ∧ Below w.heap.size w w' ∧ m_impl_shifted_A1 z27 z28 = some r) (y10.agents.length + 1) ⟨0, (⟨[]⟩ : DNet), y10, (.slice none 0 0), [], (.slice A22 y10.agents.length c23), bs15, s1, rfl, rfl, rfl, rfl, (by omega), B7, OwN.nil, B25, G13, Ap.nil, Ap.nil, (Ap.symm Ap.nil), Zo14_ob9, No14_ob21, T, hm⟩ ?_ ?_
  · rintro f w29 ⟨z27, z28, uz27_0, bsz27_0, uz28_0, bsz28_0, s4_1x, s6_1x, Bz27, Guz27_0, Bz28, Guz28_0, Noz27_0_ob9, Noz27_0_ob21, Doz28_0_oz27_0, Noz28_0_ob9, Noz28_0_ob21, T, hm⟩
    unfold m_impl_shifted_A1 at hm
    refine blk_hit (then_n ?_)
    refine wp_seq ?_
    refine wp_rl rfl ?_
    refine RL.y rfl (Y.loadN (cs := [uz28_0]) s6_1x (by kernel_rfl) (cells1 (eqC (blkCell Bz28 (i := 0) rfl)))) ?_
    obtain ⟨A30, c31, rfl⟩ := OwN.form Guz28_0
    have qbA30 := OwN.bound Guz28_0
    refine RL.store (v := .agg #[.slice A30 z28.agents.length c31]) (cs' := #[.slice A30 z28.agents.length c31]) rfl s4_1x rfl Bz27 (by kernel_rfl) (by rfl) (by rfl) (by rfl) (fun w32 B33 ho34 => ?_)
    have szw32 := ho34.size
    have Bz28 := Bz28.only_ ho34 (by intro hin; simp at hin; exact Eob21_ob9.symm hin)
    have Guz27_0 := OwN.only agentOw_ok Guz27_0 ho34 (Ap.one Noz27_0_ob9)
    have Guz28_0 := OwN.only agentOw_ok Guz28_0 ho34 (Ap.one Noz28_0_ob9)
    have T := T.trans (ho34.below (by first | (simp; done) | (simp; omega)))
    refine RL.y rfl (Y.assign (v := .bool true) rfl) ?_
    refine RL.nil ?_
    refine then_n ?_
    refine wp_ret ?_
    obtain rfl := Option.some.inj hm
    exact (retct (cs := [.slice A30 z28.agents.length c31]) rfl rfl s4_1x rfl (by kernel_rfl) (blkCells B33) ⟨⟨_, _, rfl, Guz28_0⟩, T⟩)
  · rintro g f w38 ⟨i35, z36, z37, uz36_0, bsz36_0, uz37_0, bsz37_0, s1_1, s4_1, s6_1, s13_1, s14_1, nn14_1, Bz36, Guz36_0, Bz37, Guz37_0, Noz36_0_ob9, Noz36_0_ob21, Doz37_0_oz36_0, Noz37_0_ob9, Noz37_0_ob21, T, hm⟩
    rcases g with _ | g
    · simp only [m_impl_shifted_L1] at hm; cases hm
    obtain ⟨rec1, hrec1, hm⟩ : ∃ z, z = m_impl_shifted_L1 d1 y10 K1 g ∧ m_impl_shifted_B1 d1 y10 z K1 i35 z36 z37 = some r := ⟨_, rfl, hm⟩
    unfold m_impl_shifted_B1 at hm
    refine wp_seq ?_
    refine wp_rs rfl ?_
    refine RQ.y rfl (Y.binI (v := .bool (decide (i35 < (y10.agents.length : Int)))) s14_1 s13_1 rfl) ?_
    refine RQ.nil ?_
    refine then_n ?_
    refine wp_seq ?_
    rcases bcases (decide (i35 < (y10.agents.length : Int))) with c39 | c39
    · replace hm := cF c39 hm
      have pc39 := of_decide_eq_false c39
      refine cond_f rfl (vb rfl c39) ?_
      refine wp_exit ?_
      exact (then_x (then_x (hit_x ⟨_, rfl, ⟨z36, z37, (uz36_0), bsz36_0, (uz37_0), bsz37_0, s4_1, s6_1, Bz36, Guz36_0, Bz37, Guz37_0, Noz36_0_ob9, Noz36_0_ob21, Doz37_0_oz36_0, Noz37_0_ob9, Noz37_0_ob21, T, (by rw [hK1] at hm; exact hm)⟩⟩)))
    · replace hm := cT c39 hm
      have pc39 := of_decide_eq_true c39
      refine cond_t rfl (vb rfl c39) ?_
      refine wp_skip ?_
      refine then_n ?_
      refine wp_seq ?_
      refine wp_block ?_
      refine wp_seq ?_
      refine wp_rs rfl ?_
      refine RQ.y rfl (Y.move (v := .int .i64 i35) s14_1) ?_
      refine RQ.y rfl (Y.assign (v := .int .i64 i35) rfl) ?_
      refine RQ.nil ?_
      refine then_n ?_
      refine wp_seq ?_
      refine wp_rs rfl ?_
      refine RQ.y rfl (Y.fieldAddr (off := 0) s6_1 (by kernel_rfl)) ?_
      refine RQ.y rfl (Y.load (v := uz37_0) rfl (by kernel_rfl) (eqC (blkCell Bz37 (i := 0) rfl))) ?_
      refine RQ.y rfl (Y.move (v := .int .i64 i35) rfl) ?_
      obtain ⟨A40, c41, rfl⟩ := OwN.form Guz37_0
      have qbA40 := OwN.bound Guz37_0
      obtain ⟨x42, hx44, hm⟩ := bnd hm
      obtain ⟨k43, hk45, hl46, hx44⟩ := getI_some hx44
      obtain ⟨b47, rfl⟩ := OwN.addr0 Guz37_0 (by omega)
      refine RQ.y rfl (Y.indexAddr (m := k43) (sz := 5) rfl rfl hk45 hl46 (by kernel_rfl)) ?_
      refine RQ.y rfl (Y.assign (v := .pointer (some ⟨b47, 0 + k43 * 5, none⟩)) rfl) ?_
      refine RQ.nil ?_
      refine then_n ?_
      refine wp_seq ?_
      refine wp_seq ?_
      refine wp_rb rfl ?_
      refine RQ.y rfl (Y.move (v := .pointer (some ⟨b47, 0 + k43 * 5, none⟩)) rfl) ?_
      refine RQ.y rfl (Y.nilCheck rfl) ?_
      refine RQ.y rfl (Y.fieldAddr (off := 0) rfl (by kernel_rfl)) ?_
      obtain ⟨cs48, hR49, hc50⟩ := OwN.rd agentOw_ok (agentOw_reads _) Guz37_0 hx44
      obtain ⟨A51, n51, c51, A52, n52, c52, rfl, ⟨h51, r51⟩, ⟨h52, r52⟩⟩ := hR49
      have e51 := h51.len; subst e51
      have q51 := len_le r51
      have e52 := h52.len; subst e52
      have q52 := len_le r52
      refine RQ.y rfl (Y.load (v := .int .i64 x42.kind) rfl (by kernel_rfl) (beC (hc50 0 _ rfl))) ?_
      refine RQ.call rfl (am1 rfl) (by kernel_rfl) (v := .bool (hasLevel x42.kind)) (bel (K := fun _ => True) fun w' hb' => (callB (impl_HasLevel x42.kind w'))) ?_
      refine RQ.y rfl (Y.not (b' := (!(hasLevel x42.kind))) rfl rfl) ?_
      refine RQ.nil ?_
      intro w53 hb54
      have szw53 := hb54.size
      have Bz36 := blkT Bz36 hb54
      have Bz37 := blkT Bz37 hb54
      have Guz36_0 := OwN.below agentOw_ok Guz36_0 hb54
      have Guz37_0 := OwN.below agentOw_ok Guz37_0 hb54
      have T := Tt T hb54
      refine then_n ?_
      rcases bcases (hasLevel x42.kind) with c55 | c55
      · replace hm := cF c55 hm
        refine cond_t rfl (vbn rfl c55 rfl) ?_
        refine wp_exit ?_
        refine then_x (blk_hit (then_n ?_))
        refine wp_rs rfl ?_
        refine RQ.y rfl (Y.binI s14_1 rfl (binI_add (m := i35) (by omega))) ?_
        refine RQ.y rfl (Y.move (v := .int .i64 (i35 + 1)) rfl) ?_
        refine RQ.nil ?_
        exact (then_n ⟨g, _, Nat.lt_succ_self _, rfl, ⟨(i35 + 1), z36, z37, (uz36_0), bsz36_0, (.slice (some ⟨b47, 0, none⟩) z37.agents.length c41), bsz37_0, s1_1, s4_1, s6_1, s13_1, rfl, (by omega), Bz36, Guz36_0, Bz37, Guz37_0, Noz36_0_ob9, Noz36_0_ob21, Doz37_0_oz36_0, Noz37_0_ob9, Noz37_0_ob21, T, (by rw [← hrec1]; exact hm)⟩⟩)
      · replace hm := cT c55 hm
        refine cond_f rfl (vbn rfl c55 rfl) ?_
        refine wp_skip ?_
        refine then_n ?_
        refine wp_seq ?_
        refine wp_rl rfl ?_
        refine RL.y rfl (Y.move (v := .pointer (some ⟨b47, 0 + k43 * 5, none⟩)) rfl) ?_
        refine RL.y rfl (Y.nilCheck rfl) ?_
        refine RL.y rfl (Y.fieldAddr (off := 1) rfl (by kernel_rfl)) ?_
        obtain ⟨cs56, hR57, hc58⟩ := OwN.rd agentOw_ok (agentOw_reads _) Guz37_0 hx44
        obtain ⟨A59, n59, c59, A60, n60, c60, rfl, ⟨h59, r59⟩, ⟨h60, r60⟩⟩ := hR57
        have e59 := h59.len; subst e59
        have q59 := len_le r59
        have e60 := h60.len; subst e60
        have q60 := len_le r60
        refine RL.y rfl (Y.load (v := .int .i64 x42.level) rfl (by kernel_rfl) (eqC (hc58 1 _ rfl))) ?_
        refine RL.y rfl (Y.move (v := .int .i64 d1) s1_1) ?_
        obtain ⟨s61, ks61, hm⟩ := bnd hm
        replace ks61 := ck_some ks61
        refine RL.y rfl (Y.binI (v := .int .i64 s61) rfl rfl (by rw [binI_add ks61.2, ks61.1])) ?_
        refine RL.y rfl (Y.nilCheck rfl) ?_
        refine RL.y rfl (Y.fieldAddr (off := 1) rfl (by kernel_rfl)) ?_
        refine RL.storeN (k := k43) (j := 1) (a := x42) (a' := (⟨x42.kind, s61, x42.value, x42.data, x42.ports⟩ : DAgent)) agentOw_ok rfl rfl rfl Guz37_0 hx44 (by decide) (fun ⟨A0, n0, c0, A1, n1, c1, b0, b1, e, h⟩ => ⟨A0, n0, c0, A1, n1, c1, b0, b1, by rw [e]; rfl, h⟩) rfl rfl (by kernel_rfl) (fun w62 G63 ho64 => ?_)
        have szw62 := ho64.size
        have Bz36 := Blk.only_ Bz36 ho64 (by intro hin; have hne := OwN.neB Guz37_0 Noz37_0_ob9; simp at hin; exact hne (by rw [hin]; rfl))
        have Bz37 := Blk.only_ Bz37 ho64 (by intro hin; have hne := OwN.neB Guz37_0 Noz37_0_ob21; simp at hin; exact hne (by rw [hin]; rfl))
        have Guz36_0 := OwN.only agentOw_ok Guz36_0 ho64 (fun hin => (Ap.symm Doz37_0_oz36_0) _ hin (OwN.row Guz37_0 rfl))
        have T := T.trans (ho64.below (by intro b hb; simp at hb; subst hb; exact OwN.lo_ Guz37_0 _ (OwN.row Guz37_0 rfl)))
        have G63 : OwN 89 agentOw 5 w62 w.heap.size (.slice (some ⟨b47, 0, none⟩) z37.agents.length c41) (setI z37.agents i35 (⟨x42.kind, s61, x42.value, x42.data, x42.ports⟩ : DAgent)) bsz37_0 := by rw [hk45, setI_nat]; exact G63
        have hx65 : (setI z37.agents i35 (⟨x42.kind, s61, x42.value, x42.data, x42.ports⟩ : DAgent))[k43]? = some (⟨x42.kind, s61, x42.value, x42.data, x42.ports⟩ : DAgent) := setI_at hk45 hl46
        have hl66 := lt_of_some hx65
        refine RL.nil ?_
        refine then_n ?_
        refine wp_seq ?_
        refine wp_rs rfl ?_
        refine RQ.y rfl (Y.move (v := .pointer (some ⟨b47, 0 + k43 * 5, none⟩)) rfl) ?_
        refine RQ.y rfl (Y.nilCheck rfl) ?_
        refine RQ.y rfl (Y.fieldAddr (off := 1) rfl (by kernel_rfl)) ?_
        obtain ⟨cs67, hR68, hc69⟩ := OwN.rd agentOw_ok (agentOw_reads _) G63 hx65
        obtain ⟨A70, n70, c70, A71, n71, c71, rfl, ⟨h70, r70⟩, ⟨h71, r71⟩⟩ := hR68
        have e70 := h70.len; subst e70
        have q70 := len_le r70
        have e71 := h71.len; subst e71
        have q71 := len_le r71
        refine RQ.y rfl (Y.load (v := .int .i64 ((⟨x42.kind, s61, x42.value, x42.data, x42.ports⟩ : DAgent).level)) rfl (by kernel_rfl) (eqC (hc69 1 _ rfl))) ?_
        refine RQ.y rfl (Y.binI (v := .bool (decide ((⟨x42.kind, s61, x42.value, x42.data, x42.ports⟩ : DAgent).level > 8))) rfl rfl rfl) ?_
        refine RQ.nil ?_
        refine then_n ?_
        rcases bcases (decide ((⟨x42.kind, s61, x42.value, x42.data, x42.ports⟩ : DAgent).level > 8)) with c72 | c72
        · replace hm := cF c72 hm
          have pc72 := of_decide_eq_false c72
          refine cond_f rfl (vb rfl c72) ?_
          refine wp_skip ?_
          refine blk_n (then_n ?_)
          refine wp_rs rfl ?_
          refine RQ.y rfl (Y.binI s14_1 rfl (binI_add (m := i35) (by omega))) ?_
          refine RQ.y rfl (Y.move (v := .int .i64 (i35 + 1)) rfl) ?_
          refine RQ.nil ?_
          exact (then_n ⟨g, _, Nat.lt_succ_self _, rfl, ⟨(i35 + 1), z36, (⟨(setI z37.agents i35 (⟨x42.kind, s61, x42.value, x42.data, x42.ports⟩ : DAgent))⟩ : DNet), (uz36_0), bsz36_0, (.slice (some ⟨b47, 0, none⟩) z37.agents.length c41), bsz37_0, s1_1, s4_1, s6_1, s13_1, rfl, (by omega), Bz36, Guz36_0, Bz37, G63, Noz36_0_ob9, Noz36_0_ob21, Doz37_0_oz36_0, Noz37_0_ob9, Noz37_0_ob21, T, (by rw [← hrec1]; exact hm)⟩⟩)
        · replace hm := cT c72 hm
          have pc72 := of_decide_eq_true c72
          refine cond_t rfl (vb rfl c72) ?_
          refine wp_seq ?_
          refine wp_rl rfl ?_
          refine RL.y rfl (Y.build0 (cells := #[.slice none 0 0])  (by kernel_rfl) (by kernel_rfl)) ?_
          refine RL.store (v := .agg #[.slice none 0 0]) (cs' := #[.slice none 0 0]) rfl s4_1 rfl Bz36 (by kernel_rfl) (by rfl) (by rfl) (by rfl) (fun w73 B74 ho75 => ?_)
          have szw73 := ho75.size
          have Bz37 := Bz37.only_ ho75 (by intro hin; simp at hin; exact Eob21_ob9.symm hin)
          have Guz36_0 := OwN.only agentOw_ok Guz36_0 ho75 (Ap.one Noz36_0_ob9)
          have G63 := OwN.only agentOw_ok G63 ho75 (Ap.one Noz37_0_ob9)
          have T := T.trans (ho75.below (by first | (simp; done) | (simp; omega)))
          refine RL.y rfl (Y.assign (v := .bool false) rfl) ?_
          refine RL.nil ?_
          refine then_n ?_
          refine wp_ret ?_
          obtain rfl := Option.some.inj hm
          exact (blk_r (then_r (then_r (hit_r (blk_r (then_r (retct (cs := [.slice none 0 0]) rfl rfl s4_1 rfl (by kernel_rfl) (blkCells B74) ⟨⟨_, _, rfl, OwN.nil⟩, T⟩)))))))
end
section
open Go.RowKit
set_option linter.unusedVariables false
set_option linter.unusedSimpArgs false
theorem small_sz {xs : List DAgent} (hs : Small xs) {i : Nat} {x : DAgent} (hx : xs[i]? = some x) : x.data.length ≤ 1048576 ∧ x.ports.length ≤ 1048576 :=
  ⟨hs.data (List.mem_of_getElem? hx), hs.ports (List.mem_of_getElem? hx)⟩
theorem flat_id {α : Type} : ∀ l : List α, l.flatMap (fun x => [x]) = l
  | [] => rfl
  | a :: l => by rw [List.flatMap_cons, flat_id l]; rfl
theorem p_copyAgent {x : DAgent} (h : x.data.length ≤ 1048576 ∧ x.ports.length ≤ 1048576) : m_impl_copyAgent x = some x := by
  unfold m_impl_copyAgent m_slices_Clone_int64_int64 m_slices_Clone_impl_Port_impl_Port
  rw [mustP_ok (by simp; omega), Option.bind_some, Option.bind_some, mustP_ok (by simp; omega), Option.bind_some, Option.bind_some]
  rfl
theorem p_copyNet (d : DNet) (hs : Small d.agents) : m_impl_copyNet d = some d := by
  obtain ⟨xs⟩ := d
  have hs : Small xs := hs
  have hl := hs.len
  unfold m_impl_copyNet
  rw [mustP_ok (by simp; omega), Option.bind_some]
  have key := (appL (L := fun g acc i => m_impl_copyNet_L1 ⟨xs⟩ m_impl_copyNet_A1 g i ⟨acc⟩) (d := xs) (f := fun x => [x]) (B := 1) (M := 4294967296) (K := fun acc => some (⟨acc⟩ : DNet))
    (fun x _ => by simp)
    (fun g k x acc hx hM => by
      have hk := lt_of_some hx
      simp -implicitDefEqProofs only [m_impl_copyNet_L1, m_impl_copyNet_B1, dlt hk, cond_true, getI_nat hx, Option.bind_some, p_copyAgent (small_sz hs hx)]
      rw [mustP_ok (by simpa using hM), Option.bind_some])
    (fun g acc => by simp -implicitDefEqProofs only [m_impl_copyNet_L1, m_impl_copyNet_B1, dge, cond_false, m_impl_copyNet_A1])
    [] (xs.length + 1) (by omega) (by simp; omega)).1
  rw [flat_id] at key
  simpa using key
def hiL (xs : List DAgent) : Int := xs.foldl (fun m x => if x.level > m then x.level else m) 0
theorem p_highest (d : DNet) : m_spec_l13Highest d = some (hiL d.agents) := by
  obtain ⟨xs⟩ := d
  unfold m_spec_l13Highest
  exact (foldL (L := m_spec_l13Highest_L1 ⟨xs⟩ m_spec_l13Highest_A1) (d := xs) (f := fun m x => if x.level > m then x.level else m) (I := fun _ _ => True) (K := some)
    (fun g k x s hx _ => by
      have hk := lt_of_some hx
      refine ⟨?_, trivial⟩
      simp -implicitDefEqProofs only [m_spec_l13Highest_L1, m_spec_l13Highest_B1, dlt hk, cond_true, getI_nat hx, Option.bind_some, p_max])
    (fun g s _ => by simp -implicitDefEqProofs only [m_spec_l13Highest_L1, m_spec_l13Highest_B1, dge, cond_false, m_spec_l13Highest_A1]) (xs.length + 1) 0 (Nat.lt_succ_self _) trivial).1
theorem hi_spec : ∀ (xs : List DAgent) (m : Int), (m ≤ xs.foldl (fun m x => if x.level > m then x.level else m) m) ∧ (∀ x ∈ xs, x.level ≤ xs.foldl (fun m x => if x.level > m then x.level else m) m) ∧
    (xs.foldl (fun m x => if x.level > m then x.level else m) m = m ∨ ∃ x ∈ xs, x.level = xs.foldl (fun m x => if x.level > m then x.level else m) m)
  | [], m => ⟨by simp, by simp, by simp⟩
  | y :: ys, m => by
    rw [List.foldl_cons]
    obtain ⟨h1, h2, h3⟩ := hi_spec ys (if y.level > m then y.level else m)
    by_cases hy : y.level > m
    · rw [if_pos hy] at h1 h2 h3 ⊢
      refine ⟨by omega, fun x hx => ?_, ?_⟩
      · rcases List.mem_cons.1 hx with rfl | hx
        · exact h1
        · exact h2 x hx
      · rcases h3 with h3 | ⟨x, hx, h3⟩
        · exact .inr ⟨y, by simp, h3.symm⟩
        · exact .inr ⟨x, by simp [hx], h3⟩
    · rw [if_neg hy] at h1 h2 h3 ⊢
      refine ⟨h1, fun x hx => ?_, ?_⟩
      · rcases List.mem_cons.1 hx with rfl | hx
        · omega
        · exact h2 x hx
      · rcases h3 with h3 | ⟨x, hx, h3⟩
        · exact .inl h3
        · exact .inr ⟨x, by simp [hx], h3⟩
theorem good_level {xs : List DAgent} (G : Good xs) {x : DAgent} (hx : x ∈ xs) : 0 ≤ x.level ∧ x.level ≤ 8 ∧ (hasLevel x.kind = false → x.level = 0) := by
  obtain ⟨i, hi, rfl⟩ := List.getElem_of_mem hx
  have h := agentOk_allowed (G.ok i _ (List.getElem?_eq_getElem hi))
  unfold allowed at h
  simp only [Bool.and_eq_true, Bool.or_eq_true, decide_eq_true_eq, isLevel] at h
  refine ⟨?_, ?_, ?_⟩
  · rcases h.2 with h | h <;> omega
  · rcases h.2 with h | h <;> omega
  · intro hf
    rcases h.2 with h | h
    · exact h
    · rw [hf] at h; cases h.1
def shA (b : Int) (x : DAgent) : DAgent := if hasLevel x.kind = true then ⟨x.kind, x.level + b, x.value, x.data, x.ports⟩ else x
def tooHigh (b : Int) (x : DAgent) : Bool := hasLevel x.kind && decide (x.level + b > 8)
theorem high_iff {xs : List DAgent} (G : Good xs) {b : Int} (h0 : 0 ≤ b) (h8 : b ≤ 8) : decide (hiL xs + b > 8) = xs.any (tooHigh b) := by
  obtain ⟨h1, h2, h3⟩ := hi_spec xs 0
  rw [Bool.eq_iff_iff, decide_eq_true_eq, List.any_eq_true]
  constructor
  · intro h
    rcases h3 with h3 | ⟨x, hx, h3⟩
    · unfold hiL at h; rw [h3] at h; omega
    · refine ⟨x, hx, ?_⟩
      have hg := good_level G hx
      have hl : x.level + b > 8 := by rw [h3]; exact h
      unfold tooHigh
      simp only [Bool.and_eq_true, decide_eq_true_eq]
      refine ⟨?_, hl⟩
      cases hh : hasLevel x.kind with
      | true => rfl
      | false => have := hg.2.2 hh; omega
  · rintro ⟨x, hx, h⟩
    unfold tooHigh at h
    simp only [Bool.and_eq_true, decide_eq_true_eq] at h
    have := h2 x hx
    show hiL xs + b > 8
    unfold hiL
    omega
/-- In the middle of the loop. -/
def midL {α : Type} (f : α → α) (xs : List α) (k : Nat) : List α := (xs.take k).map f ++ xs.drop k
section
variable {α : Type} {f : α → α} {xs : List α} {k : Nat}
theorem midL_zero : midL f xs 0 = xs := by simp [midL]
theorem midL_end : midL f xs xs.length = xs.map f := by simp [midL]
theorem midL_get {x : α} (hx : xs[k]? = some x) : (midL f xs k)[k]? = some x := by
  have hk := lt_of_some hx
  unfold midL
  rw [List.getElem?_append_right (by simp; omega)]
  simp
  rw [Nat.min_eq_left (by omega)]
  simpa using hx
theorem midL_step {x : α} (hx : xs[k]? = some x) : (midL f xs k).set k (f x) = midL f xs (k + 1) := by
  have hk := lt_of_some hx
  unfold midL
  have hl : ((xs.take k).map f).length = k := by simp; omega
  rw [List.set_append_right _ _ (by omega), hl, Nat.sub_self, drop_some hx, List.set_cons_zero, take_succ_some hx, List.map_append, List.append_assoc]
  rfl
end
theorem shA_not {b : Int} {x : DAgent} (h : hasLevel x.kind = false) : shA b x = x := by unfold shA; rw [h]; simp
theorem shA_yes {b : Int} {x : DAgent} (h : hasLevel x.kind = true) : shA b x = ⟨x.kind, x.level + b, x.value, x.data, x.ports⟩ := by unfold shA; rw [if_pos h]
theorem set_self {α : Type} {xs : List α} {k : Nat} {x : α} (hx : xs[k]? = some x) : xs.set k x = xs := by
  apply List.ext_getElem?
  intro i
  rw [List.getElem?_set]
  split
  · rename_i h; subst h; rw [if_pos (lt_of_some hx), hx]
  · rfl
theorem p_shifted {xs : List DAgent} (hs : Small xs) (hl8 : ∀ x ∈ xs, 0 ≤ x.level ∧ x.level ≤ 8) {b : Int} (b0 : 0 ≤ b) (b8 : b ≤ 8) : m_impl_shifted ⟨xs⟩ b = some (bif xs.any (tooHigh b) then (⟨[]⟩, false) else (⟨xs.map (shA b)⟩, true)) := by
  unfold m_impl_shifted
  rw [p_copyNet _ hs, Option.bind_some]
  have key := allO (L := fun g (i : Int) => m_impl_shifted_L1 b ⟨xs⟩ m_impl_shifted_A1 g i ⟨[]⟩ ⟨midL (shA b) xs i.toNat⟩) (n := xs.length) (p := fun k => ∃ x, xs[k]? = some x ∧ tooHigh b x = false) (no := some ((⟨[]⟩ : DNet), false)) (K := some ((⟨xs.map (shA b)⟩ : DNet), true))
    (fun g i hi ⟨x, hx, hp⟩ => by
      have hm := midL_get (f := shA b) hx
      have hst := midL_step (f := shA b) hx
      have hgl := hl8 x (List.mem_of_getElem? hx)
      unfold tooHigh at hp
      rw [show ((i : Int) + 1).toNat = i + 1 by omega, Int.toNat_natCast]
      simp -implicitDefEqProofs only [m_impl_shifted_L1, m_impl_shifted_B1, dlt hi, cond_true, getI_nat hm, Option.bind_some]
      cases hlv : hasLevel x.kind with
      | false =>
        rw [shA_not hlv, set_self hm] at hst
        rw [cond_false, ← hst]
      | true =>
        rw [hlv, Bool.true_and] at hp
        rw [shA_yes hlv] at hst
        rw [cond_true, ck_ok (by omega), Option.bind_some, hp, cond_false, setI_nat, hst])
    (fun g i hi hn => by
      have hx := List.getElem?_eq_getElem hi
      have hm := midL_get (f := shA b) hx
      have hgl := hl8 _ (List.mem_of_getElem? hx)
      have hp : tooHigh b xs[i] = true := by
        cases h : tooHigh b xs[i] with
        | true => rfl
        | false => exact absurd ⟨_, hx, h⟩ hn
      unfold tooHigh at hp
      simp only [Bool.and_eq_true] at hp
      rw [Int.toNat_natCast]
      simp -implicitDefEqProofs only [m_impl_shifted_L1, m_impl_shifted_B1, dlt hi, cond_true, getI_nat hm, Option.bind_some, hp.1]
      rw [ck_ok (by omega), Option.bind_some, hp.2, cond_true])
    (fun g => by
      rw [Int.toNat_natCast]
      simp -implicitDefEqProofs only [m_impl_shifted_L1, m_impl_shifted_B1, dge, cond_false, m_impl_shifted_A1, midL_end]) (xs.length + 1) (Nat.lt_succ_self _)
  have e0 : midL (shA b) xs (0 : Int).toNat = xs := midL_zero
  simp only [e0] at key
  rcases key with ⟨h1, h2⟩ | ⟨h1, h2⟩
  · have ha : xs.any (tooHigh b) = false := by
      rw [List.any_eq_false]
      intro x hx
      obtain ⟨i, hi, rfl⟩ := List.getElem_of_mem hx
      obtain ⟨y, hy, hp⟩ := h1 i hi
      rw [List.getElem?_eq_getElem hi] at hy
      injection hy with hy
      rw [hy, hp]; simp
    rw [ha, cond_false]; exact h2
  · have ha : xs.any (tooHigh b) = true := by
      cases h : xs.any (tooHigh b) with
      | true => rfl
      | false =>
        rw [List.any_eq_false] at h
        exact absurd (fun i hi => ⟨_, List.getElem?_eq_getElem hi, by simpa using h _ (List.getElem_mem hi)⟩) h1
    rw [ha, cond_true]; exact h2
end
section
open Go.RowKit
set_option linter.unusedVariables false
set_option linter.unusedSimpArgs false
set_option maxRecDepth 100000
def m_spec_l13Book_A1 : Option Bool :=
  some true
def m_spec_l13Book_B1 (d0 : List DNet) (rec1 : Int → Option Bool) (K1 : Option Bool) (i3 : Int) : Option Bool :=
  (bif (decide (i3 < (d0.length : Int))) then ((getI d0 i3).bind fun x6 => ((m_spec_l11Ok x6).bind fun y16 => (bif y16 then (rec1 (i3 + 1)) else some false))) else (K1))
def m_spec_l13Book_L1 (d0 : List DNet) (K1 : Option Bool) : Nat → Int → Option Bool
  | 0, _ => none
  | g + 1, i3 => m_spec_l13Book_B1 d0 (m_spec_l13Book_L1 d0 K1 g) K1 i3
def m_spec_l13Book (d0 : List DNet) : Option Bool :=
  (bif (decide ((d0.length : Int) > 24)) then some false else (m_spec_l13Book_L1 d0 m_spec_l13Book_A1 (d0.length + 1) 0))
set_option maxHeartbeats 2000000 in
theorem c_m_spec_l13Book (d0 : List DNet) (r : Bool) (hm : m_spec_l13Book d0 = some r) (v0 : Value) (w : World) (hv0 : Sl netRd 1 w v0 d0) :
    Calls Try.prog 102 #[v0] w fun e w' => e = .returned (.bool r) ∧ Below w.heap.size w w' := by
  obtain ⟨Aa0, na0, ca0, rfl, ha0, ra0⟩ := hv0
  have ea0 := ha0.len; subst ea0
  have qa0 := len_le ra0
  have T := Below.refl w.heap.size w
  unfold m_spec_l13Book at hm
  refine enter 18 Try.func102 rfl rfl rfl ?_
  intro f hf
  have s0 : f 0 = .slice Aa0 d0.length ca0 := hf 0 _ rfl
  refine wp_seq ?_
  refine wp_rs rfl ?_
  refine RQ.y rfl (Y.assign (v := .bool false) rfl) ?_
  refine RQ.nil ?_
  refine then_n ?_
  refine wp_seq ?_
  refine wp_seq ?_
  refine wp_rs rfl ?_
  refine RQ.y rfl (Y.move (v := .slice Aa0 d0.length ca0) s0) ?_
  refine RQ.y rfl (Y.len (by kernel_rfl) rfl) ?_
  refine RQ.y rfl (Y.binI (v := .bool (decide ((d0.length : Int) > 24))) rfl rfl rfl) ?_
  refine RQ.nil ?_
  refine then_n ?_
  rcases bcases (decide ((d0.length : Int) > 24)) with c1 | c1
  · replace hm := cF c1 hm
    have pc1 := of_decide_eq_false c1
    refine cond_f rfl (vb rfl c1) ?_
    refine wp_skip ?_
    refine then_n ?_
    refine wp_seq ?_
    refine wp_seq ?_
    refine wp_rs rfl ?_
    refine RQ.y rfl (Y.assign (v := .int .i64 0) rfl) ?_
    refine RQ.nil ?_
    refine then_n ?_
    refine wp_block ?_
    obtain ⟨K1, hK1, hm⟩ : ∃ K, K = m_spec_l13Book_A1 ∧ m_spec_l13Book_L1 d0 K (d0.length + 1) 0 = some r := ⟨_, rfl, hm⟩
    refine wp_loopX (fun g f w' => ∃ (i3 : Int), f 0 = .slice Aa0 d0.length ca0 ∧ f 3 = .int .i64 i3 ∧ 0 ≤ i3 ∧ Below w.heap.size w w' ∧ m_spec_l13Book_L1 d0 K1 g i3 = some r) 0 (fun f w' => Below w.heap.size w w' ∧ m_spec_l13Book_A1  = some r) (d0.length + 1) ⟨0, s0, rfl, (by omega), T, hm⟩ ?_ ?_
    · rintro f w2 ⟨T, hm⟩
      unfold m_spec_l13Book_A1 at hm
      refine blk_hit (then_n ?_)
      refine wp_seq ?_
      refine wp_rs rfl ?_
      refine RQ.y rfl (Y.assign (v := .bool true) rfl) ?_
      refine RQ.nil ?_
      refine then_n ?_
      refine wp_ret ?_
      obtain rfl := Option.some.inj hm
      exact (ret1 rfl rfl rfl ⟨rfl, T⟩)
    · rintro g f w4 ⟨i3, s0_1, s3_1, nn3_1, T, hm⟩
      rcases g with _ | g
      · simp only [m_spec_l13Book_L1] at hm; cases hm
      obtain ⟨rec1, hrec1, hm⟩ : ∃ z, z = m_spec_l13Book_L1 d0 K1 g ∧ m_spec_l13Book_B1 d0 z K1 i3 = some r := ⟨_, rfl, hm⟩
      unfold m_spec_l13Book_B1 at hm
      refine wp_seq ?_
      refine wp_seq ?_
      refine wp_rs rfl ?_
      refine RQ.y rfl (Y.move (v := .int .i64 i3) s3_1) ?_
      refine RQ.y rfl (Y.move (v := .slice Aa0 d0.length ca0) s0_1) ?_
      refine RQ.y rfl (Y.len (by kernel_rfl) rfl) ?_
      refine RQ.y rfl (Y.binI (v := .bool (decide (i3 < (d0.length : Int)))) rfl rfl rfl) ?_
      refine RQ.nil ?_
      refine then_n ?_
      rcases bcases (decide (i3 < (d0.length : Int))) with c5 | c5
      · replace hm := cF c5 hm
        have pc5 := of_decide_eq_false c5
        refine cond_f rfl (vb rfl c5) ?_
        refine wp_exit ?_
        exact (then_x (then_x (hit_x ⟨_, rfl, ⟨T, (by rw [hK1] at hm; exact hm)⟩⟩)))
      · replace hm := cT c5 hm
        have pc5 := of_decide_eq_true c5
        refine cond_t rfl (vb rfl c5) ?_
        refine wp_skip ?_
        refine then_n ?_
        refine wp_seq ?_
        refine wp_block ?_
        refine wp_seq ?_
        refine wp_rb rfl ?_
        refine RQ.y rfl (Y.move (v := .slice Aa0 d0.length ca0) s0_1) ?_
        refine RQ.y rfl (Y.move (v := .int .i64 i3) s3_1) ?_
        obtain ⟨x6, hx9, hm⟩ := bnd hm
        obtain ⟨k7, hk10, hl11, hx9⟩ := getI_some hx9
        obtain ⟨b13, o14, rfl, hbb13⟩ := ha0.addr (by omega)
        obtain ⟨cs8, hRcs8, hc12⟩ := ha0.el hx9
        have hScs8 := hRcs8
        obtain ⟨A15, n15, c15, rfl, ⟨h15, r15⟩⟩ := hRcs8
        have e15 := h15.len; subst e15
        have q15 := len_le r15
        refine RQ.y rfl (Y.indexAddr (m := k7) (sz := 1) rfl rfl hk10 hl11 (by kernel_rfl)) ?_
        obtain ⟨y16, e17, hm⟩ := bnd hm
        refine RQ.call rfl (am1 rfl) (by kernel_rfl) (v := .bool y16) (bel (K := fun _ => True) fun w' hb' => (c_m_spec_l11Ok x6 _ e17 _ w' (ptArg netRd_ok hbb13 hScs8 hc12 (Tt T hb')))) ?_
        refine RQ.y rfl (Y.not (b' := (!y16)) rfl rfl) ?_
        refine RQ.nil ?_
        intro w18 hb19
        have szw18 := hb19.size
        have T := Tt T hb19
        refine then_n ?_
        rcases bcases y16 with c20 | c20
        · replace hm := cF c20 hm
          refine cond_t rfl (vbn rfl c20 rfl) ?_
          refine wp_seq ?_
          refine wp_rs rfl ?_
          refine RQ.y rfl (Y.assign (v := .bool false) rfl) ?_
          refine RQ.nil ?_
          refine then_n ?_
          refine wp_ret ?_
          obtain rfl := Option.some.inj hm
          exact (blk_r (then_r (then_r (hit_r (blk_r (then_r (ret1 rfl rfl rfl ⟨rfl, T⟩)))))))
        · replace hm := cT c20 hm
          refine cond_f rfl (vbn rfl c20 rfl) ?_
          refine wp_skip ?_
          refine blk_n (then_n ?_)
          refine wp_rs rfl ?_
          refine RQ.y rfl (Y.move (v := .int .i64 i3) s3_1) ?_
          refine RQ.y rfl (Y.binI rfl rfl (binI_add (m := i3) (by omega))) ?_
          refine RQ.y rfl (Y.assign (v := .int .i64 (i3 + 1)) rfl) ?_
          refine RQ.nil ?_
          exact (then_n ⟨g, _, Nat.lt_succ_self _, rfl, ⟨(i3 + 1), s0_1, rfl, (by omega), T, (by rw [← hrec1]; exact hm)⟩⟩)
  · replace hm := cT c1 hm
    have pc1 := of_decide_eq_true c1
    refine cond_t rfl (vb rfl c1) ?_
    refine wp_seq ?_
    refine wp_rs rfl ?_
    refine RQ.y rfl (Y.assign (v := .bool false) rfl) ?_
    refine RQ.nil ?_
    refine then_n ?_
    refine wp_ret ?_
    obtain rfl := Option.some.inj hm
    exact (then_r (ret1 rfl rfl rfl ⟨rfl, T⟩))
def m_impl_ValidTemplates_1 (d0 : DNet) : Option Bool :=
  ((m_impl_ValidNet d0).bind fun y6 => some (!y6))
set_option maxHeartbeats 2000000 in
theorem c_m_impl_ValidTemplates_1 (d0 : DNet) (r : Bool) (hm : m_impl_ValidTemplates_1 d0 = some r) (v0 : Value) (w : World) (hv0 : St netRd w v0 d0) :
    Calls Try.prog 104 #[v0] w fun e w' => e = .returned (.bool r) ∧ Below w.heap.size w w' := by
  obtain ⟨csa0, rfl, ⟨A1, n1, c1, rfl, ⟨h1, r1⟩⟩⟩ := hv0
  have e1 := h1.len; subst e1
  have q1 := len_le r1
  have T := Below.refl w.heap.size w
  unfold m_impl_ValidTemplates_1 at hm
  refine enter 6 Try.func104 rfl rfl rfl ?_
  intro f hf
  have s0 : f 0 = .agg #[.slice A1 d0.agents.length c1] := hf 0 _ rfl
  refine wp_seq ?_
  refine wp_rl rfl ?_
  refine RL.box rfl s0 (fun w2 B3 hb4 szw2 => ?_)
  replace B3 : Blk w2 w.heap.size 30 #[.slice A1 d0.agents.length c1] := B3
  have GB3 : w.heap.size ≤ w.heap.size := T.size
  have T := Tt T hb4
  refine RL.y rfl (Y.assign (v := .bool false) rfl) ?_
  refine RL.nil ?_
  refine then_n ?_
  refine wp_seq ?_
  refine wp_rb rfl ?_
  refine RQ.y rfl (Y.loadN (cs := [.slice A1 d0.agents.length c1]) rfl (by kernel_rfl) (cells1 (beC (blkCell B3 (i := 0) rfl)))) ?_
  obtain ⟨y6, e7, hm⟩ := bnd hm
  refine RQ.call rfl (am1 rfl) (by kernel_rfl) (v := .bool y6) (bel (K := fun _ => True) fun w' hb' => (c_m_impl_ValidNet d0 _ e7 _ w' (stArg (R := netRd) ⟨_, _, _, rfl, ⟨SlAt.now agentRd_ok h1 (Nat.le_refl _) (Tt T hb'), r1⟩⟩))) ?_
  refine RQ.y rfl (Y.not (b' := (!y6)) rfl rfl) ?_
  refine RQ.y rfl (Y.assign (v := .bool (!y6)) rfl) ?_
  refine RQ.nil ?_
  intro w8 hb9
  have szw8 := hb9.size
  have T := Tt T hb9
  refine then_n ?_
  refine wp_ret ?_
  obtain rfl := Option.some.inj hm
  exact (ret1 rfl rfl rfl ⟨rfl, T⟩)
def m_slices_IndexFunc_impl_Net_impl_Net_A1 : Option Int :=
  some (-1)
def m_slices_IndexFunc_impl_Net_impl_Net_B1 (d0 : List DNet) (d1 : DNet → Option Bool) (rec1 : Int → Option Int) (K1 : Option Int) (i2 : Int) : Option Int :=
  (bif (decide (i2 < (d0.length : Int))) then ((getI d0 i2).bind fun x5 => ((d1 x5).bind fun y15 => (bif y15 then some i2 else (rec1 (i2 + 1))))) else (K1))
def m_slices_IndexFunc_impl_Net_impl_Net_L1 (d0 : List DNet) (d1 : DNet → Option Bool) (K1 : Option Int) : Nat → Int → Option Int
  | 0, _ => none
  | g + 1, i2 => m_slices_IndexFunc_impl_Net_impl_Net_B1 d0 d1 (m_slices_IndexFunc_impl_Net_impl_Net_L1 d0 d1 K1 g) K1 i2
def m_slices_IndexFunc_impl_Net_impl_Net (d0 : List DNet) (d1 : DNet → Option Bool) : Option Int :=
  (m_slices_IndexFunc_impl_Net_impl_Net_L1 d0 d1 m_slices_IndexFunc_impl_Net_impl_Net_A1 (d0.length + 1) 0)
set_option maxHeartbeats 2000000 in
theorem c_m_slices_IndexFunc_impl_Net_impl_Net (d0 : List DNet) (d1 : DNet → Option Bool) (r : Int) (hm : m_slices_IndexFunc_impl_Net_impl_Net d0 d1 = some r) (v0 : Value) (gf1 : FuncId) (caps1 : Array Value) (w : World) (hv0 : Sl netRd 1 w v0 d0) (hgo1 : isGo Try.prog gf1 = true) (hf1 : ∀ (x0 : DNet) (b : Bool), d1 x0 = some b → ∀ w1, Below w.heap.size w w1 → ∀ y0, St netRd w1 y0 x0 → Calls Try.prog gf1 (#[y0] ++ caps1) w1 fun e w2 => e = .returned (.bool b) ∧ Below w1.heap.size w1 w2) :
    Calls Try.prog 152 #[v0, .func (.func gf1) #[] caps1] w fun e w' => e = .returned (.int .i64 r) ∧ Below w.heap.size w w' := by
  obtain ⟨Aa0, na0, ca0, rfl, ha0, ra0⟩ := hv0
  have ea0 := ha0.len; subst ea0
  have qa0 := len_le ra0
  have T := Below.refl w.heap.size w
  unfold m_slices_IndexFunc_impl_Net_impl_Net at hm
  refine enter 19 Try.func152 rfl rfl rfl ?_
  intro f hf
  have s0 : f 0 = .slice Aa0 d0.length ca0 := hf 0 _ rfl
  have s1 : f 1 = .func (.func gf1) #[] caps1 := hf 1 _ rfl
  refine wp_seq ?_
  refine wp_rs rfl ?_
  refine RQ.y rfl (Y.assign (v := .int .i64 0) rfl) ?_
  refine RQ.nil ?_
  refine then_n ?_
  refine wp_seq ?_
  refine wp_seq ?_
  refine wp_rs rfl ?_
  refine RQ.y rfl (Y.move (v := .slice Aa0 d0.length ca0) s0) ?_
  refine RQ.y rfl (Y.len (by kernel_rfl) rfl) ?_
  refine RQ.y rfl (Y.move (v := .int .i64 0) rfl) ?_
  refine RQ.nil ?_
  refine then_n ?_
  refine wp_block ?_
  obtain ⟨K1, hK1, hm⟩ : ∃ K, K = m_slices_IndexFunc_impl_Net_impl_Net_A1 ∧ m_slices_IndexFunc_impl_Net_impl_Net_L1 d0 d1 K (d0.length + 1) 0 = some r := ⟨_, rfl, hm⟩
  refine wp_loopX (fun g f w' => ∃ (i2 : Int), f 0 = .slice Aa0 d0.length ca0 ∧ f 1 = .func (.func gf1) #[] caps1 ∧ f 7 = .int .i64 (d0.length : Int) ∧ f 8 = .int .i64 i2 ∧ 0 ≤ i2 ∧ Below w.heap.size w w' ∧ m_slices_IndexFunc_impl_Net_impl_Net_L1 d0 d1 K1 g i2 = some r) 0 (fun f w' => Below w.heap.size w w' ∧ m_slices_IndexFunc_impl_Net_impl_Net_A1  = some r) (d0.length + 1) ⟨0, s0, s1, rfl, rfl, (by omega), T, hm⟩ ?_ ?_
  · rintro f w1 ⟨T, hm⟩
    unfold m_slices_IndexFunc_impl_Net_impl_Net_A1 at hm
    refine blk_hit (then_n ?_)
    refine wp_seq ?_
    refine wp_rs rfl ?_
    refine RQ.y rfl (Y.assign (v := .int .i64 (-1)) rfl) ?_
    refine RQ.nil ?_
    refine then_n ?_
    refine wp_ret ?_
    obtain rfl := Option.some.inj hm
    exact (ret1 rfl rfl rfl ⟨rfl, T⟩)
  · rintro g f w3 ⟨i2, s0_1, s1_1, s7_1, s8_1, nn8_1, T, hm⟩
    rcases g with _ | g
    · simp only [m_slices_IndexFunc_impl_Net_impl_Net_L1] at hm; cases hm
    obtain ⟨rec1, hrec1, hm⟩ : ∃ z, z = m_slices_IndexFunc_impl_Net_impl_Net_L1 d0 d1 K1 g ∧ m_slices_IndexFunc_impl_Net_impl_Net_B1 d0 d1 z K1 i2 = some r := ⟨_, rfl, hm⟩
    unfold m_slices_IndexFunc_impl_Net_impl_Net_B1 at hm
    refine wp_seq ?_
    refine wp_rs rfl ?_
    refine RQ.y rfl (Y.binI (v := .bool (decide (i2 < (d0.length : Int)))) s8_1 s7_1 rfl) ?_
    refine RQ.nil ?_
    refine then_n ?_
    refine wp_seq ?_
    rcases bcases (decide (i2 < (d0.length : Int))) with c4 | c4
    · replace hm := cF c4 hm
      have pc4 := of_decide_eq_false c4
      refine cond_f rfl (vb rfl c4) ?_
      refine wp_exit ?_
      exact (then_x (then_x (hit_x ⟨_, rfl, ⟨T, (by rw [hK1] at hm; exact hm)⟩⟩)))
    · replace hm := cT c4 hm
      have pc4 := of_decide_eq_true c4
      refine cond_t rfl (vb rfl c4) ?_
      refine wp_skip ?_
      refine then_n ?_
      refine wp_seq ?_
      refine wp_block ?_
      refine wp_seq ?_
      refine wp_rs rfl ?_
      refine RQ.y rfl (Y.move (v := .int .i64 i2) s8_1) ?_
      refine RQ.y rfl (Y.assign (v := .int .i64 i2) rfl) ?_
      refine RQ.nil ?_
      refine then_n ?_
      refine wp_seq ?_
      refine wp_rb rfl ?_
      refine RQ.y rfl (Y.move (v := .func (.func gf1) #[] caps1) s1_1) ?_
      refine RQ.y rfl (Y.move (v := .slice Aa0 d0.length ca0) s0_1) ?_
      refine RQ.y rfl (Y.move (v := .int .i64 i2) rfl) ?_
      obtain ⟨x5, hx8, hm⟩ := bnd hm
      obtain ⟨k6, hk9, hl10, hx8⟩ := getI_some hx8
      obtain ⟨b12, o13, rfl, hbb12⟩ := ha0.addr (by omega)
      obtain ⟨cs7, hRcs7, hc11⟩ := ha0.el hx8
      have hScs7 := hRcs7
      obtain ⟨A14, n14, c14, rfl, ⟨h14, r14⟩⟩ := hRcs7
      have e14 := h14.len; subst e14
      have q14 := len_le r14
      refine RQ.y rfl (Y.indexAddr (m := k6) (sz := 1) rfl rfl hk9 hl10 (by kernel_rfl)) ?_
      refine RQ.y rfl (Y.loadN (cs := [.slice A14 x5.agents.length c14]) rfl (by kernel_rfl) (cells1 (beC (cellT T (hc11 0 _ rfl))))) ?_
      obtain ⟨y15, e16, hm⟩ := bnd hm
      refine RQ.callV rfl rfl (am1 rfl) hgo1 (v := .bool y15) (bel (K := fun _ => True) fun w' hb' => hf1 x5 y15 e16 w' (Tt T hb') _ (stArg (R := netRd) ⟨_, _, _, rfl, ⟨SlAt.now agentRd_ok h14 (Nat.le_refl _) (Tt T hb'), r14⟩⟩)) ?_
      refine RQ.nil ?_
      intro w17 hb18
      have szw17 := hb18.size
      have T := Tt T hb18
      refine then_n ?_
      rcases bcases y15 with c19 | c19
      · replace hm := cF c19 hm
        refine cond_f rfl (vb rfl c19) ?_
        refine wp_skip ?_
        refine blk_n (then_n ?_)
        refine wp_rs rfl ?_
        refine RQ.y rfl (Y.binI s8_1 rfl (binI_add (m := i2) (by omega))) ?_
        refine RQ.y rfl (Y.move (v := .int .i64 (i2 + 1)) rfl) ?_
        refine RQ.nil ?_
        exact (then_n ⟨g, _, Nat.lt_succ_self _, rfl, ⟨(i2 + 1), s0_1, s1_1, s7_1, rfl, (by omega), T, (by rw [← hrec1]; exact hm)⟩⟩)
      · replace hm := cT c19 hm
        refine cond_t rfl (vb rfl c19) ?_
        refine wp_seq ?_
        refine wp_rs rfl ?_
        refine RQ.y rfl (Y.move (v := .int .i64 i2) rfl) ?_
        refine RQ.y rfl (Y.assign (v := .int .i64 i2) rfl) ?_
        refine RQ.nil ?_
        refine then_n ?_
        refine wp_ret ?_
        obtain rfl := Option.some.inj hm
        exact (blk_r (then_r (then_r (hit_r (blk_r (then_r (ret1 rfl rfl rfl ⟨rfl, T⟩)))))))
def m_slices_ContainsFunc_impl_Net_impl_Net (d0 : List DNet) (d1 : DNet → Option Bool) : Option Bool :=
  ((m_slices_IndexFunc_impl_Net_impl_Net d0 d1).bind fun y1 => some (decide (y1 ≥ 0)))
set_option maxHeartbeats 2000000 in
theorem c_m_slices_ContainsFunc_impl_Net_impl_Net (d0 : List DNet) (d1 : DNet → Option Bool) (r : Bool) (hm : m_slices_ContainsFunc_impl_Net_impl_Net d0 d1 = some r) (v0 : Value) (gf1 : FuncId) (caps1 : Array Value) (w : World) (hv0 : Sl netRd 1 w v0 d0) (hgo1 : isGo Try.prog gf1 = true) (hf1 : ∀ (x0 : DNet) (b : Bool), d1 x0 = some b → ∀ w1, Below w.heap.size w w1 → ∀ y0, St netRd w1 y0 x0 → Calls Try.prog gf1 (#[y0] ++ caps1) w1 fun e w2 => e = .returned (.bool b) ∧ Below w1.heap.size w1 w2) :
    Calls Try.prog 103 #[v0, .func (.func gf1) #[] caps1] w fun e w' => e = .returned (.bool r) ∧ Below w.heap.size w w' := by
  obtain ⟨Aa0, na0, ca0, rfl, ha0, ra0⟩ := hv0
  have ea0 := ha0.len; subst ea0
  have qa0 := len_le ra0
  have T := Below.refl w.heap.size w
  unfold m_slices_ContainsFunc_impl_Net_impl_Net at hm
  refine enter 9 Try.func103 rfl rfl rfl ?_
  intro f hf
  have s0 : f 0 = .slice Aa0 d0.length ca0 := hf 0 _ rfl
  have s1 : f 1 = .func (.func gf1) #[] caps1 := hf 1 _ rfl
  refine wp_seq ?_
  refine wp_rs rfl ?_
  refine RQ.y rfl (Y.assign (v := .bool false) rfl) ?_
  refine RQ.nil ?_
  refine then_n ?_
  refine wp_seq ?_
  refine wp_rb rfl ?_
  refine RQ.y rfl (Y.move (v := .slice Aa0 d0.length ca0) s0) ?_
  refine RQ.y rfl (Y.move (v := .func (.func gf1) #[] caps1) s1) ?_
  obtain ⟨y1, e2, hm⟩ := bnd hm
  refine RQ.call rfl (am2 rfl rfl) (by kernel_rfl) (v := .int .i64 y1) (bel (K := fun _ => True) fun w' hb' => (c_m_slices_IndexFunc_impl_Net_impl_Net d0 d1 _ e2 _ _ _ w' (slArg netRd_ok ha0 ra0 (Tt T hb')) hgo1 (fun x0 b hx w1 hb1 y0 hy0 => hf1 x0 b hx w1 (Tt (Tt T hb') hb1) y0 hy0))) ?_
  refine RQ.y rfl (Y.binI (v := .bool (decide (y1 ≥ 0))) rfl rfl rfl) ?_
  refine RQ.y rfl (Y.assign (v := .bool (decide (y1 ≥ 0))) rfl) ?_
  refine RQ.nil ?_
  intro w3 hb4
  have szw3 := hb4.size
  have T := Tt T hb4
  refine then_n ?_
  refine wp_ret ?_
  obtain rfl := Option.some.inj hm
  exact (ret1 rfl rfl rfl ⟨rfl, T⟩)
def m_impl_ValidTemplates (d0 : List DNet) : Option Bool :=
  (bif (decide ((d0.length : Int) ≤ 24)) then ((m_slices_ContainsFunc_impl_Net_impl_Net d0 (fun x0 => m_impl_ValidTemplates_1 x0)).bind fun y4 => some (!y4)) else some false)
set_option maxHeartbeats 2000000 in
theorem c_m_impl_ValidTemplates (d0 : List DNet) (r : Bool) (hm : m_impl_ValidTemplates d0 = some r) (v0 : Value) (w : World) (hv0 : Sl netRd 1 w v0 d0) :
    Calls Try.prog 55 #[v0] w fun e w' => e = .returned (.bool r) ∧ Below w.heap.size w w' := by
  obtain ⟨Aa0, na0, ca0, rfl, ha0, ra0⟩ := hv0
  have ea0 := ha0.len; subst ea0
  have qa0 := len_le ra0
  have T := Below.refl w.heap.size w
  unfold m_impl_ValidTemplates at hm
  refine enter 11 Try.func55 rfl rfl rfl ?_
  intro f hf
  have s0 : f 0 = .slice Aa0 d0.length ca0 := hf 0 _ rfl
  refine wp_seq ?_
  refine wp_rs rfl ?_
  refine RQ.y rfl (Y.assign (v := .bool false) rfl) ?_
  refine RQ.nil ?_
  refine then_n ?_
  refine wp_seq ?_
  refine wp_rb rfl ?_
  refine RQ.y rfl (Y.move (v := .slice Aa0 d0.length ca0) s0) ?_
  refine RQ.y rfl (Y.len (by kernel_rfl) rfl) ?_
  refine RQ.y rfl (Y.binI (v := .bool (decide ((d0.length : Int) ≤ 24))) rfl rfl rfl) ?_
  refine RQ.y rfl (Y.move (v := .bool (decide ((d0.length : Int) ≤ 24))) rfl) ?_
  rcases bcases (decide ((d0.length : Int) ≤ 24)) with c1 | c1
  · replace hm := cF c1 hm
    have pc1 := of_decide_eq_false c1
    refine RQ.skip (wantN (dj := 6) rfl (vb rfl c1) rfl) ?_
    refine RQ.skip (wantN (dj := 6) rfl (vb rfl c1) rfl) ?_
    refine RQ.skip (wantN (dj := 6) rfl (vb rfl c1) rfl) ?_
    refine RQ.y rfl (Y.pick (b := false) (v := .bool false) (vb rfl c1) rfl) ?_
    refine RQ.y rfl (Y.assign (v := .bool false) rfl) ?_
    refine RQ.nil ?_
    intro w2 hb3
    have szw2 := hb3.size
    have T := Tt T hb3
    refine then_n ?_
    refine wp_ret ?_
    obtain rfl := Option.some.inj hm
    exact (ret1 rfl rfl rfl ⟨rfl, T⟩)
  · replace hm := cT c1 hm
    have pc1 := of_decide_eq_true c1
    refine RQ.y (wantT (dj := 6) rfl (vb rfl c1)) (Y.move (v := .slice Aa0 d0.length ca0) s0) ?_
    obtain ⟨y4, e5, hm⟩ := bnd hm
    refine RQ.call (wantT (dj := 6) rfl (vb rfl c1)) (am2 rfl rfl) (by kernel_rfl) (v := .bool y4) (bel (K := fun _ => True) fun w' hb' => (c_m_slices_ContainsFunc_impl_Net_impl_Net d0 (fun x0 => m_impl_ValidTemplates_1 x0) _ e5 _ _ _ w' (slArg netRd_ok ha0 ra0 (Tt T hb')) (by kernel_rfl) (fun x0 b hx w1 hb1 y0 hy0 => Calls.arr (by simp) (c_m_impl_ValidTemplates_1 x0 _ hx _  w1 hy0 )))) ?_
    refine RQ.y (wantT (dj := 6) rfl (vb rfl c1)) (Y.not (b' := (!y4)) rfl rfl) ?_
    refine RQ.y rfl (Y.pick (b := true) (v := .bool (!y4)) (vb rfl c1) rfl) ?_
    refine RQ.y rfl (Y.assign (v := .bool (!y4)) rfl) ?_
    refine RQ.nil ?_
    intro w6 hb7
    have szw6 := hb7.size
    have T := Tt T hb7
    refine then_n ?_
    refine wp_ret ?_
    obtain rfl := Option.some.inj hm
    exact (ret1 rfl rfl rfl ⟨rfl, T⟩)
end
section
open Go.RowKit
set_option linter.unusedVariables false
set_option linter.unusedSimpArgs false
def SmallS (b : List DNet) : Prop := ∀ d ∈ b, szNet d ≤ 1048576
theorem smallS {b : List DNet} (h : szNetS b ≤ 1048576) : SmallS b := fun d hd => by
  have : szNet d ≤ (b.map szNet).sum := by
    clear h
    induction b with
    | nil => cases hd
    | cons y ys ih =>
      rcases List.mem_cons.1 hd with rfl | hd
      · simp
      · have := ih hd; simp; omega
  unfold szNetS at h
  omega
noncomputable def validBook (b : List DNet) : Bool := decide (b.length ≤ 24) && b.all validNet
theorem book_loop {L : Nat → Int → Option Bool} {b : List DNet} (h : ∀ g (k : Nat) d, b[k]? = some d → L (g + 1) (k : Int) = bif validNet d then L g ((k : Int) + 1) else some false) (he : ∀ g, L (g + 1) (b.length : Int) = some true) (g : Nat) (hg : b.length < g) : L g 0 = some (b.all validNet) := by
  have key := allO (L := L) (n := b.length) (p := fun k => ∃ d, b[k]? = some d ∧ validNet d = true) (no := some false) (K := some true)
    (fun g k hk ⟨d, hd, hv⟩ => by rw [h g k d hd, hv, cond_true])
    (fun g k hk hn => by
      have hd := List.getElem?_eq_getElem hk
      cases hv : validNet b[k] with
      | true => exact absurd ⟨_, hd, hv⟩ hn
      | false => rw [h g k _ hd, hv, cond_false]) he g hg
  rcases key with ⟨h1, h2⟩ | ⟨h1, h2⟩
  · rw [h2]; congr 1; symm
    rw [List.all_eq_true]
    intro d hd
    obtain ⟨k, hk, rfl⟩ := List.getElem_of_mem hd
    obtain ⟨d, hd, hv⟩ := h1 k hk
    rw [List.getElem?_eq_getElem hk] at hd
    injection hd with hd
    rw [hd]; exact hv
  · rw [h2]; congr 1; symm
    cases ha : b.all validNet with
    | false => rfl
    | true =>
      rw [List.all_eq_true] at ha
      exact absurd (fun k hk => ⟨_, List.getElem?_eq_getElem hk, ha _ (List.getElem_mem hk)⟩) h1
theorem p_sBook (b : List DNet) (hs : SmallS b) : m_spec_l13Book b = some (validBook b) := by
  unfold m_spec_l13Book validBook
  by_cases hl : b.length ≤ 24
  · rw [show decide ((b.length : Int) > 24) = false by simp; omega, cond_false, decide_eq_true hl, Bool.true_and]
    exact book_loop (fun g k d hd => by
      have hk := lt_of_some hd
      have hsd : Small d.agents := hs d (List.mem_of_getElem? hd)
      simp -implicitDefEqProofs only [m_spec_l13Book_L1, m_spec_l13Book_B1, dlt hk, cond_true, getI_nat hd, Option.bind_some, p_ok _ hsd])
      (fun g => by simp -implicitDefEqProofs only [m_spec_l13Book_L1, m_spec_l13Book_B1, dge, cond_false, m_spec_l13Book_A1]) (b.length + 1) (Nat.lt_succ_self _)
  · rw [show decide ((b.length : Int) > 24) = true by simp; omega, cond_true, decide_eq_false hl, Bool.false_and]
theorem p_iValidTemplates (b : List DNet) (hs : SmallS b) : m_impl_ValidTemplates b = some (validBook b) := by
  unfold m_impl_ValidTemplates validBook
  by_cases hl : b.length ≤ 24
  · rw [show decide ((b.length : Int) ≤ 24) = true by simp; omega, cond_true, decide_eq_true hl, Bool.true_and]
    unfold m_slices_ContainsFunc_impl_Net_impl_Net m_slices_IndexFunc_impl_Net_impl_Net
    have key := findI (L := m_slices_IndexFunc_impl_Net_impl_Net_L1 b (fun x0 => m_impl_ValidTemplates_1 x0) m_slices_IndexFunc_impl_Net_impl_Net_A1) (d := b) (q := fun d => !validNet d) (hit := fun i => some (i : Int)) (K := some (-1))
      (fun g k d hd => by
        have hk := lt_of_some hd
        have hsd : Small d.agents := hs d (List.mem_of_getElem? hd)
        simp -implicitDefEqProofs only [m_slices_IndexFunc_impl_Net_impl_Net_L1, m_slices_IndexFunc_impl_Net_impl_Net_B1, dlt hk, cond_true, getI_nat hd, Option.bind_some, m_impl_ValidTemplates_1, p_valid _ hsd]
        cases validNet d <;> rfl)
      (fun g => by simp -implicitDefEqProofs only [m_slices_IndexFunc_impl_Net_impl_Net_L1, m_slices_IndexFunc_impl_Net_impl_Net_B1, dge, cond_false, m_slices_IndexFunc_impl_Net_impl_Net_A1]) (b.length + 1) (Nat.lt_succ_self _)
    rw [key]
    cases hf : b.findIdx? (fun d => !validNet d) with
    | none =>
      have ha : b.all validNet = true := by
        rw [List.all_eq_true]; intro d hd
        have := List.findIdx?_eq_none_iff.1 hf d hd
        simpa using this
      rw [ha]; rfl
    | some i =>
      obtain ⟨hi, h1, _⟩ := List.findIdx?_eq_some_iff_getElem.1 hf
      have ha : b.all validNet = false := by
        rw [List.all_eq_false]; exact ⟨_, List.getElem_mem hi, by simpa using h1⟩
      rw [ha]
      simp only [Option.bind_some]
      rw [show decide ((i : Int) ≥ 0) = true by simp]; rfl
  · rw [show decide ((b.length : Int) ≤ 24) = false by simp; omega, cond_false, decide_eq_false hl, Bool.false_and]
end
section
open Go.RowKit
set_option linter.unusedVariables false
set_option linter.unusedSimpArgs false
set_option maxRecDepth 100000
def m_spec_l13First (d0 : DNet) (d1 : Int) (d2 : Int) : Option (Int × Int) :=
  ((getI d0.agents d1).bind fun x2 => ((getI d0.agents d2).bind fun x13 => (bif ((pairFirst x2.kind x2.level x13.kind x13.level) == 2) then some (d2, d1) else some (d1, d2))))
set_option maxHeartbeats 2000000 in
theorem c_m_spec_l13First (d0 : DNet) (d1 : Int) (d2 : Int) (r : Int × Int) (hm : m_spec_l13First d0 d1 d2 = some r) (v0 : Value) (w : World) (hv0 : Pt netRd w v0 d0) :
    Calls Try.prog 153 #[v0, .int .i64 d1, .int .i64 d2] w fun e w' => e = .returned (.tuple #[.int .i64 r.1, .int .i64 r.2]) ∧ Below w.heap.size w w' := by
  obtain ⟨ba0, oa0, csa0, rfl, hba0, hRa0, hca0⟩ := hv0
  have hSa0 := hRa0
  obtain ⟨A1, n1, c1, rfl, ⟨h1, r1⟩⟩ := hRa0
  have e1 := h1.len; subst e1
  have q1 := len_le r1
  have T := Below.refl w.heap.size w
  unfold m_spec_l13First at hm
  refine enter 44 Try.func153 rfl rfl rfl ?_
  intro f hf
  have s0 : f 0 = .pointer (some ⟨ba0, oa0, none⟩) := hf 0 _ rfl
  have s1 : f 1 = .int .i64 d1 := hf 1 _ rfl
  have s2 : f 2 = .int .i64 d2 := hf 2 _ rfl
  refine wp_seq ?_
  refine wp_rs rfl ?_
  refine RQ.y rfl (Y.assign (v := .int .i64 0) rfl) ?_
  refine RQ.y rfl (Y.assign (v := .int .i64 0) rfl) ?_
  refine RQ.nil ?_
  refine then_n ?_
  refine wp_seq ?_
  refine wp_rs rfl ?_
  refine RQ.y rfl (Y.move (v := .pointer (some ⟨ba0, oa0, none⟩)) s0) ?_
  refine RQ.y rfl (Y.nilCheck rfl) ?_
  refine RQ.y rfl (Y.fieldAddr (off := 0) rfl (by kernel_rfl)) ?_
  refine RQ.y rfl (Y.load (v := .slice A1 d0.agents.length c1) rfl (by kernel_rfl) (eqC (cellT T (hca0 0 _ rfl)))) ?_
  refine RQ.y rfl (Y.move (v := .int .i64 d1) s1) ?_
  obtain ⟨x2, hx5, hm⟩ := bnd hm
  obtain ⟨k3, hk6, hl7, hx5⟩ := getI_some hx5
  obtain ⟨b9, o10, rfl, hbb9⟩ := h1.addr (by omega)
  obtain ⟨cs4, hRcs4, hc8⟩ := h1.el hx5
  have hScs4 := hRcs4
  obtain ⟨A11, n11, c11, A12, n12, c12, rfl, ⟨h11, r11⟩, ⟨h12, r12⟩⟩ := hRcs4
  have e11 := h11.len; subst e11
  have q11 := len_le r11
  have e12 := h12.len; subst e12
  have q12 := len_le r12
  refine RQ.y rfl (Y.indexAddr (m := k3) (sz := 5) rfl rfl hk6 hl7 (by kernel_rfl)) ?_
  refine RQ.y rfl (Y.assign (v := .pointer (some ⟨b9, o10 + k3 * 5, none⟩)) rfl) ?_
  refine RQ.nil ?_
  refine then_n ?_
  refine wp_seq ?_
  refine wp_rs rfl ?_
  refine RQ.y rfl (Y.move (v := .pointer (some ⟨ba0, oa0, none⟩)) s0) ?_
  refine RQ.y rfl (Y.nilCheck rfl) ?_
  refine RQ.y rfl (Y.fieldAddr (off := 0) rfl (by kernel_rfl)) ?_
  refine RQ.y rfl (Y.load (v := .slice (some ⟨b9, o10, none⟩) d0.agents.length c1) rfl (by kernel_rfl) (eqC (cellT T (hca0 0 _ rfl)))) ?_
  refine RQ.y rfl (Y.move (v := .int .i64 d2) s2) ?_
  obtain ⟨x13, hx16, hm⟩ := bnd hm
  obtain ⟨k14, hk17, hl18, hx16⟩ := getI_some hx16
  obtain ⟨cs15, hRcs15, hc19⟩ := h1.el hx16
  have hScs15 := hRcs15
  obtain ⟨A20, n20, c20, A21, n21, c21, rfl, ⟨h20, r20⟩, ⟨h21, r21⟩⟩ := hRcs15
  have e20 := h20.len; subst e20
  have q20 := len_le r20
  have e21 := h21.len; subst e21
  have q21 := len_le r21
  refine RQ.y rfl (Y.indexAddr (m := k14) (sz := 5) rfl rfl hk17 hl18 (by kernel_rfl)) ?_
  refine RQ.y rfl (Y.assign (v := .pointer (some ⟨b9, o10 + k14 * 5, none⟩)) rfl) ?_
  refine RQ.nil ?_
  refine then_n ?_
  refine wp_seq ?_
  refine wp_seq ?_
  refine wp_rbd (by kernel_rfl) (by kernel_rfl) ?_
  refine RQ.y rfl (Y.move (v := .pointer (some ⟨b9, o10 + k3 * 5, none⟩)) rfl) ?_
  refine RQ.y rfl (Y.nilCheck rfl) ?_
  refine RQ.y rfl (Y.fieldAddr (off := 0) rfl (by kernel_rfl)) ?_
  refine RQ.y rfl (Y.load (v := .int .i64 x2.kind) rfl (by kernel_rfl) (beC (cellT T (hc8 0 _ rfl)))) ?_
  refine RQ.y rfl (Y.move (v := .pointer (some ⟨b9, o10 + k3 * 5, none⟩)) rfl) ?_
  refine RQ.y rfl (Y.nilCheck rfl) ?_
  refine RQ.y rfl (Y.fieldAddr (off := 1) rfl (by kernel_rfl)) ?_
  refine RQ.y rfl (Y.load (v := .int .i64 x2.level) rfl (by kernel_rfl) (beC (cellT T (hc8 1 _ rfl)))) ?_
  refine RQ.y rfl (Y.move (v := .pointer (some ⟨b9, o10 + k14 * 5, none⟩)) rfl) ?_
  refine RQ.y rfl (Y.nilCheck rfl) ?_
  refine RQ.y rfl (Y.fieldAddr (off := 0) rfl (by kernel_rfl)) ?_
  refine RQ.y rfl (Y.load (v := .int .i64 x13.kind) rfl (by kernel_rfl) (beC (cellT T (hc19 0 _ rfl)))) ?_
  refine RQ.y rfl (Y.move (v := .pointer (some ⟨b9, o10 + k14 * 5, none⟩)) rfl) ?_
  refine RQ.y rfl (Y.nilCheck rfl) ?_
  refine RQ.y rfl (Y.fieldAddr (off := 1) rfl (by kernel_rfl)) ?_
  refine RQ.y rfl (Y.load (v := .int .i64 x13.level) rfl (by kernel_rfl) (beC (cellT T (hc19 1 _ rfl)))) ?_
  refine RQ.call rfl (am4 rfl rfl rfl rfl) (by kernel_rfl) (v := .int .i64 (pairFirst x2.kind x2.level x13.kind x13.level)) (bel (K := fun _ => True) fun w' hb' => (callB (spec_FirstOfPair x2.kind x2.level x13.kind x13.level w'))) ?_
  refine RQ.y rfl (Y.binI (v := .bool ((pairFirst x2.kind x2.level x13.kind x13.level) == 2)) rfl rfl rfl) ?_
  refine RQ.nil ?_
  intro w22 hb23
  have szw22 := hb23.size
  have T := Tt T hb23
  refine then_n ?_
  rcases bcases ((pairFirst x2.kind x2.level x13.kind x13.level) == 2) with c24 | c24
  · replace hm := cF c24 hm
    refine cond_f rfl (vb rfl c24) ?_
    refine wp_skip ?_
    refine then_n ?_
    refine wp_seq ?_
    refine wp_rs rfl ?_
    refine RQ.y rfl (Y.move (v := .int .i64 d1) s1) ?_
    refine RQ.y rfl (Y.move (v := .int .i64 d2) s2) ?_
    refine RQ.y rfl (Y.assign (v := .int .i64 d1) rfl) ?_
    refine RQ.y rfl (Y.assign (v := .int .i64 d2) rfl) ?_
    refine RQ.nil ?_
    refine then_n ?_
    refine wp_ret ?_
    obtain rfl := Option.some.inj hm
    exact (ret2 rfl rfl rfl rfl ⟨rfl, T⟩)
  · replace hm := cT c24 hm
    refine cond_t rfl (vb rfl c24) ?_
    refine wp_seq ?_
    refine wp_rs rfl ?_
    refine RQ.y rfl (Y.move (v := .int .i64 d2) s2) ?_
    refine RQ.y rfl (Y.move (v := .int .i64 d1) s1) ?_
    refine RQ.y rfl (Y.assign (v := .int .i64 d2) rfl) ?_
    refine RQ.y rfl (Y.assign (v := .int .i64 d1) rfl) ?_
    refine RQ.nil ?_
    refine then_n ?_
    refine wp_ret ?_
    obtain rfl := Option.some.inj hm
    exact (then_r (ret2 rfl rfl rfl rfl ⟨rfl, T⟩))
def m_spec_l13Growth (d0 : List DNet) (d1 : DNet) (d2 : Int) (d3 : Int) : Option (Int × Int) :=
  ((m_spec_l13First d1 d2 d3).bind fun y2 => ((getI d1.agents y2.1).bind fun x6 => ((getI d1.agents y2.2).bind fun x17 => ((m_spec_l13Class x6 x17).bind fun y26 => (bif (y26 == 8) then some (0, 11) else (bif (y26 == 3) then ((ck ((x17.ports.length : Int) - 1)).bind fun s73 => some ((growth y26 s73).1, 0)) else (bif (y26 == 4) then ((ck ((x17.ports.length : Int) - 1)).bind fun s70 => some ((growth y26 s70).1, 0)) else (bif (y26 == 6) then ((m_spec_l11Fields x6).bind fun y64 => some ((growth y26 y64).1, 0)) else (bif (y26 == 7) then (bif (decide (x6.value ≥ (d0.length : Int))) then some (0, 3) else ((getI d0 x6.value).bind fun x38 => ((getI d0 x6.value).bind fun x48 => ((m_spec_l13Highest x48).bind fun y56 => ((ck (y56 + x6.level)).bind fun s58 => (bif (decide (s58 > 8)) then some (0, 9) else some ((growth y26 (x38.agents.length : Int)).1, 0))))))) else some ((growth y26 0).1, 0))))))))))
set_option maxHeartbeats 2000000 in
theorem c_m_spec_l13Growth (d0 : List DNet) (d1 : DNet) (d2 : Int) (d3 : Int) (r : Int × Int) (hm : m_spec_l13Growth d0 d1 d2 d3 = some r) (v0 : Value) (v1 : Value) (w : World) (hv0 : Sl netRd 1 w v0 d0) (hv1 : Pt netRd w v1 d1) :
    Calls Try.prog 105 #[v0, v1, .int .i64 d2, .int .i64 d3] w fun e w' => e = .returned (.tuple #[.int .i64 r.1, .int .i64 r.2]) ∧ Below w.heap.size w w' := by
  obtain ⟨Aa0, na0, ca0, rfl, ha0, ra0⟩ := hv0
  have ea0 := ha0.len; subst ea0
  have qa0 := len_le ra0
  obtain ⟨ba1, oa1, csa1, rfl, hba1, hRa1, hca1⟩ := hv1
  have hSa1 := hRa1
  obtain ⟨A1, n1, c1, rfl, ⟨h1, r1⟩⟩ := hRa1
  have e1 := h1.len; subst e1
  have q1 := len_le r1
  have T := Below.refl w.heap.size w
  unfold m_spec_l13Growth at hm
  refine enter 92 Try.func105 rfl rfl rfl ?_
  intro f hf
  have s0 : f 0 = .slice Aa0 d0.length ca0 := hf 0 _ rfl
  have s1 : f 1 = .pointer (some ⟨ba1, oa1, none⟩) := hf 1 _ rfl
  have s2 : f 2 = .int .i64 d2 := hf 2 _ rfl
  have s3 : f 3 = .int .i64 d3 := hf 3 _ rfl
  refine wp_seq ?_
  refine wp_rs rfl ?_
  refine RQ.y rfl (Y.assign (v := .int .i64 0) rfl) ?_
  refine RQ.y rfl (Y.assign (v := .int .i64 0) rfl) ?_
  refine RQ.nil ?_
  refine then_n ?_
  refine wp_seq ?_
  refine wp_rb rfl ?_
  refine RQ.y rfl (Y.move (v := .pointer (some ⟨ba1, oa1, none⟩)) s1) ?_
  refine RQ.y rfl (Y.move (v := .int .i64 d2) s2) ?_
  refine RQ.y rfl (Y.move (v := .int .i64 d3) s3) ?_
  obtain ⟨y2, e3, hm⟩ := bnd hm
  refine RQ.call rfl (am3 rfl rfl rfl) (by kernel_rfl) (v := .tuple #[.int .i64 y2.1, .int .i64 y2.2]) (bel (K := fun _ => True) fun w' hb' => (c_m_spec_l13First d1 d2 d3 _ e3 _ w' (ptArg netRd_ok hba1 hSa1 hca1 (Tt T hb')))) ?_
  refine RQ.y rfl (Y.move (v := .tuple #[.int .i64 y2.1, .int .i64 y2.2]) rfl) ?_
  refine RQ.y rfl (Y.extract (i := 0) rfl rfl) ?_
  refine RQ.y rfl (Y.extract (i := 1) rfl rfl) ?_
  refine RQ.y rfl (Y.assign (v := .int .i64 y2.1) rfl) ?_
  refine RQ.y rfl (Y.assign (v := .int .i64 y2.2) rfl) ?_
  refine RQ.nil ?_
  intro w4 hb5
  have szw4 := hb5.size
  have T := Tt T hb5
  refine then_n ?_
  refine wp_seq ?_
  refine wp_rs rfl ?_
  refine RQ.y rfl (Y.move (v := .pointer (some ⟨ba1, oa1, none⟩)) s1) ?_
  refine RQ.y rfl (Y.nilCheck rfl) ?_
  refine RQ.y rfl (Y.fieldAddr (off := 0) rfl (by kernel_rfl)) ?_
  refine RQ.y rfl (Y.load (v := .slice A1 d1.agents.length c1) rfl (by kernel_rfl) (eqC (cellT T (hca1 0 _ rfl)))) ?_
  refine RQ.y rfl (Y.move (v := .int .i64 y2.1) rfl) ?_
  obtain ⟨x6, hx9, hm⟩ := bnd hm
  obtain ⟨k7, hk10, hl11, hx9⟩ := getI_some hx9
  obtain ⟨b13, o14, rfl, hbb13⟩ := h1.addr (by omega)
  obtain ⟨cs8, hRcs8, hc12⟩ := h1.el hx9
  have hScs8 := hRcs8
  obtain ⟨A15, n15, c15, A16, n16, c16, rfl, ⟨h15, r15⟩, ⟨h16, r16⟩⟩ := hRcs8
  have e15 := h15.len; subst e15
  have q15 := len_le r15
  have e16 := h16.len; subst e16
  have q16 := len_le r16
  refine RQ.y rfl (Y.indexAddr (m := k7) (sz := 5) rfl rfl hk10 hl11 (by kernel_rfl)) ?_
  refine RQ.y rfl (Y.assign (v := .pointer (some ⟨b13, o14 + k7 * 5, none⟩)) rfl) ?_
  refine RQ.nil ?_
  refine then_n ?_
  refine wp_seq ?_
  refine wp_rs rfl ?_
  refine RQ.y rfl (Y.move (v := .pointer (some ⟨ba1, oa1, none⟩)) s1) ?_
  refine RQ.y rfl (Y.nilCheck rfl) ?_
  refine RQ.y rfl (Y.fieldAddr (off := 0) rfl (by kernel_rfl)) ?_
  refine RQ.y rfl (Y.load (v := .slice (some ⟨b13, o14, none⟩) d1.agents.length c1) rfl (by kernel_rfl) (eqC (cellT T (hca1 0 _ rfl)))) ?_
  refine RQ.y rfl (Y.move (v := .int .i64 y2.2) rfl) ?_
  obtain ⟨x17, hx20, hm⟩ := bnd hm
  obtain ⟨k18, hk21, hl22, hx20⟩ := getI_some hx20
  obtain ⟨cs19, hRcs19, hc23⟩ := h1.el hx20
  have hScs19 := hRcs19
  obtain ⟨A24, n24, c24, A25, n25, c25, rfl, ⟨h24, r24⟩, ⟨h25, r25⟩⟩ := hRcs19
  have e24 := h24.len; subst e24
  have q24 := len_le r24
  have e25 := h25.len; subst e25
  have q25 := len_le r25
  refine RQ.y rfl (Y.indexAddr (m := k18) (sz := 5) rfl rfl hk21 hl22 (by kernel_rfl)) ?_
  refine RQ.y rfl (Y.assign (v := .pointer (some ⟨b13, o14 + k18 * 5, none⟩)) rfl) ?_
  refine RQ.nil ?_
  refine then_n ?_
  refine wp_seq ?_
  refine wp_rb rfl ?_
  refine RQ.y rfl (Y.move (v := .pointer (some ⟨b13, o14 + k7 * 5, none⟩)) rfl) ?_
  refine RQ.y rfl (Y.move (v := .pointer (some ⟨b13, o14 + k18 * 5, none⟩)) rfl) ?_
  obtain ⟨y26, e27, hm⟩ := bnd hm
  refine RQ.call rfl (am2 rfl rfl) (by kernel_rfl) (v := .int .i64 y26) (bel (K := fun _ => True) fun w' hb' => (c_m_spec_l13Class x6 x17 _ e27 _ _ w' (ptArg agentRd_ok hbb13 hScs8 hc12 (Tt T hb')) (ptArg agentRd_ok hbb13 hScs19 hc23 (Tt T hb')))) ?_
  refine RQ.y rfl (Y.assign (v := .int .i64 y26) rfl) ?_
  refine RQ.nil ?_
  intro w28 hb29
  have szw28 := hb29.size
  have T := Tt T hb29
  refine then_n ?_
  refine wp_seq ?_
  refine wp_rs rfl ?_
  refine RQ.y rfl (Y.assign (v := .int .i64 0) rfl) ?_
  refine RQ.nil ?_
  refine then_n ?_
  refine wp_seq ?_
  refine wp_seq ?_
  refine wp_rs rfl ?_
  refine RQ.y rfl (Y.move (v := .int .i64 y26) rfl) ?_
  refine RQ.nil ?_
  refine then_n ?_
  refine wp_block ?_
  refine wp_seq ?_
  refine wp_rs rfl ?_
  refine RQ.y rfl (Y.binI (v := .bool (y26 == 8)) rfl rfl rfl) ?_
  refine RQ.y rfl (Y.assign (v := .bool (y26 == 8)) rfl) ?_
  refine RQ.nil ?_
  refine then_n ?_
  rcases bcases (y26 == 8) with c30 | c30
  · replace hm := cF c30 hm
    refine cond_f rfl (vb rfl c30) ?_
    refine wp_seq ?_
    refine wp_seq ?_
    refine wp_rs rfl ?_
    refine RQ.y rfl (Y.binI (v := .bool (y26 == 3)) rfl rfl rfl) ?_
    refine RQ.y rfl (Y.assign (v := .bool (y26 == 3)) rfl) ?_
    refine RQ.nil ?_
    refine then_n ?_
    rcases bcases (y26 == 3) with c31 | c31
    · replace hm := cF c31 hm
      refine cond_f rfl (vb rfl c31) ?_
      refine wp_rs rfl ?_
      refine RQ.y rfl (Y.binI (v := .bool (y26 == 4)) rfl rfl rfl) ?_
      refine RQ.y rfl (Y.assign (v := .bool (y26 == 4)) rfl) ?_
      refine RQ.nil ?_
      refine then_n ?_
      rcases bcases (y26 == 4) with c32 | c32
      · replace hm := cF c32 hm
        refine cond_f rfl (vb rfl c32) ?_
        refine wp_seq ?_
        refine wp_rs rfl ?_
        refine RQ.y rfl (Y.binI (v := .bool (y26 == 6)) rfl rfl rfl) ?_
        refine RQ.y rfl (Y.assign (v := .bool (y26 == 6)) rfl) ?_
        refine RQ.nil ?_
        refine then_n ?_
        rcases bcases (y26 == 6) with c33 | c33
        · replace hm := cF c33 hm
          refine cond_f rfl (vb rfl c33) ?_
          refine wp_seq ?_
          refine wp_rs rfl ?_
          refine RQ.y rfl (Y.binI (v := .bool (y26 == 7)) rfl rfl rfl) ?_
          refine RQ.y rfl (Y.assign (v := .bool (y26 == 7)) rfl) ?_
          refine RQ.nil ?_
          refine then_n ?_
          rcases bcases (y26 == 7) with c34 | c34
          · replace hm := cF c34 hm
            refine cond_f rfl (vb rfl c34) ?_
            refine wp_skip ?_
            refine blk_n (then_n ?_)
            refine wp_seq ?_
            refine wp_rb rfl ?_
            refine RQ.y rfl (Y.move (v := .int .i64 y26) rfl) ?_
            refine RQ.y rfl (Y.move (v := .int .i64 0) rfl) ?_
            refine RQ.call rfl (am2 rfl rfl) (by kernel_rfl) (v := .tuple #[.int .i64 ((growth y26 0).1), .int .i64 ((growth y26 0).2)]) (bel (K := fun _ => True) fun w' hb' => (callB (spec_Growth y26 0 w'))) ?_
            refine RQ.y rfl (Y.move (v := .tuple #[.int .i64 ((growth y26 0).1), .int .i64 ((growth y26 0).2)]) rfl) ?_
            refine RQ.y rfl (Y.extract (i := 0) rfl rfl) ?_
            refine RQ.y rfl (Y.extract (i := 1) rfl rfl) ?_
            refine RQ.y rfl (Y.assign (v := .int .i64 ((growth y26 0).1)) rfl) ?_
            refine RQ.y rfl (Y.assign (v := .int .i64 ((growth y26 0).2)) rfl) ?_
            refine RQ.nil ?_
            intro w35 hb36
            have szw35 := hb36.size
            have T := Tt T hb36
            refine then_n ?_
            refine wp_seq ?_
            refine wp_rs rfl ?_
            refine RQ.y rfl (Y.move (v := .int .i64 ((growth y26 0).1)) rfl) ?_
            refine RQ.y rfl (Y.assign (v := .int .i64 ((growth y26 0).1)) rfl) ?_
            refine RQ.y rfl (Y.assign (v := .int .i64 0) rfl) ?_
            refine RQ.nil ?_
            refine then_n ?_
            refine wp_ret ?_
            obtain rfl := Option.some.inj hm
            exact (ret2 rfl rfl rfl rfl ⟨rfl, T⟩)
          · replace hm := cT c34 hm
            refine cond_t rfl (vb rfl c34) ?_
            refine wp_seq ?_
            refine wp_seq ?_
            refine wp_rs rfl ?_
            refine RQ.y rfl (Y.move (v := .pointer (some ⟨b13, o14 + k7 * 5, none⟩)) rfl) ?_
            refine RQ.y rfl (Y.nilCheck rfl) ?_
            refine RQ.y rfl (Y.fieldAddr (off := 2) rfl (by kernel_rfl)) ?_
            refine RQ.y rfl (Y.load (v := .int .i64 x6.value) rfl (by kernel_rfl) (eqC (cellT T (hc12 2 _ rfl)))) ?_
            refine RQ.y rfl (Y.move (v := .slice Aa0 d0.length ca0) s0) ?_
            refine RQ.y rfl (Y.len (by kernel_rfl) rfl) ?_
            refine RQ.y rfl (Y.binI (v := .bool (decide (x6.value ≥ (d0.length : Int)))) rfl rfl rfl) ?_
            refine RQ.nil ?_
            refine then_n ?_
            rcases bcases (decide (x6.value ≥ (d0.length : Int))) with c37 | c37
            · replace hm := cF c37 hm
              have pc37 := of_decide_eq_false c37
              refine cond_f rfl (vb rfl c37) ?_
              refine wp_skip ?_
              refine then_n ?_
              refine wp_seq ?_
              refine wp_rs rfl ?_
              refine RQ.y rfl (Y.move (v := .slice Aa0 d0.length ca0) s0) ?_
              refine RQ.y rfl (Y.move (v := .pointer (some ⟨b13, o14 + k7 * 5, none⟩)) rfl) ?_
              refine RQ.y rfl (Y.nilCheck rfl) ?_
              refine RQ.y rfl (Y.fieldAddr (off := 2) rfl (by kernel_rfl)) ?_
              refine RQ.y rfl (Y.load (v := .int .i64 x6.value) rfl (by kernel_rfl) (eqC (cellT T (hc12 2 _ rfl)))) ?_
              obtain ⟨x38, hx41, hm⟩ := bnd hm
              obtain ⟨k39, hk42, hl43, hx41⟩ := getI_some hx41
              obtain ⟨b45, o46, rfl, hbb45⟩ := ha0.addr (by omega)
              obtain ⟨cs40, hRcs40, hc44⟩ := ha0.el hx41
              have hScs40 := hRcs40
              obtain ⟨A47, n47, c47, rfl, ⟨h47, r47⟩⟩ := hRcs40
              have e47 := h47.len; subst e47
              have q47 := len_le r47
              refine RQ.y rfl (Y.indexAddr (m := k39) (sz := 1) rfl rfl hk42 hl43 (by kernel_rfl)) ?_
              refine RQ.y rfl (Y.fieldAddr (off := 0) rfl (by kernel_rfl)) ?_
              refine RQ.y rfl (Y.load (v := .slice A47 x38.agents.length c47) rfl (by kernel_rfl) (eqC (cellT T (hc44 0 _ rfl)))) ?_
              refine RQ.y rfl (Y.len (by kernel_rfl) rfl) ?_
              refine RQ.y rfl (Y.assign (v := .int .i64 (x38.agents.length : Int)) rfl) ?_
              refine RQ.nil ?_
              refine then_n ?_
              refine wp_seq ?_
              refine wp_rbd (by kernel_rfl) (by kernel_rfl) ?_
              refine RQ.y rfl (Y.move (v := .slice (some ⟨b45, o46, none⟩) d0.length ca0) s0) ?_
              refine RQ.y rfl (Y.move (v := .pointer (some ⟨b13, o14 + k7 * 5, none⟩)) rfl) ?_
              refine RQ.y rfl (Y.nilCheck rfl) ?_
              refine RQ.y rfl (Y.fieldAddr (off := 2) rfl (by kernel_rfl)) ?_
              refine RQ.y rfl (Y.load (v := .int .i64 x6.value) rfl (by kernel_rfl) (beC (cellT T (hc12 2 _ rfl)))) ?_
              obtain ⟨x48, hx51, hm⟩ := bnd hm
              obtain ⟨k49, hk52, hl53, hx51⟩ := getI_some hx51
              obtain ⟨cs50, hRcs50, hc54⟩ := ha0.el hx51
              have hScs50 := hRcs50
              obtain ⟨A55, n55, c55, rfl, ⟨h55, r55⟩⟩ := hRcs50
              have e55 := h55.len; subst e55
              have q55 := len_le r55
              refine RQ.y rfl (Y.indexAddr (m := k49) (sz := 1) rfl rfl hk52 hl53 (by kernel_rfl)) ?_
              obtain ⟨y56, e57, hm⟩ := bnd hm
              refine RQ.call rfl (am1 rfl) (by kernel_rfl) (v := .int .i64 y56) (bel (K := fun _ => True) fun w' hb' => (c_m_spec_l13Highest x48 _ e57 _ w' (ptArg netRd_ok hbb45 hScs50 hc54 (Tt T hb')))) ?_
              refine RQ.y rfl (Y.move (v := .pointer (some ⟨b13, o14 + k7 * 5, none⟩)) rfl) ?_
              refine RQ.y rfl (Y.nilCheck rfl) ?_
              refine RQ.y rfl (Y.fieldAddr (off := 1) rfl (by kernel_rfl)) ?_
              refine RQ.y rfl (Y.load (v := .int .i64 x6.level) rfl (by kernel_rfl) (beC (cellT T (hc12 1 _ rfl)))) ?_
              obtain ⟨s58, ks58, hm⟩ := bnd hm
              replace ks58 := ck_some ks58
              refine RQ.y rfl (Y.binI (v := .int .i64 s58) rfl rfl (by rw [binI_add ks58.2, ks58.1])) ?_
              refine RQ.y rfl (Y.binI (v := .bool (decide (s58 > 8))) rfl rfl rfl) ?_
              refine RQ.nil ?_
              intro w59 hb60
              have szw59 := hb60.size
              have T := Tt T hb60
              refine then_n ?_
              rcases bcases (decide (s58 > 8)) with c61 | c61
              · replace hm := cF c61 hm
                have pc61 := of_decide_eq_false c61
                refine cond_f rfl (vb rfl c61) ?_
                refine wp_skip ?_
                refine blk_n (then_n ?_)
                refine wp_seq ?_
                refine wp_rb rfl ?_
                refine RQ.y rfl (Y.move (v := .int .i64 y26) rfl) ?_
                refine RQ.y rfl (Y.move (v := .int .i64 (x38.agents.length : Int)) rfl) ?_
                refine RQ.call rfl (am2 rfl rfl) (by kernel_rfl) (v := .tuple #[.int .i64 ((growth y26 (x38.agents.length : Int)).1), .int .i64 ((growth y26 (x38.agents.length : Int)).2)]) (bel (K := fun _ => True) fun w' hb' => (callB (spec_Growth y26 (x38.agents.length : Int) w'))) ?_
                refine RQ.y rfl (Y.move (v := .tuple #[.int .i64 ((growth y26 (x38.agents.length : Int)).1), .int .i64 ((growth y26 (x38.agents.length : Int)).2)]) rfl) ?_
                refine RQ.y rfl (Y.extract (i := 0) rfl rfl) ?_
                refine RQ.y rfl (Y.extract (i := 1) rfl rfl) ?_
                refine RQ.y rfl (Y.assign (v := .int .i64 ((growth y26 (x38.agents.length : Int)).1)) rfl) ?_
                refine RQ.y rfl (Y.assign (v := .int .i64 ((growth y26 (x38.agents.length : Int)).2)) rfl) ?_
                refine RQ.nil ?_
                intro w62 hb63
                have szw62 := hb63.size
                have T := Tt T hb63
                refine then_n ?_
                refine wp_seq ?_
                refine wp_rs rfl ?_
                refine RQ.y rfl (Y.move (v := .int .i64 ((growth y26 (x38.agents.length : Int)).1)) rfl) ?_
                refine RQ.y rfl (Y.assign (v := .int .i64 ((growth y26 (x38.agents.length : Int)).1)) rfl) ?_
                refine RQ.y rfl (Y.assign (v := .int .i64 0) rfl) ?_
                refine RQ.nil ?_
                refine then_n ?_
                refine wp_ret ?_
                obtain rfl := Option.some.inj hm
                exact (ret2 rfl rfl rfl rfl ⟨rfl, T⟩)
              · replace hm := cT c61 hm
                have pc61 := of_decide_eq_true c61
                refine cond_t rfl (vb rfl c61) ?_
                refine wp_seq ?_
                refine wp_rs rfl ?_
                refine RQ.y rfl (Y.assign (v := .int .i64 0) rfl) ?_
                refine RQ.y rfl (Y.assign (v := .int .i64 9) rfl) ?_
                refine RQ.nil ?_
                refine then_n ?_
                refine wp_ret ?_
                obtain rfl := Option.some.inj hm
                exact (blk_r (then_r (ret2 rfl rfl rfl rfl ⟨rfl, T⟩)))
            · replace hm := cT c37 hm
              have pc37 := of_decide_eq_true c37
              refine cond_t rfl (vb rfl c37) ?_
              refine wp_seq ?_
              refine wp_rs rfl ?_
              refine RQ.y rfl (Y.assign (v := .int .i64 0) rfl) ?_
              refine RQ.y rfl (Y.assign (v := .int .i64 3) rfl) ?_
              refine RQ.nil ?_
              refine then_n ?_
              refine wp_ret ?_
              obtain rfl := Option.some.inj hm
              exact (then_r (blk_r (then_r (ret2 rfl rfl rfl rfl ⟨rfl, T⟩))))
        · replace hm := cT c33 hm
          refine cond_t rfl (vb rfl c33) ?_
          refine wp_rb rfl ?_
          refine RQ.y rfl (Y.move (v := .pointer (some ⟨b13, o14 + k7 * 5, none⟩)) rfl) ?_
          obtain ⟨y64, e65, hm⟩ := bnd hm
          refine RQ.call rfl (am1 rfl) (by kernel_rfl) (v := .int .i64 y64) (bel (K := fun _ => True) fun w' hb' => (c_m_spec_l11Fields x6 _ e65 _ w' (ptArg agentRd_ok hbb13 hScs8 hc12 (Tt T hb')))) ?_
          refine RQ.y rfl (Y.assign (v := .int .i64 y64) rfl) ?_
          refine RQ.nil ?_
          intro w66 hb67
          have szw66 := hb67.size
          have T := Tt T hb67
          refine blk_n (then_n ?_)
          refine wp_seq ?_
          refine wp_rb rfl ?_
          refine RQ.y rfl (Y.move (v := .int .i64 y26) rfl) ?_
          refine RQ.y rfl (Y.move (v := .int .i64 y64) rfl) ?_
          refine RQ.call rfl (am2 rfl rfl) (by kernel_rfl) (v := .tuple #[.int .i64 ((growth y26 y64).1), .int .i64 ((growth y26 y64).2)]) (bel (K := fun _ => True) fun w' hb' => (callB (spec_Growth y26 y64 w'))) ?_
          refine RQ.y rfl (Y.move (v := .tuple #[.int .i64 ((growth y26 y64).1), .int .i64 ((growth y26 y64).2)]) rfl) ?_
          refine RQ.y rfl (Y.extract (i := 0) rfl rfl) ?_
          refine RQ.y rfl (Y.extract (i := 1) rfl rfl) ?_
          refine RQ.y rfl (Y.assign (v := .int .i64 ((growth y26 y64).1)) rfl) ?_
          refine RQ.y rfl (Y.assign (v := .int .i64 ((growth y26 y64).2)) rfl) ?_
          refine RQ.nil ?_
          intro w68 hb69
          have szw68 := hb69.size
          have T := Tt T hb69
          refine then_n ?_
          refine wp_seq ?_
          refine wp_rs rfl ?_
          refine RQ.y rfl (Y.move (v := .int .i64 ((growth y26 y64).1)) rfl) ?_
          refine RQ.y rfl (Y.assign (v := .int .i64 ((growth y26 y64).1)) rfl) ?_
          refine RQ.y rfl (Y.assign (v := .int .i64 0) rfl) ?_
          refine RQ.nil ?_
          refine then_n ?_
          refine wp_ret ?_
          obtain rfl := Option.some.inj hm
          exact (ret2 rfl rfl rfl rfl ⟨rfl, T⟩)
      · replace hm := cT c32 hm
        refine cond_t rfl (vb rfl c32) ?_
        refine wp_rs rfl ?_
        refine RQ.y rfl (Y.move (v := .pointer (some ⟨b13, o14 + k18 * 5, none⟩)) rfl) ?_
        refine RQ.y rfl (Y.nilCheck rfl) ?_
        refine RQ.y rfl (Y.fieldAddr (off := 4) rfl (by kernel_rfl)) ?_
        refine RQ.y rfl (Y.load (v := .slice A25 x17.ports.length c25) rfl (by kernel_rfl) (eqC (cellT T (hc23 4 _ rfl)))) ?_
        refine RQ.y rfl (Y.len (by kernel_rfl) rfl) ?_
        obtain ⟨s70, ks70, hm⟩ := bnd hm
        replace ks70 := ck_some ks70
        refine RQ.y rfl (Y.binI (v := .int .i64 s70) rfl rfl (by rw [binI_sub ks70.2, ks70.1])) ?_
        refine RQ.y rfl (Y.assign (v := .int .i64 s70) rfl) ?_
        refine RQ.nil ?_
        refine blk_n (then_n ?_)
        refine wp_seq ?_
        refine wp_rb rfl ?_
        refine RQ.y rfl (Y.move (v := .int .i64 y26) rfl) ?_
        refine RQ.y rfl (Y.move (v := .int .i64 s70) rfl) ?_
        refine RQ.call rfl (am2 rfl rfl) (by kernel_rfl) (v := .tuple #[.int .i64 ((growth y26 s70).1), .int .i64 ((growth y26 s70).2)]) (bel (K := fun _ => True) fun w' hb' => (callB (spec_Growth y26 s70 w'))) ?_
        refine RQ.y rfl (Y.move (v := .tuple #[.int .i64 ((growth y26 s70).1), .int .i64 ((growth y26 s70).2)]) rfl) ?_
        refine RQ.y rfl (Y.extract (i := 0) rfl rfl) ?_
        refine RQ.y rfl (Y.extract (i := 1) rfl rfl) ?_
        refine RQ.y rfl (Y.assign (v := .int .i64 ((growth y26 s70).1)) rfl) ?_
        refine RQ.y rfl (Y.assign (v := .int .i64 ((growth y26 s70).2)) rfl) ?_
        refine RQ.nil ?_
        intro w71 hb72
        have szw71 := hb72.size
        have T := Tt T hb72
        refine then_n ?_
        refine wp_seq ?_
        refine wp_rs rfl ?_
        refine RQ.y rfl (Y.move (v := .int .i64 ((growth y26 s70).1)) rfl) ?_
        refine RQ.y rfl (Y.assign (v := .int .i64 ((growth y26 s70).1)) rfl) ?_
        refine RQ.y rfl (Y.assign (v := .int .i64 0) rfl) ?_
        refine RQ.nil ?_
        refine then_n ?_
        refine wp_ret ?_
        obtain rfl := Option.some.inj hm
        exact (ret2 rfl rfl rfl rfl ⟨rfl, T⟩)
    · replace hm := cT c31 hm
      refine cond_t rfl (vb rfl c31) ?_
      refine wp_skip ?_
      refine then_n ?_
      refine cond_t rfl (vb rfl c31) ?_
      refine wp_rs rfl ?_
      refine RQ.y rfl (Y.move (v := .pointer (some ⟨b13, o14 + k18 * 5, none⟩)) rfl) ?_
      refine RQ.y rfl (Y.nilCheck rfl) ?_
      refine RQ.y rfl (Y.fieldAddr (off := 4) rfl (by kernel_rfl)) ?_
      refine RQ.y rfl (Y.load (v := .slice A25 x17.ports.length c25) rfl (by kernel_rfl) (eqC (cellT T (hc23 4 _ rfl)))) ?_
      refine RQ.y rfl (Y.len (by kernel_rfl) rfl) ?_
      obtain ⟨s73, ks73, hm⟩ := bnd hm
      replace ks73 := ck_some ks73
      refine RQ.y rfl (Y.binI (v := .int .i64 s73) rfl rfl (by rw [binI_sub ks73.2, ks73.1])) ?_
      refine RQ.y rfl (Y.assign (v := .int .i64 s73) rfl) ?_
      refine RQ.nil ?_
      refine blk_n (then_n ?_)
      refine wp_seq ?_
      refine wp_rb rfl ?_
      refine RQ.y rfl (Y.move (v := .int .i64 y26) rfl) ?_
      refine RQ.y rfl (Y.move (v := .int .i64 s73) rfl) ?_
      refine RQ.call rfl (am2 rfl rfl) (by kernel_rfl) (v := .tuple #[.int .i64 ((growth y26 s73).1), .int .i64 ((growth y26 s73).2)]) (bel (K := fun _ => True) fun w' hb' => (callB (spec_Growth y26 s73 w'))) ?_
      refine RQ.y rfl (Y.move (v := .tuple #[.int .i64 ((growth y26 s73).1), .int .i64 ((growth y26 s73).2)]) rfl) ?_
      refine RQ.y rfl (Y.extract (i := 0) rfl rfl) ?_
      refine RQ.y rfl (Y.extract (i := 1) rfl rfl) ?_
      refine RQ.y rfl (Y.assign (v := .int .i64 ((growth y26 s73).1)) rfl) ?_
      refine RQ.y rfl (Y.assign (v := .int .i64 ((growth y26 s73).2)) rfl) ?_
      refine RQ.nil ?_
      intro w74 hb75
      have szw74 := hb75.size
      have T := Tt T hb75
      refine then_n ?_
      refine wp_seq ?_
      refine wp_rs rfl ?_
      refine RQ.y rfl (Y.move (v := .int .i64 ((growth y26 s73).1)) rfl) ?_
      refine RQ.y rfl (Y.assign (v := .int .i64 ((growth y26 s73).1)) rfl) ?_
      refine RQ.y rfl (Y.assign (v := .int .i64 0) rfl) ?_
      refine RQ.nil ?_
      refine then_n ?_
      refine wp_ret ?_
      obtain rfl := Option.some.inj hm
      exact (ret2 rfl rfl rfl rfl ⟨rfl, T⟩)
  · replace hm := cT c30 hm
    refine cond_t rfl (vb rfl c30) ?_
    refine wp_seq ?_
    refine wp_rs rfl ?_
    refine RQ.y rfl (Y.assign (v := .int .i64 0) rfl) ?_
    refine RQ.y rfl (Y.assign (v := .int .i64 11) rfl) ?_
    refine RQ.nil ?_
    refine then_n ?_
    refine wp_ret ?_
    obtain rfl := Option.some.inj hm
    exact (blk_r (then_r (ret2 rfl rfl rfl rfl ⟨rfl, T⟩)))
def m_spec_GrowthOfPair (d0 : List DNet) (d1 : DNet) (d2 : Int) : Option (Int × Int) :=
  ((m_spec_l13Book d0).bind fun y6 => (bif y6 then ((m_spec_l13Pair d1 d2).bind fun y11 => (bif (y11.2 != 0) then some (0, y11.2) else ((m_spec_l13Growth d0 d1 y11.1.a y11.1.b).bind fun y23 => some (y23.1, y23.2)))) else some (0, 1)))
set_option maxHeartbeats 2000000 in
theorem c_m_spec_GrowthOfPair (d0 : List DNet) (d1 : DNet) (d2 : Int) (r : Int × Int) (hm : m_spec_GrowthOfPair d0 d1 d2 = some r) (v0 : Value) (v1 : Value) (w : World) (hv0 : Sl netRd 1 w v0 d0) (hv1 : St netRd w v1 d1) :
    Calls Try.prog 57 #[v0, v1, .int .i64 d2] w fun e w' => e = .returned (.tuple #[.int .i64 r.1, .int .i64 r.2]) ∧ Below w.heap.size w w' := by
  obtain ⟨Aa0, na0, ca0, rfl, ha0, ra0⟩ := hv0
  have ea0 := ha0.len; subst ea0
  have qa0 := len_le ra0
  obtain ⟨csa1, rfl, ⟨A1, n1, c1, rfl, ⟨h1, r1⟩⟩⟩ := hv1
  have e1 := h1.len; subst e1
  have q1 := len_le r1
  have T := Below.refl w.heap.size w
  unfold m_spec_GrowthOfPair at hm
  refine enter 29 Try.func57 rfl rfl rfl ?_
  intro f hf
  have s0 : f 0 = .slice Aa0 d0.length ca0 := hf 0 _ rfl
  have s1 : f 1 = .agg #[.slice A1 d1.agents.length c1] := hf 1 _ rfl
  have s2 : f 2 = .int .i64 d2 := hf 2 _ rfl
  refine wp_seq ?_
  refine wp_rl rfl ?_
  refine RL.box rfl s1 (fun w2 B3 hb4 szw2 => ?_)
  replace B3 : Blk w2 w.heap.size 30 #[.slice A1 d1.agents.length c1] := B3
  have GB3 : w.heap.size ≤ w.heap.size := T.size
  have T := Tt T hb4
  refine RL.y rfl (Y.assign (v := .int .i64 0) rfl) ?_
  refine RL.y rfl (Y.assign (v := .int .i64 0) rfl) ?_
  refine RL.nil ?_
  refine then_n ?_
  refine wp_seq ?_
  refine wp_seq ?_
  refine wp_rb rfl ?_
  refine RQ.y rfl (Y.move (v := .slice Aa0 d0.length ca0) s0) ?_
  obtain ⟨y6, e7, hm⟩ := bnd hm
  refine RQ.call rfl (am1 rfl) (by kernel_rfl) (v := .bool y6) (bel (K := fun _ => True) fun w' hb' => (c_m_spec_l13Book d0 _ e7 _ w' (slArg netRd_ok ha0 ra0 (Tt T hb')))) ?_
  refine RQ.y rfl (Y.not (b' := (!y6)) rfl rfl) ?_
  refine RQ.nil ?_
  intro w8 hb9
  have szw8 := hb9.size
  have B3 := blkT B3 hb9
  have T := Tt T hb9
  refine then_n ?_
  rcases bcases y6 with c10 | c10
  · replace hm := cF c10 hm
    refine cond_t rfl (vbn rfl c10 rfl) ?_
    refine wp_seq ?_
    refine wp_rs rfl ?_
    refine RQ.y rfl (Y.assign (v := .int .i64 0) rfl) ?_
    refine RQ.y rfl (Y.assign (v := .int .i64 1) rfl) ?_
    refine RQ.nil ?_
    refine then_n ?_
    refine wp_ret ?_
    obtain rfl := Option.some.inj hm
    exact (then_r (ret2 rfl rfl rfl rfl ⟨rfl, T⟩))
  · replace hm := cT c10 hm
    refine cond_f rfl (vbn rfl c10 rfl) ?_
    refine wp_skip ?_
    refine then_n ?_
    refine wp_seq ?_
    refine wp_rl rfl ?_
    refine RL.y rfl (Y.move (v := .int .i64 d2) s2) ?_
    obtain ⟨y11, e12, hm⟩ := bnd hm
    refine RL.call rfl (am2 rfl rfl) (by kernel_rfl) ((c_m_spec_l13Pair d1 d2 _ e12 _ _ (ptBox (R := netRd) B3 ⟨_, _, _, rfl, ⟨SlAt.now agentRd_ok h1 (Nat.le_refl _) T, r1⟩⟩)).mono ?_)
    rintro _ w13 ⟨rfl, hb14⟩
    refine ⟨_, rfl, ?_⟩
    have szw13 := hb14.size
    have B3 := blkT B3 hb14
    have T := Tt T hb14
    refine RL.y rfl (Y.move (v := .tuple #[.agg #[.int .i64 y11.1.a, .int .i64 y11.1.b], .int .i64 y11.2]) rfl) ?_
    refine RL.y rfl (Y.extract (i := 0) rfl rfl) ?_
    refine RL.y rfl (Y.extract (i := 1) rfl rfl) ?_
    refine RL.alloc (z := .agg #[.int .i64 0, .int .i64 0]) rfl (by kernel_rfl) (fun w15 B16 hb17 szw15 => ?_)
    replace B16 : Blk w15 w13.heap.size 81 #[.int .i64 0, .int .i64 0] := B16
    have GB16 : w.heap.size ≤ w13.heap.size := T.size
    have Eob18_ob5 := Nat.ne_of_lt B3.lt
    have B3 := blkT B3 hb17
    have T := Tt T hb17
    refine RL.store (v := .agg #[.int .i64 y11.1.a, .int .i64 y11.1.b]) (cs' := #[.int .i64 y11.1.a, .int .i64 y11.1.b]) rfl rfl rfl B16 (by kernel_rfl) (by rfl) (by rfl) (by rfl) (fun w19 B20 ho21 => ?_)
    have szw19 := ho21.size
    have B3 := B3.only_ ho21 (by intro hin; simp at hin; exact Eob18_ob5 hin)
    have T := T.trans (ho21.below (by first | (simp; done) | (simp; omega)))
    refine RL.y rfl (Y.assign (v := .int .i64 y11.2) rfl) ?_
    refine RL.nil ?_
    refine then_n ?_
    refine wp_seq ?_
    refine wp_seq ?_
    refine wp_rs rfl ?_
    refine RQ.y rfl (Y.move (v := .int .i64 y11.2) rfl) ?_
    refine RQ.y rfl (Y.binI (v := .bool (y11.2 != 0)) rfl rfl rfl) ?_
    refine RQ.nil ?_
    refine then_n ?_
    rcases bcases (y11.2 != 0) with c22 | c22
    · replace hm := cF c22 hm
      refine cond_f rfl (vb rfl c22) ?_
      refine wp_skip ?_
      refine then_n ?_
      refine wp_seq ?_
      refine wp_rb rfl ?_
      refine RQ.y rfl (Y.move (v := .slice Aa0 d0.length ca0) s0) ?_
      refine RQ.y rfl (Y.fieldAddr (off := 0) rfl (by kernel_rfl)) ?_
      refine RQ.y rfl (Y.load (v := .int .i64 y11.1.a) rfl (by kernel_rfl) (beC (blkCell B20 (i := 0) rfl))) ?_
      refine RQ.y rfl (Y.fieldAddr (off := 1) rfl (by kernel_rfl)) ?_
      refine RQ.y rfl (Y.load (v := .int .i64 y11.1.b) rfl (by kernel_rfl) (beC (blkCell B20 (i := 1) rfl))) ?_
      obtain ⟨y23, e24, hm⟩ := bnd hm
      refine RQ.call rfl (am4 rfl rfl rfl rfl) (by kernel_rfl) (v := .tuple #[.int .i64 y23.1, .int .i64 y23.2]) (bel (K := fun _ => True) fun w' hb' => (c_m_spec_l13Growth d0 d1 y11.1.a y11.1.b _ e24 _ _ w' (slArg netRd_ok ha0 ra0 (Tt T hb')) (ptBox (R := netRd) (blkT B3 hb') ⟨_, _, _, rfl, ⟨SlAt.now agentRd_ok h1 (Nat.le_refl _) (Tt T hb'), r1⟩⟩))) ?_
      refine RQ.y rfl (Y.extract (i := 0) rfl rfl) ?_
      refine RQ.y rfl (Y.extract (i := 1) rfl rfl) ?_
      refine RQ.y rfl (Y.assign (v := .int .i64 y23.1) rfl) ?_
      refine RQ.y rfl (Y.assign (v := .int .i64 y23.2) rfl) ?_
      refine RQ.nil ?_
      intro w25 hb26
      have szw25 := hb26.size
      have T := Tt T hb26
      refine then_n ?_
      refine wp_ret ?_
      obtain rfl := Option.some.inj hm
      exact (ret2 rfl rfl rfl rfl ⟨rfl, T⟩)
    · replace hm := cT c22 hm
      refine cond_t rfl (vb rfl c22) ?_
      refine wp_seq ?_
      refine wp_rs rfl ?_
      refine RQ.y rfl (Y.move (v := .int .i64 y11.2) rfl) ?_
      refine RQ.y rfl (Y.assign (v := .int .i64 0) rfl) ?_
      refine RQ.y rfl (Y.assign (v := .int .i64 y11.2) rfl) ?_
      refine RQ.nil ?_
      refine then_n ?_
      refine wp_ret ?_
      obtain rfl := Option.some.inj hm
      exact (then_r (ret2 rfl rfl rfl rfl ⟨rfl, T⟩))
def m_impl_rewriter_check (d0 : DRewriter) (d1 : DPair) : Option (Int × Int × Int × Int) :=
  ((m_impl_Net_classOf d0.net d1).bind fun y8 => (bif y8.2 then (bif (y8.1 == 8) then some (0, 0, 0, 11) else (bif (y8.1 == 7) then ((getI d0.net.agents d1.b).bind fun x88 => (bif (decide (x88.value ≥ (d0.book.length : Int))) then some (0, 0, 0, 3) else ((getI d0.book x88.value).bind fun x111 => ((m_impl_shifted x111 x88.level).bind fun y121 => (bif y121.2 then some (y8.1, d1.b, d1.a, 0) else some (0, 0, 0, 9)))))) else some (y8.1, d1.b, d1.a, 0))) else (bif (y8.1 == 8) then some (0, 0, 0, 11) else (bif (y8.1 == 7) then ((getI d0.net.agents d1.a).bind fun x17 => (bif (decide (x17.value ≥ (d0.book.length : Int))) then some (0, 0, 0, 3) else ((getI d0.book x17.value).bind fun x40 => ((m_impl_shifted x40 x17.level).bind fun y50 => (bif y50.2 then some (y8.1, d1.a, d1.b, 0) else some (0, 0, 0, 9)))))) else some (y8.1, d1.a, d1.b, 0)))))
set_option maxHeartbeats 2000000 in
theorem c_m_impl_rewriter_check (d0 : DRewriter) (d1 : DPair) (r : Int × Int × Int × Int) (hm : m_impl_rewriter_check d0 d1 = some r) (v0 : Value) (w : World) (hv0 : Pt rewriterRd w v0 d0) :
    Calls Try.prog 106 #[v0, .agg #[.int .i64 d1.a, .int .i64 d1.b]] w fun e w' => e = .returned (.tuple #[.int .i64 r.1, .int .i64 r.2.1, .int .i64 r.2.2.1, .int .i64 r.2.2.2]) ∧ Below w.heap.size w w' := by
  obtain ⟨ba0, oa0, csa0, rfl, hba0, hRa0, hca0⟩ := hv0
  have hSa0 := hRa0
  obtain ⟨A1, n1, c1, A2, n2, c2, mv3, rfl, ⟨h1, r1⟩, ⟨h2, r2⟩⟩ := hRa0
  have e1 := h1.len; subst e1
  have q1 := len_le r1
  have e2 := h2.len; subst e2
  have q2 := len_le r2
  have T := Below.refl w.heap.size w
  unfold m_impl_rewriter_check at hm
  refine enter 67 Try.func106 rfl rfl rfl ?_
  intro f hf
  have s0 : f 0 = .pointer (some ⟨ba0, oa0, none⟩) := hf 0 _ rfl
  have s1 : f 1 = .agg #[.int .i64 d1.a, .int .i64 d1.b] := hf 1 _ rfl
  refine wp_seq ?_
  refine wp_rl rfl ?_
  refine RL.box rfl s1 (fun w4 B5 hb6 szw4 => ?_)
  replace B5 : Blk w4 w.heap.size 81 #[.int .i64 d1.a, .int .i64 d1.b] := B5
  have GB5 : w.heap.size ≤ w.heap.size := T.size
  have T := Tt T hb6
  refine RL.y rfl (Y.assign (v := .int .i64 0) rfl) ?_
  refine RL.y rfl (Y.assign (v := .int .i64 0) rfl) ?_
  refine RL.y rfl (Y.assign (v := .int .i64 0) rfl) ?_
  refine RL.y rfl (Y.assign (v := .int .i64 0) rfl) ?_
  refine RL.nil ?_
  refine then_n ?_
  refine wp_seq ?_
  refine wp_rbd (by kernel_rfl) (by kernel_rfl) ?_
  refine RQ.y rfl (Y.move (v := .pointer (some ⟨ba0, oa0, none⟩)) s0) ?_
  refine RQ.y rfl (Y.nilCheck rfl) ?_
  refine RQ.y rfl (Y.fieldAddr (off := 0) rfl (by kernel_rfl)) ?_
  refine RQ.y rfl (Y.loadN (cs := [.int .i64 d1.a, .int .i64 d1.b]) rfl (by kernel_rfl) (cells2 (beC (blkCell B5 (i := 0) rfl)) (beC (blkCell B5 (i := 1) rfl)))) ?_
  obtain ⟨y8, e9, hm⟩ := bnd hm
  refine RQ.call rfl (am2 rfl rfl) (by kernel_rfl) (v := .tuple #[.int .i64 y8.1, .bool y8.2]) (bel (K := fun _ => True) fun w' hb' => (c_m_impl_Net_classOf d0.net d1 _ e9 _ w' (ptSub (R := netRd) netRd_ok hba0 (pre := []) (cs := [.slice A1 d0.net.agents.length c1]) (post := [.slice A2 d0.book.length c2, mv3]) ⟨_, _, _, rfl, ⟨h1, r1⟩⟩ hca0 (Tt T hb')))) ?_
  refine RQ.y rfl (Y.move (v := .tuple #[.int .i64 y8.1, .bool y8.2]) rfl) ?_
  refine RQ.y rfl (Y.extract (i := 0) rfl rfl) ?_
  refine RQ.y rfl (Y.extract (i := 1) rfl rfl) ?_
  refine RQ.y rfl (Y.assign (v := .int .i64 y8.1) rfl) ?_
  refine RQ.y rfl (Y.assign (v := .bool y8.2) rfl) ?_
  refine RQ.nil ?_
  intro w10 hb11
  have szw10 := hb11.size
  have B5 := blkT B5 hb11
  have T := Tt T hb11
  refine then_n ?_
  refine wp_seq ?_
  refine wp_rbd (by kernel_rfl) (by kernel_rfl) ?_
  refine RQ.y rfl (Y.fieldAddr (off := 0) rfl (by kernel_rfl)) ?_
  refine RQ.y rfl (Y.load (v := .int .i64 d1.a) rfl (by kernel_rfl) (beC (blkCell B5 (i := 0) rfl))) ?_
  refine RQ.y rfl (Y.fieldAddr (off := 1) rfl (by kernel_rfl)) ?_
  refine RQ.y rfl (Y.load (v := .int .i64 d1.b) rfl (by kernel_rfl) (beC (blkCell B5 (i := 1) rfl))) ?_
  refine RQ.y rfl (Y.assign (v := .int .i64 d1.a) rfl) ?_
  refine RQ.y rfl (Y.assign (v := .int .i64 d1.b) rfl) ?_
  refine RQ.nil ?_
  intro w12 hb13
  have szw12 := hb13.size
  have T := Tt T hb13
  refine then_n ?_
  refine wp_seq ?_
  refine wp_seq ?_
  refine wp_rs rfl ?_
  refine RQ.y rfl (Y.move (v := .bool y8.2) rfl) ?_
  refine RQ.nil ?_
  refine then_n ?_
  rcases bcases y8.2 with c14 | c14
  · replace hm := cF c14 hm
    refine cond_f rfl (vb rfl c14) ?_
    refine wp_skip ?_
    refine then_n ?_
    refine wp_seq ?_
    refine wp_seq ?_
    refine wp_rs rfl ?_
    refine RQ.y rfl (Y.move (v := .int .i64 y8.1) rfl) ?_
    refine RQ.nil ?_
    refine then_n ?_
    refine wp_block ?_
    refine wp_seq ?_
    refine wp_rs rfl ?_
    refine RQ.y rfl (Y.binI (v := .bool (y8.1 == 8)) rfl rfl rfl) ?_
    refine RQ.y rfl (Y.assign (v := .bool (y8.1 == 8)) rfl) ?_
    refine RQ.nil ?_
    refine then_n ?_
    rcases bcases (y8.1 == 8) with c15 | c15
    · replace hm := cF c15 hm
      refine cond_f rfl (vb rfl c15) ?_
      refine wp_seq ?_
      refine wp_rs rfl ?_
      refine RQ.y rfl (Y.binI (v := .bool (y8.1 == 7)) rfl rfl rfl) ?_
      refine RQ.y rfl (Y.assign (v := .bool (y8.1 == 7)) rfl) ?_
      refine RQ.nil ?_
      refine then_n ?_
      rcases bcases (y8.1 == 7) with c16 | c16
      · replace hm := cF c16 hm
        refine cond_f rfl (vb rfl c16) ?_
        refine wp_skip ?_
        refine blk_n (then_n ?_)
        refine wp_seq ?_
        refine wp_rs rfl ?_
        refine RQ.y rfl (Y.move (v := .int .i64 y8.1) rfl) ?_
        refine RQ.y rfl (Y.move (v := .int .i64 d1.a) rfl) ?_
        refine RQ.y rfl (Y.move (v := .int .i64 d1.b) rfl) ?_
        refine RQ.y rfl (Y.assign (v := .int .i64 y8.1) rfl) ?_
        refine RQ.y rfl (Y.assign (v := .int .i64 d1.a) rfl) ?_
        refine RQ.y rfl (Y.assign (v := .int .i64 d1.b) rfl) ?_
        refine RQ.y rfl (Y.assign (v := .int .i64 0) rfl) ?_
        refine RQ.nil ?_
        refine then_n ?_
        refine wp_ret ?_
        obtain rfl := Option.some.inj hm
        exact (ret4 rfl rfl rfl rfl rfl rfl ⟨rfl, T⟩)
      · replace hm := cT c16 hm
        refine cond_t rfl (vb rfl c16) ?_
        refine wp_seq ?_
        refine wp_rl rfl ?_
        refine RL.y rfl (Y.move (v := .pointer (some ⟨ba0, oa0, none⟩)) s0) ?_
        refine RL.y rfl (Y.nilCheck rfl) ?_
        refine RL.y rfl (Y.fieldAddr (off := 0) rfl (by kernel_rfl)) ?_
        refine RL.y rfl (Y.fieldAddr (off := 0) rfl (by kernel_rfl)) ?_
        refine RL.y rfl (Y.load (v := .slice A1 d0.net.agents.length c1) rfl (by kernel_rfl) (eqC (cellT T (hca0 0 _ rfl)))) ?_
        refine RL.y rfl (Y.move (v := .int .i64 d1.a) rfl) ?_
        obtain ⟨x17, hx20, hm⟩ := bnd hm
        obtain ⟨k18, hk21, hl22, hx20⟩ := getI_some hx20
        obtain ⟨b24, o25, rfl, hbb24⟩ := h1.addr (by omega)
        obtain ⟨cs19, hRcs19, hc23⟩ := h1.el hx20
        have hScs19 := hRcs19
        obtain ⟨A26, n26, c26, A27, n27, c27, rfl, ⟨h26, r26⟩, ⟨h27, r27⟩⟩ := hRcs19
        have e26 := h26.len; subst e26
        have q26 := len_le r26
        have e27 := h27.len; subst e27
        have q27 := len_le r27
        refine RL.y rfl (Y.indexAddr (m := k18) (sz := 5) rfl rfl hk21 hl22 (by kernel_rfl)) ?_
        refine RL.y rfl (Y.loadN (cs := [.int .i64 x17.kind, .int .i64 x17.level, .int .i64 x17.value, .slice A26 x17.data.length c26, .slice A27 x17.ports.length c27]) rfl (by kernel_rfl) (cells5 (eqC (cellT T (hc23 0 _ rfl))) (eqC (cellT T (hc23 1 _ rfl))) (eqC (cellT T (hc23 2 _ rfl))) (eqC (cellT T (hc23 3 _ rfl))) (eqC (cellT T (hc23 4 _ rfl))))) ?_
        refine RL.alloc (z := .agg #[.int .i64 0, .int .i64 0, .int .i64 0, .slice none 0 0, .slice none 0 0]) rfl (by kernel_rfl) (fun w28 B29 hb30 szw28 => ?_)
        replace B29 : Blk w28 w12.heap.size 89 #[.int .i64 0, .int .i64 0, .int .i64 0, .slice none 0 0, .slice none 0 0] := B29
        have GB29 : w.heap.size ≤ w12.heap.size := T.size
        have T := Tt T hb30
        refine RL.store (v := .agg #[.int .i64 x17.kind, .int .i64 x17.level, .int .i64 x17.value, .slice A26 x17.data.length c26, .slice A27 x17.ports.length c27]) (cs' := #[.int .i64 x17.kind, .int .i64 x17.level, .int .i64 x17.value, .slice A26 x17.data.length c26, .slice A27 x17.ports.length c27]) rfl rfl rfl B29 (by kernel_rfl) (by rfl) (by rfl) (by rfl) (fun w32 B33 ho34 => ?_)
        have szw32 := ho34.size
        have T := T.trans (ho34.below (by first | (simp; done) | (simp; omega)))
        refine RL.nil ?_
        refine then_n ?_
        refine wp_seq ?_
        refine wp_seq ?_
        refine wp_rbd (by kernel_rfl) (by kernel_rfl) ?_
        refine RQ.y rfl (Y.fieldAddr (off := 2) rfl (by kernel_rfl)) ?_
        refine RQ.y rfl (Y.load (v := .int .i64 x17.value) rfl (by kernel_rfl) (beC (blkCell B33 (i := 2) rfl))) ?_
        refine RQ.y rfl (Y.move (v := .pointer (some ⟨ba0, oa0, none⟩)) s0) ?_
        refine RQ.y rfl (Y.nilCheck rfl) ?_
        refine RQ.y rfl (Y.fieldAddr (off := 1) rfl (by kernel_rfl)) ?_
        refine RQ.y rfl (Y.load (v := .slice A2 d0.book.length c2) rfl (by kernel_rfl) (beC (cellT T (hca0 1 _ rfl)))) ?_
        refine RQ.y rfl (Y.len (by kernel_rfl) rfl) ?_
        refine RQ.y rfl (Y.binI (v := .bool (decide (x17.value ≥ (d0.book.length : Int)))) rfl rfl rfl) ?_
        refine RQ.nil ?_
        intro w35 hb36
        have szw35 := hb36.size
        have B33 := blkT B33 hb36
        have T := Tt T hb36
        refine then_n ?_
        rcases bcases (decide (x17.value ≥ (d0.book.length : Int))) with c37 | c37
        · replace hm := cF c37 hm
          have pc37 := of_decide_eq_false c37
          refine cond_f rfl (vb rfl c37) ?_
          refine wp_skip ?_
          refine then_n ?_
          refine wp_seq ?_
          refine wp_rgt (fun w' => Below w.heap.size w w' ∧ Blk w' w12.heap.size 89 #[.int .i64 x17.kind, .int .i64 x17.level, .int .i64 x17.value, .slice A26 x17.data.length c26, .slice A27 x17.ports.length c27]) (.q 0 (.q 1 (.q 2 (.q 3 (.q 4 (.q 5 (.q 6 (.q 7 (.q 8 (.q 9 (.two 10 (.q 11 (.q 12 (.q 13 (.a 14 (.a 15 (.q 16 .nil)))))) 14 (.a 10 (.q 11 (.q 12 (.q 13 (.a 15 (.q 16 .nil))))))))))))))))) (by kernel_rfl) (by kernel_rfl) (fun w38 hb39 szw38 => ?_)
          have B33 := blkT B33 hb39
          have T := Tt T hb39
          refine ⟨⟨T, B33⟩, ?_⟩
          refine RT.y rfl rfl (Y.move (v := .pointer (some ⟨ba0, oa0, none⟩)) s0) ?_
          refine RT.y rfl rfl (Y.nilCheck rfl) ?_
          refine RT.y rfl rfl (Y.fieldAddr (off := 1) rfl (by kernel_rfl)) ?_
          refine RT.y rfl rfl (Y.load (v := .slice A2 d0.book.length c2) rfl (by kernel_rfl) (fun w' hS => (cellT hS.1 (hca0 1 _ rfl)))) ?_
          refine RT.y rfl rfl (Y.fieldAddr (off := 2) rfl (by kernel_rfl)) ?_
          refine RT.y rfl rfl (Y.load (v := .int .i64 x17.value) rfl (by kernel_rfl) (fun w' hS => (blkCell hS.2 (i := 2) rfl))) ?_
          obtain ⟨x40, hx43, hm⟩ := bnd hm
          obtain ⟨k41, hk44, hl45, hx43⟩ := getI_some hx43
          obtain ⟨b47, o48, rfl, hbb47⟩ := h2.addr (by omega)
          obtain ⟨cs42, hRcs42, hc46⟩ := h2.el hx43
          have hScs42 := hRcs42
          obtain ⟨A49, n49, c49, rfl, ⟨h49, r49⟩⟩ := hRcs42
          have e49 := h49.len; subst e49
          have q49 := len_le r49
          refine RT.y rfl rfl (Y.indexAddr (m := k41) (sz := 1) rfl rfl hk44 hl45 (by kernel_rfl)) ?_
          refine RT.y rfl rfl (Y.loadN (cs := [.slice A49 x40.agents.length c49]) rfl (by kernel_rfl) (cells1 (fun w' hS => (cellT hS.1 (hc46 0 _ rfl))))) ?_
          refine RT.y rfl rfl (Y.fieldAddr (off := 1) rfl (by kernel_rfl)) ?_
          refine RT.y rfl rfl (Y.load (v := .int .i64 x17.level) rfl (by kernel_rfl) (fun w' hS => (blkCell hS.2 (i := 1) rfl))) ?_
          refine RT.both rfl rfl ?_ ?_
          · obtain ⟨y50, e51, hm⟩ := bnd hm
            refine RL.call rfl (am2 rfl rfl) (by kernel_rfl) ((c_m_impl_shifted x40 x17.level _ e51 _ _ (stArg (R := netRd) ⟨_, _, _, rfl, ⟨SlAt.now agentRd_ok h49 (Nat.le_refl _) T, r49⟩⟩)).mono ?_)
            rintro _ w56 ⟨⟨v52, bs55, rfl, G53⟩, hb57⟩
            refine ⟨_, rfl, ?_⟩
            have szw56 := hb57.size
            have T0w56 := T.size
            have Zo54_ob31 : Ap bs55 [w12.heap.size] := (Ap.new (OwN.lo_ G53) (one_hi B33.lt))
            have B33 := blkT B33 hb57
            have T := Tt T hb57
            replace G53 := OwN.mono G53 T0w56
            refine RL.nil ⟨⟨T, B33⟩, ?_⟩
            refine RT.y rfl rfl (Y.move (v := .tuple #[.agg #[v52], .bool y50.2]) rfl) ?_
            refine RT.y rfl rfl (Y.extract (i := 0) rfl rfl) ?_
            refine RT.y rfl rfl (Y.extract (i := 1) rfl rfl) ?_
            refine RT.act rfl ?_
            refine RL.alloc (z := .agg #[.slice none 0 0]) rfl (by kernel_rfl) (fun w58 B59 hb60 szw58 => ?_)
            replace B59 : Blk w58 w56.heap.size 30 #[.slice none 0 0] := B59
            have GB59 : w.heap.size ≤ w56.heap.size := T.size
            have Eob61_ob31 := Nat.ne_of_lt B33.lt
            have No54_ob61 := Ap.far (OwN.hi G53)
            have B33 := blkT B33 hb60
            have G53 := OwN.below agentOw_ok G53 hb60
            have T := Tt T hb60
            refine RL.nil ⟨⟨T, B33⟩, ?_⟩
            refine RT.act rfl ?_
            obtain ⟨A62, c63, rfl⟩ := OwN.form G53
            have qbA62 := OwN.bound G53
            refine RL.store (v := .agg #[.slice A62 y50.1.agents.length c63]) (cs' := #[.slice A62 y50.1.agents.length c63]) rfl rfl rfl B59 (by kernel_rfl) (by rfl) (by rfl) (by rfl) (fun w64 B65 ho66 => ?_)
            have szw64 := ho66.size
            have B33 := B33.only_ ho66 (by intro hin; simp at hin; exact Eob61_ob31 hin)
            have G53 := OwN.only agentOw_ok G53 ho66 (Ap.one No54_ob61)
            have T := T.trans (ho66.below (by first | (simp; done) | (simp; omega)))
            refine RL.nil ⟨⟨T, B33⟩, ?_⟩
            refine RT.y rfl rfl (Y.assign (v := .bool y50.2) rfl) ?_
            refine RT.nil_ ?_
            refine then_n ?_
            refine wp_seq ?_
            refine wp_rs rfl ?_
            refine RQ.y rfl (Y.move (v := .bool y50.2) rfl) ?_
            refine RQ.y rfl (Y.not (b' := (!y50.2)) rfl rfl) ?_
            refine RQ.nil ?_
            refine then_n ?_
            rcases bcases y50.2 with c67 | c67
            · replace hm := cF c67 hm
              refine cond_t rfl (vbn rfl c67 rfl) ?_
              refine wp_seq ?_
              refine wp_rs rfl ?_
              refine RQ.y rfl (Y.assign (v := .int .i64 0) rfl) ?_
              refine RQ.y rfl (Y.assign (v := .int .i64 0) rfl) ?_
              refine RQ.y rfl (Y.assign (v := .int .i64 0) rfl) ?_
              refine RQ.y rfl (Y.assign (v := .int .i64 9) rfl) ?_
              refine RQ.nil ?_
              refine then_n ?_
              refine wp_ret ?_
              obtain rfl := Option.some.inj hm
              exact (blk_r (then_r (ret4 rfl rfl rfl rfl rfl rfl ⟨rfl, T⟩)))
            · replace hm := cT c67 hm
              refine cond_f rfl (vbn rfl c67 rfl) ?_
              refine wp_skip ?_
              refine blk_n (then_n ?_)
              refine wp_seq ?_
              refine wp_rs rfl ?_
              refine RQ.y rfl (Y.move (v := .int .i64 y8.1) rfl) ?_
              refine RQ.y rfl (Y.move (v := .int .i64 d1.a) rfl) ?_
              refine RQ.y rfl (Y.move (v := .int .i64 d1.b) rfl) ?_
              refine RQ.y rfl (Y.assign (v := .int .i64 y8.1) rfl) ?_
              refine RQ.y rfl (Y.assign (v := .int .i64 d1.a) rfl) ?_
              refine RQ.y rfl (Y.assign (v := .int .i64 d1.b) rfl) ?_
              refine RQ.y rfl (Y.assign (v := .int .i64 0) rfl) ?_
              refine RQ.nil ?_
              refine then_n ?_
              refine wp_ret ?_
              obtain rfl := Option.some.inj hm
              exact (ret4 rfl rfl rfl rfl rfl rfl ⟨rfl, T⟩)
          · refine RL.alloc (z := .agg #[.slice none 0 0]) rfl (by kernel_rfl) (fun w68 B69 hb70 szw68 => ?_)
            replace B69 : Blk w68 w38.heap.size 30 #[.slice none 0 0] := B69
            have GB69 : w.heap.size ≤ w38.heap.size := T.size
            have Eob71_ob31 := Nat.ne_of_lt B33.lt
            have B33 := blkT B33 hb70
            have T := Tt T hb70
            refine RL.nil ⟨⟨T, B33⟩, ?_⟩
            refine RT.act rfl ?_
            obtain ⟨y72, e73, hm⟩ := bnd hm
            refine RL.call rfl (am2 rfl rfl) (by kernel_rfl) ((c_m_impl_shifted x40 x17.level _ e73 _ _ (stArg (R := netRd) ⟨_, _, _, rfl, ⟨SlAt.now agentRd_ok h49 (Nat.le_refl _) T, r49⟩⟩)).mono ?_)
            rintro _ w78 ⟨⟨v74, bs77, rfl, G75⟩, hb79⟩
            refine ⟨_, rfl, ?_⟩
            have szw78 := hb79.size
            have T0w78 := T.size
            have Zo76_ob31 : Ap bs77 [w12.heap.size] := (Ap.new (OwN.lo_ G75) (one_hi B33.lt))
            have Zo76_ob71 : Ap bs77 [w38.heap.size] := (Ap.new (OwN.lo_ G75) (one_hi B69.lt))
            have B33 := blkT B33 hb79
            have B69 := blkT B69 hb79
            have T := Tt T hb79
            replace G75 := OwN.mono G75 T0w78
            refine RL.nil ⟨⟨T, B33⟩, ?_⟩
            refine RT.y rfl rfl (Y.move (v := .tuple #[.agg #[v74], .bool y72.2]) rfl) ?_
            refine RT.y rfl rfl (Y.extract (i := 0) rfl rfl) ?_
            refine RT.y rfl rfl (Y.extract (i := 1) rfl rfl) ?_
            refine RT.act rfl ?_
            obtain ⟨A80, c81, rfl⟩ := OwN.form G75
            have qbA80 := OwN.bound G75
            refine RL.store (v := .agg #[.slice A80 y72.1.agents.length c81]) (cs' := #[.slice A80 y72.1.agents.length c81]) rfl rfl rfl B69 (by kernel_rfl) (by rfl) (by rfl) (by rfl) (fun w82 B83 ho84 => ?_)
            have szw82 := ho84.size
            have B33 := B33.only_ ho84 (by intro hin; simp at hin; exact Eob71_ob31 hin)
            have G75 := OwN.only agentOw_ok G75 ho84 (Ap.one Zo76_ob71)
            have T := T.trans (ho84.below (by first | (simp; done) | (simp; omega)))
            refine RL.nil ⟨⟨T, B33⟩, ?_⟩
            refine RT.y rfl rfl (Y.assign (v := .bool y72.2) rfl) ?_
            refine RT.nil_ ?_
            refine then_n ?_
            refine wp_seq ?_
            refine wp_rs rfl ?_
            refine RQ.y rfl (Y.move (v := .bool y72.2) rfl) ?_
            refine RQ.y rfl (Y.not (b' := (!y72.2)) rfl rfl) ?_
            refine RQ.nil ?_
            refine then_n ?_
            rcases bcases y72.2 with c85 | c85
            · replace hm := cF c85 hm
              refine cond_t rfl (vbn rfl c85 rfl) ?_
              refine wp_seq ?_
              refine wp_rs rfl ?_
              refine RQ.y rfl (Y.assign (v := .int .i64 0) rfl) ?_
              refine RQ.y rfl (Y.assign (v := .int .i64 0) rfl) ?_
              refine RQ.y rfl (Y.assign (v := .int .i64 0) rfl) ?_
              refine RQ.y rfl (Y.assign (v := .int .i64 9) rfl) ?_
              refine RQ.nil ?_
              refine then_n ?_
              refine wp_ret ?_
              obtain rfl := Option.some.inj hm
              exact (blk_r (then_r (ret4 rfl rfl rfl rfl rfl rfl ⟨rfl, T⟩)))
            · replace hm := cT c85 hm
              refine cond_f rfl (vbn rfl c85 rfl) ?_
              refine wp_skip ?_
              refine blk_n (then_n ?_)
              refine wp_seq ?_
              refine wp_rs rfl ?_
              refine RQ.y rfl (Y.move (v := .int .i64 y8.1) rfl) ?_
              refine RQ.y rfl (Y.move (v := .int .i64 d1.a) rfl) ?_
              refine RQ.y rfl (Y.move (v := .int .i64 d1.b) rfl) ?_
              refine RQ.y rfl (Y.assign (v := .int .i64 y8.1) rfl) ?_
              refine RQ.y rfl (Y.assign (v := .int .i64 d1.a) rfl) ?_
              refine RQ.y rfl (Y.assign (v := .int .i64 d1.b) rfl) ?_
              refine RQ.y rfl (Y.assign (v := .int .i64 0) rfl) ?_
              refine RQ.nil ?_
              refine then_n ?_
              refine wp_ret ?_
              obtain rfl := Option.some.inj hm
              exact (ret4 rfl rfl rfl rfl rfl rfl ⟨rfl, T⟩)
        · replace hm := cT c37 hm
          have pc37 := of_decide_eq_true c37
          refine cond_t rfl (vb rfl c37) ?_
          refine wp_seq ?_
          refine wp_rs rfl ?_
          refine RQ.y rfl (Y.assign (v := .int .i64 0) rfl) ?_
          refine RQ.y rfl (Y.assign (v := .int .i64 0) rfl) ?_
          refine RQ.y rfl (Y.assign (v := .int .i64 0) rfl) ?_
          refine RQ.y rfl (Y.assign (v := .int .i64 3) rfl) ?_
          refine RQ.nil ?_
          refine then_n ?_
          refine wp_ret ?_
          obtain rfl := Option.some.inj hm
          exact (then_r (blk_r (then_r (ret4 rfl rfl rfl rfl rfl rfl ⟨rfl, T⟩))))
    · replace hm := cT c15 hm
      refine cond_t rfl (vb rfl c15) ?_
      refine wp_seq ?_
      refine wp_rs rfl ?_
      refine RQ.y rfl (Y.assign (v := .int .i64 0) rfl) ?_
      refine RQ.y rfl (Y.assign (v := .int .i64 0) rfl) ?_
      refine RQ.y rfl (Y.assign (v := .int .i64 0) rfl) ?_
      refine RQ.y rfl (Y.assign (v := .int .i64 11) rfl) ?_
      refine RQ.nil ?_
      refine then_n ?_
      refine wp_ret ?_
      obtain rfl := Option.some.inj hm
      exact (blk_r (then_r (ret4 rfl rfl rfl rfl rfl rfl ⟨rfl, T⟩)))
  · replace hm := cT c14 hm
    refine cond_t rfl (vb rfl c14) ?_
    refine wp_rs rfl ?_
    refine RQ.y rfl (Y.move (v := .int .i64 d1.b) rfl) ?_
    refine RQ.y rfl (Y.move (v := .int .i64 d1.a) rfl) ?_
    refine RQ.y rfl (Y.assign (v := .int .i64 d1.b) rfl) ?_
    refine RQ.y rfl (Y.assign (v := .int .i64 d1.a) rfl) ?_
    refine RQ.nil ?_
    refine then_n ?_
    refine wp_seq ?_
    refine wp_seq ?_
    refine wp_rs rfl ?_
    refine RQ.y rfl (Y.move (v := .int .i64 y8.1) rfl) ?_
    refine RQ.nil ?_
    refine then_n ?_
    refine wp_block ?_
    refine wp_seq ?_
    refine wp_rs rfl ?_
    refine RQ.y rfl (Y.binI (v := .bool (y8.1 == 8)) rfl rfl rfl) ?_
    refine RQ.y rfl (Y.assign (v := .bool (y8.1 == 8)) rfl) ?_
    refine RQ.nil ?_
    refine then_n ?_
    rcases bcases (y8.1 == 8) with c86 | c86
    · replace hm := cF c86 hm
      refine cond_f rfl (vb rfl c86) ?_
      refine wp_seq ?_
      refine wp_rs rfl ?_
      refine RQ.y rfl (Y.binI (v := .bool (y8.1 == 7)) rfl rfl rfl) ?_
      refine RQ.y rfl (Y.assign (v := .bool (y8.1 == 7)) rfl) ?_
      refine RQ.nil ?_
      refine then_n ?_
      rcases bcases (y8.1 == 7) with c87 | c87
      · replace hm := cF c87 hm
        refine cond_f rfl (vb rfl c87) ?_
        refine wp_skip ?_
        refine blk_n (then_n ?_)
        refine wp_seq ?_
        refine wp_rs rfl ?_
        refine RQ.y rfl (Y.move (v := .int .i64 y8.1) rfl) ?_
        refine RQ.y rfl (Y.move (v := .int .i64 d1.b) rfl) ?_
        refine RQ.y rfl (Y.move (v := .int .i64 d1.a) rfl) ?_
        refine RQ.y rfl (Y.assign (v := .int .i64 y8.1) rfl) ?_
        refine RQ.y rfl (Y.assign (v := .int .i64 d1.b) rfl) ?_
        refine RQ.y rfl (Y.assign (v := .int .i64 d1.a) rfl) ?_
        refine RQ.y rfl (Y.assign (v := .int .i64 0) rfl) ?_
        refine RQ.nil ?_
        refine then_n ?_
        refine wp_ret ?_
        obtain rfl := Option.some.inj hm
        exact (ret4 rfl rfl rfl rfl rfl rfl ⟨rfl, T⟩)
      · replace hm := cT c87 hm
        refine cond_t rfl (vb rfl c87) ?_
        refine wp_seq ?_
        refine wp_rl rfl ?_
        refine RL.y rfl (Y.move (v := .pointer (some ⟨ba0, oa0, none⟩)) s0) ?_
        refine RL.y rfl (Y.nilCheck rfl) ?_
        refine RL.y rfl (Y.fieldAddr (off := 0) rfl (by kernel_rfl)) ?_
        refine RL.y rfl (Y.fieldAddr (off := 0) rfl (by kernel_rfl)) ?_
        refine RL.y rfl (Y.load (v := .slice A1 d0.net.agents.length c1) rfl (by kernel_rfl) (eqC (cellT T (hca0 0 _ rfl)))) ?_
        refine RL.y rfl (Y.move (v := .int .i64 d1.b) rfl) ?_
        obtain ⟨x88, hx91, hm⟩ := bnd hm
        obtain ⟨k89, hk92, hl93, hx91⟩ := getI_some hx91
        obtain ⟨b95, o96, rfl, hbb95⟩ := h1.addr (by omega)
        obtain ⟨cs90, hRcs90, hc94⟩ := h1.el hx91
        have hScs90 := hRcs90
        obtain ⟨A97, n97, c97, A98, n98, c98, rfl, ⟨h97, r97⟩, ⟨h98, r98⟩⟩ := hRcs90
        have e97 := h97.len; subst e97
        have q97 := len_le r97
        have e98 := h98.len; subst e98
        have q98 := len_le r98
        refine RL.y rfl (Y.indexAddr (m := k89) (sz := 5) rfl rfl hk92 hl93 (by kernel_rfl)) ?_
        refine RL.y rfl (Y.loadN (cs := [.int .i64 x88.kind, .int .i64 x88.level, .int .i64 x88.value, .slice A97 x88.data.length c97, .slice A98 x88.ports.length c98]) rfl (by kernel_rfl) (cells5 (eqC (cellT T (hc94 0 _ rfl))) (eqC (cellT T (hc94 1 _ rfl))) (eqC (cellT T (hc94 2 _ rfl))) (eqC (cellT T (hc94 3 _ rfl))) (eqC (cellT T (hc94 4 _ rfl))))) ?_
        refine RL.alloc (z := .agg #[.int .i64 0, .int .i64 0, .int .i64 0, .slice none 0 0, .slice none 0 0]) rfl (by kernel_rfl) (fun w99 B100 hb101 szw99 => ?_)
        replace B100 : Blk w99 w12.heap.size 89 #[.int .i64 0, .int .i64 0, .int .i64 0, .slice none 0 0, .slice none 0 0] := B100
        have GB100 : w.heap.size ≤ w12.heap.size := T.size
        have T := Tt T hb101
        refine RL.store (v := .agg #[.int .i64 x88.kind, .int .i64 x88.level, .int .i64 x88.value, .slice A97 x88.data.length c97, .slice A98 x88.ports.length c98]) (cs' := #[.int .i64 x88.kind, .int .i64 x88.level, .int .i64 x88.value, .slice A97 x88.data.length c97, .slice A98 x88.ports.length c98]) rfl rfl rfl B100 (by kernel_rfl) (by rfl) (by rfl) (by rfl) (fun w103 B104 ho105 => ?_)
        have szw103 := ho105.size
        have T := T.trans (ho105.below (by first | (simp; done) | (simp; omega)))
        refine RL.nil ?_
        refine then_n ?_
        refine wp_seq ?_
        refine wp_seq ?_
        refine wp_rbd (by kernel_rfl) (by kernel_rfl) ?_
        refine RQ.y rfl (Y.fieldAddr (off := 2) rfl (by kernel_rfl)) ?_
        refine RQ.y rfl (Y.load (v := .int .i64 x88.value) rfl (by kernel_rfl) (beC (blkCell B104 (i := 2) rfl))) ?_
        refine RQ.y rfl (Y.move (v := .pointer (some ⟨ba0, oa0, none⟩)) s0) ?_
        refine RQ.y rfl (Y.nilCheck rfl) ?_
        refine RQ.y rfl (Y.fieldAddr (off := 1) rfl (by kernel_rfl)) ?_
        refine RQ.y rfl (Y.load (v := .slice A2 d0.book.length c2) rfl (by kernel_rfl) (beC (cellT T (hca0 1 _ rfl)))) ?_
        refine RQ.y rfl (Y.len (by kernel_rfl) rfl) ?_
        refine RQ.y rfl (Y.binI (v := .bool (decide (x88.value ≥ (d0.book.length : Int)))) rfl rfl rfl) ?_
        refine RQ.nil ?_
        intro w106 hb107
        have szw106 := hb107.size
        have B104 := blkT B104 hb107
        have T := Tt T hb107
        refine then_n ?_
        rcases bcases (decide (x88.value ≥ (d0.book.length : Int))) with c108 | c108
        · replace hm := cF c108 hm
          have pc108 := of_decide_eq_false c108
          refine cond_f rfl (vb rfl c108) ?_
          refine wp_skip ?_
          refine then_n ?_
          refine wp_seq ?_
          refine wp_rgt (fun w' => Below w.heap.size w w' ∧ Blk w' w12.heap.size 89 #[.int .i64 x88.kind, .int .i64 x88.level, .int .i64 x88.value, .slice A97 x88.data.length c97, .slice A98 x88.ports.length c98]) (.q 0 (.q 1 (.q 2 (.q 3 (.q 4 (.q 5 (.q 6 (.q 7 (.q 8 (.q 9 (.two 10 (.q 11 (.q 12 (.q 13 (.a 14 (.a 15 (.q 16 .nil)))))) 14 (.a 10 (.q 11 (.q 12 (.q 13 (.a 15 (.q 16 .nil))))))))))))))))) (by kernel_rfl) (by kernel_rfl) (fun w109 hb110 szw109 => ?_)
          have B104 := blkT B104 hb110
          have T := Tt T hb110
          refine ⟨⟨T, B104⟩, ?_⟩
          refine RT.y rfl rfl (Y.move (v := .pointer (some ⟨ba0, oa0, none⟩)) s0) ?_
          refine RT.y rfl rfl (Y.nilCheck rfl) ?_
          refine RT.y rfl rfl (Y.fieldAddr (off := 1) rfl (by kernel_rfl)) ?_
          refine RT.y rfl rfl (Y.load (v := .slice A2 d0.book.length c2) rfl (by kernel_rfl) (fun w' hS => (cellT hS.1 (hca0 1 _ rfl)))) ?_
          refine RT.y rfl rfl (Y.fieldAddr (off := 2) rfl (by kernel_rfl)) ?_
          refine RT.y rfl rfl (Y.load (v := .int .i64 x88.value) rfl (by kernel_rfl) (fun w' hS => (blkCell hS.2 (i := 2) rfl))) ?_
          obtain ⟨x111, hx114, hm⟩ := bnd hm
          obtain ⟨k112, hk115, hl116, hx114⟩ := getI_some hx114
          obtain ⟨b118, o119, rfl, hbb118⟩ := h2.addr (by omega)
          obtain ⟨cs113, hRcs113, hc117⟩ := h2.el hx114
          have hScs113 := hRcs113
          obtain ⟨A120, n120, c120, rfl, ⟨h120, r120⟩⟩ := hRcs113
          have e120 := h120.len; subst e120
          have q120 := len_le r120
          refine RT.y rfl rfl (Y.indexAddr (m := k112) (sz := 1) rfl rfl hk115 hl116 (by kernel_rfl)) ?_
          refine RT.y rfl rfl (Y.loadN (cs := [.slice A120 x111.agents.length c120]) rfl (by kernel_rfl) (cells1 (fun w' hS => (cellT hS.1 (hc117 0 _ rfl))))) ?_
          refine RT.y rfl rfl (Y.fieldAddr (off := 1) rfl (by kernel_rfl)) ?_
          refine RT.y rfl rfl (Y.load (v := .int .i64 x88.level) rfl (by kernel_rfl) (fun w' hS => (blkCell hS.2 (i := 1) rfl))) ?_
          refine RT.both rfl rfl ?_ ?_
          · obtain ⟨y121, e122, hm⟩ := bnd hm
            refine RL.call rfl (am2 rfl rfl) (by kernel_rfl) ((c_m_impl_shifted x111 x88.level _ e122 _ _ (stArg (R := netRd) ⟨_, _, _, rfl, ⟨SlAt.now agentRd_ok h120 (Nat.le_refl _) T, r120⟩⟩)).mono ?_)
            rintro _ w127 ⟨⟨v123, bs126, rfl, G124⟩, hb128⟩
            refine ⟨_, rfl, ?_⟩
            have szw127 := hb128.size
            have T0w127 := T.size
            have Zo125_ob102 : Ap bs126 [w12.heap.size] := (Ap.new (OwN.lo_ G124) (one_hi B104.lt))
            have B104 := blkT B104 hb128
            have T := Tt T hb128
            replace G124 := OwN.mono G124 T0w127
            refine RL.nil ⟨⟨T, B104⟩, ?_⟩
            refine RT.y rfl rfl (Y.move (v := .tuple #[.agg #[v123], .bool y121.2]) rfl) ?_
            refine RT.y rfl rfl (Y.extract (i := 0) rfl rfl) ?_
            refine RT.y rfl rfl (Y.extract (i := 1) rfl rfl) ?_
            refine RT.act rfl ?_
            refine RL.alloc (z := .agg #[.slice none 0 0]) rfl (by kernel_rfl) (fun w129 B130 hb131 szw129 => ?_)
            replace B130 : Blk w129 w127.heap.size 30 #[.slice none 0 0] := B130
            have GB130 : w.heap.size ≤ w127.heap.size := T.size
            have Eob132_ob102 := Nat.ne_of_lt B104.lt
            have No125_ob132 := Ap.far (OwN.hi G124)
            have B104 := blkT B104 hb131
            have G124 := OwN.below agentOw_ok G124 hb131
            have T := Tt T hb131
            refine RL.nil ⟨⟨T, B104⟩, ?_⟩
            refine RT.act rfl ?_
            obtain ⟨A133, c134, rfl⟩ := OwN.form G124
            have qbA133 := OwN.bound G124
            refine RL.store (v := .agg #[.slice A133 y121.1.agents.length c134]) (cs' := #[.slice A133 y121.1.agents.length c134]) rfl rfl rfl B130 (by kernel_rfl) (by rfl) (by rfl) (by rfl) (fun w135 B136 ho137 => ?_)
            have szw135 := ho137.size
            have B104 := B104.only_ ho137 (by intro hin; simp at hin; exact Eob132_ob102 hin)
            have G124 := OwN.only agentOw_ok G124 ho137 (Ap.one No125_ob132)
            have T := T.trans (ho137.below (by first | (simp; done) | (simp; omega)))
            refine RL.nil ⟨⟨T, B104⟩, ?_⟩
            refine RT.y rfl rfl (Y.assign (v := .bool y121.2) rfl) ?_
            refine RT.nil_ ?_
            refine then_n ?_
            refine wp_seq ?_
            refine wp_rs rfl ?_
            refine RQ.y rfl (Y.move (v := .bool y121.2) rfl) ?_
            refine RQ.y rfl (Y.not (b' := (!y121.2)) rfl rfl) ?_
            refine RQ.nil ?_
            refine then_n ?_
            rcases bcases y121.2 with c138 | c138
            · replace hm := cF c138 hm
              refine cond_t rfl (vbn rfl c138 rfl) ?_
              refine wp_seq ?_
              refine wp_rs rfl ?_
              refine RQ.y rfl (Y.assign (v := .int .i64 0) rfl) ?_
              refine RQ.y rfl (Y.assign (v := .int .i64 0) rfl) ?_
              refine RQ.y rfl (Y.assign (v := .int .i64 0) rfl) ?_
              refine RQ.y rfl (Y.assign (v := .int .i64 9) rfl) ?_
              refine RQ.nil ?_
              refine then_n ?_
              refine wp_ret ?_
              obtain rfl := Option.some.inj hm
              exact (blk_r (then_r (ret4 rfl rfl rfl rfl rfl rfl ⟨rfl, T⟩)))
            · replace hm := cT c138 hm
              refine cond_f rfl (vbn rfl c138 rfl) ?_
              refine wp_skip ?_
              refine blk_n (then_n ?_)
              refine wp_seq ?_
              refine wp_rs rfl ?_
              refine RQ.y rfl (Y.move (v := .int .i64 y8.1) rfl) ?_
              refine RQ.y rfl (Y.move (v := .int .i64 d1.b) rfl) ?_
              refine RQ.y rfl (Y.move (v := .int .i64 d1.a) rfl) ?_
              refine RQ.y rfl (Y.assign (v := .int .i64 y8.1) rfl) ?_
              refine RQ.y rfl (Y.assign (v := .int .i64 d1.b) rfl) ?_
              refine RQ.y rfl (Y.assign (v := .int .i64 d1.a) rfl) ?_
              refine RQ.y rfl (Y.assign (v := .int .i64 0) rfl) ?_
              refine RQ.nil ?_
              refine then_n ?_
              refine wp_ret ?_
              obtain rfl := Option.some.inj hm
              exact (ret4 rfl rfl rfl rfl rfl rfl ⟨rfl, T⟩)
          · refine RL.alloc (z := .agg #[.slice none 0 0]) rfl (by kernel_rfl) (fun w139 B140 hb141 szw139 => ?_)
            replace B140 : Blk w139 w109.heap.size 30 #[.slice none 0 0] := B140
            have GB140 : w.heap.size ≤ w109.heap.size := T.size
            have Eob142_ob102 := Nat.ne_of_lt B104.lt
            have B104 := blkT B104 hb141
            have T := Tt T hb141
            refine RL.nil ⟨⟨T, B104⟩, ?_⟩
            refine RT.act rfl ?_
            obtain ⟨y143, e144, hm⟩ := bnd hm
            refine RL.call rfl (am2 rfl rfl) (by kernel_rfl) ((c_m_impl_shifted x111 x88.level _ e144 _ _ (stArg (R := netRd) ⟨_, _, _, rfl, ⟨SlAt.now agentRd_ok h120 (Nat.le_refl _) T, r120⟩⟩)).mono ?_)
            rintro _ w149 ⟨⟨v145, bs148, rfl, G146⟩, hb150⟩
            refine ⟨_, rfl, ?_⟩
            have szw149 := hb150.size
            have T0w149 := T.size
            have Zo147_ob102 : Ap bs148 [w12.heap.size] := (Ap.new (OwN.lo_ G146) (one_hi B104.lt))
            have Zo147_ob142 : Ap bs148 [w109.heap.size] := (Ap.new (OwN.lo_ G146) (one_hi B140.lt))
            have B104 := blkT B104 hb150
            have B140 := blkT B140 hb150
            have T := Tt T hb150
            replace G146 := OwN.mono G146 T0w149
            refine RL.nil ⟨⟨T, B104⟩, ?_⟩
            refine RT.y rfl rfl (Y.move (v := .tuple #[.agg #[v145], .bool y143.2]) rfl) ?_
            refine RT.y rfl rfl (Y.extract (i := 0) rfl rfl) ?_
            refine RT.y rfl rfl (Y.extract (i := 1) rfl rfl) ?_
            refine RT.act rfl ?_
            obtain ⟨A151, c152, rfl⟩ := OwN.form G146
            have qbA151 := OwN.bound G146
            refine RL.store (v := .agg #[.slice A151 y143.1.agents.length c152]) (cs' := #[.slice A151 y143.1.agents.length c152]) rfl rfl rfl B140 (by kernel_rfl) (by rfl) (by rfl) (by rfl) (fun w153 B154 ho155 => ?_)
            have szw153 := ho155.size
            have B104 := B104.only_ ho155 (by intro hin; simp at hin; exact Eob142_ob102 hin)
            have G146 := OwN.only agentOw_ok G146 ho155 (Ap.one Zo147_ob142)
            have T := T.trans (ho155.below (by first | (simp; done) | (simp; omega)))
            refine RL.nil ⟨⟨T, B104⟩, ?_⟩
            refine RT.y rfl rfl (Y.assign (v := .bool y143.2) rfl) ?_
            refine RT.nil_ ?_
            refine then_n ?_
            refine wp_seq ?_
            refine wp_rs rfl ?_
            refine RQ.y rfl (Y.move (v := .bool y143.2) rfl) ?_
            refine RQ.y rfl (Y.not (b' := (!y143.2)) rfl rfl) ?_
            refine RQ.nil ?_
            refine then_n ?_
            rcases bcases y143.2 with c156 | c156
            · replace hm := cF c156 hm
              refine cond_t rfl (vbn rfl c156 rfl) ?_
              refine wp_seq ?_
              refine wp_rs rfl ?_
              refine RQ.y rfl (Y.assign (v := .int .i64 0) rfl) ?_
              refine RQ.y rfl (Y.assign (v := .int .i64 0) rfl) ?_
              refine RQ.y rfl (Y.assign (v := .int .i64 0) rfl) ?_
              refine RQ.y rfl (Y.assign (v := .int .i64 9) rfl) ?_
              refine RQ.nil ?_
              refine then_n ?_
              refine wp_ret ?_
              obtain rfl := Option.some.inj hm
              exact (blk_r (then_r (ret4 rfl rfl rfl rfl rfl rfl ⟨rfl, T⟩)))
            · replace hm := cT c156 hm
              refine cond_f rfl (vbn rfl c156 rfl) ?_
              refine wp_skip ?_
              refine blk_n (then_n ?_)
              refine wp_seq ?_
              refine wp_rs rfl ?_
              refine RQ.y rfl (Y.move (v := .int .i64 y8.1) rfl) ?_
              refine RQ.y rfl (Y.move (v := .int .i64 d1.b) rfl) ?_
              refine RQ.y rfl (Y.move (v := .int .i64 d1.a) rfl) ?_
              refine RQ.y rfl (Y.assign (v := .int .i64 y8.1) rfl) ?_
              refine RQ.y rfl (Y.assign (v := .int .i64 d1.b) rfl) ?_
              refine RQ.y rfl (Y.assign (v := .int .i64 d1.a) rfl) ?_
              refine RQ.y rfl (Y.assign (v := .int .i64 0) rfl) ?_
              refine RQ.nil ?_
              refine then_n ?_
              refine wp_ret ?_
              obtain rfl := Option.some.inj hm
              exact (ret4 rfl rfl rfl rfl rfl rfl ⟨rfl, T⟩)
        · replace hm := cT c108 hm
          have pc108 := of_decide_eq_true c108
          refine cond_t rfl (vb rfl c108) ?_
          refine wp_seq ?_
          refine wp_rs rfl ?_
          refine RQ.y rfl (Y.assign (v := .int .i64 0) rfl) ?_
          refine RQ.y rfl (Y.assign (v := .int .i64 0) rfl) ?_
          refine RQ.y rfl (Y.assign (v := .int .i64 0) rfl) ?_
          refine RQ.y rfl (Y.assign (v := .int .i64 3) rfl) ?_
          refine RQ.nil ?_
          refine then_n ?_
          refine wp_ret ?_
          obtain rfl := Option.some.inj hm
          exact (then_r (blk_r (then_r (ret4 rfl rfl rfl rfl rfl rfl ⟨rfl, T⟩))))
    · replace hm := cT c86 hm
      refine cond_t rfl (vb rfl c86) ?_
      refine wp_seq ?_
      refine wp_rs rfl ?_
      refine RQ.y rfl (Y.assign (v := .int .i64 0) rfl) ?_
      refine RQ.y rfl (Y.assign (v := .int .i64 0) rfl) ?_
      refine RQ.y rfl (Y.assign (v := .int .i64 0) rfl) ?_
      refine RQ.y rfl (Y.assign (v := .int .i64 11) rfl) ?_
      refine RQ.nil ?_
      refine then_n ?_
      refine wp_ret ?_
      obtain rfl := Option.some.inj hm
      exact (blk_r (then_r (ret4 rfl rfl rfl rfl rfl rfl ⟨rfl, T⟩)))
def m_impl_rewriter_growth (d0 : DRewriter) (d1 : Int) (d2 : Int) (d3 : Int) : Option Int :=
  (bif (d1 == 3) then ((getI d0.net.agents d3).bind fun x75 => ((ck ((x75.ports.length : Int) - 1)).bind fun s86 => some ((growth d1 s86).1))) else (bif (d1 == 4) then ((getI d0.net.agents d3).bind fun x61 => ((ck ((x61.ports.length : Int) - 1)).bind fun s72 => some ((growth d1 s72).1))) else (bif (d1 == 6) then ((getI d0.net.agents d2).bind fun x35 => (bif (x35.kind == 9) then ((getI d0.net.agents d2).bind fun x49 => ((ck ((x49.ports.length : Int) - 1)).bind fun s58 => some ((growth d1 s58).1))) else some ((growth d1 0).1))) else (bif (d1 == 7) then ((getI d0.net.agents d2).bind fun x10 => ((getI d0.book x10.value).bind fun x21 => some ((growth d1 (x21.agents.length : Int)).1))) else some ((growth d1 0).1)))))
set_option maxHeartbeats 2000000 in
theorem c_m_impl_rewriter_growth (d0 : DRewriter) (d1 : Int) (d2 : Int) (d3 : Int) (r : Int) (hm : m_impl_rewriter_growth d0 d1 d2 d3 = some r) (v0 : Value) (w : World) (hv0 : Pt rewriterRd w v0 d0) :
    Calls Try.prog 107 #[v0, .int .i64 d1, .int .i64 d2, .int .i64 d3] w fun e w' => e = .returned (.int .i64 r) ∧ Below w.heap.size w w' := by
  obtain ⟨ba0, oa0, csa0, rfl, hba0, hRa0, hca0⟩ := hv0
  have hSa0 := hRa0
  obtain ⟨A1, n1, c1, A2, n2, c2, mv3, rfl, ⟨h1, r1⟩, ⟨h2, r2⟩⟩ := hRa0
  have e1 := h1.len; subst e1
  have q1 := len_le r1
  have e2 := h2.len; subst e2
  have q2 := len_le r2
  have T := Below.refl w.heap.size w
  unfold m_impl_rewriter_growth at hm
  refine enter 76 Try.func107 rfl rfl rfl ?_
  intro f hf
  have s0 : f 0 = .pointer (some ⟨ba0, oa0, none⟩) := hf 0 _ rfl
  have s1 : f 1 = .int .i64 d1 := hf 1 _ rfl
  have s2 : f 2 = .int .i64 d2 := hf 2 _ rfl
  have s3 : f 3 = .int .i64 d3 := hf 3 _ rfl
  refine wp_seq ?_
  refine wp_rs rfl ?_
  refine RQ.y rfl (Y.assign (v := .int .i64 0) rfl) ?_
  refine RQ.nil ?_
  refine then_n ?_
  refine wp_seq ?_
  refine wp_rs rfl ?_
  refine RQ.y rfl (Y.assign (v := .int .i64 0) rfl) ?_
  refine RQ.nil ?_
  refine then_n ?_
  refine wp_seq ?_
  refine wp_seq ?_
  refine wp_rs rfl ?_
  refine RQ.y rfl (Y.move (v := .int .i64 d1) s1) ?_
  refine RQ.nil ?_
  refine then_n ?_
  refine wp_block ?_
  refine wp_seq ?_
  refine wp_seq ?_
  refine wp_rs rfl ?_
  refine RQ.y rfl (Y.binI (v := .bool (d1 == 3)) rfl rfl rfl) ?_
  refine RQ.y rfl (Y.assign (v := .bool (d1 == 3)) rfl) ?_
  refine RQ.nil ?_
  refine then_n ?_
  rcases bcases (d1 == 3) with c4 | c4
  · replace hm := cF c4 hm
    refine cond_f rfl (vb rfl c4) ?_
    refine wp_rs rfl ?_
    refine RQ.y rfl (Y.binI (v := .bool (d1 == 4)) rfl rfl rfl) ?_
    refine RQ.y rfl (Y.assign (v := .bool (d1 == 4)) rfl) ?_
    refine RQ.nil ?_
    refine then_n ?_
    rcases bcases (d1 == 4) with c5 | c5
    · replace hm := cF c5 hm
      refine cond_f rfl (vb rfl c5) ?_
      refine wp_seq ?_
      refine wp_rs rfl ?_
      refine RQ.y rfl (Y.binI (v := .bool (d1 == 6)) rfl rfl rfl) ?_
      refine RQ.y rfl (Y.assign (v := .bool (d1 == 6)) rfl) ?_
      refine RQ.nil ?_
      refine then_n ?_
      rcases bcases (d1 == 6) with c6 | c6
      · replace hm := cF c6 hm
        refine cond_f rfl (vb rfl c6) ?_
        refine wp_seq ?_
        refine wp_rs rfl ?_
        refine RQ.y rfl (Y.binI (v := .bool (d1 == 7)) rfl rfl rfl) ?_
        refine RQ.y rfl (Y.assign (v := .bool (d1 == 7)) rfl) ?_
        refine RQ.nil ?_
        refine then_n ?_
        rcases bcases (d1 == 7) with c7 | c7
        · replace hm := cF c7 hm
          refine cond_f rfl (vb rfl c7) ?_
          refine wp_skip ?_
          refine blk_n (then_n ?_)
          refine wp_seq ?_
          refine wp_rb rfl ?_
          refine RQ.y rfl (Y.move (v := .int .i64 d1) s1) ?_
          refine RQ.y rfl (Y.move (v := .int .i64 0) rfl) ?_
          refine RQ.call rfl (am2 rfl rfl) (by kernel_rfl) (v := .tuple #[.int .i64 ((growth d1 0).1), .int .i64 ((growth d1 0).2)]) (bel (K := fun _ => True) fun w' hb' => (callB (impl_Growth d1 0 w'))) ?_
          refine RQ.y rfl (Y.move (v := .tuple #[.int .i64 ((growth d1 0).1), .int .i64 ((growth d1 0).2)]) rfl) ?_
          refine RQ.y rfl (Y.extract (i := 0) rfl rfl) ?_
          refine RQ.y rfl (Y.extract (i := 1) rfl rfl) ?_
          refine RQ.y rfl (Y.assign (v := .int .i64 ((growth d1 0).1)) rfl) ?_
          refine RQ.y rfl (Y.assign (v := .int .i64 ((growth d1 0).2)) rfl) ?_
          refine RQ.nil ?_
          intro w8 hb9
          have szw8 := hb9.size
          have T := Tt T hb9
          refine then_n ?_
          refine wp_seq ?_
          refine wp_rs rfl ?_
          refine RQ.y rfl (Y.move (v := .int .i64 ((growth d1 0).1)) rfl) ?_
          refine RQ.y rfl (Y.assign (v := .int .i64 ((growth d1 0).1)) rfl) ?_
          refine RQ.nil ?_
          refine then_n ?_
          refine wp_ret ?_
          obtain rfl := Option.some.inj hm
          exact (ret1 rfl rfl rfl ⟨rfl, T⟩)
        · replace hm := cT c7 hm
          refine cond_t rfl (vb rfl c7) ?_
          refine wp_rbd (by kernel_rfl) (by kernel_rfl) ?_
          refine RQ.y rfl (Y.move (v := .pointer (some ⟨ba0, oa0, none⟩)) s0) ?_
          refine RQ.y rfl (Y.nilCheck rfl) ?_
          refine RQ.y rfl (Y.fieldAddr (off := 1) rfl (by kernel_rfl)) ?_
          refine RQ.y rfl (Y.load (v := .slice A2 d0.book.length c2) rfl (by kernel_rfl) (beC (cellT T (hca0 1 _ rfl)))) ?_
          refine RQ.y rfl (Y.move (v := .pointer (some ⟨ba0, oa0, none⟩)) s0) ?_
          refine RQ.y rfl (Y.nilCheck rfl) ?_
          refine RQ.y rfl (Y.fieldAddr (off := 0) rfl (by kernel_rfl)) ?_
          refine RQ.y rfl (Y.fieldAddr (off := 0) rfl (by kernel_rfl)) ?_
          refine RQ.y rfl (Y.load (v := .slice A1 d0.net.agents.length c1) rfl (by kernel_rfl) (beC (cellT T (hca0 0 _ rfl)))) ?_
          refine RQ.y rfl (Y.move (v := .int .i64 d2) s2) ?_
          obtain ⟨x10, hx13, hm⟩ := bnd hm
          obtain ⟨k11, hk14, hl15, hx13⟩ := getI_some hx13
          obtain ⟨b17, o18, rfl, hbb17⟩ := h1.addr (by omega)
          obtain ⟨cs12, hRcs12, hc16⟩ := h1.el hx13
          have hScs12 := hRcs12
          obtain ⟨A19, n19, c19, A20, n20, c20, rfl, ⟨h19, r19⟩, ⟨h20, r20⟩⟩ := hRcs12
          have e19 := h19.len; subst e19
          have q19 := len_le r19
          have e20 := h20.len; subst e20
          have q20 := len_le r20
          refine RQ.y rfl (Y.indexAddr (m := k11) (sz := 5) rfl rfl hk14 hl15 (by kernel_rfl)) ?_
          refine RQ.y rfl (Y.fieldAddr (off := 2) rfl (by kernel_rfl)) ?_
          refine RQ.y rfl (Y.load (v := .int .i64 x10.value) rfl (by kernel_rfl) (beC (cellT T (hc16 2 _ rfl)))) ?_
          obtain ⟨x21, hx24, hm⟩ := bnd hm
          obtain ⟨k22, hk25, hl26, hx24⟩ := getI_some hx24
          obtain ⟨b28, o29, rfl, hbb28⟩ := h2.addr (by omega)
          obtain ⟨cs23, hRcs23, hc27⟩ := h2.el hx24
          have hScs23 := hRcs23
          obtain ⟨A30, n30, c30, rfl, ⟨h30, r30⟩⟩ := hRcs23
          have e30 := h30.len; subst e30
          have q30 := len_le r30
          refine RQ.y rfl (Y.indexAddr (m := k22) (sz := 1) rfl rfl hk25 hl26 (by kernel_rfl)) ?_
          refine RQ.y rfl (Y.fieldAddr (off := 0) rfl (by kernel_rfl)) ?_
          refine RQ.y rfl (Y.load (v := .slice A30 x21.agents.length c30) rfl (by kernel_rfl) (beC (cellT T (hc27 0 _ rfl)))) ?_
          refine RQ.y rfl (Y.len (by kernel_rfl) rfl) ?_
          refine RQ.y rfl (Y.assign (v := .int .i64 (x21.agents.length : Int)) rfl) ?_
          refine RQ.nil ?_
          intro w31 hb32
          have szw31 := hb32.size
          have T := Tt T hb32
          refine blk_n (then_n ?_)
          refine wp_seq ?_
          refine wp_rb rfl ?_
          refine RQ.y rfl (Y.move (v := .int .i64 d1) s1) ?_
          refine RQ.y rfl (Y.move (v := .int .i64 (x21.agents.length : Int)) rfl) ?_
          refine RQ.call rfl (am2 rfl rfl) (by kernel_rfl) (v := .tuple #[.int .i64 ((growth d1 (x21.agents.length : Int)).1), .int .i64 ((growth d1 (x21.agents.length : Int)).2)]) (bel (K := fun _ => True) fun w' hb' => (callB (impl_Growth d1 (x21.agents.length : Int) w'))) ?_
          refine RQ.y rfl (Y.move (v := .tuple #[.int .i64 ((growth d1 (x21.agents.length : Int)).1), .int .i64 ((growth d1 (x21.agents.length : Int)).2)]) rfl) ?_
          refine RQ.y rfl (Y.extract (i := 0) rfl rfl) ?_
          refine RQ.y rfl (Y.extract (i := 1) rfl rfl) ?_
          refine RQ.y rfl (Y.assign (v := .int .i64 ((growth d1 (x21.agents.length : Int)).1)) rfl) ?_
          refine RQ.y rfl (Y.assign (v := .int .i64 ((growth d1 (x21.agents.length : Int)).2)) rfl) ?_
          refine RQ.nil ?_
          intro w33 hb34
          have szw33 := hb34.size
          have T := Tt T hb34
          refine then_n ?_
          refine wp_seq ?_
          refine wp_rs rfl ?_
          refine RQ.y rfl (Y.move (v := .int .i64 ((growth d1 (x21.agents.length : Int)).1)) rfl) ?_
          refine RQ.y rfl (Y.assign (v := .int .i64 ((growth d1 (x21.agents.length : Int)).1)) rfl) ?_
          refine RQ.nil ?_
          refine then_n ?_
          refine wp_ret ?_
          obtain rfl := Option.some.inj hm
          exact (ret1 rfl rfl rfl ⟨rfl, T⟩)
      · replace hm := cT c6 hm
        refine cond_t rfl (vb rfl c6) ?_
        refine wp_seq ?_
        refine wp_rs rfl ?_
        refine RQ.y rfl (Y.move (v := .pointer (some ⟨ba0, oa0, none⟩)) s0) ?_
        refine RQ.y rfl (Y.nilCheck rfl) ?_
        refine RQ.y rfl (Y.fieldAddr (off := 0) rfl (by kernel_rfl)) ?_
        refine RQ.y rfl (Y.fieldAddr (off := 0) rfl (by kernel_rfl)) ?_
        refine RQ.y rfl (Y.load (v := .slice A1 d0.net.agents.length c1) rfl (by kernel_rfl) (eqC (cellT T (hca0 0 _ rfl)))) ?_
        refine RQ.y rfl (Y.move (v := .int .i64 d2) s2) ?_
        obtain ⟨x35, hx38, hm⟩ := bnd hm
        obtain ⟨k36, hk39, hl40, hx38⟩ := getI_some hx38
        obtain ⟨b42, o43, rfl, hbb42⟩ := h1.addr (by omega)
        obtain ⟨cs37, hRcs37, hc41⟩ := h1.el hx38
        have hScs37 := hRcs37
        obtain ⟨A44, n44, c44, A45, n45, c45, rfl, ⟨h44, r44⟩, ⟨h45, r45⟩⟩ := hRcs37
        have e44 := h44.len; subst e44
        have q44 := len_le r44
        have e45 := h45.len; subst e45
        have q45 := len_le r45
        refine RQ.y rfl (Y.indexAddr (m := k36) (sz := 5) rfl rfl hk39 hl40 (by kernel_rfl)) ?_
        refine RQ.y rfl (Y.fieldAddr (off := 0) rfl (by kernel_rfl)) ?_
        refine RQ.y rfl (Y.load (v := .int .i64 x35.kind) rfl (by kernel_rfl) (eqC (cellT T (hc41 0 _ rfl)))) ?_
        refine RQ.y rfl (Y.binI (v := .bool (x35.kind == 9)) rfl rfl rfl) ?_
        refine RQ.nil ?_
        refine then_n ?_
        rcases bcases (x35.kind == 9) with c46 | c46
        · replace hm := cF c46 hm
          refine cond_f rfl (vb rfl c46) ?_
          refine wp_skip ?_
          refine blk_n (then_n ?_)
          refine wp_seq ?_
          refine wp_rb rfl ?_
          refine RQ.y rfl (Y.move (v := .int .i64 d1) s1) ?_
          refine RQ.y rfl (Y.move (v := .int .i64 0) rfl) ?_
          refine RQ.call rfl (am2 rfl rfl) (by kernel_rfl) (v := .tuple #[.int .i64 ((growth d1 0).1), .int .i64 ((growth d1 0).2)]) (bel (K := fun _ => True) fun w' hb' => (callB (impl_Growth d1 0 w'))) ?_
          refine RQ.y rfl (Y.move (v := .tuple #[.int .i64 ((growth d1 0).1), .int .i64 ((growth d1 0).2)]) rfl) ?_
          refine RQ.y rfl (Y.extract (i := 0) rfl rfl) ?_
          refine RQ.y rfl (Y.extract (i := 1) rfl rfl) ?_
          refine RQ.y rfl (Y.assign (v := .int .i64 ((growth d1 0).1)) rfl) ?_
          refine RQ.y rfl (Y.assign (v := .int .i64 ((growth d1 0).2)) rfl) ?_
          refine RQ.nil ?_
          intro w47 hb48
          have szw47 := hb48.size
          have T := Tt T hb48
          refine then_n ?_
          refine wp_seq ?_
          refine wp_rs rfl ?_
          refine RQ.y rfl (Y.move (v := .int .i64 ((growth d1 0).1)) rfl) ?_
          refine RQ.y rfl (Y.assign (v := .int .i64 ((growth d1 0).1)) rfl) ?_
          refine RQ.nil ?_
          refine then_n ?_
          refine wp_ret ?_
          obtain rfl := Option.some.inj hm
          exact (ret1 rfl rfl rfl ⟨rfl, T⟩)
        · replace hm := cT c46 hm
          refine cond_t rfl (vb rfl c46) ?_
          refine wp_rs rfl ?_
          refine RQ.y rfl (Y.move (v := .pointer (some ⟨ba0, oa0, none⟩)) s0) ?_
          refine RQ.y rfl (Y.nilCheck rfl) ?_
          refine RQ.y rfl (Y.fieldAddr (off := 0) rfl (by kernel_rfl)) ?_
          refine RQ.y rfl (Y.fieldAddr (off := 0) rfl (by kernel_rfl)) ?_
          refine RQ.y rfl (Y.load (v := .slice (some ⟨b42, o43, none⟩) d0.net.agents.length c1) rfl (by kernel_rfl) (eqC (cellT T (hca0 0 _ rfl)))) ?_
          refine RQ.y rfl (Y.move (v := .int .i64 d2) s2) ?_
          obtain ⟨x49, hx52, hm⟩ := bnd hm
          obtain ⟨k50, hk53, hl54, hx52⟩ := getI_some hx52
          obtain ⟨cs51, hRcs51, hc55⟩ := h1.el hx52
          have hScs51 := hRcs51
          obtain ⟨A56, n56, c56, A57, n57, c57, rfl, ⟨h56, r56⟩, ⟨h57, r57⟩⟩ := hRcs51
          have e56 := h56.len; subst e56
          have q56 := len_le r56
          have e57 := h57.len; subst e57
          have q57 := len_le r57
          refine RQ.y rfl (Y.indexAddr (m := k50) (sz := 5) rfl rfl hk53 hl54 (by kernel_rfl)) ?_
          refine RQ.y rfl (Y.fieldAddr (off := 4) rfl (by kernel_rfl)) ?_
          refine RQ.y rfl (Y.load (v := .slice A57 x49.ports.length c57) rfl (by kernel_rfl) (eqC (cellT T (hc55 4 _ rfl)))) ?_
          refine RQ.y rfl (Y.len (by kernel_rfl) rfl) ?_
          obtain ⟨s58, ks58, hm⟩ := bnd hm
          replace ks58 := ck_some ks58
          refine RQ.y rfl (Y.binI (v := .int .i64 s58) rfl rfl (by rw [binI_sub ks58.2, ks58.1])) ?_
          refine RQ.y rfl (Y.assign (v := .int .i64 s58) rfl) ?_
          refine RQ.nil ?_
          refine blk_n (then_n ?_)
          refine wp_seq ?_
          refine wp_rb rfl ?_
          refine RQ.y rfl (Y.move (v := .int .i64 d1) s1) ?_
          refine RQ.y rfl (Y.move (v := .int .i64 s58) rfl) ?_
          refine RQ.call rfl (am2 rfl rfl) (by kernel_rfl) (v := .tuple #[.int .i64 ((growth d1 s58).1), .int .i64 ((growth d1 s58).2)]) (bel (K := fun _ => True) fun w' hb' => (callB (impl_Growth d1 s58 w'))) ?_
          refine RQ.y rfl (Y.move (v := .tuple #[.int .i64 ((growth d1 s58).1), .int .i64 ((growth d1 s58).2)]) rfl) ?_
          refine RQ.y rfl (Y.extract (i := 0) rfl rfl) ?_
          refine RQ.y rfl (Y.extract (i := 1) rfl rfl) ?_
          refine RQ.y rfl (Y.assign (v := .int .i64 ((growth d1 s58).1)) rfl) ?_
          refine RQ.y rfl (Y.assign (v := .int .i64 ((growth d1 s58).2)) rfl) ?_
          refine RQ.nil ?_
          intro w59 hb60
          have szw59 := hb60.size
          have T := Tt T hb60
          refine then_n ?_
          refine wp_seq ?_
          refine wp_rs rfl ?_
          refine RQ.y rfl (Y.move (v := .int .i64 ((growth d1 s58).1)) rfl) ?_
          refine RQ.y rfl (Y.assign (v := .int .i64 ((growth d1 s58).1)) rfl) ?_
          refine RQ.nil ?_
          refine then_n ?_
          refine wp_ret ?_
          obtain rfl := Option.some.inj hm
          exact (ret1 rfl rfl rfl ⟨rfl, T⟩)
    · replace hm := cT c5 hm
      refine cond_t rfl (vb rfl c5) ?_
      refine wp_rs rfl ?_
      refine RQ.y rfl (Y.move (v := .pointer (some ⟨ba0, oa0, none⟩)) s0) ?_
      refine RQ.y rfl (Y.nilCheck rfl) ?_
      refine RQ.y rfl (Y.fieldAddr (off := 0) rfl (by kernel_rfl)) ?_
      refine RQ.y rfl (Y.fieldAddr (off := 0) rfl (by kernel_rfl)) ?_
      refine RQ.y rfl (Y.load (v := .slice A1 d0.net.agents.length c1) rfl (by kernel_rfl) (eqC (cellT T (hca0 0 _ rfl)))) ?_
      refine RQ.y rfl (Y.move (v := .int .i64 d3) s3) ?_
      obtain ⟨x61, hx64, hm⟩ := bnd hm
      obtain ⟨k62, hk65, hl66, hx64⟩ := getI_some hx64
      obtain ⟨b68, o69, rfl, hbb68⟩ := h1.addr (by omega)
      obtain ⟨cs63, hRcs63, hc67⟩ := h1.el hx64
      have hScs63 := hRcs63
      obtain ⟨A70, n70, c70, A71, n71, c71, rfl, ⟨h70, r70⟩, ⟨h71, r71⟩⟩ := hRcs63
      have e70 := h70.len; subst e70
      have q70 := len_le r70
      have e71 := h71.len; subst e71
      have q71 := len_le r71
      refine RQ.y rfl (Y.indexAddr (m := k62) (sz := 5) rfl rfl hk65 hl66 (by kernel_rfl)) ?_
      refine RQ.y rfl (Y.fieldAddr (off := 4) rfl (by kernel_rfl)) ?_
      refine RQ.y rfl (Y.load (v := .slice A71 x61.ports.length c71) rfl (by kernel_rfl) (eqC (cellT T (hc67 4 _ rfl)))) ?_
      refine RQ.y rfl (Y.len (by kernel_rfl) rfl) ?_
      obtain ⟨s72, ks72, hm⟩ := bnd hm
      replace ks72 := ck_some ks72
      refine RQ.y rfl (Y.binI (v := .int .i64 s72) rfl rfl (by rw [binI_sub ks72.2, ks72.1])) ?_
      refine RQ.y rfl (Y.assign (v := .int .i64 s72) rfl) ?_
      refine RQ.nil ?_
      refine blk_n (then_n ?_)
      refine wp_seq ?_
      refine wp_rb rfl ?_
      refine RQ.y rfl (Y.move (v := .int .i64 d1) s1) ?_
      refine RQ.y rfl (Y.move (v := .int .i64 s72) rfl) ?_
      refine RQ.call rfl (am2 rfl rfl) (by kernel_rfl) (v := .tuple #[.int .i64 ((growth d1 s72).1), .int .i64 ((growth d1 s72).2)]) (bel (K := fun _ => True) fun w' hb' => (callB (impl_Growth d1 s72 w'))) ?_
      refine RQ.y rfl (Y.move (v := .tuple #[.int .i64 ((growth d1 s72).1), .int .i64 ((growth d1 s72).2)]) rfl) ?_
      refine RQ.y rfl (Y.extract (i := 0) rfl rfl) ?_
      refine RQ.y rfl (Y.extract (i := 1) rfl rfl) ?_
      refine RQ.y rfl (Y.assign (v := .int .i64 ((growth d1 s72).1)) rfl) ?_
      refine RQ.y rfl (Y.assign (v := .int .i64 ((growth d1 s72).2)) rfl) ?_
      refine RQ.nil ?_
      intro w73 hb74
      have szw73 := hb74.size
      have T := Tt T hb74
      refine then_n ?_
      refine wp_seq ?_
      refine wp_rs rfl ?_
      refine RQ.y rfl (Y.move (v := .int .i64 ((growth d1 s72).1)) rfl) ?_
      refine RQ.y rfl (Y.assign (v := .int .i64 ((growth d1 s72).1)) rfl) ?_
      refine RQ.nil ?_
      refine then_n ?_
      refine wp_ret ?_
      obtain rfl := Option.some.inj hm
      exact (ret1 rfl rfl rfl ⟨rfl, T⟩)
  · replace hm := cT c4 hm
    refine cond_t rfl (vb rfl c4) ?_
    refine wp_skip ?_
    refine then_n ?_
    refine cond_t rfl (vb rfl c4) ?_
    refine wp_rs rfl ?_
    refine RQ.y rfl (Y.move (v := .pointer (some ⟨ba0, oa0, none⟩)) s0) ?_
    refine RQ.y rfl (Y.nilCheck rfl) ?_
    refine RQ.y rfl (Y.fieldAddr (off := 0) rfl (by kernel_rfl)) ?_
    refine RQ.y rfl (Y.fieldAddr (off := 0) rfl (by kernel_rfl)) ?_
    refine RQ.y rfl (Y.load (v := .slice A1 d0.net.agents.length c1) rfl (by kernel_rfl) (eqC (cellT T (hca0 0 _ rfl)))) ?_
    refine RQ.y rfl (Y.move (v := .int .i64 d3) s3) ?_
    obtain ⟨x75, hx78, hm⟩ := bnd hm
    obtain ⟨k76, hk79, hl80, hx78⟩ := getI_some hx78
    obtain ⟨b82, o83, rfl, hbb82⟩ := h1.addr (by omega)
    obtain ⟨cs77, hRcs77, hc81⟩ := h1.el hx78
    have hScs77 := hRcs77
    obtain ⟨A84, n84, c84, A85, n85, c85, rfl, ⟨h84, r84⟩, ⟨h85, r85⟩⟩ := hRcs77
    have e84 := h84.len; subst e84
    have q84 := len_le r84
    have e85 := h85.len; subst e85
    have q85 := len_le r85
    refine RQ.y rfl (Y.indexAddr (m := k76) (sz := 5) rfl rfl hk79 hl80 (by kernel_rfl)) ?_
    refine RQ.y rfl (Y.fieldAddr (off := 4) rfl (by kernel_rfl)) ?_
    refine RQ.y rfl (Y.load (v := .slice A85 x75.ports.length c85) rfl (by kernel_rfl) (eqC (cellT T (hc81 4 _ rfl)))) ?_
    refine RQ.y rfl (Y.len (by kernel_rfl) rfl) ?_
    obtain ⟨s86, ks86, hm⟩ := bnd hm
    replace ks86 := ck_some ks86
    refine RQ.y rfl (Y.binI (v := .int .i64 s86) rfl rfl (by rw [binI_sub ks86.2, ks86.1])) ?_
    refine RQ.y rfl (Y.assign (v := .int .i64 s86) rfl) ?_
    refine RQ.nil ?_
    refine blk_n (then_n ?_)
    refine wp_seq ?_
    refine wp_rb rfl ?_
    refine RQ.y rfl (Y.move (v := .int .i64 d1) s1) ?_
    refine RQ.y rfl (Y.move (v := .int .i64 s86) rfl) ?_
    refine RQ.call rfl (am2 rfl rfl) (by kernel_rfl) (v := .tuple #[.int .i64 ((growth d1 s86).1), .int .i64 ((growth d1 s86).2)]) (bel (K := fun _ => True) fun w' hb' => (callB (impl_Growth d1 s86 w'))) ?_
    refine RQ.y rfl (Y.move (v := .tuple #[.int .i64 ((growth d1 s86).1), .int .i64 ((growth d1 s86).2)]) rfl) ?_
    refine RQ.y rfl (Y.extract (i := 0) rfl rfl) ?_
    refine RQ.y rfl (Y.extract (i := 1) rfl rfl) ?_
    refine RQ.y rfl (Y.assign (v := .int .i64 ((growth d1 s86).1)) rfl) ?_
    refine RQ.y rfl (Y.assign (v := .int .i64 ((growth d1 s86).2)) rfl) ?_
    refine RQ.nil ?_
    intro w87 hb88
    have szw87 := hb88.size
    have T := Tt T hb88
    refine then_n ?_
    refine wp_seq ?_
    refine wp_rs rfl ?_
    refine RQ.y rfl (Y.move (v := .int .i64 ((growth d1 s86).1)) rfl) ?_
    refine RQ.y rfl (Y.assign (v := .int .i64 ((growth d1 s86).1)) rfl) ?_
    refine RQ.nil ?_
    refine then_n ?_
    refine wp_ret ?_
    obtain rfl := Option.some.inj hm
    exact (ret1 rfl rfl rfl ⟨rfl, T⟩)
def m_impl_GrowthOfPair (d0 : List DNet) (d1 : DNet) (d2 : Int) : Option (Int × Int) :=
  ((m_impl_ValidTemplates d0).bind fun y6 => (bif y6 then ((m_impl_pairAt d1 d2).bind fun y11 => (bif (y11.2 != 0) then some (0, y11.2) else ((m_impl_rewriter_check (⟨d1, d0⟩ : DRewriter) y11.1).bind fun y27 => (bif (y27.2.2.2 != 0) then some (0, y27.2.2.2) else ((m_impl_rewriter_growth (⟨d1, d0⟩ : DRewriter) y27.1 y27.2.1 y27.2.2.1).bind fun y32 => some (y32, 0)))))) else some (0, 1)))
set_option maxHeartbeats 2000000 in
theorem c_m_impl_GrowthOfPair (d0 : List DNet) (d1 : DNet) (d2 : Int) (r : Int × Int) (hm : m_impl_GrowthOfPair d0 d1 d2 = some r) (v0 : Value) (v1 : Value) (w : World) (hv0 : Sl netRd 1 w v0 d0) (hv1 : St netRd w v1 d1) :
    Calls Try.prog 58 #[v0, v1, .int .i64 d2] w fun e w' => e = .returned (.tuple #[.int .i64 r.1, .int .i64 r.2]) ∧ Below w.heap.size w w' := by
  obtain ⟨Aa0, na0, ca0, rfl, ha0, ra0⟩ := hv0
  have ea0 := ha0.len; subst ea0
  have qa0 := len_le ra0
  obtain ⟨csa1, rfl, ⟨A1, n1, c1, rfl, ⟨h1, r1⟩⟩⟩ := hv1
  have e1 := h1.len; subst e1
  have q1 := len_le r1
  have T := Below.refl w.heap.size w
  unfold m_impl_GrowthOfPair at hm
  refine enter 46 Try.func58 rfl rfl rfl ?_
  intro f hf
  have s0 : f 0 = .slice Aa0 d0.length ca0 := hf 0 _ rfl
  have s1 : f 1 = .agg #[.slice A1 d1.agents.length c1] := hf 1 _ rfl
  have s2 : f 2 = .int .i64 d2 := hf 2 _ rfl
  refine wp_seq ?_
  refine wp_rl rfl ?_
  refine RL.box rfl s1 (fun w2 B3 hb4 szw2 => ?_)
  replace B3 : Blk w2 w.heap.size 30 #[.slice A1 d1.agents.length c1] := B3
  have GB3 : w.heap.size ≤ w.heap.size := T.size
  have T := Tt T hb4
  refine RL.y rfl (Y.assign (v := .int .i64 0) rfl) ?_
  refine RL.y rfl (Y.assign (v := .int .i64 0) rfl) ?_
  refine RL.nil ?_
  refine then_n ?_
  refine wp_seq ?_
  refine wp_seq ?_
  refine wp_rb rfl ?_
  refine RQ.y rfl (Y.move (v := .slice Aa0 d0.length ca0) s0) ?_
  obtain ⟨y6, e7, hm⟩ := bnd hm
  refine RQ.call rfl (am1 rfl) (by kernel_rfl) (v := .bool y6) (bel (K := fun _ => True) fun w' hb' => (c_m_impl_ValidTemplates d0 _ e7 _ w' (slArg netRd_ok ha0 ra0 (Tt T hb')))) ?_
  refine RQ.y rfl (Y.not (b' := (!y6)) rfl rfl) ?_
  refine RQ.nil ?_
  intro w8 hb9
  have szw8 := hb9.size
  have B3 := blkT B3 hb9
  have T := Tt T hb9
  refine then_n ?_
  rcases bcases y6 with c10 | c10
  · replace hm := cF c10 hm
    refine cond_t rfl (vbn rfl c10 rfl) ?_
    refine wp_seq ?_
    refine wp_rs rfl ?_
    refine RQ.y rfl (Y.assign (v := .int .i64 0) rfl) ?_
    refine RQ.y rfl (Y.assign (v := .int .i64 1) rfl) ?_
    refine RQ.nil ?_
    refine then_n ?_
    refine wp_ret ?_
    obtain rfl := Option.some.inj hm
    exact (then_r (ret2 rfl rfl rfl rfl ⟨rfl, T⟩))
  · replace hm := cT c10 hm
    refine cond_f rfl (vbn rfl c10 rfl) ?_
    refine wp_skip ?_
    refine then_n ?_
    refine wp_seq ?_
    refine wp_rl rfl ?_
    refine RL.y rfl (Y.loadN (cs := [.slice A1 d1.agents.length c1]) rfl (by kernel_rfl) (cells1 (eqC (blkCell B3 (i := 0) rfl)))) ?_
    refine RL.y rfl (Y.move (v := .int .i64 d2) s2) ?_
    obtain ⟨y11, e12, hm⟩ := bnd hm
    refine RL.call rfl (am2 rfl rfl) (by kernel_rfl) ((c_m_impl_pairAt d1 d2 _ e12 _ _ (stArg (R := netRd) ⟨_, _, _, rfl, ⟨SlAt.now agentRd_ok h1 (Nat.le_refl _) T, r1⟩⟩)).mono ?_)
    rintro _ w13 ⟨rfl, hb14⟩
    refine ⟨_, rfl, ?_⟩
    have szw13 := hb14.size
    have B3 := blkT B3 hb14
    have T := Tt T hb14
    refine RL.y rfl (Y.move (v := .tuple #[.agg #[.int .i64 y11.1.a, .int .i64 y11.1.b], .int .i64 y11.2]) rfl) ?_
    refine RL.y rfl (Y.extract (i := 0) rfl rfl) ?_
    refine RL.y rfl (Y.extract (i := 1) rfl rfl) ?_
    refine RL.alloc (z := .agg #[.int .i64 0, .int .i64 0]) rfl (by kernel_rfl) (fun w15 B16 hb17 szw15 => ?_)
    replace B16 : Blk w15 w13.heap.size 81 #[.int .i64 0, .int .i64 0] := B16
    have GB16 : w.heap.size ≤ w13.heap.size := T.size
    have Eob18_ob5 := Nat.ne_of_lt B3.lt
    have B3 := blkT B3 hb17
    have T := Tt T hb17
    refine RL.store (v := .agg #[.int .i64 y11.1.a, .int .i64 y11.1.b]) (cs' := #[.int .i64 y11.1.a, .int .i64 y11.1.b]) rfl rfl rfl B16 (by kernel_rfl) (by rfl) (by rfl) (by rfl) (fun w19 B20 ho21 => ?_)
    have szw19 := ho21.size
    have B3 := B3.only_ ho21 (by intro hin; simp at hin; exact Eob18_ob5 hin)
    have T := T.trans (ho21.below (by first | (simp; done) | (simp; omega)))
    refine RL.y rfl (Y.assign (v := .int .i64 y11.2) rfl) ?_
    refine RL.nil ?_
    refine then_n ?_
    refine wp_seq ?_
    refine wp_seq ?_
    refine wp_rs rfl ?_
    refine RQ.y rfl (Y.move (v := .int .i64 y11.2) rfl) ?_
    refine RQ.y rfl (Y.binI (v := .bool (y11.2 != 0)) rfl rfl rfl) ?_
    refine RQ.nil ?_
    refine then_n ?_
    rcases bcases (y11.2 != 0) with c22 | c22
    · replace hm := cF c22 hm
      refine cond_f rfl (vb rfl c22) ?_
      refine wp_skip ?_
      refine then_n ?_
      refine wp_seq ?_
      refine wp_rl rfl ?_
      refine RL.y rfl (Y.loadN (cs := [.slice A1 d1.agents.length c1]) rfl (by kernel_rfl) (cells1 (eqC (blkCell B3 (i := 0) rfl)))) ?_
      refine RL.y rfl (Y.move (v := .slice Aa0 d0.length ca0) s0) ?_
      refine RL.y rfl (Y.build2 (cells := #[.slice A1 d1.agents.length c1, .slice Aa0 d0.length ca0, .map none]) rfl rfl (by kernel_rfl) (by kernel_rfl)) ?_
      refine RL.box rfl rfl (fun w23 B24 hb25 szw23 => ?_)
      replace B24 : Blk w23 w19.heap.size 138 #[.slice A1 d1.agents.length c1, .slice Aa0 d0.length ca0, .map none] := B24
      have GB24 : w.heap.size ≤ w19.heap.size := T.size
      have Eob26_ob5 := Nat.ne_of_lt B3.lt
      have Eob26_ob18 := Nat.ne_of_lt B20.lt
      have B3 := blkT B3 hb25
      have B20 := blkT B20 hb25
      have T := Tt T hb25
      refine RL.y rfl (Y.assign (v := .pointer (some ⟨w19.heap.size, 0, none⟩)) rfl) ?_
      refine RL.nil ?_
      refine then_n ?_
      refine wp_seq ?_
      refine wp_rb rfl ?_
      refine RQ.y rfl (Y.move (v := .pointer (some ⟨w19.heap.size, 0, none⟩)) rfl) ?_
      refine RQ.y rfl (Y.loadN (cs := [.int .i64 y11.1.a, .int .i64 y11.1.b]) rfl (by kernel_rfl) (cells2 (beC (blkCell B20 (i := 0) rfl)) (beC (blkCell B20 (i := 1) rfl)))) ?_
      obtain ⟨y27, e28, hm⟩ := bnd hm
      refine RQ.call rfl (am2 rfl rfl) (by kernel_rfl) (v := .tuple #[.int .i64 y27.1, .int .i64 y27.2.1, .int .i64 y27.2.2.1, .int .i64 y27.2.2.2]) (bel (K := fun _ => True) fun w' hb' => (c_m_impl_rewriter_check (⟨d1, d0⟩ : DRewriter) y11.1 _ e28 _ w' (ptBox (R := rewriterRd) (blkT B24 hb') ⟨_, _, _, _, _, _, _, rfl, ⟨SlAt.now agentRd_ok h1 (Nat.le_refl _) (Tt T hb'), r1⟩, ⟨SlAt.now netRd_ok ha0 (Nat.le_refl _) (Tt T hb'), ra0⟩⟩))) ?_
      refine RQ.y rfl (Y.move (v := .tuple #[.int .i64 y27.1, .int .i64 y27.2.1, .int .i64 y27.2.2.1, .int .i64 y27.2.2.2]) rfl) ?_
      refine RQ.y rfl (Y.extract (i := 0) rfl rfl) ?_
      refine RQ.y rfl (Y.extract (i := 1) rfl rfl) ?_
      refine RQ.y rfl (Y.extract (i := 2) rfl rfl) ?_
      refine RQ.y rfl (Y.extract (i := 3) rfl rfl) ?_
      refine RQ.y rfl (Y.assign (v := .int .i64 y27.1) rfl) ?_
      refine RQ.y rfl (Y.assign (v := .int .i64 y27.2.1) rfl) ?_
      refine RQ.y rfl (Y.assign (v := .int .i64 y27.2.2.1) rfl) ?_
      refine RQ.y rfl (Y.assign (v := .int .i64 y27.2.2.2) rfl) ?_
      refine RQ.nil ?_
      intro w29 hb30
      have szw29 := hb30.size
      have B24 := blkT B24 hb30
      have T := Tt T hb30
      refine then_n ?_
      refine wp_seq ?_
      refine wp_seq ?_
      refine wp_rs rfl ?_
      refine RQ.y rfl (Y.move (v := .int .i64 y27.2.2.2) rfl) ?_
      refine RQ.y rfl (Y.binI (v := .bool (y27.2.2.2 != 0)) rfl rfl rfl) ?_
      refine RQ.nil ?_
      refine then_n ?_
      rcases bcases (y27.2.2.2 != 0) with c31 | c31
      · replace hm := cF c31 hm
        refine cond_f rfl (vb rfl c31) ?_
        refine wp_skip ?_
        refine then_n ?_
        refine wp_seq ?_
        refine wp_rb rfl ?_
        refine RQ.y rfl (Y.move (v := .pointer (some ⟨w19.heap.size, 0, none⟩)) rfl) ?_
        refine RQ.y rfl (Y.move (v := .int .i64 y27.1) rfl) ?_
        refine RQ.y rfl (Y.move (v := .int .i64 y27.2.1) rfl) ?_
        refine RQ.y rfl (Y.move (v := .int .i64 y27.2.2.1) rfl) ?_
        obtain ⟨y32, e33, hm⟩ := bnd hm
        refine RQ.call rfl (am4 rfl rfl rfl rfl) (by kernel_rfl) (v := .int .i64 y32) (bel (K := fun _ => True) fun w' hb' => (c_m_impl_rewriter_growth (⟨d1, d0⟩ : DRewriter) y27.1 y27.2.1 y27.2.2.1 _ e33 _ w' (ptBox (R := rewriterRd) (blkT B24 hb') ⟨_, _, _, _, _, _, _, rfl, ⟨SlAt.now agentRd_ok h1 (Nat.le_refl _) (Tt T hb'), r1⟩, ⟨SlAt.now netRd_ok ha0 (Nat.le_refl _) (Tt T hb'), ra0⟩⟩))) ?_
        refine RQ.y rfl (Y.assign (v := .int .i64 y32) rfl) ?_
        refine RQ.y rfl (Y.assign (v := .int .i64 0) rfl) ?_
        refine RQ.nil ?_
        intro w34 hb35
        have szw34 := hb35.size
        have T := Tt T hb35
        refine then_n ?_
        refine wp_ret ?_
        obtain rfl := Option.some.inj hm
        exact (ret2 rfl rfl rfl rfl ⟨rfl, T⟩)
      · replace hm := cT c31 hm
        refine cond_t rfl (vb rfl c31) ?_
        refine wp_seq ?_
        refine wp_rs rfl ?_
        refine RQ.y rfl (Y.move (v := .int .i64 y27.2.2.2) rfl) ?_
        refine RQ.y rfl (Y.assign (v := .int .i64 0) rfl) ?_
        refine RQ.y rfl (Y.assign (v := .int .i64 y27.2.2.2) rfl) ?_
        refine RQ.nil ?_
        refine then_n ?_
        refine wp_ret ?_
        obtain rfl := Option.some.inj hm
        exact (then_r (ret2 rfl rfl rfl rfl ⟨rfl, T⟩))
    · replace hm := cT c22 hm
      refine cond_t rfl (vb rfl c22) ?_
      refine wp_seq ?_
      refine wp_rs rfl ?_
      refine RQ.y rfl (Y.move (v := .int .i64 y11.2) rfl) ?_
      refine RQ.y rfl (Y.assign (v := .int .i64 0) rfl) ?_
      refine RQ.y rfl (Y.assign (v := .int .i64 y11.2) rfl) ?_
      refine RQ.nil ?_
      refine then_n ?_
      refine wp_ret ?_
      obtain rfl := Option.some.inj hm
      exact (then_r (ret2 rfl rfl rfl rfl ⟨rfl, T⟩))
end
end Go.Proofs.Ytampijkiidjcmaa
