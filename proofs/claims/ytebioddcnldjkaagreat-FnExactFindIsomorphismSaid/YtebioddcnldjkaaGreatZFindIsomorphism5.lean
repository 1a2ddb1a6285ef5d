/- Lemmas of the proof of FindIsomorphism, part 5. No condition. -/
import Derived.Test.YtebioddcnldjkaaGreatZFindIsomorphism4
namespace Go.Proofs.YtebioddcnldjkaaGreat
section
open Go.RowKit
set_option linter.unusedVariables false
set_option linter.unusedSimpArgs false
set_option maxRecDepth 100000
def m_spec_l11Renumber_A2 (z22 : DNet) : Option DNet :=
  some z22
def m_spec_l11Renumber_A3 (rec2 : Int → DNet → Option DNet) (i29 : Int) (z30 : DNet) (z76 : DAgent) : Option DNet :=
  ((mustP (z30.agents.length + ([z76]).length ≤ 4294967296)).bind fun _ => ((ck (i29 + 1)).bind fun s124 => (rec2 s124 (⟨(z30.agents ++ [z76])⟩ : DNet))))
def m_spec_l11Renumber_B3 (xs13 : List Int) (rec3 : Int → DAgent → Option DNet) (K3 : DAgent → Option DNet) (i125 : Int) (z126 : DAgent) : Option DNet :=
  (bif (decide (i125 < (z126.ports.length : Int))) then ((getI z126.ports i125).bind fun x133 => ((getI xs13 x133.agent).bind fun x141 => ((getI z126.ports i125).bind fun x147 => (rec3 (i125 + 1) (⟨z126.kind, z126.level, z126.value, z126.data, (setI z126.ports i125 (⟨x141, x147.slot⟩ : DPort))⟩ : DAgent))))) else (K3 z126))
def m_spec_l11Renumber_L3 (xs13 : List Int) (K3 : DAgent → Option DNet) : Nat → Int → DAgent → Option DNet
  | 0, _, _ => none
  | g + 1, i125, z126 => m_spec_l11Renumber_B3 xs13 (m_spec_l11Renumber_L3 xs13 K3 g) K3 i125 z126
def m_spec_l11Renumber_B2 (d0 : DNet) (d1 : List Int) (xs13 : List Int) (rec2 : Int → DNet → Option DNet) (K2 : DNet → Option DNet) (i29 : Int) (z30 : DNet) : Option DNet :=
  (bif (decide (i29 < (d1.length : Int))) then ((getI d1 i29).bind fun x35 => ((getI d0.agents x35).bind fun x44 => ((m_spec_l11OwnAgent x44).bind fun y55 => (m_spec_l11Renumber_L3 xs13 (m_spec_l11Renumber_A3 rec2 i29 z30) (y55.ports.length + 1) 0 y55)))) else (K2 z30))
def m_spec_l11Renumber_L2 (d0 : DNet) (d1 : List Int) (xs13 : List Int) (K2 : DNet → Option DNet) : Nat → Int → DNet → Option DNet
  | 0, _, _ => none
  | g + 1, i29, z30 => m_spec_l11Renumber_B2 d0 d1 xs13 (m_spec_l11Renumber_L2 d0 d1 xs13 K2 g) K2 i29 z30
def m_spec_l11Renumber_A1 (d0 : DNet) (d1 : List Int) (xs13 : List Int) : Option DNet :=
  (m_spec_l11Renumber_L2 d0 d1 xs13 m_spec_l11Renumber_A2 (d1.length + 1) 0 (⟨[]⟩ : DNet))
def m_spec_l11Renumber_B1 (d1 : List Int) (rec1 : List Int → Int → Option DNet) (K1 : List Int → Option DNet) (xs262 : List Int) (i263 : Int) : Option DNet :=
  (bif (decide (i263 < (d1.length : Int))) then ((getI d1 i263).bind fun x266 => ((getI xs262 x266).bind fun x277 => (rec1 (setI xs262 x266 i263) (i263 + 1)))) else (K1 xs262))
def m_spec_l11Renumber_L1 (d1 : List Int) (K1 : List Int → Option DNet) : Nat → List Int → Int → Option DNet
  | 0, _, _ => none
  | g + 1, xs262, i263 => m_spec_l11Renumber_B1 d1 (m_spec_l11Renumber_L1 d1 K1 g) K1 xs262 i263
def m_spec_l11Renumber (d0 : DNet) (d1 : List Int) : Option DNet :=
  ((m_spec_l00Own d1).bind fun y6 => (m_spec_l11Renumber_L1 d1 (m_spec_l11Renumber_A1 d0 d1) (d1.length + 1) y6 0))
set_option maxHeartbeats 2000000 in
theorem c_m_spec_l11Renumber (d0 : DNet) (d1 : List Int) (r : DNet) (hm : m_spec_l11Renumber d0 d1 = some r) (v0 : Value) (v1 : Value) (w : World) (hv0 : Pt netRd w v0 d0) (hv1 : Sl intRd 1 w v1 d1) :
    Calls Tryz.prog 61 #[v0, v1] w fun e w' => (∃ (v0 : Value) (bs0 : List Nat), e = .returned (.agg #[v0]) ∧ OwN 63 agentOw 5 w' w.heap.size v0 r.agents bs0) ∧ Below w.heap.size w w' := by
  obtain ⟨ba0, oa0, csa0, rfl, hba0, hRa0, hca0⟩ := hv0
  have hSa0 := hRa0
  obtain ⟨A1, n1, c1, rfl, ⟨h1, r1⟩⟩ := hRa0
  have e1 := h1.len; subst e1
  have q1 := len_le r1
  obtain ⟨Aa1, na1, ca1, rfl, ha1, ra1⟩ := hv1
  have ea1 := ha1.len; subst ea1
  have qa1 := len_le ra1
  have T := Below.refl w.heap.size w
  unfold m_spec_l11Renumber at hm
  refine enter 71 Tryz.func61 rfl rfl rfl ?_
  intro f hf
  have s0 : f 0 = .pointer (some ⟨ba0, oa0, none⟩) := hf 0 _ rfl
  have s1 : f 1 = .slice Aa1 d1.length ca1 := hf 1 _ rfl
  refine wp_seq ?_
  refine wp_rl rfl ?_
  refine RL.alloc (z := .agg #[.slice none 0 0]) rfl (by kernel_rfl) (fun w2 B3 hb4 szw2 => ?_)
  replace B3 : Blk w2 w.heap.size 31 #[.slice none 0 0] := B3
  have GB3 : w.heap.size ≤ w.heap.size := T.size
  have T := Tt T hb4
  refine RL.nil ?_
  refine then_n ?_
  refine wp_seq ?_
  refine wp_rl rfl ?_
  refine RL.y rfl (Y.move (v := .slice Aa1 d1.length ca1) s1) ?_
  obtain ⟨y6, e7, hm⟩ := bnd hm
  refine RL.call rfl (am1 rfl) (by kernel_rfl) ((c_m_spec_l00Own d1 _ e7 _ _ (slArg intRd_ok ha1 ra1 T)).mono ?_)
  rintro _ w11 ⟨⟨v8, rfl, G9⟩, hb12⟩
  refine ⟨_, rfl, ?_⟩
  have szw11 := hb12.size
  have T0w11 := T.size
  have Zo10_ob5 := ap_ne (Ap.new (OwF.flo G9) (one_hi B3.lt))
  have B3 := blkT B3 hb12
  have T := Tt T hb12
  replace G9 := OwF.mono G9 T0w11
  refine RL.y rfl (Y.assign (v := v8) rfl) ?_
  refine RL.nil ?_
  refine then_n ?_
  refine wp_seq ?_
  refine wp_seq ?_
  refine wp_rs rfl ?_
  refine RQ.y rfl (Y.assign (v := .int .i64 0) rfl) ?_
  refine RQ.nil ?_
  refine then_n ?_
  refine wp_block ?_
  obtain ⟨K1, hK1, hm⟩ : ∃ K, K = (m_spec_l11Renumber_A1 d0 d1) ∧ m_spec_l11Renumber_L1 d1 K (d1.length + 1) y6 0 = some r := ⟨_, rfl, hm⟩
  refine wp_loopX (fun g f w' => ∃ (xs262 : List Int) (i263 : Int) (uxs262 : Value), f 0 = .pointer (some ⟨ba0, oa0, none⟩) ∧ f 1 = .slice Aa1 d1.length ca1 ∧ f 4 = .pointer (some ⟨w.heap.size, 0, none⟩) ∧ f 5 = uxs262 ∧ OwF 2 encI 1 w' w.heap.size uxs262 xs262 ∧ f 6 = .int .i64 i263 ∧ 0 ≤ i263 ∧ Value.ownBlock uxs262 ≠ some w.heap.size ∧ Blk w' w.heap.size 31 #[.slice none 0 0] ∧ Below w.heap.size w w' ∧ m_spec_l11Renumber_L1 d1 K1 g xs262 i263 = some r) 0 (fun f w' => ∃ (xs13 : List Int) (uxs13 : Value), f 0 = .pointer (some ⟨ba0, oa0, none⟩) ∧ f 1 = .slice Aa1 d1.length ca1 ∧ f 4 = .pointer (some ⟨w.heap.size, 0, none⟩) ∧ f 5 = uxs13 ∧ OwF 2 encI 1 w' w.heap.size uxs13 xs13 ∧ Value.ownBlock uxs13 ≠ some w.heap.size ∧ Blk w' w.heap.size 31 #[.slice none 0 0] ∧ Below w.heap.size w w' ∧ m_spec_l11Renumber_A1 d0 d1 xs13 = some r) (d1.length + 1) ⟨y6, 0, (v8), s0, s1, rfl, rfl, G9, rfl, (by omega), (ap_ne (ne_ap Zo10_ob5)), B3, T, hm⟩ ?_ ?_
  · rintro f w14 ⟨xs13, uxs13, s0_1x, s1_1x, s4_1x, s5_1x, Guxs13, Noxs13_ob5, B3, T, hm⟩
    unfold m_spec_l11Renumber_A1 at hm
    refine blk_hit (then_n ?_)
    refine wp_seq ?_
    refine wp_rl rfl ?_
    refine RL.y rfl (Y.build0 (cells := #[.slice none 0 0])  (by kernel_rfl) (by kernel_rfl)) ?_
    refine RL.alloc (z := .agg #[.slice none 0 0]) rfl (by kernel_rfl) (fun w15 B16 hb17 szw15 => ?_)
    replace B16 : Blk w15 w14.heap.size 31 #[.slice none 0 0] := B16
    have GB16 : w.heap.size ≤ w14.heap.size := T.size
    have Eob18_ob5 := Nat.ne_of_lt B3.lt
    have Noxs13_ob18 := OwF.far Guxs13 (Nat.le_refl _)
    have B3 := blkT B3 hb17
    have Guxs13 := OwF.below Guxs13 hb17
    have T := Tt T hb17
    refine RL.store (v := .agg #[.slice none 0 0]) (cs' := #[.slice none 0 0]) rfl rfl rfl B16 (by kernel_rfl) (by rfl) (by rfl) (by rfl) (fun w19 B20 ho21 => ?_)
    have szw19 := ho21.size
    have B3 := B3.only_ ho21 (by intro hin; simp at hin; exact Eob18_ob5 hin)
    have Guxs13 := OwF.only Guxs13 ho21 Noxs13_ob18
    have T := T.trans (ho21.below (by first | (simp; done) | (simp; omega)))
    refine RL.nil ?_
    refine then_n ?_
    refine wp_seq ?_
    refine wp_seq ?_
    refine wp_rs rfl ?_
    refine RQ.y rfl (Y.assign (v := .int .i64 0) rfl) ?_
    refine RQ.nil ?_
    refine then_n ?_
    refine wp_block ?_
    obtain ⟨K2, hK2, hm⟩ : ∃ K, K = m_spec_l11Renumber_A2 ∧ m_spec_l11Renumber_L2 d0 d1 xs13 K (d1.length + 1) 0 (⟨[]⟩ : DNet) = some r := ⟨_, rfl, hm⟩
    refine wp_loopX (fun g f w' => ∃ (i29 : Int) (z30 : DNet) (uz30_0 : Value) (bsz30_0 : List Nat), f 0 = .pointer (some ⟨ba0, oa0, none⟩) ∧ f 1 = .slice Aa1 d1.length ca1 ∧ f 4 = .pointer (some ⟨w.heap.size, 0, none⟩) ∧ f 5 = uxs13 ∧ f 7 = .pointer (some ⟨w14.heap.size, 0, none⟩) ∧ f 8 = .int .i64 i29 ∧ 0 ≤ i29 ∧ Blk w' w14.heap.size 31 #[uz30_0] ∧ OwN 63 agentOw 5 w' w.heap.size uz30_0 z30.agents bsz30_0 ∧ Ap bsz30_0 (fb uxs13) ∧ Ap bsz30_0 [w.heap.size] ∧ Ap bsz30_0 [w14.heap.size] ∧ Blk w' w.heap.size 31 #[.slice none 0 0] ∧ OwF 2 encI 1 w' w.heap.size uxs13 xs13 ∧ Below w.heap.size w w' ∧ m_spec_l11Renumber_L2 d0 d1 xs13 K2 g i29 z30 = some r) 2 (fun f w' => ∃ (z22 : DNet) (uz22_0 : Value) (bsz22_0 : List Nat), f 4 = .pointer (some ⟨w.heap.size, 0, none⟩) ∧ f 7 = .pointer (some ⟨w14.heap.size, 0, none⟩) ∧ Blk w' w14.heap.size 31 #[uz22_0] ∧ OwN 63 agentOw 5 w' w.heap.size uz22_0 z22.agents bsz22_0 ∧ Ap bsz22_0 [w.heap.size] ∧ Ap bsz22_0 [w14.heap.size] ∧ Blk w' w.heap.size 31 #[.slice none 0 0] ∧ Below w.heap.size w w' ∧ m_spec_l11Renumber_A2 z22 = some r) (d1.length + 1) ⟨0, (⟨[]⟩ : DNet), (.slice none 0 0), [], s0_1x, s1_1x, s4_1x, s5_1x, rfl, rfl, (by omega), B20, OwN.nil, Ap.nil, Ap.nil, Ap.nil, B3, Guxs13, T, hm⟩ ?_ ?_
    · rintro f w23 ⟨z22, uz22_0, bsz22_0, s4_2x, s7_2x, Bz22, Guz22_0, Noz22_0_ob5, Noz22_0_ob18, B3, T, hm⟩
      unfold m_spec_l11Renumber_A2 at hm
      refine blk_hit (then_n ?_)
      refine wp_seq ?_
      refine wp_rl rfl ?_
      refine RL.y rfl (Y.loadN (cs := [uz22_0]) s7_2x (by kernel_rfl) (cells1 (eqC (blkCell Bz22 (i := 0) rfl)))) ?_
      obtain ⟨A24, c25, rfl⟩ := OwN.form Guz22_0
      have qbA24 := OwN.bound Guz22_0
      refine RL.store (v := .agg #[.slice A24 z22.agents.length c25]) (cs' := #[.slice A24 z22.agents.length c25]) rfl s4_2x rfl B3 (by kernel_rfl) (by rfl) (by rfl) (by rfl) (fun w26 B27 ho28 => ?_)
      have szw26 := ho28.size
      have Bz22 := Bz22.only_ ho28 (by intro hin; simp at hin; exact Eob18_ob5.symm hin)
      have Guz22_0 := OwN.only agentOw_ok Guz22_0 ho28 (Ap.one Noz22_0_ob5)
      have T := T.trans (ho28.below (by first | (simp; done) | (simp; omega)))
      refine RL.nil ?_
      refine then_n ?_
      refine wp_ret ?_
      obtain rfl := Option.some.inj hm
      exact (retc (cs := [.slice A24 z22.agents.length c25]) rfl rfl s4_2x (by kernel_rfl) (blkCells B27) ⟨⟨_, _, rfl, Guz22_0⟩, T⟩)
    · rintro g f w31 ⟨i29, z30, uz30_0, bsz30_0, s0_2, s1_2, s4_2, s5_2, s7_2, s8_2, nn8_2, Bz30, Guz30_0, Doz30_0_oxs13, Noz30_0_ob5, Noz30_0_ob18, B3, Guxs13, T, hm⟩
      rcases g with _ | g
      · simp only [m_spec_l11Renumber_L2] at hm; cases hm
      obtain ⟨rec2, hrec2, hm⟩ : ∃ z, z = m_spec_l11Renumber_L2 d0 d1 xs13 K2 g ∧ m_spec_l11Renumber_B2 d0 d1 xs13 z K2 i29 z30 = some r := ⟨_, rfl, hm⟩
      unfold m_spec_l11Renumber_B2 at hm
      refine wp_seq ?_
      refine wp_seq ?_
      refine wp_rs rfl ?_
      refine RQ.y rfl (Y.move (v := .int .i64 i29) s8_2) ?_
      refine RQ.y rfl (Y.move (v := .slice Aa1 d1.length ca1) s1_2) ?_
      refine RQ.y rfl (Y.len (by kernel_rfl) rfl) ?_
      refine RQ.y rfl (Y.binI (v := .bool (decide (i29 < (d1.length : Int)))) rfl rfl rfl) ?_
      refine RQ.nil ?_
      refine then_n ?_
      rcases bcases (decide (i29 < (d1.length : Int))) with c32 | c32
      · replace hm := cF c32 hm
        have pc32 := of_decide_eq_false c32
        refine cond_f rfl (vb rfl c32) ?_
        refine wp_exit ?_
        exact (then_x (then_x (hit_x ⟨_, rfl, ⟨z30, (uz30_0), bsz30_0, s4_2, s7_2, Bz30, Guz30_0, Noz30_0_ob5, Noz30_0_ob18, B3, T, (by rw [hK2] at hm; exact hm)⟩⟩)))
      · replace hm := cT c32 hm
        have pc32 := of_decide_eq_true c32
        refine cond_t rfl (vb rfl c32) ?_
        refine wp_skip ?_
        refine then_n ?_
        refine wp_seq ?_
        refine wp_block ?_
        refine wp_seq ?_
        refine wp_rgt (fun w' => Below w.heap.size w w') (.q 0 (.q 1 (.q 2 (.q 3 (.q 4 (.q 5 (.q 6 (.q 7 (.q 8 (.two 9 (.a 10 (.a 11 .nil)) 10 (.a 9 (.a 11 .nil)))))))))))) (by kernel_rfl) (by kernel_rfl) (fun w33 hb34 szw33 => ?_)
        have B3 := blkT B3 hb34
        have Bz30 := blkT Bz30 hb34
        have Guxs13 := OwF.below Guxs13 hb34
        have Guz30_0 := OwN.below agentOw_ok Guz30_0 hb34
        have T := Tt T hb34
        refine ⟨T, ?_⟩
        refine RT.y rfl rfl (Y.move (v := .pointer (some ⟨ba0, oa0, none⟩)) s0_2) ?_
        refine RT.y rfl rfl (Y.nilCheck rfl) ?_
        refine RT.y rfl rfl (Y.fieldAddr (off := 0) rfl (by kernel_rfl)) ?_
        refine RT.y rfl rfl (Y.load (v := .slice A1 d0.agents.length c1) rfl (by kernel_rfl) (fun w' hS => (cellT hS (hca0 0 _ rfl)))) ?_
        refine RT.y rfl rfl (Y.move (v := .slice Aa1 d1.length ca1) s1_2) ?_
        refine RT.y rfl rfl (Y.move (v := .int .i64 i29) s8_2) ?_
        obtain ⟨x35, hx38, hm⟩ := bnd hm
        obtain ⟨k36, hk39, hl40, hx38⟩ := getI_some hx38
        obtain ⟨b42, o43, rfl, hbb42⟩ := ha1.addr (by omega)
        obtain ⟨cs37, hRcs37, hc41⟩ := ha1.el hx38
        have hScs37 := hRcs37
        obtain rfl := hRcs37
        refine RT.y rfl rfl (Y.indexAddr (m := k36) (sz := 1) rfl rfl hk39 hl40 (by kernel_rfl)) ?_
        refine RT.y rfl rfl (Y.load (v := .int .i64 x35) rfl (by kernel_rfl) (fun w' hS => (cellT hS (hc41 0 _ rfl)))) ?_
        obtain ⟨x44, hx47, hm⟩ := bnd hm
        obtain ⟨k45, hk48, hl49, hx47⟩ := getI_some hx47
        obtain ⟨b51, o52, rfl, hbb51⟩ := h1.addr (by omega)
        obtain ⟨cs46, hRcs46, hc50⟩ := h1.el hx47
        have hScs46 := hRcs46
        obtain ⟨A53, n53, c53, A54, n54, c54, rfl, ⟨h53, r53⟩, ⟨h54, r54⟩⟩ := hRcs46
        have e53 := h53.len; subst e53
        have q53 := len_le r53
        have e54 := h54.len; subst e54
        have q54 := len_le r54
        refine RT.y rfl rfl (Y.indexAddr (m := k45) (sz := 5) rfl rfl hk48 hl49 (by kernel_rfl)) ?_
        refine RT.both rfl rfl ?_ ?_
        · obtain ⟨y55, e56, hm⟩ := bnd hm
          refine RL.call rfl (am1 rfl) (by kernel_rfl) ((c_m_spec_l11OwnAgent x44 _ e56 _ _ (ptArg agentRd_ok hbb51 hScs46 hc50 T)).mono ?_)
          rintro _ w63 ⟨⟨v57, v60, rfl, G58, G61, Ro59_o62⟩, hb64⟩
          refine ⟨_, rfl, ?_⟩
          have szw63 := hb64.size
          have T0w63 := T.size
          have Zo59_ob5 := ap_ne (Ap.new (OwF.flo G58) (one_hi B3.lt))
          have Zo59_ob18 := ap_ne (Ap.new (OwF.flo G58) (one_hi Bz30.lt))
          have Zo59_oxs13 := Ap.dj (Ap.new (OwF.flo G58) (OwF.fhi Guxs13))
          have Zo59_oz30_0 : Ap (fb v57) bsz30_0 := (Ap.new (OwF.flo G58) (OwN.hi Guz30_0))
          have Zo62_ob5 := ap_ne (Ap.new (OwF.flo G61) (one_hi B3.lt))
          have Zo62_ob18 := ap_ne (Ap.new (OwF.flo G61) (one_hi Bz30.lt))
          have Zo62_oxs13 := Ap.dj (Ap.new (OwF.flo G61) (OwF.fhi Guxs13))
          have Zo62_oz30_0 : Ap (fb v60) bsz30_0 := (Ap.new (OwF.flo G61) (OwN.hi Guz30_0))
          have B3 := blkT B3 hb64
          have Bz30 := blkT Bz30 hb64
          have Guxs13 := OwF.below Guxs13 hb64
          have Guz30_0 := OwN.below agentOw_ok Guz30_0 hb64
          have T := Tt T hb64
          replace G58 := OwF.mono G58 T0w63
          replace G61 := OwF.mono G61 T0w63
          refine RL.nil ⟨T, ?_⟩
          refine RT.act rfl ?_
          refine RL.alloc (z := .agg #[.int .i64 0, .int .i64 0, .int .i64 0, .slice none 0 0, .slice none 0 0]) rfl (by kernel_rfl) (fun w65 B66 hb67 szw65 => ?_)
          replace B66 : Blk w65 w63.heap.size 63 #[.int .i64 0, .int .i64 0, .int .i64 0, .slice none 0 0, .slice none 0 0] := B66
          have GB66 : w.heap.size ≤ w63.heap.size := T.size
          have Eob68_ob5 := Nat.ne_of_lt B3.lt
          have Eob68_ob18 := Nat.ne_of_lt Bz30.lt
          have Noxs13_ob68 := OwF.far Guxs13 (Nat.le_refl _)
          have Noz30_0_ob68 := Ap.far (OwN.hi Guz30_0)
          have No59_ob68 := OwF.far G58 (Nat.le_refl _)
          have No62_ob68 := OwF.far G61 (Nat.le_refl _)
          have B3 := blkT B3 hb67
          have Bz30 := blkT Bz30 hb67
          have Guxs13 := OwF.below Guxs13 hb67
          have Guz30_0 := OwN.below agentOw_ok Guz30_0 hb67
          have G58 := OwF.below G58 hb67
          have G61 := OwF.below G61 hb67
          have T := Tt T hb67
          refine RL.nil ⟨T, ?_⟩
          refine RT.act rfl ?_
          obtain ⟨A69, c70, rfl⟩ := OwF.form G58
          have qbA69 := OwF.bound G58
          obtain ⟨A71, c72, rfl⟩ := OwF.form G61
          have qbA71 := OwF.bound G61
          refine RL.store (v := .agg #[.int .i64 y55.kind, .int .i64 y55.level, .int .i64 y55.value, .slice A69 y55.data.length c70, .slice A71 y55.ports.length c72]) (cs' := #[.int .i64 y55.kind, .int .i64 y55.level, .int .i64 y55.value, .slice A69 y55.data.length c70, .slice A71 y55.ports.length c72]) rfl rfl rfl B66 (by kernel_rfl) (by rfl) (by rfl) (by rfl) (fun w73 B74 ho75 => ?_)
          have szw73 := ho75.size
          have B3 := B3.only_ ho75 (by intro hin; simp at hin; exact Eob68_ob5 hin)
          have Bz30 := Bz30.only_ ho75 (by intro hin; simp at hin; exact Eob68_ob18 hin)
          have Guxs13 := OwF.only Guxs13 ho75 Noxs13_ob68
          have Guz30_0 := OwN.only agentOw_ok Guz30_0 ho75 (Ap.one Noz30_0_ob68)
          have G58 := OwF.only G58 ho75 No59_ob68
          have G61 := OwF.only G61 ho75 No62_ob68
          have T := T.trans (ho75.below (by first | (simp; done) | (simp; omega)))
          refine RL.nil ⟨T, ?_⟩
          refine RT.nil_ ?_
          refine then_n ?_
          refine wp_seq ?_
          refine wp_seq ?_
          refine wp_rs rfl ?_
          refine RQ.y rfl (Y.assign (v := .int .i64 0) rfl) ?_
          refine RQ.nil ?_
          refine then_n ?_
          refine wp_block ?_
          obtain ⟨K3, hK3, hm⟩ : ∃ K, K = (m_spec_l11Renumber_A3 rec2 i29 z30) ∧ m_spec_l11Renumber_L3 xs13 K (y55.ports.length + 1) 0 y55 = some r := ⟨_, rfl, hm⟩
          refine wp_loopX (fun g f w' => ∃ (i125 : Int) (z126 : DAgent) (uz126_0 : Value) (uz126_1 : Value), f 0 = .pointer (some ⟨ba0, oa0, none⟩) ∧ f 1 = .slice (some ⟨b42, o43, none⟩) d1.length ca1 ∧ f 4 = .pointer (some ⟨w.heap.size, 0, none⟩) ∧ f 5 = uxs13 ∧ f 7 = .pointer (some ⟨w14.heap.size, 0, none⟩) ∧ f 8 = .int .i64 i29 ∧ f 9 = .pointer (some ⟨w63.heap.size, 0, none⟩) ∧ f 10 = .int .i64 i125 ∧ 0 ≤ i125 ∧ Blk w' w63.heap.size 63 #[.int .i64 z126.kind, .int .i64 z126.level, .int .i64 z126.value, uz126_0, uz126_1] ∧ OwF 2 encI 1 w' w.heap.size uz126_0 z126.data ∧ OwF 65 encPort 2 w' w.heap.size uz126_1 z126.ports ∧ Dj uz126_0 uxs13 ∧ Ap (fb uz126_0) bsz30_0 ∧ Value.ownBlock uz126_0 ≠ some w.heap.size ∧ Value.ownBlock uz126_0 ≠ some w14.heap.size ∧ Value.ownBlock uz126_0 ≠ some w63.heap.size ∧ Dj uz126_1 uz126_0 ∧ Dj uz126_1 uxs13 ∧ Ap (fb uz126_1) bsz30_0 ∧ Value.ownBlock uz126_1 ≠ some w.heap.size ∧ Value.ownBlock uz126_1 ≠ some w14.heap.size ∧ Value.ownBlock uz126_1 ≠ some w63.heap.size ∧ Blk w' w.heap.size 31 #[.slice none 0 0] ∧ Blk w' w14.heap.size 31 #[uz30_0] ∧ OwF 2 encI 1 w' w.heap.size uxs13 xs13 ∧ OwN 63 agentOw 5 w' w.heap.size uz30_0 z30.agents bsz30_0 ∧ Below w.heap.size w w' ∧ m_spec_l11Renumber_L3 xs13 K3 g i125 z126 = some r) 4 (fun f w' => ∃ (z76 : DAgent) (uz76_0 : Value) (uz76_1 : Value), f 0 = .pointer (some ⟨ba0, oa0, none⟩) ∧ f 1 = .slice (some ⟨b42, o43, none⟩) d1.length ca1 ∧ f 4 = .pointer (some ⟨w.heap.size, 0, none⟩) ∧ f 5 = uxs13 ∧ f 7 = .pointer (some ⟨w14.heap.size, 0, none⟩) ∧ f 8 = .int .i64 i29 ∧ f 9 = .pointer (some ⟨w63.heap.size, 0, none⟩) ∧ Blk w' w63.heap.size 63 #[.int .i64 z76.kind, .int .i64 z76.level, .int .i64 z76.value, uz76_0, uz76_1] ∧ OwF 2 encI 1 w' w.heap.size uz76_0 z76.data ∧ OwF 65 encPort 2 w' w.heap.size uz76_1 z76.ports ∧ Dj uz76_0 uxs13 ∧ Ap (fb uz76_0) bsz30_0 ∧ Value.ownBlock uz76_0 ≠ some w.heap.size ∧ Value.ownBlock uz76_0 ≠ some w14.heap.size ∧ Value.ownBlock uz76_0 ≠ some w63.heap.size ∧ Dj uz76_1 uz76_0 ∧ Dj uz76_1 uxs13 ∧ Ap (fb uz76_1) bsz30_0 ∧ Value.ownBlock uz76_1 ≠ some w.heap.size ∧ Value.ownBlock uz76_1 ≠ some w14.heap.size ∧ Value.ownBlock uz76_1 ≠ some w63.heap.size ∧ Blk w' w.heap.size 31 #[.slice none 0 0] ∧ Blk w' w14.heap.size 31 #[uz30_0] ∧ OwF 2 encI 1 w' w.heap.size uxs13 xs13 ∧ OwN 63 agentOw 5 w' w.heap.size uz30_0 z30.agents bsz30_0 ∧ Below w.heap.size w w' ∧ m_spec_l11Renumber_A3 rec2 i29 z30 z76 = some r) (y55.ports.length + 1) ⟨0, y55, (.slice A69 y55.data.length c70), (.slice A71 y55.ports.length c72), s0_2, s1_2, s4_2, s5_2, s7_2, s8_2, rfl, rfl, (by omega), B74, G58, G61, (Ap.dj (Dj.ap Zo59_oxs13)), Zo59_oz30_0, (ap_ne (ne_ap Zo59_ob5)), (ap_ne (ne_ap Zo59_ob18)), (ap_ne (ne_ap No59_ob68)), (Ap.dj (Ap.symm (Dj.ap Ro59_o62))), (Ap.dj (Dj.ap Zo62_oxs13)), Zo62_oz30_0, (ap_ne (ne_ap Zo62_ob5)), (ap_ne (ne_ap Zo62_ob18)), (ap_ne (ne_ap No62_ob68)), B3, Bz30, Guxs13, Guz30_0, T, hm⟩ ?_ ?_
          · rintro f w77 ⟨z76, uz76_0, uz76_1, s0_3x, s1_3x, s4_3x, s5_3x, s7_3x, s8_3x, s9_3x, Bz76, Guz76_0, Guz76_1, Doz76_0_oxs13, Doz76_0_oz30_0, Noz76_0_ob5, Noz76_0_ob18, Noz76_0_ob68, Doz76_1_oz76_0, Doz76_1_oxs13, Doz76_1_oz30_0, Noz76_1_ob5, Noz76_1_ob18, Noz76_1_ob68, B3, Bz30, Guxs13, Guz30_0, T, hm⟩
            unfold m_spec_l11Renumber_A3 at hm
            refine blk_hit (then_n ?_)
            refine wp_rl rfl ?_
            refine RL.y rfl (Y.fieldAddr (off := 0) s7_3x (by kernel_rfl)) ?_
            refine RL.y rfl (Y.load (v := uz30_0) rfl (by kernel_rfl) (eqC (blkCell Bz30 (i := 0) rfl))) ?_
            refine RL.y rfl (Y.loadN (cs := [.int .i64 z76.kind, .int .i64 z76.level, .int .i64 z76.value, uz76_0, uz76_1]) s9_3x (by kernel_rfl) (cells5 (eqC (blkCell Bz76 (i := 0) rfl)) (eqC (blkCell Bz76 (i := 1) rfl)) (eqC (blkCell Bz76 (i := 2) rfl)) (eqC (blkCell Bz76 (i := 3) rfl)) (eqC (blkCell Bz76 (i := 4) rfl)))) ?_
            obtain ⟨A82, c83, rfl⟩ := OwF.form Guz76_0
            have qbA82 := OwF.bound Guz76_0
            obtain ⟨A84, c85, rfl⟩ := OwF.form Guz76_1
            have qbA84 := OwF.bound Guz76_1
            refine RL.bslice (e := 63) (cells := #[.int .i64 z76.kind, .int .i64 z76.level, .int .i64 z76.value, .slice A82 z76.data.length c83, .slice A84 z76.ports.length c85]) rfl (pm1 rfl) (by kernel_rfl) (fun w78 B79 hb80 szw78 => ?_)
            have ZB79 : w.heap.size ≤ w77.heap.size := T.size
            have q86 := OwF.fboth Guz76_0 (Nat.le_refl _)
            have q87 := OwF.fboth Guz76_1 (Nat.le_refl _)
            have z88 := Ap.cons (Ap.farL (one_hi B3.lt)) (Ap.append (ne_ap Noz76_0_ob5) (ne_ap Noz76_1_ob5))
            have z89 := Ap.cons (Ap.farL (one_hi Bz30.lt)) (Ap.append (ne_ap Noz76_0_ob18) (ne_ap Noz76_1_ob18))
            have z90 := Ap.cons (Ap.farL (one_hi Bz76.lt)) (Ap.append (ne_ap Noz76_0_ob68) (ne_ap Noz76_1_ob68))
            have z91 := Ap.cons (Ap.farL (OwF.fhi Guxs13)) (Ap.append (Dj.ap Doz76_0_oxs13) (Dj.ap Doz76_1_oxs13))
            have z92 := Ap.cons (Ap.farL (OwN.hi Guz30_0)) (Ap.append Doz76_0_oz30_0 Doz76_1_oz30_0)
            have B3 := blkT B3 hb80
            have Bz30 := blkT Bz30 hb80
            have Bz76 := blkT Bz76 hb80
            have Guxs13 := OwF.below Guxs13 hb80
            have Guz30_0 := OwN.below agentOw_ok Guz30_0 hb80
            have Guz76_0 := OwF.below Guz76_0 hb80
            have Guz76_1 := OwF.below Guz76_1 hb80
            have T := Tt T hb80
            obtain ⟨l94, a93, nd95, sb96, r97⟩ := OwF.own2 fI Guz76_0
            obtain ⟨l99, a98, nd100, sb101, r102⟩ := OwF.own2 fPort Guz76_1
            have G103 : OwN 63 agentOw 5 w78 w.heap.size (.slice (some ⟨w77.heap.size, 0, none⟩) 1 1) [z76] (w77.heap.size :: ((fb (.slice A82 z76.data.length c83)) ++ (fb (.slice A84 z76.ports.length c85)))) := OwN.lit1 (b1 := (l94 ++ l99)) B79 ZB79 ⟨_, _, _, _, _, _, l94, l99, rfl, ⟨a93, r97⟩, ⟨a98, r102⟩, rfl⟩ agentOw_ok (nodup2 nd95 nd100 sb96 sb101 (Ap.symm (Dj.ap Doz76_1_oz76_0))) (sub2 sb96 sb101) (all2 q86 q87)
            obtain ⟨_, m105, hm⟩ := bnd hm
            have hk106 := mustP_some m105
            refine RL.appendN agentOw_ok agentOw_one (by decide) app_impl_Agent rfl rfl rfl Guz30_0 G103 (Ap.symm z92) T.size hk106 (fun v107 w108 bs109 G110 hgr111 hbl112 hnb113 => ?_)
            have szw108 := hbl112.size
            have z115 := Ap.app hnb113 Noz30_0_ob5 z88 (one_hi B3.lt)
            have z116 := Ap.app hnb113 Noz30_0_ob18 z89 (one_hi Bz30.lt)
            have z117 := Ap.app hnb113 Noz30_0_ob68 z90 (one_hi Bz76.lt)
            have z118 := Ap.app hnb113 Doz30_0_oxs13 z91 (OwF.fhi Guxs13)
            have B3 := Blk.kept B3 hgr111 (OwN.neB Guz30_0 Noz30_0_ob5)
            have Bz30 := Blk.kept Bz30 hgr111 (OwN.neB Guz30_0 Noz30_0_ob18)
            have Bz76 := Blk.kept Bz76 hgr111 (OwN.neB Guz30_0 Noz30_0_ob68)
            have Guxs13 := OwF.keptD Guxs13 hgr111 (OwN.dj Guz30_0 Doz30_0_oxs13)
            have T := T.trans hbl112
            refine RL.y rfl (Y.fieldAddr (off := 0) s7_3x (by kernel_rfl)) ?_
            obtain ⟨A119, c120, rfl⟩ := OwN.form G110
            have qbA119 := OwN.bound G110
            refine RL.store (v := .slice A119 ((z30.agents ++ [z76]).length) c120) (cs' := #[.slice A119 ((z30.agents ++ [z76]).length) c120]) rfl rfl rfl Bz30 (by kernel_rfl) (by rfl) (by rfl) (by rfl) (fun w121 B122 ho123 => ?_)
            have szw121 := ho123.size
            have B3 := B3.only_ ho123 (by intro hin; simp at hin; exact Eob18_ob5 hin)
            have Bz76 := Bz76.only_ ho123 (by intro hin; simp at hin; exact Eob68_ob18.symm hin)
            have Guxs13 := OwF.only Guxs13 ho123 Noxs13_ob18
            have G110 := OwN.only agentOw_ok G110 ho123 (Ap.one z116)
            have T := T.trans (ho123.below (by first | (simp; done) | (simp; omega)))
            refine RL.nil ?_
            refine blk_n (then_n ?_)
            refine wp_rs rfl ?_
            refine RQ.y rfl (Y.move (v := .int .i64 i29) s8_3x) ?_
            obtain ⟨s124, ks124, hm⟩ := bnd hm
            replace ks124 := ck_some ks124
            refine RQ.y rfl (Y.binI (v := .int .i64 s124) rfl rfl (by rw [binI_add ks124.2, ks124.1])) ?_
            refine RQ.y rfl (Y.assign (v := .int .i64 s124) rfl) ?_
            refine RQ.nil ?_
            exact (then_n ⟨g, _, Nat.lt_succ_self _, rfl, ⟨s124, (⟨(z30.agents ++ [z76])⟩ : DNet), (.slice A119 ((z30.agents ++ [z76]).length) c120), bs109, s0_3x, s1_3x, s4_3x, s5_3x, s7_3x, rfl, (by omega), B122, G110, z118, z115, z116, B3, Guxs13, T, (by rw [← hrec2]; exact hm)⟩⟩)
          · rintro g f w127 ⟨i125, z126, uz126_0, uz126_1, s0_3, s1_3, s4_3, s5_3, s7_3, s8_3, s9_3, s10_3, nn10_3, Bz126, Guz126_0, Guz126_1, Doz126_0_oxs13, Doz126_0_oz30_0, Noz126_0_ob5, Noz126_0_ob18, Noz126_0_ob68, Doz126_1_oz126_0, Doz126_1_oxs13, Doz126_1_oz30_0, Noz126_1_ob5, Noz126_1_ob18, Noz126_1_ob68, B3, Bz30, Guxs13, Guz30_0, T, hm⟩
            rcases g with _ | g
            · simp only [m_spec_l11Renumber_L3] at hm; cases hm
            obtain ⟨rec3, hrec3, hm⟩ : ∃ z, z = m_spec_l11Renumber_L3 xs13 K3 g ∧ m_spec_l11Renumber_B3 xs13 z K3 i125 z126 = some r := ⟨_, rfl, hm⟩
            unfold m_spec_l11Renumber_B3 at hm
            refine wp_seq ?_
            refine wp_seq ?_
            refine wp_rs rfl ?_
            refine RQ.y rfl (Y.move (v := .int .i64 i125) s10_3) ?_
            refine RQ.y rfl (Y.fieldAddr (off := 4) s9_3 (by kernel_rfl)) ?_
            refine RQ.y rfl (Y.load (v := uz126_1) rfl (by kernel_rfl) (eqC (blkCell Bz126 (i := 4) rfl))) ?_
            obtain ⟨A128, c129, rfl⟩ := OwF.form Guz126_1
            have qbA128 := OwF.bound Guz126_1
            refine RQ.y rfl (Y.len (by kernel_rfl) rfl) ?_
            refine RQ.y rfl (Y.binI (v := .bool (decide (i125 < (z126.ports.length : Int)))) rfl rfl rfl) ?_
            refine RQ.nil ?_
            refine then_n ?_
            rcases bcases (decide (i125 < (z126.ports.length : Int))) with c130 | c130
            · replace hm := cF c130 hm
              have pc130 := of_decide_eq_false c130
              refine cond_f rfl (vb rfl c130) ?_
              refine wp_exit ?_
              exact (then_x (then_x (hit_x ⟨_, rfl, ⟨z126, (uz126_0), (.slice A128 z126.ports.length c129), s0_3, s1_3, s4_3, s5_3, s7_3, s8_3, s9_3, Bz126, Guz126_0, Guz126_1, (Ap.dj (Dj.ap Doz126_0_oxs13)), Doz126_0_oz30_0, (ap_ne (ne_ap Noz126_0_ob5)), (ap_ne (ne_ap Noz126_0_ob18)), (ap_ne (ne_ap Noz126_0_ob68)), (Ap.dj (Dj.ap Doz126_1_oz126_0)), (Ap.dj (Dj.ap Doz126_1_oxs13)), Doz126_1_oz30_0, (ap_ne (ne_ap Noz126_1_ob5)), (ap_ne (ne_ap Noz126_1_ob18)), (ap_ne (ne_ap Noz126_1_ob68)), B3, Bz30, Guxs13, Guz30_0, T, (by rw [hK3] at hm; exact hm)⟩⟩)))
            · replace hm := cT c130 hm
              have pc130 := of_decide_eq_true c130
              refine cond_t rfl (vb rfl c130) ?_
              refine wp_skip ?_
              refine then_n ?_
              refine wp_seq ?_
              refine wp_block ?_
              refine wp_rg (fun w' => Below w.heap.size w w' ∧ Blk w' w63.heap.size 63 #[.int .i64 z126.kind, .int .i64 z126.level, .int .i64 z126.value, uz126_0, .slice A128 z126.ports.length c129] ∧ OwF 2 encI 1 w' w.heap.size uxs13 xs13) [(0, true), (1, true), (2, true), (3, true), (4, true), (5, true), (6, true), (7, true), (8, true), (9, false), (10, true), (11, true), (12, true), (13, true), (14, false)] (by kernel_rfl) (by kernel_rfl) (fun w131 hb132 szw131 => ?_)
              have B3 := blkT B3 hb132
              have Bz30 := blkT Bz30 hb132
              have Bz126 := blkT Bz126 hb132
              have Guxs13 := OwF.below Guxs13 hb132
              have Guz30_0 := OwN.below agentOw_ok Guz30_0 hb132
              have Guz126_0 := OwF.below Guz126_0 hb132
              have Guz126_1 := OwF.below Guz126_1 hb132
              have T := Tt T hb132
              refine ⟨⟨T, Bz126, Guxs13⟩, ?_⟩
              refine RG.y rfl rfl (Y.fieldAddr (off := 4) s9_3 (by kernel_rfl)) ?_
              refine RG.y rfl rfl (Y.load (v := .slice A128 z126.ports.length c129) rfl (by kernel_rfl) (fun w' hS => (blkCell hS.2.1 (i := 4) rfl))) ?_
              refine RG.y rfl rfl (Y.move (v := .int .i64 i125) s10_3) ?_
              refine RG.y rfl rfl (Y.move (v := uxs13) s5_3) ?_
              refine RG.y rfl rfl (Y.fieldAddr (off := 4) s9_3 (by kernel_rfl)) ?_
              refine RG.y rfl rfl (Y.load (v := .slice A128 z126.ports.length c129) rfl (by kernel_rfl) (fun w' hS => (blkCell hS.2.1 (i := 4) rfl))) ?_
              refine RG.y rfl rfl (Y.move (v := .int .i64 i125) s10_3) ?_
              obtain ⟨x133, hx135, hm⟩ := bnd hm
              obtain ⟨k134, hk136, hl137, hx135⟩ := getI_some hx135
              obtain ⟨b138, rfl⟩ := OwF.addr0 Guz126_1 (by omega)
              refine RG.y rfl rfl (Y.indexAddr (m := k134) (sz := 2) rfl rfl hk136 hl137 (by kernel_rfl)) ?_
              refine RG.y rfl rfl (Y.fieldAddr (off := 0) rfl (by kernel_rfl)) ?_
              refine RG.act rfl ?_
              refine RL.y rfl (Y.load (v := .int .i64 x133.agent) rfl (by kernel_rfl) (eqC (OwF.cell fPort Guz126_1 hx135 (j := 0) rfl))) ?_
              refine RL.nil ⟨⟨T, Bz126, Guxs13⟩, ?_⟩
              obtain ⟨A139, c140, rfl⟩ := OwF.form Guxs13
              have qbA139 := OwF.bound Guxs13
              obtain ⟨x141, hx143, hm⟩ := bnd hm
              obtain ⟨k142, hk144, hl145, hx143⟩ := getI_some hx143
              obtain ⟨b146, rfl⟩ := OwF.addr0 Guxs13 (by omega)
              refine RG.y rfl rfl (Y.indexAddr (m := k142) (sz := 1) rfl rfl hk144 hl145 (by kernel_rfl)) ?_
              refine RG.y rfl rfl (Y.load (v := .int .i64 x141) rfl (by kernel_rfl) (fun w' hS => (OwF.cell fI hS.2.2 hx143 (j := 0) rfl))) ?_
              obtain ⟨x147, hx149, hm⟩ := bnd hm
              obtain ⟨k148, hk150, hl151, hx149⟩ := getI_some hx149
              refine RG.y rfl rfl (Y.indexAddr (m := k148) (sz := 2) rfl rfl hk150 hl151 (by kernel_rfl)) ?_
              refine RG.y rfl rfl (Y.fieldAddr (off := 0) rfl (by kernel_rfl)) ?_
              refine RG.act rfl ?_
              refine RL.storeFj (k := k148) (j := 0) (a := x147) (a' := (⟨x141, x147.slot⟩ : DPort)) fPort rfl rfl rfl Guz126_1 hx149 (by decide) rfl rfl rfl (by kernel_rfl) (fun w152 G153 ho154 => ?_)
              have szw152 := ho154.size
              have B3 := Blk.only_ B3 ho154 (fun e => Noz126_1_ob5 (by simp at e; rw [e]; rfl))
              have Bz30 := Blk.only_ Bz30 ho154 (fun e => Noz126_1_ob18 (by simp at e; rw [e]; rfl))
              have Bz126 := Blk.only_ Bz126 ho154 (fun e => Noz126_1_ob68 (by simp at e; rw [e]; rfl))
              have Guxs13 := OwF.only Guxs13 ho154 (fun e => (Dj.symm Doz126_1_oxs13) _ e rfl)
              have Guz30_0 := OwN.only agentOw_ok Guz30_0 ho154 ((show Ap bsz30_0 [b138] from (Ap.symm Doz126_1_oz30_0)).one)
              have Guz126_0 := OwF.only Guz126_0 ho154 (fun e => (Dj.symm Doz126_1_oz126_0) _ e rfl)
              have T := T.trans (ho154.below (by intro b hb; simp at hb; subst hb; exact OwF.lo_ Guz126_1 _ rfl))
              have G153 : OwF 65 encPort 2 w152 w.heap.size (.slice (some ⟨b138, 0, none⟩) z126.ports.length c129) (setI z126.ports i125 (⟨x141, x147.slot⟩ : DPort)) := by rw [hk150, setI_nat]; exact G153
              have hx155 : (setI z126.ports i125 (⟨x141, x147.slot⟩ : DPort))[k148]? = some (⟨x141, x147.slot⟩ : DPort) := setI_at hk150 hl151
              have hl156 := lt_of_some hx155
              refine RL.nil ⟨⟨T, Bz126, Guxs13⟩, ?_⟩
              refine RG.nil ?_
              refine blk_n (then_n ?_)
              refine wp_rs rfl ?_
              refine RQ.y rfl (Y.move (v := .int .i64 i125) s10_3) ?_
              refine RQ.y rfl (Y.binI rfl rfl (binI_add (m := i125) (by omega))) ?_
              refine RQ.y rfl (Y.assign (v := .int .i64 (i125 + 1)) rfl) ?_
              refine RQ.nil ?_
              exact (then_n ⟨g, _, Nat.lt_succ_self _, rfl, ⟨(i125 + 1), (⟨z126.kind, z126.level, z126.value, z126.data, (setI z126.ports i125 (⟨x141, x147.slot⟩ : DPort))⟩ : DAgent), (uz126_0), (.slice (some ⟨b138, 0, none⟩) z126.ports.length c129), s0_3, s1_3, s4_3, s5_3, s7_3, s8_3, s9_3, rfl, (by omega), Bz126, Guz126_0, G153, (Ap.dj (Dj.ap Doz126_0_oxs13)), Doz126_0_oz30_0, (ap_ne (ne_ap Noz126_0_ob5)), (ap_ne (ne_ap Noz126_0_ob18)), (ap_ne (ne_ap Noz126_0_ob68)), (Ap.dj (Dj.ap Doz126_1_oz126_0)), (Ap.dj (Dj.ap Doz126_1_oxs13)), Doz126_1_oz30_0, (ap_ne (ne_ap Noz126_1_ob5)), (ap_ne (ne_ap Noz126_1_ob18)), (ap_ne (ne_ap Noz126_1_ob68)), B3, Bz30, Guxs13, Guz30_0, T, (by rw [← hrec3]; exact hm)⟩⟩)
        · refine RL.alloc (z := .agg #[.int .i64 0, .int .i64 0, .int .i64 0, .slice none 0 0, .slice none 0 0]) rfl (by kernel_rfl) (fun w158 B159 hb160 szw158 => ?_)
          replace B159 : Blk w158 w33.heap.size 63 #[.int .i64 0, .int .i64 0, .int .i64 0, .slice none 0 0, .slice none 0 0] := B159
          have GB159 : w.heap.size ≤ w33.heap.size := T.size
          have Eob161_ob5 := Nat.ne_of_lt B3.lt
          have Eob161_ob18 := Nat.ne_of_lt Bz30.lt
          have Noxs13_ob161 := OwF.far Guxs13 (Nat.le_refl _)
          have Noz30_0_ob161 := Ap.far (OwN.hi Guz30_0)
          have B3 := blkT B3 hb160
          have Bz30 := blkT Bz30 hb160
          have Guxs13 := OwF.below Guxs13 hb160
          have Guz30_0 := OwN.below agentOw_ok Guz30_0 hb160
          have T := Tt T hb160
          refine RL.nil ⟨T, ?_⟩
          refine RT.act rfl ?_
          obtain ⟨y162, e163, hm⟩ := bnd hm
          refine RL.call rfl (am1 rfl) (by kernel_rfl) ((c_m_spec_l11OwnAgent x44 _ e163 _ _ (ptArg agentRd_ok hbb51 hScs46 hc50 T)).mono ?_)
          rintro _ w170 ⟨⟨v164, v167, rfl, G165, G168, Ro166_o169⟩, hb171⟩
          refine ⟨_, rfl, ?_⟩
          have szw170 := hb171.size
          have T0w170 := T.size
          have Zo166_ob5 := ap_ne (Ap.new (OwF.flo G165) (one_hi B3.lt))
          have Zo166_ob18 := ap_ne (Ap.new (OwF.flo G165) (one_hi Bz30.lt))
          have Zo166_ob161 := ap_ne (Ap.new (OwF.flo G165) (one_hi B159.lt))
          have Zo166_oxs13 := Ap.dj (Ap.new (OwF.flo G165) (OwF.fhi Guxs13))
          have Zo166_oz30_0 : Ap (fb v164) bsz30_0 := (Ap.new (OwF.flo G165) (OwN.hi Guz30_0))
          have Zo169_ob5 := ap_ne (Ap.new (OwF.flo G168) (one_hi B3.lt))
          have Zo169_ob18 := ap_ne (Ap.new (OwF.flo G168) (one_hi Bz30.lt))
          have Zo169_ob161 := ap_ne (Ap.new (OwF.flo G168) (one_hi B159.lt))
          have Zo169_oxs13 := Ap.dj (Ap.new (OwF.flo G168) (OwF.fhi Guxs13))
          have Zo169_oz30_0 : Ap (fb v167) bsz30_0 := (Ap.new (OwF.flo G168) (OwN.hi Guz30_0))
          have B3 := blkT B3 hb171
          have Bz30 := blkT Bz30 hb171
          have B159 := blkT B159 hb171
          have Guxs13 := OwF.below Guxs13 hb171
          have Guz30_0 := OwN.below agentOw_ok Guz30_0 hb171
          have T := Tt T hb171
          replace G165 := OwF.mono G165 T0w170
          replace G168 := OwF.mono G168 T0w170
          refine RL.nil ⟨T, ?_⟩
          refine RT.act rfl ?_
          obtain ⟨A172, c173, rfl⟩ := OwF.form G165
          have qbA172 := OwF.bound G165
          obtain ⟨A174, c175, rfl⟩ := OwF.form G168
          have qbA174 := OwF.bound G168
          refine RL.store (v := .agg #[.int .i64 y162.kind, .int .i64 y162.level, .int .i64 y162.value, .slice A172 y162.data.length c173, .slice A174 y162.ports.length c175]) (cs' := #[.int .i64 y162.kind, .int .i64 y162.level, .int .i64 y162.value, .slice A172 y162.data.length c173, .slice A174 y162.ports.length c175]) rfl rfl rfl B159 (by kernel_rfl) (by rfl) (by rfl) (by rfl) (fun w176 B177 ho178 => ?_)
          have szw176 := ho178.size
          have B3 := B3.only_ ho178 (by intro hin; simp at hin; exact Eob161_ob5 hin)
          have Bz30 := Bz30.only_ ho178 (by intro hin; simp at hin; exact Eob161_ob18 hin)
          have Guxs13 := OwF.only Guxs13 ho178 Noxs13_ob161
          have Guz30_0 := OwN.only agentOw_ok Guz30_0 ho178 (Ap.one Noz30_0_ob161)
          have G165 := OwF.only G165 ho178 Zo166_ob161
          have G168 := OwF.only G168 ho178 Zo169_ob161
          have T := T.trans (ho178.below (by first | (simp; done) | (simp; omega)))
          refine RL.nil ⟨T, ?_⟩
          refine RT.nil_ ?_
          refine then_n ?_
          refine wp_seq ?_
          refine wp_seq ?_
          refine wp_rs rfl ?_
          refine RQ.y rfl (Y.assign (v := .int .i64 0) rfl) ?_
          refine RQ.nil ?_
          refine then_n ?_
          refine wp_block ?_
          obtain ⟨K3, hK3, hm⟩ : ∃ K, K = (m_spec_l11Renumber_A3 rec2 i29 z30) ∧ m_spec_l11Renumber_L3 xs13 K (y162.ports.length + 1) 0 y162 = some r := ⟨_, rfl, hm⟩
          refine wp_loopX (fun g f w' => ∃ (i228 : Int) (z229 : DAgent) (uz229_0 : Value) (uz229_1 : Value), f 0 = .pointer (some ⟨ba0, oa0, none⟩) ∧ f 1 = .slice (some ⟨b42, o43, none⟩) d1.length ca1 ∧ f 4 = .pointer (some ⟨w.heap.size, 0, none⟩) ∧ f 5 = uxs13 ∧ f 7 = .pointer (some ⟨w14.heap.size, 0, none⟩) ∧ f 8 = .int .i64 i29 ∧ f 9 = .pointer (some ⟨w33.heap.size, 0, none⟩) ∧ f 10 = .int .i64 i228 ∧ 0 ≤ i228 ∧ Blk w' w33.heap.size 63 #[.int .i64 z229.kind, .int .i64 z229.level, .int .i64 z229.value, uz229_0, uz229_1] ∧ OwF 2 encI 1 w' w.heap.size uz229_0 z229.data ∧ OwF 65 encPort 2 w' w.heap.size uz229_1 z229.ports ∧ Dj uz229_0 uxs13 ∧ Ap (fb uz229_0) bsz30_0 ∧ Value.ownBlock uz229_0 ≠ some w.heap.size ∧ Value.ownBlock uz229_0 ≠ some w14.heap.size ∧ Value.ownBlock uz229_0 ≠ some w33.heap.size ∧ Dj uz229_1 uz229_0 ∧ Dj uz229_1 uxs13 ∧ Ap (fb uz229_1) bsz30_0 ∧ Value.ownBlock uz229_1 ≠ some w.heap.size ∧ Value.ownBlock uz229_1 ≠ some w14.heap.size ∧ Value.ownBlock uz229_1 ≠ some w33.heap.size ∧ Blk w' w.heap.size 31 #[.slice none 0 0] ∧ Blk w' w14.heap.size 31 #[uz30_0] ∧ OwF 2 encI 1 w' w.heap.size uxs13 xs13 ∧ OwN 63 agentOw 5 w' w.heap.size uz30_0 z30.agents bsz30_0 ∧ Below w.heap.size w w' ∧ m_spec_l11Renumber_L3 xs13 K3 g i228 z229 = some r) 4 (fun f w' => ∃ (z179 : DAgent) (uz179_0 : Value) (uz179_1 : Value), f 0 = .pointer (some ⟨ba0, oa0, none⟩) ∧ f 1 = .slice (some ⟨b42, o43, none⟩) d1.length ca1 ∧ f 4 = .pointer (some ⟨w.heap.size, 0, none⟩) ∧ f 5 = uxs13 ∧ f 7 = .pointer (some ⟨w14.heap.size, 0, none⟩) ∧ f 8 = .int .i64 i29 ∧ f 9 = .pointer (some ⟨w33.heap.size, 0, none⟩) ∧ Blk w' w33.heap.size 63 #[.int .i64 z179.kind, .int .i64 z179.level, .int .i64 z179.value, uz179_0, uz179_1] ∧ OwF 2 encI 1 w' w.heap.size uz179_0 z179.data ∧ OwF 65 encPort 2 w' w.heap.size uz179_1 z179.ports ∧ Dj uz179_0 uxs13 ∧ Ap (fb uz179_0) bsz30_0 ∧ Value.ownBlock uz179_0 ≠ some w.heap.size ∧ Value.ownBlock uz179_0 ≠ some w14.heap.size ∧ Value.ownBlock uz179_0 ≠ some w33.heap.size ∧ Dj uz179_1 uz179_0 ∧ Dj uz179_1 uxs13 ∧ Ap (fb uz179_1) bsz30_0 ∧ Value.ownBlock uz179_1 ≠ some w.heap.size ∧ Value.ownBlock uz179_1 ≠ some w14.heap.size ∧ Value.ownBlock uz179_1 ≠ some w33.heap.size ∧ Blk w' w.heap.size 31 #[.slice none 0 0] ∧ Blk w' w14.heap.size 31 #[uz30_0] ∧ OwF 2 encI 1 w' w.heap.size uxs13 xs13 ∧ OwN 63 agentOw 5 w' w.heap.size uz30_0 z30.agents bsz30_0 ∧ Below w.heap.size w w' ∧ m_spec_l11Renumber_A3 rec2 i29 z30 z179 = some r) (y162.ports.length + 1) ⟨0, y162, (.slice A172 y162.data.length c173), (.slice A174 y162.ports.length c175), s0_2, s1_2, s4_2, s5_2, s7_2, s8_2, rfl, rfl, (by omega), B177, G165, G168, (Ap.dj (Dj.ap Zo166_oxs13)), Zo166_oz30_0, (ap_ne (ne_ap Zo166_ob5)), (ap_ne (ne_ap Zo166_ob18)), (ap_ne (ne_ap Zo166_ob161)), (Ap.dj (Ap.symm (Dj.ap Ro166_o169))), (Ap.dj (Dj.ap Zo169_oxs13)), Zo169_oz30_0, (ap_ne (ne_ap Zo169_ob5)), (ap_ne (ne_ap Zo169_ob18)), (ap_ne (ne_ap Zo169_ob161)), B3, Bz30, Guxs13, Guz30_0, T, hm⟩ ?_ ?_
          · rintro f w180 ⟨z179, uz179_0, uz179_1, s0_3x, s1_3x, s4_3x, s5_3x, s7_3x, s8_3x, s9_3x, Bz179, Guz179_0, Guz179_1, Doz179_0_oxs13, Doz179_0_oz30_0, Noz179_0_ob5, Noz179_0_ob18, Noz179_0_ob161, Doz179_1_oz179_0, Doz179_1_oxs13, Doz179_1_oz30_0, Noz179_1_ob5, Noz179_1_ob18, Noz179_1_ob161, B3, Bz30, Guxs13, Guz30_0, T, hm⟩
            unfold m_spec_l11Renumber_A3 at hm
            refine blk_hit (then_n ?_)
            refine wp_rl rfl ?_
            refine RL.y rfl (Y.fieldAddr (off := 0) s7_3x (by kernel_rfl)) ?_
            refine RL.y rfl (Y.load (v := uz30_0) rfl (by kernel_rfl) (eqC (blkCell Bz30 (i := 0) rfl))) ?_
            refine RL.y rfl (Y.loadN (cs := [.int .i64 z179.kind, .int .i64 z179.level, .int .i64 z179.value, uz179_0, uz179_1]) s9_3x (by kernel_rfl) (cells5 (eqC (blkCell Bz179 (i := 0) rfl)) (eqC (blkCell Bz179 (i := 1) rfl)) (eqC (blkCell Bz179 (i := 2) rfl)) (eqC (blkCell Bz179 (i := 3) rfl)) (eqC (blkCell Bz179 (i := 4) rfl)))) ?_
            obtain ⟨A185, c186, rfl⟩ := OwF.form Guz179_0
            have qbA185 := OwF.bound Guz179_0
            obtain ⟨A187, c188, rfl⟩ := OwF.form Guz179_1
            have qbA187 := OwF.bound Guz179_1
            refine RL.bslice (e := 63) (cells := #[.int .i64 z179.kind, .int .i64 z179.level, .int .i64 z179.value, .slice A185 z179.data.length c186, .slice A187 z179.ports.length c188]) rfl (pm1 rfl) (by kernel_rfl) (fun w181 B182 hb183 szw181 => ?_)
            have ZB182 : w.heap.size ≤ w180.heap.size := T.size
            have q189 := OwF.fboth Guz179_0 (Nat.le_refl _)
            have q190 := OwF.fboth Guz179_1 (Nat.le_refl _)
            have z191 := Ap.cons (Ap.farL (one_hi B3.lt)) (Ap.append (ne_ap Noz179_0_ob5) (ne_ap Noz179_1_ob5))
            have z192 := Ap.cons (Ap.farL (one_hi Bz30.lt)) (Ap.append (ne_ap Noz179_0_ob18) (ne_ap Noz179_1_ob18))
            have z193 := Ap.cons (Ap.farL (one_hi Bz179.lt)) (Ap.append (ne_ap Noz179_0_ob161) (ne_ap Noz179_1_ob161))
            have z194 := Ap.cons (Ap.farL (OwF.fhi Guxs13)) (Ap.append (Dj.ap Doz179_0_oxs13) (Dj.ap Doz179_1_oxs13))
            have z195 := Ap.cons (Ap.farL (OwN.hi Guz30_0)) (Ap.append Doz179_0_oz30_0 Doz179_1_oz30_0)
            have B3 := blkT B3 hb183
            have Bz30 := blkT Bz30 hb183
            have Bz179 := blkT Bz179 hb183
            have Guxs13 := OwF.below Guxs13 hb183
            have Guz30_0 := OwN.below agentOw_ok Guz30_0 hb183
            have Guz179_0 := OwF.below Guz179_0 hb183
            have Guz179_1 := OwF.below Guz179_1 hb183
            have T := Tt T hb183
            obtain ⟨l197, a196, nd198, sb199, r200⟩ := OwF.own2 fI Guz179_0
            obtain ⟨l202, a201, nd203, sb204, r205⟩ := OwF.own2 fPort Guz179_1
            have G206 : OwN 63 agentOw 5 w181 w.heap.size (.slice (some ⟨w180.heap.size, 0, none⟩) 1 1) [z179] (w180.heap.size :: ((fb (.slice A185 z179.data.length c186)) ++ (fb (.slice A187 z179.ports.length c188)))) := OwN.lit1 (b1 := (l197 ++ l202)) B182 ZB182 ⟨_, _, _, _, _, _, l197, l202, rfl, ⟨a196, r200⟩, ⟨a201, r205⟩, rfl⟩ agentOw_ok (nodup2 nd198 nd203 sb199 sb204 (Ap.symm (Dj.ap Doz179_1_oz179_0))) (sub2 sb199 sb204) (all2 q189 q190)
            obtain ⟨_, m208, hm⟩ := bnd hm
            have hk209 := mustP_some m208
            refine RL.appendN agentOw_ok agentOw_one (by decide) app_impl_Agent rfl rfl rfl Guz30_0 G206 (Ap.symm z195) T.size hk209 (fun v210 w211 bs212 G213 hgr214 hbl215 hnb216 => ?_)
            have szw211 := hbl215.size
            have z218 := Ap.app hnb216 Noz30_0_ob5 z191 (one_hi B3.lt)
            have z219 := Ap.app hnb216 Noz30_0_ob18 z192 (one_hi Bz30.lt)
            have z220 := Ap.app hnb216 Noz30_0_ob161 z193 (one_hi Bz179.lt)
            have z221 := Ap.app hnb216 Doz30_0_oxs13 z194 (OwF.fhi Guxs13)
            have B3 := Blk.kept B3 hgr214 (OwN.neB Guz30_0 Noz30_0_ob5)
            have Bz30 := Blk.kept Bz30 hgr214 (OwN.neB Guz30_0 Noz30_0_ob18)
            have Bz179 := Blk.kept Bz179 hgr214 (OwN.neB Guz30_0 Noz30_0_ob161)
            have Guxs13 := OwF.keptD Guxs13 hgr214 (OwN.dj Guz30_0 Doz30_0_oxs13)
            have T := T.trans hbl215
            refine RL.y rfl (Y.fieldAddr (off := 0) s7_3x (by kernel_rfl)) ?_
            obtain ⟨A222, c223, rfl⟩ := OwN.form G213
            have qbA222 := OwN.bound G213
            refine RL.store (v := .slice A222 ((z30.agents ++ [z179]).length) c223) (cs' := #[.slice A222 ((z30.agents ++ [z179]).length) c223]) rfl rfl rfl Bz30 (by kernel_rfl) (by rfl) (by rfl) (by rfl) (fun w224 B225 ho226 => ?_)
            have szw224 := ho226.size
            have B3 := B3.only_ ho226 (by intro hin; simp at hin; exact Eob18_ob5 hin)
            have Bz179 := Bz179.only_ ho226 (by intro hin; simp at hin; exact Eob161_ob18.symm hin)
            have Guxs13 := OwF.only Guxs13 ho226 Noxs13_ob18
            have G213 := OwN.only agentOw_ok G213 ho226 (Ap.one z219)
            have T := T.trans (ho226.below (by first | (simp; done) | (simp; omega)))
            refine RL.nil ?_
            refine blk_n (then_n ?_)
            refine wp_rs rfl ?_
            refine RQ.y rfl (Y.move (v := .int .i64 i29) s8_3x) ?_
            obtain ⟨s227, ks227, hm⟩ := bnd hm
            replace ks227 := ck_some ks227
            refine RQ.y rfl (Y.binI (v := .int .i64 s227) rfl rfl (by rw [binI_add ks227.2, ks227.1])) ?_
            refine RQ.y rfl (Y.assign (v := .int .i64 s227) rfl) ?_
            refine RQ.nil ?_
            exact (then_n ⟨g, _, Nat.lt_succ_self _, rfl, ⟨s227, (⟨(z30.agents ++ [z179])⟩ : DNet), (.slice A222 ((z30.agents ++ [z179]).length) c223), bs212, s0_3x, s1_3x, s4_3x, s5_3x, s7_3x, rfl, (by omega), B225, G213, z221, z218, z219, B3, Guxs13, T, (by rw [← hrec2]; exact hm)⟩⟩)
          · rintro g f w230 ⟨i228, z229, uz229_0, uz229_1, s0_3, s1_3, s4_3, s5_3, s7_3, s8_3, s9_3, s10_3, nn10_3, Bz229, Guz229_0, Guz229_1, Doz229_0_oxs13, Doz229_0_oz30_0, Noz229_0_ob5, Noz229_0_ob18, Noz229_0_ob161, Doz229_1_oz229_0, Doz229_1_oxs13, Doz229_1_oz30_0, Noz229_1_ob5, Noz229_1_ob18, Noz229_1_ob161, B3, Bz30, Guxs13, Guz30_0, T, hm⟩
            rcases g with _ | g
            · simp only [m_spec_l11Renumber_L3] at hm; cases hm
            obtain ⟨rec3, hrec3, hm⟩ : ∃ z, z = m_spec_l11Renumber_L3 xs13 K3 g ∧ m_spec_l11Renumber_B3 xs13 z K3 i228 z229 = some r := ⟨_, rfl, hm⟩
            unfold m_spec_l11Renumber_B3 at hm
            refine wp_seq ?_
            refine wp_seq ?_
            refine wp_rs rfl ?_
            refine RQ.y rfl (Y.move (v := .int .i64 i228) s10_3) ?_
            refine RQ.y rfl (Y.fieldAddr (off := 4) s9_3 (by kernel_rfl)) ?_
            refine RQ.y rfl (Y.load (v := uz229_1) rfl (by kernel_rfl) (eqC (blkCell Bz229 (i := 4) rfl))) ?_
            obtain ⟨A231, c232, rfl⟩ := OwF.form Guz229_1
            have qbA231 := OwF.bound Guz229_1
            refine RQ.y rfl (Y.len (by kernel_rfl) rfl) ?_
            refine RQ.y rfl (Y.binI (v := .bool (decide (i228 < (z229.ports.length : Int)))) rfl rfl rfl) ?_
            refine RQ.nil ?_
            refine then_n ?_
            rcases bcases (decide (i228 < (z229.ports.length : Int))) with c233 | c233
            · replace hm := cF c233 hm
              have pc233 := of_decide_eq_false c233
              refine cond_f rfl (vb rfl c233) ?_
              refine wp_exit ?_
              exact (then_x (then_x (hit_x ⟨_, rfl, ⟨z229, (uz229_0), (.slice A231 z229.ports.length c232), s0_3, s1_3, s4_3, s5_3, s7_3, s8_3, s9_3, Bz229, Guz229_0, Guz229_1, (Ap.dj (Dj.ap Doz229_0_oxs13)), Doz229_0_oz30_0, (ap_ne (ne_ap Noz229_0_ob5)), (ap_ne (ne_ap Noz229_0_ob18)), (ap_ne (ne_ap Noz229_0_ob161)), (Ap.dj (Dj.ap Doz229_1_oz229_0)), (Ap.dj (Dj.ap Doz229_1_oxs13)), Doz229_1_oz30_0, (ap_ne (ne_ap Noz229_1_ob5)), (ap_ne (ne_ap Noz229_1_ob18)), (ap_ne (ne_ap Noz229_1_ob161)), B3, Bz30, Guxs13, Guz30_0, T, (by rw [hK3] at hm; exact hm)⟩⟩)))
            · replace hm := cT c233 hm
              have pc233 := of_decide_eq_true c233
              refine cond_t rfl (vb rfl c233) ?_
              refine wp_skip ?_
              refine then_n ?_
              refine wp_seq ?_
              refine wp_block ?_
              refine wp_rg (fun w' => Below w.heap.size w w' ∧ Blk w' w33.heap.size 63 #[.int .i64 z229.kind, .int .i64 z229.level, .int .i64 z229.value, uz229_0, .slice A231 z229.ports.length c232] ∧ OwF 2 encI 1 w' w.heap.size uxs13 xs13) [(0, true), (1, true), (2, true), (3, true), (4, true), (5, true), (6, true), (7, true), (8, true), (9, false), (10, true), (11, true), (12, true), (13, true), (14, false)] (by kernel_rfl) (by kernel_rfl) (fun w234 hb235 szw234 => ?_)
              have B3 := blkT B3 hb235
              have Bz30 := blkT Bz30 hb235
              have Bz229 := blkT Bz229 hb235
              have Guxs13 := OwF.below Guxs13 hb235
              have Guz30_0 := OwN.below agentOw_ok Guz30_0 hb235
              have Guz229_0 := OwF.below Guz229_0 hb235
              have Guz229_1 := OwF.below Guz229_1 hb235
              have T := Tt T hb235
              refine ⟨⟨T, Bz229, Guxs13⟩, ?_⟩
              refine RG.y rfl rfl (Y.fieldAddr (off := 4) s9_3 (by kernel_rfl)) ?_
              refine RG.y rfl rfl (Y.load (v := .slice A231 z229.ports.length c232) rfl (by kernel_rfl) (fun w' hS => (blkCell hS.2.1 (i := 4) rfl))) ?_
              refine RG.y rfl rfl (Y.move (v := .int .i64 i228) s10_3) ?_
              refine RG.y rfl rfl (Y.move (v := uxs13) s5_3) ?_
              refine RG.y rfl rfl (Y.fieldAddr (off := 4) s9_3 (by kernel_rfl)) ?_
              refine RG.y rfl rfl (Y.load (v := .slice A231 z229.ports.length c232) rfl (by kernel_rfl) (fun w' hS => (blkCell hS.2.1 (i := 4) rfl))) ?_
              refine RG.y rfl rfl (Y.move (v := .int .i64 i228) s10_3) ?_
              obtain ⟨x236, hx238, hm⟩ := bnd hm
              obtain ⟨k237, hk239, hl240, hx238⟩ := getI_some hx238
              obtain ⟨b241, rfl⟩ := OwF.addr0 Guz229_1 (by omega)
              refine RG.y rfl rfl (Y.indexAddr (m := k237) (sz := 2) rfl rfl hk239 hl240 (by kernel_rfl)) ?_
              refine RG.y rfl rfl (Y.fieldAddr (off := 0) rfl (by kernel_rfl)) ?_
              refine RG.act rfl ?_
              refine RL.y rfl (Y.load (v := .int .i64 x236.agent) rfl (by kernel_rfl) (eqC (OwF.cell fPort Guz229_1 hx238 (j := 0) rfl))) ?_
              refine RL.nil ⟨⟨T, Bz229, Guxs13⟩, ?_⟩
              obtain ⟨A242, c243, rfl⟩ := OwF.form Guxs13
              have qbA242 := OwF.bound Guxs13
              obtain ⟨x244, hx246, hm⟩ := bnd hm
              obtain ⟨k245, hk247, hl248, hx246⟩ := getI_some hx246
              obtain ⟨b249, rfl⟩ := OwF.addr0 Guxs13 (by omega)
              refine RG.y rfl rfl (Y.indexAddr (m := k245) (sz := 1) rfl rfl hk247 hl248 (by kernel_rfl)) ?_
              refine RG.y rfl rfl (Y.load (v := .int .i64 x244) rfl (by kernel_rfl) (fun w' hS => (OwF.cell fI hS.2.2 hx246 (j := 0) rfl))) ?_
              obtain ⟨x250, hx252, hm⟩ := bnd hm
              obtain ⟨k251, hk253, hl254, hx252⟩ := getI_some hx252
              refine RG.y rfl rfl (Y.indexAddr (m := k251) (sz := 2) rfl rfl hk253 hl254 (by kernel_rfl)) ?_
              refine RG.y rfl rfl (Y.fieldAddr (off := 0) rfl (by kernel_rfl)) ?_
              refine RG.act rfl ?_
              refine RL.storeFj (k := k251) (j := 0) (a := x250) (a' := (⟨x244, x250.slot⟩ : DPort)) fPort rfl rfl rfl Guz229_1 hx252 (by decide) rfl rfl rfl (by kernel_rfl) (fun w255 G256 ho257 => ?_)
              have szw255 := ho257.size
              have B3 := Blk.only_ B3 ho257 (fun e => Noz229_1_ob5 (by simp at e; rw [e]; rfl))
              have Bz30 := Blk.only_ Bz30 ho257 (fun e => Noz229_1_ob18 (by simp at e; rw [e]; rfl))
              have Bz229 := Blk.only_ Bz229 ho257 (fun e => Noz229_1_ob161 (by simp at e; rw [e]; rfl))
              have Guxs13 := OwF.only Guxs13 ho257 (fun e => (Dj.symm Doz229_1_oxs13) _ e rfl)
              have Guz30_0 := OwN.only agentOw_ok Guz30_0 ho257 ((show Ap bsz30_0 [b241] from (Ap.symm Doz229_1_oz30_0)).one)
              have Guz229_0 := OwF.only Guz229_0 ho257 (fun e => (Dj.symm Doz229_1_oz229_0) _ e rfl)
              have T := T.trans (ho257.below (by intro b hb; simp at hb; subst hb; exact OwF.lo_ Guz229_1 _ rfl))
              have G256 : OwF 65 encPort 2 w255 w.heap.size (.slice (some ⟨b241, 0, none⟩) z229.ports.length c232) (setI z229.ports i228 (⟨x244, x250.slot⟩ : DPort)) := by rw [hk253, setI_nat]; exact G256
              have hx258 : (setI z229.ports i228 (⟨x244, x250.slot⟩ : DPort))[k251]? = some (⟨x244, x250.slot⟩ : DPort) := setI_at hk253 hl254
              have hl259 := lt_of_some hx258
              refine RL.nil ⟨⟨T, Bz229, Guxs13⟩, ?_⟩
              refine RG.nil ?_
              refine blk_n (then_n ?_)
              refine wp_rs rfl ?_
              refine RQ.y rfl (Y.move (v := .int .i64 i228) s10_3) ?_
              refine RQ.y rfl (Y.binI rfl rfl (binI_add (m := i228) (by omega))) ?_
              refine RQ.y rfl (Y.assign (v := .int .i64 (i228 + 1)) rfl) ?_
              refine RQ.nil ?_
              exact (then_n ⟨g, _, Nat.lt_succ_self _, rfl, ⟨(i228 + 1), (⟨z229.kind, z229.level, z229.value, z229.data, (setI z229.ports i228 (⟨x244, x250.slot⟩ : DPort))⟩ : DAgent), (uz229_0), (.slice (some ⟨b241, 0, none⟩) z229.ports.length c232), s0_3, s1_3, s4_3, s5_3, s7_3, s8_3, s9_3, rfl, (by omega), Bz229, Guz229_0, G256, (Ap.dj (Dj.ap Doz229_0_oxs13)), Doz229_0_oz30_0, (ap_ne (ne_ap Noz229_0_ob5)), (ap_ne (ne_ap Noz229_0_ob18)), (ap_ne (ne_ap Noz229_0_ob161)), (Ap.dj (Dj.ap Doz229_1_oz229_0)), (Ap.dj (Dj.ap Doz229_1_oxs13)), Doz229_1_oz30_0, (ap_ne (ne_ap Noz229_1_ob5)), (ap_ne (ne_ap Noz229_1_ob18)), (ap_ne (ne_ap Noz229_1_ob161)), B3, Bz30, Guxs13, Guz30_0, T, (by rw [← hrec3]; exact hm)⟩⟩)
  · rintro g f w264 ⟨xs262, i263, uxs262, s0_1, s1_1, s4_1, s5_1, Guxs262, s6_1, nn6_1, Noxs262_ob5, B3, T, hm⟩
    rcases g with _ | g
    · simp only [m_spec_l11Renumber_L1] at hm; cases hm
    obtain ⟨rec1, hrec1, hm⟩ : ∃ z, z = m_spec_l11Renumber_L1 d1 K1 g ∧ m_spec_l11Renumber_B1 d1 z K1 xs262 i263 = some r := ⟨_, rfl, hm⟩
    unfold m_spec_l11Renumber_B1 at hm
    refine wp_seq ?_
    refine wp_seq ?_
    refine wp_rs rfl ?_
    refine RQ.y rfl (Y.move (v := .int .i64 i263) s6_1) ?_
    refine RQ.y rfl (Y.move (v := .slice Aa1 d1.length ca1) s1_1) ?_
    refine RQ.y rfl (Y.len (by kernel_rfl) rfl) ?_
    refine RQ.y rfl (Y.binI (v := .bool (decide (i263 < (d1.length : Int)))) rfl rfl rfl) ?_
    refine RQ.nil ?_
    refine then_n ?_
    rcases bcases (decide (i263 < (d1.length : Int))) with c265 | c265
    · replace hm := cF c265 hm
      have pc265 := of_decide_eq_false c265
      refine cond_f rfl (vb rfl c265) ?_
      refine wp_exit ?_
      exact (then_x (then_x (hit_x ⟨_, rfl, ⟨xs262, (uxs262), s0_1, s1_1, s4_1, s5_1, Guxs262, (ap_ne (ne_ap Noxs262_ob5)), B3, T, (by rw [hK1] at hm; exact hm)⟩⟩)))
    · replace hm := cT c265 hm
      have pc265 := of_decide_eq_true c265
      refine cond_t rfl (vb rfl c265) ?_
      refine wp_skip ?_
      refine then_n ?_
      refine wp_seq ?_
      refine wp_block ?_
      refine wp_rl rfl ?_
      refine RL.y rfl (Y.move (v := uxs262) s5_1) ?_
      refine RL.y rfl (Y.move (v := .slice Aa1 d1.length ca1) s1_1) ?_
      refine RL.y rfl (Y.move (v := .int .i64 i263) s6_1) ?_
      obtain ⟨x266, hx269, hm⟩ := bnd hm
      obtain ⟨k267, hk270, hl271, hx269⟩ := getI_some hx269
      obtain ⟨b273, o274, rfl, hbb273⟩ := ha1.addr (by omega)
      obtain ⟨cs268, hRcs268, hc272⟩ := ha1.el hx269
      have hScs268 := hRcs268
      obtain rfl := hRcs268
      refine RL.y rfl (Y.indexAddr (m := k267) (sz := 1) rfl rfl hk270 hl271 (by kernel_rfl)) ?_
      refine RL.y rfl (Y.load (v := .int .i64 x266) rfl (by kernel_rfl) (eqC (cellT T (hc272 0 _ rfl)))) ?_
      refine RL.y rfl (Y.move (v := .int .i64 i263) s6_1) ?_
      obtain ⟨A275, c276, rfl⟩ := OwF.form Guxs262
      have qbA275 := OwF.bound Guxs262
      obtain ⟨x277, hx279, hm⟩ := bnd hm
      obtain ⟨k278, hk280, hl281, hx279⟩ := getI_some hx279
      obtain ⟨b282, rfl⟩ := OwF.addr0 Guxs262 (by omega)
      refine RL.y rfl (Y.indexAddr (m := k278) (sz := 1) rfl rfl hk280 hl281 (by kernel_rfl)) ?_
      refine RL.storeF (k := k278) (a := i263) fI rfl rfl rfl Guxs262 hl281 rfl (by kernel_rfl) (fun w283 G284 ho285 => ?_)
      have szw283 := ho285.size
      have B3 := Blk.only_ B3 ho285 (fun e => Noxs262_ob5 (by simp at e; rw [e]; rfl))
      have T := T.trans (ho285.below (by intro b hb; simp at hb; subst hb; exact OwF.lo_ Guxs262 _ rfl))
      have G284 : OwF 2 encI 1 w283 w.heap.size (.slice (some ⟨b282, 0, none⟩) xs262.length c276) (setI xs262 x266 i263) := by rw [hk280, setI_nat]; exact G284
      have hx286 : (setI xs262 x266 i263)[k278]? = some i263 := setI_at hk280 hl281
      have hl287 := lt_of_some hx286
      refine RL.nil ?_
      refine blk_n (then_n ?_)
      refine wp_rs rfl ?_
      refine RQ.y rfl (Y.move (v := .int .i64 i263) s6_1) ?_
      refine RQ.y rfl (Y.binI rfl rfl (binI_add (m := i263) (by omega))) ?_
      refine RQ.y rfl (Y.assign (v := .int .i64 (i263 + 1)) rfl) ?_
      refine RQ.nil ?_
      exact (then_n ⟨g, _, Nat.lt_succ_self _, rfl, ⟨(setI xs262 x266 i263), (i263 + 1), (.slice (some ⟨b282, 0, none⟩) xs262.length c276), s0_1, s1_1, s4_1, s5_1, G284, rfl, (by omega), (ap_ne (ne_ap Noxs262_ob5)), B3, T, (by rw [← hrec1]; exact hm)⟩⟩)
def m_impl_Net_renumber_A2 (z16 : DNet) : Option DNet :=
  some z16
def m_impl_Net_renumber_A3 (rec2 : Int → DNet → Option DNet) (i23 : Int) (z24 : DNet) (z68 : DAgent) : Option DNet :=
  ((mustP (z24.agents.length + ([z68]).length ≤ 4294967296)).bind fun _ => ((ck (i23 + 1)).bind fun s116 => (rec2 s116 (⟨(z24.agents ++ [z68])⟩ : DNet))))
def m_impl_Net_renumber_B3 (z10 : MapM Int Int) (y47 : DAgent) (rec3 : Int → DAgent → Option DNet) (K3 : DAgent → Option DNet) (i117 : Int) (z118 : DAgent) : Option DNet :=
  (bif (decide (i117 < (y47.ports.length : Int))) then ((getI z118.ports i117).bind fun x125 => ((ck x125.agent).bind fun _ => ((getI z118.ports i117).bind fun x132 => (rec3 (i117 + 1) (⟨z118.kind, z118.level, z118.value, z118.data, (setI z118.ports i117 (⟨(z10.look x125.agent 0), x132.slot⟩ : DPort))⟩ : DAgent))))) else (K3 z118))
def m_impl_Net_renumber_L3 (z10 : MapM Int Int) (y47 : DAgent) (K3 : DAgent → Option DNet) : Nat → Int → DAgent → Option DNet
  | 0, _, _ => none
  | g + 1, i117, z118 => m_impl_Net_renumber_B3 z10 y47 (m_impl_Net_renumber_L3 z10 y47 K3 g) K3 i117 z118
def m_impl_Net_renumber_B2 (d0 : DNet) (d1 : List Int) (z10 : MapM Int Int) (rec2 : Int → DNet → Option DNet) (K2 : DNet → Option DNet) (i23 : Int) (z24 : DNet) : Option DNet :=
  (bif (decide (i23 < (d1.length : Int))) then ((getI d1 i23).bind fun x27 => ((getI d0.agents x27).bind fun x36 => ((m_impl_copyAgent x36).bind fun y47 => (m_impl_Net_renumber_L3 z10 y47 (m_impl_Net_renumber_A3 rec2 i23 z24) (y47.ports.length + 1) 0 y47)))) else (K2 z24))
def m_impl_Net_renumber_L2 (d0 : DNet) (d1 : List Int) (z10 : MapM Int Int) (K2 : DNet → Option DNet) : Nat → Int → DNet → Option DNet
  | 0, _, _ => none
  | g + 1, i23, z24 => m_impl_Net_renumber_B2 d0 d1 z10 (m_impl_Net_renumber_L2 d0 d1 z10 K2 g) K2 i23 z24
def m_impl_Net_renumber_A1 (d0 : DNet) (d1 : List Int) (z10 : MapM Int Int) : Option DNet :=
  (m_impl_Net_renumber_L2 d0 d1 z10 m_impl_Net_renumber_A2 (d1.length + 1) 0 (⟨[]⟩ : DNet))
def m_impl_Net_renumber_B1 (d1 : List Int) (rec1 : Int → MapM Int Int → Option DNet) (K1 : MapM Int Int → Option DNet) (i144 : Int) (z145 : MapM Int Int) : Option DNet :=
  (bif (decide (i144 < (d1.length : Int))) then ((getI d1 i144).bind fun x148 => ((ck x148).bind fun _ => ((mustP (z145.n ≤ 4294967296)).bind fun _ => (rec1 (i144 + 1) (z145.put x148 i144))))) else (K1 z145))
def m_impl_Net_renumber_L1 (d1 : List Int) (K1 : MapM Int Int → Option DNet) : Nat → Int → MapM Int Int → Option DNet
  | 0, _, _ => none
  | g + 1, i144, z145 => m_impl_Net_renumber_B1 d1 (m_impl_Net_renumber_L1 d1 K1 g) K1 i144 z145
def m_impl_Net_renumber (d0 : DNet) (d1 : List Int) : Option DNet :=
  (m_impl_Net_renumber_L1 d1 (m_impl_Net_renumber_A1 d0 d1) (d1.length + 1) 0 (MapM.empty : MapM Int Int))
set_option maxHeartbeats 2000000 in
theorem c_m_impl_Net_renumber (d0 : DNet) (d1 : List Int) (r : DNet) (hm : m_impl_Net_renumber d0 d1 = some r) (v0 : Value) (v1 : Value) (w : World) (hv0 : Pt netRd w v0 d0) (hv1 : Sl intRd 1 w v1 d1) :
    Calls Tryz.prog 62 #[v0, v1] w fun e w' => (∃ (v0 : Value) (bs0 : List Nat), e = .returned (.agg #[v0]) ∧ OwN 63 agentOw 5 w' w.heap.size v0 r.agents bs0) ∧ Below w.heap.size w w' := by
  obtain ⟨ba0, oa0, csa0, rfl, hba0, hRa0, hca0⟩ := hv0
  have hSa0 := hRa0
  obtain ⟨A1, n1, c1, rfl, ⟨h1, r1⟩⟩ := hRa0
  have e1 := h1.len; subst e1
  have q1 := len_le r1
  obtain ⟨Aa1, na1, ca1, rfl, ha1, ra1⟩ := hv1
  have ea1 := ha1.len; subst ea1
  have qa1 := len_le ra1
  have T := Below.refl w.heap.size w
  unfold m_impl_Net_renumber at hm
  refine enter 67 Tryz.func62 rfl rfl rfl ?_
  intro f hf
  have s0 : f 0 = .pointer (some ⟨ba0, oa0, none⟩) := hf 0 _ rfl
  have s1 : f 1 = .slice Aa1 d1.length ca1 := hf 1 _ rfl
  refine wp_seq ?_
  refine wp_rl rfl ?_
  refine RL.alloc (z := .agg #[.slice none 0 0]) rfl (by kernel_rfl) (fun w2 B3 hb4 szw2 => ?_)
  replace B3 : Blk w2 w.heap.size 31 #[.slice none 0 0] := B3
  have GB3 : w.heap.size ≤ w.heap.size := T.size
  have T := Tt T hb4
  refine RL.nil ?_
  refine then_n ?_
  refine wp_seq ?_
  refine wp_rl rfl ?_
  refine RL.makeMap (κ := Int) (β := Int) 2 litI encVI rfl (fun w6 B7 hb8 szw6 => ?_)
  replace B7 := OwM.lower B7 T.size
  have Eob9_ob5 := Nat.ne_of_lt B3.lt
  have B3 := blkT B3 hb8
  have T := Tt T hb8
  refine RL.y rfl (Y.assign (v := .map (some w2.heap.size)) rfl) ?_
  refine RL.nil ?_
  refine then_n ?_
  refine wp_seq ?_
  refine wp_seq ?_
  refine wp_rs rfl ?_
  refine RQ.y rfl (Y.move (v := .slice Aa1 d1.length ca1) s1) ?_
  refine RQ.y rfl (Y.len (by kernel_rfl) rfl) ?_
  refine RQ.y rfl (Y.move (v := .int .i64 0) rfl) ?_
  refine RQ.nil ?_
  refine then_n ?_
  refine wp_block ?_
  obtain ⟨K1, hK1, hm⟩ : ∃ K, K = (m_impl_Net_renumber_A1 d0 d1) ∧ m_impl_Net_renumber_L1 d1 K (d1.length + 1) 0 (MapM.empty : MapM Int Int) = some r := ⟨_, rfl, hm⟩
  refine wp_loopX (fun g f w' => ∃ (i144 : Int) (z145 : MapM Int Int), f 0 = .pointer (some ⟨ba0, oa0, none⟩) ∧ f 1 = .slice Aa1 d1.length ca1 ∧ f 4 = .pointer (some ⟨w.heap.size, 0, none⟩) ∧ f 5 = .map (some w2.heap.size) ∧ f 14 = .slice Aa1 d1.length ca1 ∧ f 15 = .int .i64 (d1.length : Int) ∧ f 16 = .int .i64 i144 ∧ 0 ≤ i144 ∧ OwM Tryz.prog 2 litI encVI w' w.heap.size w2.heap.size z145 ∧ Blk w' w.heap.size 31 #[.slice none 0 0] ∧ Below w.heap.size w w' ∧ m_impl_Net_renumber_L1 d1 K1 g i144 z145 = some r) 0 (fun f w' => ∃ (z10 : MapM Int Int), f 0 = .pointer (some ⟨ba0, oa0, none⟩) ∧ f 1 = .slice Aa1 d1.length ca1 ∧ f 4 = .pointer (some ⟨w.heap.size, 0, none⟩) ∧ f 5 = .map (some w2.heap.size) ∧ OwM Tryz.prog 2 litI encVI w' w.heap.size w2.heap.size z10 ∧ Blk w' w.heap.size 31 #[.slice none 0 0] ∧ Below w.heap.size w w' ∧ m_impl_Net_renumber_A1 d0 d1 z10 = some r) (d1.length + 1) ⟨0, (MapM.empty : MapM Int Int), s0, s1, rfl, rfl, rfl, rfl, rfl, (by omega), B7, B3, T, hm⟩ ?_ ?_
  · rintro f w11 ⟨z10, s0_1x, s1_1x, s4_1x, s5_1x, Bz10, B3, T, hm⟩
    unfold m_impl_Net_renumber_A1 at hm
    refine blk_hit (then_n ?_)
    refine wp_seq ?_
    refine wp_rl rfl ?_
    refine RL.alloc (z := .agg #[.slice none 0 0]) rfl (by kernel_rfl) (fun w12 B13 hb14 szw12 => ?_)
    replace B13 : Blk w12 w11.heap.size 31 #[.slice none 0 0] := B13
    have GB13 : w.heap.size ≤ w11.heap.size := T.size
    have Eob15_ob5 := Nat.ne_of_lt B3.lt
    have Eob15_ob9 := Nat.ne_of_lt Bz10.lt
    have B3 := blkT B3 hb14
    have Bz10 := OwM.below Bz10 hb14
    have T := Tt T hb14
    refine RL.nil ?_
    refine then_n ?_
    refine wp_seq ?_
    refine wp_seq ?_
    refine wp_rs rfl ?_
    refine RQ.y rfl (Y.move (v := .slice Aa1 d1.length ca1) s1_1x) ?_
    refine RQ.y rfl (Y.len (by kernel_rfl) rfl) ?_
    refine RQ.y rfl (Y.move (v := .int .i64 0) rfl) ?_
    refine RQ.nil ?_
    refine then_n ?_
    refine wp_block ?_
    obtain ⟨K2, hK2, hm⟩ : ∃ K, K = m_impl_Net_renumber_A2 ∧ m_impl_Net_renumber_L2 d0 d1 z10 K (d1.length + 1) 0 (⟨[]⟩ : DNet) = some r := ⟨_, rfl, hm⟩
    refine wp_loopX (fun g f w' => ∃ (i23 : Int) (z24 : DNet) (uz24_0 : Value) (bsz24_0 : List Nat), f 0 = .pointer (some ⟨ba0, oa0, none⟩) ∧ f 4 = .pointer (some ⟨w.heap.size, 0, none⟩) ∧ f 5 = .map (some w2.heap.size) ∧ f 8 = .pointer (some ⟨w11.heap.size, 0, none⟩) ∧ f 25 = .slice Aa1 d1.length ca1 ∧ f 26 = .int .i64 (d1.length : Int) ∧ f 27 = .int .i64 i23 ∧ 0 ≤ i23 ∧ Blk w' w11.heap.size 31 #[uz24_0] ∧ OwN 63 agentOw 5 w' w.heap.size uz24_0 z24.agents bsz24_0 ∧ Ap bsz24_0 [w.heap.size] ∧ Ap bsz24_0 [w2.heap.size] ∧ Ap bsz24_0 [w11.heap.size] ∧ Blk w' w.heap.size 31 #[.slice none 0 0] ∧ OwM Tryz.prog 2 litI encVI w' w.heap.size w2.heap.size z10 ∧ Below w.heap.size w w' ∧ m_impl_Net_renumber_L2 d0 d1 z10 K2 g i23 z24 = some r) 2 (fun f w' => ∃ (z16 : DNet) (uz16_0 : Value) (bsz16_0 : List Nat), f 4 = .pointer (some ⟨w.heap.size, 0, none⟩) ∧ f 8 = .pointer (some ⟨w11.heap.size, 0, none⟩) ∧ Blk w' w11.heap.size 31 #[uz16_0] ∧ OwN 63 agentOw 5 w' w.heap.size uz16_0 z16.agents bsz16_0 ∧ Ap bsz16_0 [w.heap.size] ∧ Ap bsz16_0 [w2.heap.size] ∧ Ap bsz16_0 [w11.heap.size] ∧ Blk w' w.heap.size 31 #[.slice none 0 0] ∧ OwM Tryz.prog 2 litI encVI w' w.heap.size w2.heap.size z10 ∧ Below w.heap.size w w' ∧ m_impl_Net_renumber_A2 z16 = some r) (d1.length + 1) ⟨0, (⟨[]⟩ : DNet), (.slice none 0 0), [], s0_1x, s4_1x, s5_1x, rfl, rfl, rfl, rfl, (by omega), B13, OwN.nil, Ap.nil, Ap.nil, Ap.nil, B3, Bz10, T, hm⟩ ?_ ?_
    · rintro f w17 ⟨z16, uz16_0, bsz16_0, s4_2x, s8_2x, Bz16, Guz16_0, Noz16_0_ob5, Noz16_0_ob9, Noz16_0_ob15, B3, Bz10, T, hm⟩
      unfold m_impl_Net_renumber_A2 at hm
      refine blk_hit (then_n ?_)
      refine wp_seq ?_
      refine wp_rl rfl ?_
      refine RL.y rfl (Y.loadN (cs := [uz16_0]) s8_2x (by kernel_rfl) (cells1 (eqC (blkCell Bz16 (i := 0) rfl)))) ?_
      obtain ⟨A18, c19, rfl⟩ := OwN.form Guz16_0
      have qbA18 := OwN.bound Guz16_0
      refine RL.store (v := .agg #[.slice A18 z16.agents.length c19]) (cs' := #[.slice A18 z16.agents.length c19]) rfl s4_2x rfl B3 (by kernel_rfl) (by rfl) (by rfl) (by rfl) (fun w20 B21 ho22 => ?_)
      have szw20 := ho22.size
      have Bz10 := Bz10.only ho22 (by intro hin; simp at hin; exact Eob9_ob5.symm hin)
      have Bz16 := Bz16.only_ ho22 (by intro hin; simp at hin; exact Eob15_ob5.symm hin)
      have Guz16_0 := OwN.only agentOw_ok Guz16_0 ho22 (Ap.one Noz16_0_ob5)
      have T := T.trans (ho22.below (by first | (simp; done) | (simp; omega)))
      refine RL.nil ?_
      refine then_n ?_
      refine wp_ret ?_
      obtain rfl := Option.some.inj hm
      exact (retc (cs := [.slice A18 z16.agents.length c19]) rfl rfl s4_2x (by kernel_rfl) (blkCells B21) ⟨⟨_, _, rfl, Guz16_0⟩, T⟩)
    · rintro g f w25 ⟨i23, z24, uz24_0, bsz24_0, s0_2, s4_2, s5_2, s8_2, s25_2, s26_2, s27_2, nn27_2, Bz24, Guz24_0, Noz24_0_ob5, Noz24_0_ob9, Noz24_0_ob15, B3, Bz10, T, hm⟩
      rcases g with _ | g
      · simp only [m_impl_Net_renumber_L2] at hm; cases hm
      obtain ⟨rec2, hrec2, hm⟩ : ∃ z, z = m_impl_Net_renumber_L2 d0 d1 z10 K2 g ∧ m_impl_Net_renumber_B2 d0 d1 z10 z K2 i23 z24 = some r := ⟨_, rfl, hm⟩
      unfold m_impl_Net_renumber_B2 at hm
      refine wp_seq ?_
      refine wp_rs rfl ?_
      refine RQ.y rfl (Y.binI (v := .bool (decide (i23 < (d1.length : Int)))) s27_2 s26_2 rfl) ?_
      refine RQ.nil ?_
      refine then_n ?_
      refine wp_seq ?_
      rcases bcases (decide (i23 < (d1.length : Int))) with c26 | c26
      · replace hm := cF c26 hm
        have pc26 := of_decide_eq_false c26
        refine cond_f rfl (vb rfl c26) ?_
        refine wp_exit ?_
        exact (then_x (then_x (hit_x ⟨_, rfl, ⟨z24, (uz24_0), bsz24_0, s4_2, s8_2, Bz24, Guz24_0, Noz24_0_ob5, Noz24_0_ob9, Noz24_0_ob15, B3, Bz10, T, (by rw [hK2] at hm; exact hm)⟩⟩)))
      · replace hm := cT c26 hm
        have pc26 := of_decide_eq_true c26
        refine cond_t rfl (vb rfl c26) ?_
        refine wp_skip ?_
        refine then_n ?_
        refine wp_seq ?_
        refine wp_block ?_
        refine wp_seq ?_
        refine wp_rs rfl ?_
        obtain ⟨x27, hx30, hm⟩ := bnd hm
        obtain ⟨k28, hk31, hl32, hx30⟩ := getI_some hx30
        obtain ⟨b34, o35, rfl, hbb34⟩ := ha1.addr (by omega)
        obtain ⟨cs29, hRcs29, hc33⟩ := ha1.el hx30
        have hScs29 := hRcs29
        obtain rfl := hRcs29
        refine RQ.y rfl (Y.indexAddr (m := k28) (sz := 1) s25_2 s27_2 hk31 hl32 (by kernel_rfl)) ?_
        refine RQ.y rfl (Y.load (v := .int .i64 x27) rfl (by kernel_rfl) (eqC (cellT T (hc33 0 _ rfl)))) ?_
        refine RQ.y rfl (Y.assign (v := .int .i64 x27) rfl) ?_
        refine RQ.nil ?_
        refine then_n ?_
        refine wp_seq ?_
        refine wp_rl rfl ?_
        refine RL.y rfl (Y.move (v := .pointer (some ⟨ba0, oa0, none⟩)) s0_2) ?_
        refine RL.y rfl (Y.nilCheck rfl) ?_
        refine RL.y rfl (Y.fieldAddr (off := 0) rfl (by kernel_rfl)) ?_
        refine RL.y rfl (Y.load (v := .slice A1 d0.agents.length c1) rfl (by kernel_rfl) (eqC (cellT T (hca0 0 _ rfl)))) ?_
        refine RL.y rfl (Y.move (v := .int .i64 x27) rfl) ?_
        obtain ⟨x36, hx39, hm⟩ := bnd hm
        obtain ⟨k37, hk40, hl41, hx39⟩ := getI_some hx39
        obtain ⟨b43, o44, rfl, hbb43⟩ := h1.addr (by omega)
        obtain ⟨cs38, hRcs38, hc42⟩ := h1.el hx39
        have hScs38 := hRcs38
        obtain ⟨A45, n45, c45, A46, n46, c46, rfl, ⟨h45, r45⟩, ⟨h46, r46⟩⟩ := hRcs38
        have e45 := h45.len; subst e45
        have q45 := len_le r45
        have e46 := h46.len; subst e46
        have q46 := len_le r46
        refine RL.y rfl (Y.indexAddr (m := k37) (sz := 5) rfl rfl hk40 hl41 (by kernel_rfl)) ?_
        refine RL.y rfl (Y.loadN (cs := [.int .i64 x36.kind, .int .i64 x36.level, .int .i64 x36.value, .slice A45 x36.data.length c45, .slice A46 x36.ports.length c46]) rfl (by kernel_rfl) (cells5 (eqC (cellT T (hc42 0 _ rfl))) (eqC (cellT T (hc42 1 _ rfl))) (eqC (cellT T (hc42 2 _ rfl))) (eqC (cellT T (hc42 3 _ rfl))) (eqC (cellT T (hc42 4 _ rfl))))) ?_
        obtain ⟨y47, e48, hm⟩ := bnd hm
        refine RL.call rfl (am1 rfl) (by kernel_rfl) ((c_m_impl_copyAgent x36 _ e48 _ _ (stArg (R := agentRd) ⟨_, _, _, _, _, _, rfl, ⟨SlAt.now intRd_ok h45 (Nat.le_refl _) T, r45⟩, ⟨SlAt.now portRd_ok h46 (Nat.le_refl _) T, r46⟩⟩)).mono ?_)
        rintro _ w55 ⟨⟨v49, v52, rfl, G50, G53, Ro51_o54⟩, hb56⟩
        refine ⟨_, rfl, ?_⟩
        have szw55 := hb56.size
        have T0w55 := T.size
        have Zo51_ob5 := ap_ne (Ap.new (OwF.flo G50) (one_hi B3.lt))
        have Zo51_ob9 := ap_ne (Ap.new (OwF.flo G50) (one_hi Bz10.lt))
        have Zo51_ob15 := ap_ne (Ap.new (OwF.flo G50) (one_hi Bz24.lt))
        have Zo51_oz24_0 : Ap (fb v49) bsz24_0 := (Ap.new (OwF.flo G50) (OwN.hi Guz24_0))
        have Zo54_ob5 := ap_ne (Ap.new (OwF.flo G53) (one_hi B3.lt))
        have Zo54_ob9 := ap_ne (Ap.new (OwF.flo G53) (one_hi Bz10.lt))
        have Zo54_ob15 := ap_ne (Ap.new (OwF.flo G53) (one_hi Bz24.lt))
        have Zo54_oz24_0 : Ap (fb v52) bsz24_0 := (Ap.new (OwF.flo G53) (OwN.hi Guz24_0))
        have B3 := blkT B3 hb56
        have Bz10 := OwM.below Bz10 hb56
        have Bz24 := blkT Bz24 hb56
        have Guz24_0 := OwN.below agentOw_ok Guz24_0 hb56
        have T := Tt T hb56
        replace G50 := OwF.mono G50 T0w55
        replace G53 := OwF.mono G53 T0w55
        refine RL.alloc (z := .agg #[.int .i64 0, .int .i64 0, .int .i64 0, .slice none 0 0, .slice none 0 0]) rfl (by kernel_rfl) (fun w57 B58 hb59 szw57 => ?_)
        replace B58 : Blk w57 w55.heap.size 63 #[.int .i64 0, .int .i64 0, .int .i64 0, .slice none 0 0, .slice none 0 0] := B58
        have GB58 : w.heap.size ≤ w55.heap.size := T.size
        have Eob60_ob5 := Nat.ne_of_lt B3.lt
        have Eob60_ob9 := Nat.ne_of_lt Bz10.lt
        have Eob60_ob15 := Nat.ne_of_lt Bz24.lt
        have Noz24_0_ob60 := Ap.far (OwN.hi Guz24_0)
        have No51_ob60 := OwF.far G50 (Nat.le_refl _)
        have No54_ob60 := OwF.far G53 (Nat.le_refl _)
        have B3 := blkT B3 hb59
        have Bz10 := OwM.below Bz10 hb59
        have Bz24 := blkT Bz24 hb59
        have Guz24_0 := OwN.below agentOw_ok Guz24_0 hb59
        have G50 := OwF.below G50 hb59
        have G53 := OwF.below G53 hb59
        have T := Tt T hb59
        obtain ⟨A61, c62, rfl⟩ := OwF.form G50
        have qbA61 := OwF.bound G50
        obtain ⟨A63, c64, rfl⟩ := OwF.form G53
        have qbA63 := OwF.bound G53
        refine RL.store (v := .agg #[.int .i64 y47.kind, .int .i64 y47.level, .int .i64 y47.value, .slice A61 y47.data.length c62, .slice A63 y47.ports.length c64]) (cs' := #[.int .i64 y47.kind, .int .i64 y47.level, .int .i64 y47.value, .slice A61 y47.data.length c62, .slice A63 y47.ports.length c64]) rfl rfl rfl B58 (by kernel_rfl) (by rfl) (by rfl) (by rfl) (fun w65 B66 ho67 => ?_)
        have szw65 := ho67.size
        have B3 := B3.only_ ho67 (by intro hin; simp at hin; exact Eob60_ob5 hin)
        have Bz10 := Bz10.only ho67 (by intro hin; simp at hin; exact Eob60_ob9 hin)
        have Bz24 := Bz24.only_ ho67 (by intro hin; simp at hin; exact Eob60_ob15 hin)
        have Guz24_0 := OwN.only agentOw_ok Guz24_0 ho67 (Ap.one Noz24_0_ob60)
        have G50 := OwF.only G50 ho67 No51_ob60
        have G53 := OwF.only G53 ho67 No54_ob60
        have T := T.trans (ho67.below (by first | (simp; done) | (simp; omega)))
        refine RL.nil ?_
        refine then_n ?_
        refine wp_seq ?_
        refine wp_seq ?_
        refine wp_rs rfl ?_
        refine RQ.y rfl (Y.fieldAddr (off := 4) rfl (by kernel_rfl)) ?_
        refine RQ.y rfl (Y.load (v := .slice A63 y47.ports.length c64) rfl (by kernel_rfl) (eqC (blkCell B66 (i := 4) rfl))) ?_
        refine RQ.y rfl (Y.len (by kernel_rfl) rfl) ?_
        refine RQ.y rfl (Y.move (v := .int .i64 0) rfl) ?_
        refine RQ.nil ?_
        refine then_n ?_
        refine wp_block ?_
        obtain ⟨K3, hK3, hm⟩ : ∃ K, K = (m_impl_Net_renumber_A3 rec2 i23 z24) ∧ m_impl_Net_renumber_L3 z10 y47 K (y47.ports.length + 1) 0 y47 = some r := ⟨_, rfl, hm⟩
        refine wp_loopX (fun g f w' => ∃ (i117 : Int) (z118 : DAgent) (uz118_0 : Value) (uz118_1 : Value), f 0 = .pointer (some ⟨ba0, oa0, none⟩) ∧ f 4 = .pointer (some ⟨w.heap.size, 0, none⟩) ∧ f 5 = .map (some w2.heap.size) ∧ f 8 = .pointer (some ⟨w11.heap.size, 0, none⟩) ∧ f 11 = .pointer (some ⟨w55.heap.size, 0, none⟩) ∧ f 25 = .slice (some ⟨b34, o35, none⟩) d1.length ca1 ∧ f 26 = .int .i64 (d1.length : Int) ∧ f 27 = .int .i64 i23 ∧ f 41 = .int .i64 (y47.ports.length : Int) ∧ f 42 = .int .i64 i117 ∧ 0 ≤ i117 ∧ Blk w' w55.heap.size 63 #[.int .i64 z118.kind, .int .i64 z118.level, .int .i64 z118.value, uz118_0, uz118_1] ∧ OwF 2 encI 1 w' w.heap.size uz118_0 z118.data ∧ OwF 65 encPort 2 w' w.heap.size uz118_1 z118.ports ∧ Ap (fb uz118_0) bsz24_0 ∧ Value.ownBlock uz118_0 ≠ some w.heap.size ∧ Value.ownBlock uz118_0 ≠ some w2.heap.size ∧ Value.ownBlock uz118_0 ≠ some w11.heap.size ∧ Value.ownBlock uz118_0 ≠ some w55.heap.size ∧ Dj uz118_1 uz118_0 ∧ Ap (fb uz118_1) bsz24_0 ∧ Value.ownBlock uz118_1 ≠ some w.heap.size ∧ Value.ownBlock uz118_1 ≠ some w2.heap.size ∧ Value.ownBlock uz118_1 ≠ some w11.heap.size ∧ Value.ownBlock uz118_1 ≠ some w55.heap.size ∧ Blk w' w.heap.size 31 #[.slice none 0 0] ∧ OwM Tryz.prog 2 litI encVI w' w.heap.size w2.heap.size z10 ∧ Blk w' w11.heap.size 31 #[uz24_0] ∧ OwN 63 agentOw 5 w' w.heap.size uz24_0 z24.agents bsz24_0 ∧ Below w.heap.size w w' ∧ m_impl_Net_renumber_L3 z10 y47 K3 g i117 z118 = some r) 4 (fun f w' => ∃ (z68 : DAgent) (uz68_0 : Value) (uz68_1 : Value), f 0 = .pointer (some ⟨ba0, oa0, none⟩) ∧ f 4 = .pointer (some ⟨w.heap.size, 0, none⟩) ∧ f 5 = .map (some w2.heap.size) ∧ f 8 = .pointer (some ⟨w11.heap.size, 0, none⟩) ∧ f 11 = .pointer (some ⟨w55.heap.size, 0, none⟩) ∧ f 25 = .slice (some ⟨b34, o35, none⟩) d1.length ca1 ∧ f 26 = .int .i64 (d1.length : Int) ∧ f 27 = .int .i64 i23 ∧ Blk w' w55.heap.size 63 #[.int .i64 z68.kind, .int .i64 z68.level, .int .i64 z68.value, uz68_0, uz68_1] ∧ OwF 2 encI 1 w' w.heap.size uz68_0 z68.data ∧ OwF 65 encPort 2 w' w.heap.size uz68_1 z68.ports ∧ Ap (fb uz68_0) bsz24_0 ∧ Value.ownBlock uz68_0 ≠ some w.heap.size ∧ Value.ownBlock uz68_0 ≠ some w2.heap.size ∧ Value.ownBlock uz68_0 ≠ some w11.heap.size ∧ Value.ownBlock uz68_0 ≠ some w55.heap.size ∧ Dj uz68_1 uz68_0 ∧ Ap (fb uz68_1) bsz24_0 ∧ Value.ownBlock uz68_1 ≠ some w.heap.size ∧ Value.ownBlock uz68_1 ≠ some w2.heap.size ∧ Value.ownBlock uz68_1 ≠ some w11.heap.size ∧ Value.ownBlock uz68_1 ≠ some w55.heap.size ∧ Blk w' w.heap.size 31 #[.slice none 0 0] ∧ OwM Tryz.prog 2 litI encVI w' w.heap.size w2.heap.size z10 ∧ Blk w' w11.heap.size 31 #[uz24_0] ∧ OwN 63 agentOw 5 w' w.heap.size uz24_0 z24.agents bsz24_0 ∧ Below w.heap.size w w' ∧ m_impl_Net_renumber_A3 rec2 i23 z24 z68 = some r) (y47.ports.length + 1) ⟨0, y47, (.slice A61 y47.data.length c62), (.slice A63 y47.ports.length c64), s0_2, s4_2, s5_2, s8_2, rfl, s25_2, s26_2, s27_2, rfl, rfl, (by omega), B66, G50, G53, Zo51_oz24_0, (ap_ne (ne_ap Zo51_ob5)), (ap_ne (ne_ap Zo51_ob9)), (ap_ne (ne_ap Zo51_ob15)), (ap_ne (ne_ap No51_ob60)), (Ap.dj (Ap.symm (Dj.ap Ro51_o54))), Zo54_oz24_0, (ap_ne (ne_ap Zo54_ob5)), (ap_ne (ne_ap Zo54_ob9)), (ap_ne (ne_ap Zo54_ob15)), (ap_ne (ne_ap No54_ob60)), B3, Bz10, Bz24, Guz24_0, T, hm⟩ ?_ ?_
        · rintro f w69 ⟨z68, uz68_0, uz68_1, s0_3x, s4_3x, s5_3x, s8_3x, s11_3x, s25_3x, s26_3x, s27_3x, Bz68, Guz68_0, Guz68_1, Doz68_0_oz24_0, Noz68_0_ob5, Noz68_0_ob9, Noz68_0_ob15, Noz68_0_ob60, Doz68_1_oz68_0, Doz68_1_oz24_0, Noz68_1_ob5, Noz68_1_ob9, Noz68_1_ob15, Noz68_1_ob60, B3, Bz10, Bz24, Guz24_0, T, hm⟩
          unfold m_impl_Net_renumber_A3 at hm
          refine blk_hit (then_n ?_)
          refine wp_rl rfl ?_
          refine RL.y rfl (Y.fieldAddr (off := 0) s8_3x (by kernel_rfl)) ?_
          refine RL.y rfl (Y.load (v := uz24_0) rfl (by kernel_rfl) (eqC (blkCell Bz24 (i := 0) rfl))) ?_
          refine RL.y rfl (Y.loadN (cs := [.int .i64 z68.kind, .int .i64 z68.level, .int .i64 z68.value, uz68_0, uz68_1]) s11_3x (by kernel_rfl) (cells5 (eqC (blkCell Bz68 (i := 0) rfl)) (eqC (blkCell Bz68 (i := 1) rfl)) (eqC (blkCell Bz68 (i := 2) rfl)) (eqC (blkCell Bz68 (i := 3) rfl)) (eqC (blkCell Bz68 (i := 4) rfl)))) ?_
          obtain ⟨A74, c75, rfl⟩ := OwF.form Guz68_0
          have qbA74 := OwF.bound Guz68_0
          obtain ⟨A76, c77, rfl⟩ := OwF.form Guz68_1
          have qbA76 := OwF.bound Guz68_1
          refine RL.bslice (e := 63) (cells := #[.int .i64 z68.kind, .int .i64 z68.level, .int .i64 z68.value, .slice A74 z68.data.length c75, .slice A76 z68.ports.length c77]) rfl (pm1 rfl) (by kernel_rfl) (fun w70 B71 hb72 szw70 => ?_)
          have ZB71 : w.heap.size ≤ w69.heap.size := T.size
          have q78 := OwF.fboth Guz68_0 (Nat.le_refl _)
          have q79 := OwF.fboth Guz68_1 (Nat.le_refl _)
          have z80 := Ap.cons (Ap.farL (one_hi B3.lt)) (Ap.append (ne_ap Noz68_0_ob5) (ne_ap Noz68_1_ob5))
          have z81 := Ap.cons (Ap.farL (one_hi Bz10.lt)) (Ap.append (ne_ap Noz68_0_ob9) (ne_ap Noz68_1_ob9))
          have z82 := Ap.cons (Ap.farL (one_hi Bz24.lt)) (Ap.append (ne_ap Noz68_0_ob15) (ne_ap Noz68_1_ob15))
          have z83 := Ap.cons (Ap.farL (one_hi Bz68.lt)) (Ap.append (ne_ap Noz68_0_ob60) (ne_ap Noz68_1_ob60))
          have z84 := Ap.cons (Ap.farL (OwN.hi Guz24_0)) (Ap.append Doz68_0_oz24_0 Doz68_1_oz24_0)
          have B3 := blkT B3 hb72
          have Bz10 := OwM.below Bz10 hb72
          have Bz24 := blkT Bz24 hb72
          have Bz68 := blkT Bz68 hb72
          have Guz24_0 := OwN.below agentOw_ok Guz24_0 hb72
          have Guz68_0 := OwF.below Guz68_0 hb72
          have Guz68_1 := OwF.below Guz68_1 hb72
          have T := Tt T hb72
          obtain ⟨l86, a85, nd87, sb88, r89⟩ := OwF.own2 fI Guz68_0
          obtain ⟨l91, a90, nd92, sb93, r94⟩ := OwF.own2 fPort Guz68_1
          have G95 : OwN 63 agentOw 5 w70 w.heap.size (.slice (some ⟨w69.heap.size, 0, none⟩) 1 1) [z68] (w69.heap.size :: ((fb (.slice A74 z68.data.length c75)) ++ (fb (.slice A76 z68.ports.length c77)))) := OwN.lit1 (b1 := (l86 ++ l91)) B71 ZB71 ⟨_, _, _, _, _, _, l86, l91, rfl, ⟨a85, r89⟩, ⟨a90, r94⟩, rfl⟩ agentOw_ok (nodup2 nd87 nd92 sb88 sb93 (Ap.symm (Dj.ap Doz68_1_oz68_0))) (sub2 sb88 sb93) (all2 q78 q79)
          obtain ⟨_, m97, hm⟩ := bnd hm
          have hk98 := mustP_some m97
          refine RL.appendN agentOw_ok agentOw_one (by decide) app_impl_Agent rfl rfl rfl Guz24_0 G95 (Ap.symm z84) T.size hk98 (fun v99 w100 bs101 G102 hgr103 hbl104 hnb105 => ?_)
          have szw100 := hbl104.size
          have z107 := Ap.app hnb105 Noz24_0_ob5 z80 (one_hi B3.lt)
          have z108 := Ap.app hnb105 Noz24_0_ob9 z81 (one_hi Bz10.lt)
          have z109 := Ap.app hnb105 Noz24_0_ob15 z82 (one_hi Bz24.lt)
          have z110 := Ap.app hnb105 Noz24_0_ob60 z83 (one_hi Bz68.lt)
          have B3 := Blk.kept B3 hgr103 (OwN.neB Guz24_0 Noz24_0_ob5)
          have Bz10 := OwM.grown Bz10 hgr103 (OwN.neB Guz24_0 Noz24_0_ob9)
          have Bz24 := Blk.kept Bz24 hgr103 (OwN.neB Guz24_0 Noz24_0_ob15)
          have Bz68 := Blk.kept Bz68 hgr103 (OwN.neB Guz24_0 Noz24_0_ob60)
          have T := T.trans hbl104
          refine RL.y rfl (Y.fieldAddr (off := 0) s8_3x (by kernel_rfl)) ?_
          obtain ⟨A111, c112, rfl⟩ := OwN.form G102
          have qbA111 := OwN.bound G102
          refine RL.store (v := .slice A111 ((z24.agents ++ [z68]).length) c112) (cs' := #[.slice A111 ((z24.agents ++ [z68]).length) c112]) rfl rfl rfl Bz24 (by kernel_rfl) (by rfl) (by rfl) (by rfl) (fun w113 B114 ho115 => ?_)
          have szw113 := ho115.size
          have B3 := B3.only_ ho115 (by intro hin; simp at hin; exact Eob15_ob5 hin)
          have Bz10 := Bz10.only ho115 (by intro hin; simp at hin; exact Eob15_ob9 hin)
          have Bz68 := Bz68.only_ ho115 (by intro hin; simp at hin; exact Eob60_ob15.symm hin)
          have G102 := OwN.only agentOw_ok G102 ho115 (Ap.one z109)
          have T := T.trans (ho115.below (by first | (simp; done) | (simp; omega)))
          refine RL.nil ?_
          refine blk_n (then_n ?_)
          refine wp_rs rfl ?_
          obtain ⟨s116, ks116, hm⟩ := bnd hm
          replace ks116 := ck_some ks116
          refine RQ.y rfl (Y.binI (v := .int .i64 s116) s27_3x rfl (by rw [binI_add ks116.2, ks116.1])) ?_
          refine RQ.y rfl (Y.move (v := .int .i64 s116) rfl) ?_
          refine RQ.nil ?_
          exact (then_n ⟨g, _, Nat.lt_succ_self _, rfl, ⟨s116, (⟨(z24.agents ++ [z68])⟩ : DNet), (.slice A111 ((z24.agents ++ [z68]).length) c112), bs101, s0_3x, s4_3x, s5_3x, s8_3x, s25_3x, s26_3x, rfl, (by omega), B114, G102, z107, z108, z109, B3, Bz10, T, (by rw [← hrec2]; exact hm)⟩⟩)
        · rintro g f w119 ⟨i117, z118, uz118_0, uz118_1, s0_3, s4_3, s5_3, s8_3, s11_3, s25_3, s26_3, s27_3, s41_3, s42_3, nn42_3, Bz118, Guz118_0, Guz118_1, Doz118_0_oz24_0, Noz118_0_ob5, Noz118_0_ob9, Noz118_0_ob15, Noz118_0_ob60, Doz118_1_oz118_0, Doz118_1_oz24_0, Noz118_1_ob5, Noz118_1_ob9, Noz118_1_ob15, Noz118_1_ob60, B3, Bz10, Bz24, Guz24_0, T, hm⟩
          rcases g with _ | g
          · simp only [m_impl_Net_renumber_L3] at hm; cases hm
          obtain ⟨rec3, hrec3, hm⟩ : ∃ z, z = m_impl_Net_renumber_L3 z10 y47 K3 g ∧ m_impl_Net_renumber_B3 z10 y47 z K3 i117 z118 = some r := ⟨_, rfl, hm⟩
          unfold m_impl_Net_renumber_B3 at hm
          refine wp_seq ?_
          refine wp_rs rfl ?_
          refine RQ.y rfl (Y.binI (v := .bool (decide (i117 < (y47.ports.length : Int)))) s42_3 s41_3 rfl) ?_
          refine RQ.nil ?_
          refine then_n ?_
          refine wp_seq ?_
          rcases bcases (decide (i117 < (y47.ports.length : Int))) with c120 | c120
          · replace hm := cF c120 hm
            have pc120 := of_decide_eq_false c120
            refine cond_f rfl (vb rfl c120) ?_
            refine wp_exit ?_
            exact (then_x (then_x (hit_x ⟨_, rfl, ⟨z118, (uz118_0), (uz118_1), s0_3, s4_3, s5_3, s8_3, s11_3, s25_3, s26_3, s27_3, Bz118, Guz118_0, Guz118_1, Doz118_0_oz24_0, (ap_ne (ne_ap Noz118_0_ob5)), (ap_ne (ne_ap Noz118_0_ob9)), (ap_ne (ne_ap Noz118_0_ob15)), (ap_ne (ne_ap Noz118_0_ob60)), (Ap.dj (Dj.ap Doz118_1_oz118_0)), Doz118_1_oz24_0, (ap_ne (ne_ap Noz118_1_ob5)), (ap_ne (ne_ap Noz118_1_ob9)), (ap_ne (ne_ap Noz118_1_ob15)), (ap_ne (ne_ap Noz118_1_ob60)), B3, Bz10, Bz24, Guz24_0, T, (by rw [hK3] at hm; exact hm)⟩⟩)))
          · replace hm := cT c120 hm
            have pc120 := of_decide_eq_true c120
            refine cond_t rfl (vb rfl c120) ?_
            refine wp_skip ?_
            refine then_n ?_
            refine wp_seq ?_
            refine wp_block ?_
            refine wp_seq ?_
            refine wp_rs rfl ?_
            refine RQ.y rfl (Y.move (v := .int .i64 i117) s42_3) ?_
            refine RQ.y rfl (Y.assign (v := .int .i64 i117) rfl) ?_
            refine RQ.nil ?_
            refine then_n ?_
            refine wp_rg (fun w' => Below w.heap.size w w' ∧ OwM Tryz.prog 2 litI encVI w' w.heap.size w2.heap.size z10 ∧ Blk w' w55.heap.size 63 #[.int .i64 z118.kind, .int .i64 z118.level, .int .i64 z118.value, uz118_0, uz118_1]) [(0, true), (1, true), (2, true), (3, true), (4, true), (5, true), (6, true), (7, true), (8, true), (9, false), (10, true), (11, true), (12, true), (13, false)] (by kernel_rfl) (by kernel_rfl) (fun w121 hb122 szw121 => ?_)
            have B3 := blkT B3 hb122
            have Bz10 := OwM.below Bz10 hb122
            have Bz24 := blkT Bz24 hb122
            have Bz118 := blkT Bz118 hb122
            have Guz24_0 := OwN.below agentOw_ok Guz24_0 hb122
            have Guz118_0 := OwF.below Guz118_0 hb122
            have Guz118_1 := OwF.below Guz118_1 hb122
            have T := Tt T hb122
            refine ⟨⟨T, Bz10, Bz118⟩, ?_⟩
            refine RG.y rfl rfl (Y.fieldAddr (off := 4) s11_3 (by kernel_rfl)) ?_
            refine RG.y rfl rfl (Y.load (v := uz118_1) rfl (by kernel_rfl) (fun w' hS => (blkCell hS.2.2 (i := 4) rfl))) ?_
            refine RG.y rfl rfl (Y.move (v := .int .i64 i117) rfl) ?_
            refine RG.y rfl rfl (Y.move (v := .map (some w2.heap.size)) s5_3) ?_
            refine RG.y rfl rfl (Y.fieldAddr (off := 4) s11_3 (by kernel_rfl)) ?_
            refine RG.y rfl rfl (Y.load (v := uz118_1) rfl (by kernel_rfl) (fun w' hS => (blkCell hS.2.2 (i := 4) rfl))) ?_
            refine RG.y rfl rfl (Y.move (v := .int .i64 i117) rfl) ?_
            obtain ⟨A123, c124, rfl⟩ := OwF.form Guz118_1
            have qbA123 := OwF.bound Guz118_1
            obtain ⟨x125, hx127, hm⟩ := bnd hm
            obtain ⟨k126, hk128, hl129, hx127⟩ := getI_some hx127
            obtain ⟨b130, rfl⟩ := OwF.addr0 Guz118_1 (by omega)
            refine RG.y rfl rfl (Y.indexAddr (m := k126) (sz := 2) rfl rfl hk128 hl129 (by kernel_rfl)) ?_
            refine RG.y rfl rfl (Y.fieldAddr (off := 0) rfl (by kernel_rfl)) ?_
            refine RG.act rfl ?_
            refine RL.y rfl (Y.load (v := .int .i64 x125.agent) rfl (by kernel_rfl) (eqC (OwF.cell fPort Guz118_1 hx127 (j := 0) rfl))) ?_
            refine RL.nil ⟨⟨T, Bz10, Bz118⟩, ?_⟩
            obtain ⟨_, kc131, hm⟩ := bnd hm
            replace kc131 := (ck_some kc131).2
            refine RG.y rfl rfl (Y.look (zb := 0) (a := x125.agent) mt_int64_int64 rfl rfl kc131 (fun w' hS => hS.2.1)) ?_
            obtain ⟨x132, hx134, hm⟩ := bnd hm
            obtain ⟨k133, hk135, hl136, hx134⟩ := getI_some hx134
            refine RG.y rfl rfl (Y.indexAddr (m := k133) (sz := 2) rfl rfl hk135 hl136 (by kernel_rfl)) ?_
            refine RG.y rfl rfl (Y.fieldAddr (off := 0) rfl (by kernel_rfl)) ?_
            refine RG.act rfl ?_
            refine RL.storeFj (k := k133) (j := 0) (a := x132) (a' := (⟨(z10.look x125.agent 0), x132.slot⟩ : DPort)) fPort rfl rfl rfl Guz118_1 hx134 (by decide) rfl rfl rfl (by kernel_rfl) (fun w137 G138 ho139 => ?_)
            have szw137 := ho139.size
            have B3 := Blk.only_ B3 ho139 (fun e => Noz118_1_ob5 (by simp at e; rw [e]; rfl))
            have Bz10 := OwM.only Bz10 ho139 (fun e => Noz118_1_ob9 (by simp at e; rw [e]; rfl))
            have Bz24 := Blk.only_ Bz24 ho139 (fun e => Noz118_1_ob15 (by simp at e; rw [e]; rfl))
            have Bz118 := Blk.only_ Bz118 ho139 (fun e => Noz118_1_ob60 (by simp at e; rw [e]; rfl))
            have Guz24_0 := OwN.only agentOw_ok Guz24_0 ho139 ((show Ap bsz24_0 [b130] from (Ap.symm Doz118_1_oz24_0)).one)
            have Guz118_0 := OwF.only Guz118_0 ho139 (fun e => (Dj.symm Doz118_1_oz118_0) _ e rfl)
            have T := T.trans (ho139.below (by intro b hb; simp at hb; subst hb; exact OwF.lo_ Guz118_1 _ rfl))
            have G138 : OwF 65 encPort 2 w137 w.heap.size (.slice (some ⟨b130, 0, none⟩) z118.ports.length c124) (setI z118.ports i117 (⟨(z10.look x125.agent 0), x132.slot⟩ : DPort)) := by rw [hk135, setI_nat]; exact G138
            have hx140 : (setI z118.ports i117 (⟨(z10.look x125.agent 0), x132.slot⟩ : DPort))[k133]? = some (⟨(z10.look x125.agent 0), x132.slot⟩ : DPort) := setI_at hk135 hl136
            have hl141 := lt_of_some hx140
            refine RL.nil ⟨⟨T, Bz10, Bz118⟩, ?_⟩
            refine RG.nil ?_
            refine blk_n (then_n ?_)
            refine wp_rs rfl ?_
            refine RQ.y rfl (Y.binI s42_3 rfl (binI_add (m := i117) (by omega))) ?_
            refine RQ.y rfl (Y.move (v := .int .i64 (i117 + 1)) rfl) ?_
            refine RQ.nil ?_
            exact (then_n ⟨g, _, Nat.lt_succ_self _, rfl, ⟨(i117 + 1), (⟨z118.kind, z118.level, z118.value, z118.data, (setI z118.ports i117 (⟨(z10.look x125.agent 0), x132.slot⟩ : DPort))⟩ : DAgent), (uz118_0), (.slice (some ⟨b130, 0, none⟩) z118.ports.length c124), s0_3, s4_3, s5_3, s8_3, s11_3, s25_3, s26_3, s27_3, s41_3, rfl, (by omega), Bz118, Guz118_0, G138, Doz118_0_oz24_0, (ap_ne (ne_ap Noz118_0_ob5)), (ap_ne (ne_ap Noz118_0_ob9)), (ap_ne (ne_ap Noz118_0_ob15)), (ap_ne (ne_ap Noz118_0_ob60)), (Ap.dj (Dj.ap Doz118_1_oz118_0)), Doz118_1_oz24_0, (ap_ne (ne_ap Noz118_1_ob5)), (ap_ne (ne_ap Noz118_1_ob9)), (ap_ne (ne_ap Noz118_1_ob15)), (ap_ne (ne_ap Noz118_1_ob60)), B3, Bz10, Bz24, Guz24_0, T, (by rw [← hrec3]; exact hm)⟩⟩)
  · rintro g f w146 ⟨i144, z145, s0_1, s1_1, s4_1, s5_1, s14_1, s15_1, s16_1, nn16_1, Bz145, B3, T, hm⟩
    rcases g with _ | g
    · simp only [m_impl_Net_renumber_L1] at hm; cases hm
    obtain ⟨rec1, hrec1, hm⟩ : ∃ z, z = m_impl_Net_renumber_L1 d1 K1 g ∧ m_impl_Net_renumber_B1 d1 z K1 i144 z145 = some r := ⟨_, rfl, hm⟩
    unfold m_impl_Net_renumber_B1 at hm
    refine wp_seq ?_
    refine wp_rs rfl ?_
    refine RQ.y rfl (Y.binI (v := .bool (decide (i144 < (d1.length : Int)))) s16_1 s15_1 rfl) ?_
    refine RQ.nil ?_
    refine then_n ?_
    refine wp_seq ?_
    rcases bcases (decide (i144 < (d1.length : Int))) with c147 | c147
    · replace hm := cF c147 hm
      have pc147 := of_decide_eq_false c147
      refine cond_f rfl (vb rfl c147) ?_
      refine wp_exit ?_
      exact (then_x (then_x (hit_x ⟨_, rfl, ⟨z145, s0_1, s1_1, s4_1, s5_1, Bz145, B3, T, (by rw [hK1] at hm; exact hm)⟩⟩)))
    · replace hm := cT c147 hm
      have pc147 := of_decide_eq_true c147
      refine cond_t rfl (vb rfl c147) ?_
      refine wp_skip ?_
      refine then_n ?_
      refine wp_seq ?_
      refine wp_block ?_
      refine wp_seq ?_
      refine wp_rs rfl ?_
      refine RQ.y rfl (Y.move (v := .int .i64 i144) s16_1) ?_
      obtain ⟨x148, hx151, hm⟩ := bnd hm
      obtain ⟨k149, hk152, hl153, hx151⟩ := getI_some hx151
      obtain ⟨b155, o156, rfl, hbb155⟩ := ha1.addr (by omega)
      obtain ⟨cs150, hRcs150, hc154⟩ := ha1.el hx151
      have hScs150 := hRcs150
      obtain rfl := hRcs150
      refine RQ.y rfl (Y.indexAddr (m := k149) (sz := 1) s14_1 s16_1 hk152 hl153 (by kernel_rfl)) ?_
      refine RQ.y rfl (Y.load (v := .int .i64 x148) rfl (by kernel_rfl) (eqC (cellT T (hc154 0 _ rfl)))) ?_
      refine RQ.y rfl (Y.assign (v := .int .i64 i144) rfl) ?_
      refine RQ.y rfl (Y.assign (v := .int .i64 x148) rfl) ?_
      refine RQ.nil ?_
      refine then_n ?_
      refine wp_rl rfl ?_
      refine RL.y rfl (Y.move (v := .map (some w2.heap.size)) s5_1) ?_
      refine RL.y rfl (Y.move (v := .int .i64 x148) rfl) ?_
      refine RL.y rfl (Y.move (v := .int .i64 i144) rfl) ?_
      obtain ⟨_, kc157, hm⟩ := bnd hm
      replace kc157 := (ck_some kc157).2
      obtain ⟨_, m158, hm⟩ := bnd hm
      have hk159 := mustP_some m158
      refine RL.mapSet (a := x148) (v := i144) (enc := encVI) mt_int64_int64 rfl rfl rfl rfl kc157 Bz145 hk159 (fun w160 B161 ho162 => ?_)
      have szw160 := ho162.size
      have B3 := B3.only_ ho162 (by intro hin; simp at hin; exact Eob9_ob5 hin)
      have T := T.trans (ho162.below (by intro b hb; simp at hb; subst hb; exact Bz145.1))
      refine RL.nil ?_
      refine blk_n (then_n ?_)
      refine wp_rs rfl ?_
      refine RQ.y rfl (Y.binI s16_1 rfl (binI_add (m := i144) (by omega))) ?_
      refine RQ.y rfl (Y.move (v := .int .i64 (i144 + 1)) rfl) ?_
      refine RQ.nil ?_
      exact (then_n ⟨g, _, Nat.lt_succ_self _, rfl, ⟨(i144 + 1), (z145.put x148 i144), s0_1, s1_1, s4_1, s5_1, s14_1, s15_1, rfl, (by omega), B161, B3, T, (by rw [← hrec1]; exact hm)⟩⟩)
end
section
open Go.RowKit
set_option linter.unusedVariables false
set_option linter.unusedSimpArgs false
def seenL (n : Nat) (l : List Int) : List Bool := (List.range n).map fun (i : Nat) => decide ((i : Int) ∈ l)
theorem seenL_get {n : Nat} {l : List Int} {a : Int} (h0 : 0 ≤ a) (h1 : a < n) : getI (seenL n l) a = some (decide (a ∈ l)) := by
  obtain ⟨k, rfl⟩ := Int.eq_ofNat_of_zero_le h0
  refine getI_nat ?_
  unfold seenL
  rw [List.getElem?_map, List.getElem?_range (by omega)]
  rfl
theorem seenL_set {n : Nat} {l : List Int} {a : Int} (h0 : 0 ≤ a) (h1 : a < n) : setI (seenL n l) a true = seenL n (l ++ [a]) := by
  obtain ⟨k, rfl⟩ := Int.eq_ofNat_of_zero_le h0
  rw [setI_nat]
  apply List.ext_getElem?
  intro i
  unfold seenL
  rw [List.getElem?_set]
  by_cases hi : i < n
  · rw [List.getElem?_map, List.getElem?_map, List.getElem?_range hi]
    simp only [Option.map_some]
    by_cases hk : k = i
    · subst hk
      simp [hi]
    · have : ¬ ((i : Int) = (k : Int)) := by omega
      rw [if_neg hk]; simp [this]
  · have : ¬ k = i := by omega
    rw [if_neg this, List.getElem?_map, List.getElem?_map, List.getElem?_eq_none (by simp; omega)]
    rfl
theorem seenL_nil (n : Nat) : List.replicate n false = seenL n [] := by
  apply List.ext_getElem?
  intro i
  unfold seenL
  by_cases hi : i < n
  · rw [List.getElem?_map, List.getElem?_range hi]; simp [hi]
  · rw [List.getElem?_eq_none (by simp; omega), List.getElem?_eq_none (by simp; omega)]
def renP (l : List Int) (p : DPort) : DPort := ⟨posOf l p.agent, p.slot⟩
def renA (l : List Int) (x : DAgent) : DAgent := ⟨x.kind, x.level, x.value, x.data, x.ports.map (renP l)⟩
def renL (xs : List DAgent) (l : List Int) : List DAgent := l.map fun a => renA l (agentAt xs a)
/-- The agents of l lead to agents of l alone. -/
def Shut (xs : List DAgent) (l : List Int) : Prop := ∀ a ∈ l, ∀ p ∈ (agentAt xs a).ports, p.agent ∈ l
def nowL (l : List Int) : Nat → List Int
  | 0 => l
  | k + 1 => setI (nowL l k) (l[k]?.getD 0) (k : Int)
theorem nowL_len (l : List Int) : ∀ k, (nowL l k).length = l.length
  | 0 => rfl
  | k + 1 => by unfold nowL setI; rw [List.length_set, nowL_len l k]
theorem getI_setI {s : List Int} {a b v : Int} (h0 : 0 ≤ a) (h1 : a < s.length) (hb : 0 ≤ b) : getI (setI s a v) b = if b = a then some v else getI s b := by
  obtain ⟨i, rfl⟩ := Int.eq_ofNat_of_zero_le h0
  obtain ⟨j, rfl⟩ := Int.eq_ofNat_of_zero_le hb
  rw [setI_nat]
  unfold getI
  rw [if_pos hb, Int.toNat_natCast, List.getElem?_set]
  by_cases h : i = j
  · subst h; simp; omega
  · rw [if_neg h, if_neg (by omega : ¬ ((j : Int) = (i : Int)))]
    simp
theorem nowL_at {n : Nat} {l : List Int} (h : GL n l) (hl : l.length = n) : ∀ k, k ≤ l.length → ∀ i (hi : i < k) (hil : i < l.length), getI (nowL l k) l[i] = some (i : Int)
  | 0, _, i, hi, _ => by omega
  | k + 1, hk, i, hi, hil => by
    have hkl : k < l.length := hk
    have e : l[k]?.getD 0 = l[k] := by rw [List.getElem?_eq_getElem hkl]; rfl
    have hr := h.inr _ (List.getElem_mem hkl)
    have hri := h.inr _ (List.getElem_mem hil)
    unfold nowL
    rw [e, getI_setI hr.1 (by rw [nowL_len]; omega) hri.1]
    by_cases hik : i = k
    · subst hik; rw [if_pos rfl]
    · have hne : l[i] ≠ l[k] := List.pairwise_iff_getElem.1 (List.nodup_iff_pairwise_ne.1 h.nd) i k hil hkl (by omega)
      rw [if_neg hne]
      exact nowL_at h hl k (by omega) i (by omega) hil
theorem nowL_pos {n : Nat} {l : List Int} (h : GL n l) (hl : l.length = n) {a : Int} (ha : a ∈ l) : getI (nowL l l.length) a = some (posOf l a) := by
  have hi := List.idxOf_lt_length_of_mem ha
  have := nowL_at h hl l.length (Nat.le_refl _) (l.idxOf a) hi hi
  rw [List.getElem_idxOf] at this
  rw [this]
  unfold posOf
  rw [if_pos ha]
theorem p_sRenumber {xs : List DAgent} (hs : Small xs) (h6 : xs.length ≤ 600) {l : List Int} (h : GL xs.length l) (hl : l.length = xs.length) (hsh : Shut xs l) : m_spec_l11Renumber ⟨xs⟩ l = some ⟨renL xs l⟩ := by
  unfold m_spec_l11Renumber m_spec_l00Own
  rw [mustP_ok (by simp; omega), Option.bind_some, Option.bind_some, List.nil_append]
  have k1 := traj (L := fun g (s : List Int × Int) => m_spec_l11Renumber_L1 l (m_spec_l11Renumber_A1 ⟨xs⟩ l) g s.1 s.2) (st := fun k => (nowL l k, (k : Int))) (n := l.length) (r := m_spec_l11Renumber_A1 ⟨xs⟩ l (nowL l l.length))
    (fun g k hk => by
      have hr := h.inr _ (List.getElem_mem hk)
      obtain ⟨v, hv⟩ : ∃ v, getI (nowL l k) l[k] = some v := by
        obtain ⟨j, hj⟩ := Int.eq_ofNat_of_zero_le hr.1
        rw [hj]
        exact ⟨_, getI_lt (show j < (nowL l k).length by rw [nowL_len]; omega)⟩
      have e : l[k]?.getD 0 = l[k] := by rw [List.getElem?_eq_getElem hk]; rfl
      simp -implicitDefEqProofs only [m_spec_l11Renumber_L1, m_spec_l11Renumber_B1, dlt hk, cond_true, getI_lt hk, Option.bind_some, hv]
      have e2 : nowL l (k + 1) = setI (nowL l k) l[k] (k : Int) := by rw [nowL, e]
      rw [e2]; simp only [Int.natCast_add, Int.cast_ofNat_Int])
    (fun g => by simp -implicitDefEqProofs only [m_spec_l11Renumber_L1, m_spec_l11Renumber_B1, dge, cond_false]) (l.length + 1) (Nat.lt_succ_self _)
  refine k1.trans ?_
  unfold m_spec_l11Renumber_A1
  have key := (appL (L := fun g acc i => m_spec_l11Renumber_L2 ⟨xs⟩ l (nowL l l.length) m_spec_l11Renumber_A2 g i ⟨acc⟩) (d := l) (f := fun a => [renA l (agentAt xs a)]) (B := 1) (M := 4294967296) (K := fun acc => some (⟨acc⟩ : DNet))
    (fun x _ => by simp)
    (fun g k a acc ha hM => by
      have hk := lt_of_some ha
      have ham := List.mem_of_getElem? ha
      obtain ⟨a0, a1⟩ := h.inr a ham
      obtain ⟨i, rfl⟩ := Int.eq_ofNat_of_zero_le a0
      have hx := List.getElem?_eq_getElem (show i < xs.length by omega)
      have hsa := hsh _ ham
      rw [agentAt_nat hx] at hsa hM ⊢
      have hsz := small_sz hs hx
      simp -implicitDefEqProofs only [m_spec_l11Renumber_L2, m_spec_l11Renumber_B2, dlt hk, cond_true, getI_nat ha, getI_nat hx, Option.bind_some, p_ownAgent hsz]
      generalize xs[i] = x at *
      have inner := traj (L := fun g' (s : Int × List DPort) => m_spec_l11Renumber_L3 (nowL l l.length) (m_spec_l11Renumber_A3 (m_spec_l11Renumber_L2 ⟨xs⟩ l (nowL l l.length) m_spec_l11Renumber_A2 g) (k : Int) ⟨acc⟩) g' s.1 ⟨x.kind, x.level, x.value, x.data, s.2⟩)
        (st := fun j => ((j : Int), midL (renP l) x.ports j)) (n := x.ports.length) (r := m_spec_l11Renumber_L2 ⟨xs⟩ l (nowL l l.length) m_spec_l11Renumber_A2 g ((k : Int) + 1) ⟨acc ++ [renA l x]⟩)
        (fun g' j hj => by
          have hp := List.getElem?_eq_getElem hj
          have hm := midL_get (f := renP l) hp
          have hst := midL_step (f := renP l) hp
          have hln := midL_len (f := renP l) (xs := x.ports) (k := j) (by omega)
          have hn := nowL_pos h hl (hsa _ (List.getElem_mem hj))
          simp -implicitDefEqProofs only [m_spec_l11Renumber_L3, m_spec_l11Renumber_B3, hln, dlt hj, cond_true, getI_nat hm, Option.bind_some, hn]
          have hq : (⟨posOf l x.ports[j].agent, x.ports[j].slot⟩ : DPort) = renP l x.ports[j] := rfl
          rw [setI_nat, hq, hst]
          simp only [Int.natCast_add, Int.cast_ofNat_Int])
        (fun g' => by
          have hln := midL_len (f := renP l) (xs := x.ports) (k := x.ports.length) (by omega)
          simp -implicitDefEqProofs only [m_spec_l11Renumber_L3, m_spec_l11Renumber_B3, hln, dge, cond_false, m_spec_l11Renumber_A3]
          rw [mustP_ok (by simpa using hM), Option.bind_some, ck_ok (by omega), Option.bind_some, midL_end]
          rfl) (x.ports.length + 1) (Nat.lt_succ_self _)
      simpa [midL_zero] using inner)
    (fun g acc => by simp -implicitDefEqProofs only [m_spec_l11Renumber_L2, m_spec_l11Renumber_B2, dge, cond_false, m_spec_l11Renumber_A2])
    [] (l.length + 1) (by omega) (by simp; omega)).1
  have e : l.flatMap (fun a => [renA l (agentAt xs a)]) = renL xs l := by
    unfold renL
    rw [← flat_id (l.map _), List.flatMap_map]
  rw [e] at key
  simpa using key
theorem p_iRenumber {xs : List DAgent} (hs : Small xs) (h6 : xs.length ≤ 600) {l : List Int} (h : GL xs.length l) (hsh : Shut xs l) : m_impl_Net_renumber ⟨xs⟩ l = some ⟨renL xs l⟩ := by
  have hlen := h.len
  unfold m_impl_Net_renumber
  have k1 := traj (L := fun g (q : Int × MapM Int Int) => m_impl_Net_renumber_L1 l (m_impl_Net_renumber_A1 ⟨xs⟩ l) g q.1 q.2) (st := fun k => ((k : Int), placeOf l k)) (n := l.length) (r := m_impl_Net_renumber_A1 ⟨xs⟩ l (placeOf l l.length))
    (fun g k hk => by
      obtain ⟨a0, a1⟩ := h.inr _ (List.getElem_mem hk)
      have hpn := placeOf_n l k
      simp -implicitDefEqProofs only [m_impl_Net_renumber_L1, m_impl_Net_renumber_B1, dlt hk, cond_true, getI_lt hk, Option.bind_some]
      rw [ck_ok (by omega), Option.bind_some, mustP_ok (by omega), Option.bind_some]
      have e : placeOf l (k + 1) = (placeOf l k).put l[k] (k : Int) := by
        show (placeOf l k).put (l[k]?.getD 0) (k : Int) = _
        rw [List.getElem?_eq_getElem hk]; rfl
      rw [e]; simp only [Int.natCast_add, Int.cast_ofNat_Int])
    (fun g => by simp -implicitDefEqProofs only [m_impl_Net_renumber_L1, m_impl_Net_renumber_B1, dge, cond_false]) (l.length + 1) (Nat.lt_succ_self _)
  refine k1.trans ?_
  unfold m_impl_Net_renumber_A1
  have key := (appL (L := fun g acc i => m_impl_Net_renumber_L2 ⟨xs⟩ l (placeOf l l.length) m_impl_Net_renumber_A2 g i ⟨acc⟩) (d := l) (f := fun a => [renA l (agentAt xs a)]) (B := 1) (M := 4294967296) (K := fun acc => some (⟨acc⟩ : DNet))
    (fun x _ => by simp)
    (fun g k a acc ha hM => by
      have hk := lt_of_some ha
      have ham := List.mem_of_getElem? ha
      obtain ⟨a0, a1⟩ := h.inr a ham
      obtain ⟨i, rfl⟩ := Int.eq_ofNat_of_zero_le a0
      have hx := List.getElem?_eq_getElem (show i < xs.length by omega)
      have hsa := hsh _ ham
      rw [agentAt_nat hx] at hsa hM ⊢
      have hsz := small_sz hs hx
      simp -implicitDefEqProofs only [m_impl_Net_renumber_L2, m_impl_Net_renumber_B2, dlt hk, cond_true, getI_nat ha, getI_nat hx, Option.bind_some, p_copyAgent hsz]
      generalize xs[i] = x at *
      have inner := traj (L := fun g' (s : Int × List DPort) => m_impl_Net_renumber_L3 (placeOf l l.length) x (m_impl_Net_renumber_A3 (m_impl_Net_renumber_L2 ⟨xs⟩ l (placeOf l l.length) m_impl_Net_renumber_A2 g) (k : Int) ⟨acc⟩) g' s.1 ⟨x.kind, x.level, x.value, x.data, s.2⟩)
        (st := fun j => ((j : Int), midL (renP l) x.ports j)) (n := x.ports.length) (r := m_impl_Net_renumber_L2 ⟨xs⟩ l (placeOf l l.length) m_impl_Net_renumber_A2 g ((k : Int) + 1) ⟨acc ++ [renA l x]⟩)
        (fun g' j hj => by
          have hp := List.getElem?_eq_getElem hj
          have hm := midL_get (f := renP l) hp
          have hst := midL_step (f := renP l) hp
          have hpa := hsa _ (List.getElem_mem hj)
          have hn := placeOf_pos h.nd hpa
          obtain ⟨b0, b1⟩ := h.inr _ hpa
          simp -implicitDefEqProofs only [m_impl_Net_renumber_L3, m_impl_Net_renumber_B3, dlt hj, cond_true, getI_nat hm, Option.bind_some]
          rw [ck_ok (by omega), Option.bind_some, hn]
          have hq : (⟨posOf l x.ports[j].agent, x.ports[j].slot⟩ : DPort) = renP l x.ports[j] := rfl
          rw [setI_nat, hq, hst]
          simp only [Int.natCast_add, Int.cast_ofNat_Int])
        (fun g' => by
          simp -implicitDefEqProofs only [m_impl_Net_renumber_L3, m_impl_Net_renumber_B3, dge, cond_false, m_impl_Net_renumber_A3]
          rw [mustP_ok (by simpa using hM), Option.bind_some, ck_ok (by omega), Option.bind_some, midL_end]
          rfl) (x.ports.length + 1) (Nat.lt_succ_self _)
      simpa [midL_zero] using inner)
    (fun g acc => by simp -implicitDefEqProofs only [m_impl_Net_renumber_L2, m_impl_Net_renumber_B2, dge, cond_false, m_impl_Net_renumber_A2])
    [] (l.length + 1) (by omega) (by simp; omega)).1
  have e : l.flatMap (fun a => [renA l (agentAt xs a)]) = renL xs l := by
    unfold renL
    rw [← flat_id (l.map _), List.flatMap_map]
  rw [e] at key
  simpa using key
end
section
open Go.RowKit Go.Shelf
def layI_ren : Go.Shelf.Ren := ⟨fun | 53 => 76 | 64 => 79 | 63 => 100 | 78 => 109 | 79 => 110 | 70 => 122 | 71 => 123 | 72 => 124 | 73 => 125 | 74 => 126 | 75 => 127 | 59 => 128 | 76 => 129 | 77 => 130 | 88 => 136 | 89 => 132 | 90 => 133 | 91 => 137 | 92 => 138 | 68 => 80 | 96 => 140 | n => n, fun | 22 => 26 | 23 => 2 | 3 => 3 | 51 => 104 | 0 => 0 | 67 => 129 | 69 => 131 | 4 => 4 | 61 => 122 | 60 => 121 | 44 => 126 | 5 => 5 | 9 => 9 | 75 => 141 | 79 => 145 | 83 => 149 | 84 => 150 | n => n, fun | n => n⟩
theorem layI : Go.Proofs.SlLaysN.n53 Tryz.prog layI_ren := {
  mixed := by kernel_rfl
  f53 := ⟨Tryz.f76.name, by decide, Tryz.func76.trans (congrArg some (by kernel_rfl))⟩
  f59 := ⟨Tryz.f128.name, by decide, Tryz.func128.trans (congrArg some (by kernel_rfl))⟩
  f63 := ⟨Tryz.f100.name, by decide, Tryz.func100.trans (congrArg some (by kernel_rfl))⟩
  f64 := Tryz.func79.trans (congrArg some (by kernel_rfl))
  f68 := ⟨Tryz.f80.name, by decide, Tryz.func80.trans (congrArg some (by kernel_rfl))⟩
  f70 := ⟨Tryz.f122.name, by decide, Tryz.func122.trans (congrArg some (by kernel_rfl))⟩
  f71 := ⟨Tryz.f123.name, by decide, Tryz.func123.trans (congrArg some (by kernel_rfl))⟩
  f72 := ⟨Tryz.f124.name, by decide, Tryz.func124.trans (congrArg some (by kernel_rfl))⟩
  f73 := ⟨Tryz.f125.name, by decide, Tryz.func125.trans (congrArg some (by kernel_rfl))⟩
  f74 := ⟨Tryz.f126.name, by decide, Tryz.func126.trans (congrArg some (by kernel_rfl))⟩
  f75 := ⟨Tryz.f127.name, by decide, Tryz.func127.trans (congrArg some (by kernel_rfl))⟩
  f76 := ⟨Tryz.f129.name, by decide, Tryz.func129.trans (congrArg some (by kernel_rfl))⟩
  f77 := ⟨Tryz.f130.name, by decide, Tryz.func130.trans (congrArg some (by kernel_rfl))⟩
  f78 := Tryz.func109.trans (congrArg some (by kernel_rfl))
  f79 := Tryz.func110.trans (congrArg some (by kernel_rfl))
  f88 := ⟨Tryz.f136.name, by decide, Tryz.func136.trans (congrArg some (by kernel_rfl))⟩
  f89 := Tryz.func132.trans (congrArg some (by kernel_rfl))
  f90 := Tryz.func133.trans (congrArg some (by kernel_rfl))
  f91 := ⟨Tryz.f137.name, by decide, Tryz.func137.trans (congrArg some (by kernel_rfl))⟩
  f92 := ⟨Tryz.f138.name, by decide, Tryz.func138.trans (congrArg some (by kernel_rfl))⟩
  f96 := ⟨Tryz.f140.name, by decide, Tryz.func140.trans (congrArg some (by kernel_rfl))⟩
  t0 := Tryz.underlying0
  a0 := Tryz.isAgg0
  z0 := Tryz.sizeOf0
  v0 := Tryz.zeroValue0
  t3 := Tryz.underlying3
  a3 := Tryz.isAgg3
  z3 := Tryz.sizeOf3
  v3 := Tryz.zeroValue3
  t4 := Tryz.underlying4
  a4 := Tryz.isAgg4
  z4 := Tryz.sizeOf4
  v4 := Tryz.zeroValue4
  t5 := Tryz.underlying5
  a5 := Tryz.isAgg5
  z5 := Tryz.sizeOf5
  v5 := Tryz.zeroValue5
  t9 := Tryz.underlying9
  a9 := Tryz.isAgg9
  z9 := Tryz.sizeOf9
  v9 := Tryz.zeroValue9
  t22 := Tryz.underlying26
  a22 := Tryz.isAgg26
  z22 := Tryz.sizeOf26
  v22 := Tryz.zeroValue26
  t23 := Tryz.underlying2
  a23 := Tryz.isAgg2
  z23 := Tryz.sizeOf2
  v23 := Tryz.zeroValue2
  t44 := Tryz.underlying126
  a44 := Tryz.isAgg126
  z44 := Tryz.sizeOf126
  v44 := Tryz.zeroValue126
  t51 := Tryz.underlying104
  a51 := Tryz.isAgg104
  z51 := Tryz.sizeOf104
  v51 := Tryz.zeroValue104
  t60 := Tryz.underlying121
  a60 := Tryz.isAgg121
  z60 := Tryz.sizeOf121
  v60 := Tryz.zeroValue121
  t61 := Tryz.underlying122
  a61 := Tryz.isAgg122
  z61 := Tryz.sizeOf122
  v61 := Tryz.zeroValue122
  t67 := Tryz.underlying129
  a67 := Tryz.isAgg129
  z67 := Tryz.sizeOf129
  v67 := Tryz.zeroValue129
  t69 := Tryz.underlying131
  a69 := Tryz.isAgg131
  z69 := Tryz.sizeOf131
  v69 := Tryz.zeroValue131
  t75 := Tryz.underlying141
  a75 := Tryz.isAgg141
  z75 := Tryz.sizeOf141
  v75 := Tryz.zeroValue141
  t79 := Tryz.underlying145
  a79 := Tryz.isAgg145
  z79 := Tryz.sizeOf145
  v79 := Tryz.zeroValue145
  t83 := Tryz.underlying149
  a83 := Tryz.isAgg149
  z83 := Tryz.sizeOf149
  v83 := Tryz.zeroValue149
  t84 := Tryz.underlying150
  a84 := Tryz.isAgg150
  z84 := Tryz.sizeOf150
  v84 := Tryz.zeroValue150 }
def layF_ren : Go.Shelf.Ren := ⟨fun | 6 => 54 | 15 => 79 | 14 => 78 | 28 => 109 | 29 => 110 | 20 => 101 | 21 => 102 | 22 => 103 | 23 => 104 | 24 => 105 | 25 => 106 | 26 => 107 | 27 => 108 | 46 => 131 | 47 => 132 | 48 => 133 | 49 => 134 | 50 => 135 | 57 => 139 | n => n, fun | 22 => 79 | 24 => 82 | 25 => 88 | 3 => 3 | 39 => 104 | 0 => 0 | 53 => 129 | 55 => 131 | 4 => 4 | 46 => 122 | 45 => 121 | 50 => 126 | 5 => 5 | 9 => 9 | 66 => 141 | 70 => 145 | 76 => 149 | 77 => 150 | n => n, fun | n => n⟩
theorem layF : Go.Proofs.SlLaysF0.n6 Tryz.prog layF_ren := {
  mixed := by kernel_rfl
  f6 := ⟨Tryz.f54.name, by decide, Tryz.func54.trans (congrArg some (by kernel_rfl))⟩
  f14 := ⟨Tryz.f78.name, by decide, Tryz.func78.trans (congrArg some (by kernel_rfl))⟩
  f15 := Tryz.func79.trans (congrArg some (by kernel_rfl))
  f20 := ⟨Tryz.f101.name, by decide, Tryz.func101.trans (congrArg some (by kernel_rfl))⟩
  f21 := ⟨Tryz.f102.name, by decide, Tryz.func102.trans (congrArg some (by kernel_rfl))⟩
  f22 := ⟨Tryz.f103.name, by decide, Tryz.func103.trans (congrArg some (by kernel_rfl))⟩
  f23 := ⟨Tryz.f104.name, by decide, Tryz.func104.trans (congrArg some (by kernel_rfl))⟩
  f24 := ⟨Tryz.f105.name, by decide, Tryz.func105.trans (congrArg some (by kernel_rfl))⟩
  f25 := ⟨Tryz.f106.name, by decide, Tryz.func106.trans (congrArg some (by kernel_rfl))⟩
  f26 := ⟨Tryz.f107.name, by decide, Tryz.func107.trans (congrArg some (by kernel_rfl))⟩
  f27 := ⟨Tryz.f108.name, by decide, Tryz.func108.trans (congrArg some (by kernel_rfl))⟩
  f28 := Tryz.func109.trans (congrArg some (by kernel_rfl))
  f29 := Tryz.func110.trans (congrArg some (by kernel_rfl))
  f46 := ⟨Tryz.f131.name, by decide, Tryz.func131.trans (congrArg some (by kernel_rfl))⟩
  f47 := Tryz.func132.trans (congrArg some (by kernel_rfl))
  f48 := Tryz.func133.trans (congrArg some (by kernel_rfl))
  f49 := ⟨Tryz.f134.name, by decide, Tryz.func134.trans (congrArg some (by kernel_rfl))⟩
  f50 := ⟨Tryz.f135.name, by decide, Tryz.func135.trans (congrArg some (by kernel_rfl))⟩
  f57 := ⟨Tryz.f139.name, by decide, Tryz.func139.trans (congrArg some (by kernel_rfl))⟩
  t0 := Tryz.underlying0
  a0 := Tryz.isAgg0
  z0 := Tryz.sizeOf0
  v0 := Tryz.zeroValue0
  t3 := Tryz.underlying3
  a3 := Tryz.isAgg3
  z3 := Tryz.sizeOf3
  v3 := Tryz.zeroValue3
  t4 := Tryz.underlying4
  a4 := Tryz.isAgg4
  z4 := Tryz.sizeOf4
  v4 := Tryz.zeroValue4
  t5 := Tryz.underlying5
  a5 := Tryz.isAgg5
  z5 := Tryz.sizeOf5
  v5 := Tryz.zeroValue5
  t9 := Tryz.underlying9
  a9 := Tryz.isAgg9
  z9 := Tryz.sizeOf9
  v9 := Tryz.zeroValue9
  t22 := Tryz.underlying79
  a22 := Tryz.isAgg79
  z22 := Tryz.sizeOf79
  v22 := Tryz.zeroValue79
  t25 := Tryz.underlying88
  a25 := Tryz.isAgg88
  z25 := Tryz.sizeOf88
  v25 := Tryz.zeroValue88
  t39 := Tryz.underlying104
  a39 := Tryz.isAgg104
  z39 := Tryz.sizeOf104
  v39 := Tryz.zeroValue104
  t45 := Tryz.underlying121
  a45 := Tryz.isAgg121
  z45 := Tryz.sizeOf121
  v45 := Tryz.zeroValue121
  t46 := Tryz.underlying122
  a46 := Tryz.isAgg122
  z46 := Tryz.sizeOf122
  v46 := Tryz.zeroValue122
  t50 := Tryz.underlying126
  a50 := Tryz.isAgg126
  z50 := Tryz.sizeOf126
  v50 := Tryz.zeroValue126
  t53 := Tryz.underlying129
  a53 := Tryz.isAgg129
  z53 := Tryz.sizeOf129
  v53 := Tryz.zeroValue129
  t55 := Tryz.underlying131
  a55 := Tryz.isAgg131
  z55 := Tryz.sizeOf131
  v55 := Tryz.zeroValue131
  t66 := Tryz.underlying141
  a66 := Tryz.isAgg141
  z66 := Tryz.sizeOf141
  v66 := Tryz.zeroValue141
  t70 := Tryz.underlying145
  a70 := Tryz.isAgg145
  z70 := Tryz.sizeOf145
  v70 := Tryz.zeroValue145
  t76 := Tryz.underlying149
  a76 := Tryz.isAgg149
  z76 := Tryz.sizeOf149
  v76 := Tryz.zeroValue149
  t77 := Tryz.underlying150
  a77 := Tryz.isAgg150
  z77 := Tryz.sizeOf150
  v77 := Tryz.zeroValue150 }
def layCmp_ren : Go.Shelf.Ren := ⟨fun | 5 => 58 | 7 => 80 | n => n, fun | 22 => 2 | 3 => 3 | 4 => 4 | n => n, fun | n => n⟩
theorem layCmp : Go.Proofs.SlLaysC2.n5 Tryz.prog layCmp_ren := {
  mixed := by kernel_rfl
  f5 := ⟨Tryz.f58.name, by decide, Tryz.func58.trans (congrArg some (by kernel_rfl))⟩
  f7 := ⟨Tryz.f80.name, by decide, Tryz.func80.trans (congrArg some (by kernel_rfl))⟩
  t3 := Tryz.underlying3
  a3 := Tryz.isAgg3
  z3 := Tryz.sizeOf3
  v3 := Tryz.zeroValue3
  t4 := Tryz.underlying4
  a4 := Tryz.isAgg4
  z4 := Tryz.sizeOf4
  v4 := Tryz.zeroValue4
  t22 := Tryz.underlying2
  a22 := Tryz.isAgg2
  z22 := Tryz.sizeOf2
  v22 := Tryz.zeroValue2 }
end
section
open Go.RowKit Go.Shelf
set_option linter.unusedVariables false
set_option linter.unusedSimpArgs false
theorem flatMap_encI (xs : List Int) : xs.flatMap encI = xs.map (Value.int .i64) := by
  induction xs with
  | nil => rfl
  | cons x xs ih => simp [encI, ih]
theorem sort_own {w : World} {lo : Nat} {v : Value} {xs : List Int} (h : OwF 2 encI 1 w lo v xs) (hlo : lo ≤ w.heap.size) (hk : xs.length ≤ 4294967296) :
    Calls Tryz.prog 76 #[v] w fun e w' => e = .returned (.tuple #[]) ∧ OwF 2 encI 1 w' lo v (srt xs) ∧ w.grownBy w' v.ownBlock ∧ Below lo w w' := by
  obtain ⟨hl, h0 | ⟨g, cap, cur, rfl, hg, hb, hn, hcap, hsz, htk⟩⟩ := h
  · obtain ⟨rfl, hn⟩ := h0
    have hx : xs = [] := List.eq_nil_of_length_eq_zero hn
    subst hx
    refine (AnyG.slices_Sort_int_none layI none 0 w).mono ?_
    rintro e w' ⟨rfl, rfl⟩
    exact ⟨rfl, by rw [show srt [] = [] from List.eq_nil_of_length_eq_zero (srt_len [])]; exact OwF.nil, World.grownBy.refl _ _, Below.refl _ _⟩
  · rw [flatMap_encI, Nat.mul_one] at htk
    have hgs : g < w.heap.size := (Array.getElem?_eq_some_iff.1 hb).1
    have hs : (srt xs).length = xs.length := srt_len xs
    refine (AnyG.slices_Sort_int layI g 0 cap xs w (Go.holds_of_blockI hb htk) hgs (by omega)).mono ?_
    rintro e w' ⟨rfl, n, os, rfl⟩
    have hgr : w.grownBy (Sort.grow (Sort.putRow (Value.int .i64) (Sort.ahead w n) g 0 (srt xs).toArray) os) (some g) := Go.grownBy_sortedI _
    have ho := Go.ownsRow_sortedI (n := n) (os := os) (ss := xs) (ts := srt xs) hs hg hb hn hcap hsz
    refine ⟨rfl, ?_, hgr, ?_⟩
    · unfold OwF; rw [flatMap_encI, hs]; exact ho
    · exact (Below.refl lo w).grown hgr hlo (by intro b hb; cases hb; exact hg)
end
section
open Go.RowKit
set_option linter.unusedVariables false
set_option linter.unusedSimpArgs false
set_option maxRecDepth 100000
def m_spec_l12Sorted_A1 (xs8 : List Int) : Option (List Int) :=
  some xs8
def m_spec_l12Sorted_A2 (rec1 : List Int → Int → Option (List Int)) (i11 : Int) (xs16 : List Int) : Option (List Int) :=
  ((ck (i11 + 1)).bind fun s18 => (rec1 xs16 s18))
def m_spec_l12Sorted_B2 (rec2 : List Int → Int → Option (List Int)) (K2 : List Int → Option (List Int)) (xs19 : List Int) (i20 : Int) : Option (List Int) :=
  (bif (decide (i20 > 0)) then ((ck (i20 - 1)).bind fun s25 => ((getI xs19 s25).bind fun x28 => ((getI xs19 i20).bind fun x34 => (bif (decide (x28 > x34)) then ((getI xs19 i20).bind fun x42 => ((ck (i20 - 1)).bind fun s47 => ((getI xs19 s47).bind fun x48 => ((getI xs19 i20).bind fun x53 => ((ck (i20 - 1)).bind fun s63 => ((getI (setI xs19 i20 x48) s63).bind fun x64 => ((ck (i20 - 1)).bind fun s74 => (rec2 (setI (setI xs19 i20 x48) s63 x42) s74)))))))) else (K2 xs19))))) else (K2 xs19))
def m_spec_l12Sorted_L2 (K2 : List Int → Option (List Int)) : Nat → List Int → Int → Option (List Int)
  | 0, _, _ => none
  | g + 1, xs19, i20 => m_spec_l12Sorted_B2 (m_spec_l12Sorted_L2 K2 g) K2 xs19 i20
def m_spec_l12Sorted_B1 (rec1 : List Int → Int → Option (List Int)) (K1 : List Int → Option (List Int)) (xs10 : List Int) (i11 : Int) : Option (List Int) :=
  (bif (decide (i11 < (xs10.length : Int))) then (m_spec_l12Sorted_L2 (m_spec_l12Sorted_A2 rec1 i11) (i11.toNat + 2) xs10 i11) else (K1 xs10))
def m_spec_l12Sorted_L1 (K1 : List Int → Option (List Int)) : Nat → List Int → Int → Option (List Int)
  | 0, _, _ => none
  | g + 1, xs10, i11 => m_spec_l12Sorted_B1 (m_spec_l12Sorted_L1 K1 g) K1 xs10 i11
def m_spec_l12Sorted (d0 : List Int) : Option (List Int) :=
  ((m_spec_l00Own d0).bind fun y1 => (m_spec_l12Sorted_L1 m_spec_l12Sorted_A1 (y1.length + 1) y1 1))
set_option maxHeartbeats 2000000 in
theorem c_m_spec_l12Sorted (d0 : List Int) (r : List Int) (hm : m_spec_l12Sorted d0 = some r) (v0 : Value) (w : World) (hv0 : Sl intRd 1 w v0 d0) :
    Calls Tryz.prog 71 #[v0] w fun e w' => (∃ (v0 : Value), e = .returned (v0) ∧ OwF 2 encI 1 w' w.heap.size v0 r) ∧ Below w.heap.size w w' := by
  obtain ⟨Aa0, na0, ca0, rfl, ha0, ra0⟩ := hv0
  have ea0 := ha0.len; subst ea0
  have qa0 := len_le ra0
  have T := Below.refl w.heap.size w
  unfold m_spec_l12Sorted at hm
  refine enter 50 Tryz.func71 rfl rfl rfl ?_
  intro f hf
  have s0 : f 0 = .slice Aa0 d0.length ca0 := hf 0 _ rfl
  refine wp_seq ?_
  refine wp_rs rfl ?_
  refine RQ.y rfl (Y.assign (v := .slice none 0 0) rfl) ?_
  refine RQ.nil ?_
  refine then_n ?_
  refine wp_seq ?_
  refine wp_rl rfl ?_
  refine RL.y rfl (Y.move (v := .slice Aa0 d0.length ca0) s0) ?_
  obtain ⟨y1, e2, hm⟩ := bnd hm
  refine RL.call rfl (am1 rfl) (by kernel_rfl) ((c_m_spec_l00Own d0 _ e2 _ _ (slArg intRd_ok ha0 ra0 T)).mono ?_)
  rintro _ w6 ⟨⟨v3, rfl, G4⟩, hb7⟩
  refine ⟨_, rfl, ?_⟩
  have szw6 := hb7.size
  have T0w6 := T.size
  have T := Tt T hb7
  replace G4 := OwF.mono G4 T0w6
  refine RL.y rfl (Y.assign (v := v3) rfl) ?_
  refine RL.nil ?_
  refine then_n ?_
  refine wp_seq ?_
  refine wp_seq ?_
  refine wp_rs rfl ?_
  refine RQ.y rfl (Y.assign (v := .int .i64 1) rfl) ?_
  refine RQ.nil ?_
  refine then_n ?_
  refine wp_block ?_
  obtain ⟨K1, hK1, hm⟩ : ∃ K, K = m_spec_l12Sorted_A1 ∧ m_spec_l12Sorted_L1 K (y1.length + 1) y1 1 = some r := ⟨_, rfl, hm⟩
  refine wp_loopX (fun g f w' => ∃ (xs10 : List Int) (i11 : Int) (uxs10 : Value), f 3 = uxs10 ∧ OwF 2 encI 1 w' w.heap.size uxs10 xs10 ∧ f 4 = .int .i64 i11 ∧ 0 ≤ i11 ∧ Below w.heap.size w w' ∧ m_spec_l12Sorted_L1 K1 g xs10 i11 = some r) 0 (fun f w' => ∃ (xs8 : List Int) (uxs8 : Value), f 3 = uxs8 ∧ OwF 2 encI 1 w' w.heap.size uxs8 xs8 ∧ Below w.heap.size w w' ∧ m_spec_l12Sorted_A1 xs8 = some r) (y1.length + 1) ⟨y1, 1, (v3), rfl, G4, rfl, (by omega), T, hm⟩ ?_ ?_
  · rintro f w9 ⟨xs8, uxs8, s3_1x, Guxs8, T, hm⟩
    unfold m_spec_l12Sorted_A1 at hm
    refine blk_hit (then_n ?_)
    refine wp_seq ?_
    refine wp_rs rfl ?_
    refine RQ.y rfl (Y.move (v := uxs8) s3_1x) ?_
    refine RQ.y rfl (Y.assign (v := uxs8) rfl) ?_
    refine RQ.nil ?_
    refine then_n ?_
    refine wp_ret ?_
    obtain rfl := Option.some.inj hm
    exact (ret1 rfl rfl rfl ⟨⟨_, rfl, Guxs8⟩, T⟩)
  · rintro g f w12 ⟨xs10, i11, uxs10, s3_1, Guxs10, s4_1, nn4_1, T, hm⟩
    rcases g with _ | g
    · simp only [m_spec_l12Sorted_L1] at hm; cases hm
    obtain ⟨rec1, hrec1, hm⟩ : ∃ z, z = m_spec_l12Sorted_L1 K1 g ∧ m_spec_l12Sorted_B1 z K1 xs10 i11 = some r := ⟨_, rfl, hm⟩
    unfold m_spec_l12Sorted_B1 at hm
    refine wp_seq ?_
    refine wp_seq ?_
    refine wp_rs rfl ?_
    refine RQ.y rfl (Y.move (v := .int .i64 i11) s4_1) ?_
    refine RQ.y rfl (Y.move (v := uxs10) s3_1) ?_
    obtain ⟨A13, c14, rfl⟩ := OwF.form Guxs10
    have qbA13 := OwF.bound Guxs10
    refine RQ.y rfl (Y.len (by kernel_rfl) rfl) ?_
    refine RQ.y rfl (Y.binI (v := .bool (decide (i11 < (xs10.length : Int)))) rfl rfl rfl) ?_
    refine RQ.nil ?_
    refine then_n ?_
    rcases bcases (decide (i11 < (xs10.length : Int))) with c15 | c15
    · replace hm := cF c15 hm
      have pc15 := of_decide_eq_false c15
      refine cond_f rfl (vb rfl c15) ?_
      refine wp_exit ?_
      exact (then_x (then_x (hit_x ⟨_, rfl, ⟨xs10, (.slice A13 xs10.length c14), s3_1, Guxs10, T, (by rw [hK1] at hm; exact hm)⟩⟩)))
    · replace hm := cT c15 hm
      have pc15 := of_decide_eq_true c15
      refine cond_t rfl (vb rfl c15) ?_
      refine wp_skip ?_
      refine then_n ?_
      refine wp_seq ?_
      refine wp_block ?_
      refine wp_seq ?_
      refine wp_rs rfl ?_
      refine RQ.y rfl (Y.move (v := .int .i64 i11) s4_1) ?_
      refine RQ.y rfl (Y.assign (v := .int .i64 i11) rfl) ?_
      refine RQ.nil ?_
      refine then_n ?_
      refine wp_block ?_
      obtain ⟨K2, hK2, hm⟩ : ∃ K, K = (m_spec_l12Sorted_A2 rec1 i11) ∧ m_spec_l12Sorted_L2 K (i11.toNat + 2) xs10 i11 = some r := ⟨_, rfl, hm⟩
      refine wp_loopX (fun g f w' => ∃ (xs19 : List Int) (i20 : Int) (uxs19 : Value), f 4 = .int .i64 i11 ∧ f 3 = uxs19 ∧ OwF 2 encI 1 w' w.heap.size uxs19 xs19 ∧ f 5 = .int .i64 i20 ∧ Below w.heap.size w w' ∧ m_spec_l12Sorted_L2 K2 g xs19 i20 = some r) 2 (fun f w' => ∃ (xs16 : List Int) (uxs16 : Value), f 4 = .int .i64 i11 ∧ f 3 = uxs16 ∧ OwF 2 encI 1 w' w.heap.size uxs16 xs16 ∧ Below w.heap.size w w' ∧ m_spec_l12Sorted_A2 rec1 i11 xs16 = some r) (i11.toNat + 2) ⟨xs10, i11, (.slice A13 xs10.length c14), s4_1, s3_1, Guxs10, rfl, T, hm⟩ ?_ ?_
      · rintro f w17 ⟨xs16, uxs16, s4_2x, s3_2x, Guxs16, T, hm⟩
        unfold m_spec_l12Sorted_A2 at hm
        refine blk_hit (blk_n (then_n ?_))
        refine wp_rs rfl ?_
        refine RQ.y rfl (Y.move (v := .int .i64 i11) s4_2x) ?_
        obtain ⟨s18, ks18, hm⟩ := bnd hm
        replace ks18 := ck_some ks18
        refine RQ.y rfl (Y.binI (v := .int .i64 s18) rfl rfl (by rw [binI_add ks18.2, ks18.1])) ?_
        refine RQ.y rfl (Y.assign (v := .int .i64 s18) rfl) ?_
        refine RQ.nil ?_
        exact (then_n ⟨g, _, Nat.lt_succ_self _, rfl, ⟨xs16, s18, (uxs16), s3_2x, Guxs16, rfl, (by omega), T, (by rw [← hrec1]; exact hm)⟩⟩)
      · rintro g f w21 ⟨xs19, i20, uxs19, s4_2, s3_2, Guxs19, s5_2, T, hm⟩
        rcases g with _ | g
        · simp only [m_spec_l12Sorted_L2] at hm; cases hm
        obtain ⟨rec2, hrec2, hm⟩ : ∃ z, z = m_spec_l12Sorted_L2 K2 g ∧ m_spec_l12Sorted_B2 z K2 xs19 i20 = some r := ⟨_, rfl, hm⟩
        unfold m_spec_l12Sorted_B2 at hm
        refine wp_seq ?_
        refine wp_seq ?_
        refine wp_rbd (by kernel_rfl) (by kernel_rfl) ?_
        refine RQ.y rfl (Y.move (v := .int .i64 i20) s5_2) ?_
        refine RQ.y rfl (Y.binI (v := .bool (decide (i20 > 0))) rfl rfl rfl) ?_
        refine RQ.y rfl (Y.move (v := .bool (decide (i20 > 0))) rfl) ?_
        rcases bcases (decide (i20 > 0)) with c22 | c22
        · replace hm := cF c22 hm
          have pc22 := of_decide_eq_false c22
          refine RQ.skip (wantN (dj := 18) rfl (vb rfl c22) rfl) ?_
          refine RQ.skip (wantN (dj := 18) rfl (vb rfl c22) rfl) ?_
          refine RQ.skip (wantN (dj := 18) rfl (vb rfl c22) rfl) ?_
          refine RQ.skip (wantN (dj := 18) rfl (vb rfl c22) rfl) ?_
          refine RQ.skip (wantN (dj := 18) rfl (vb rfl c22) rfl) ?_
          refine RQ.skip (wantN (dj := 18) rfl (vb rfl c22) rfl) ?_
          refine RQ.skip (wantN (dj := 18) rfl (vb rfl c22) rfl) ?_
          refine RQ.skip (wantN (dj := 18) rfl (vb rfl c22) rfl) ?_
          refine RQ.skip (wantN (dj := 18) rfl (vb rfl c22) rfl) ?_
          refine RQ.skip (wantN (dj := 18) rfl (vb rfl c22) rfl) ?_
          refine RQ.y rfl (Y.pick (b := false) (v := .bool false) (vb rfl c22) rfl) ?_
          refine RQ.nil ?_
          intro w23 hb24
          have szw23 := hb24.size
          have Guxs19 := OwF.below Guxs19 hb24
          have T := Tt T hb24
          refine then_n ?_
          refine cond_f rfl rfl ?_
          refine wp_exit ?_
          exact (then_x (then_x (hit_x ⟨_, rfl, ⟨xs19, (uxs19), s4_2, s3_2, Guxs19, T, (by rw [hK2] at hm; exact hm)⟩⟩)))
        · replace hm := cT c22 hm
          have pc22 := of_decide_eq_true c22
          refine RQ.y (wantT (dj := 18) rfl (vb rfl c22)) (Y.move (v := uxs19) s3_2) ?_
          refine RQ.y (wantT (dj := 18) rfl (vb rfl c22)) (Y.move (v := .int .i64 i20) s5_2) ?_
          obtain ⟨s25, ks25, hm⟩ := bnd hm
          replace ks25 := ck_some ks25
          refine RQ.y (wantT (dj := 18) rfl (vb rfl c22)) (Y.binI (v := .int .i64 s25) rfl rfl (by rw [binI_sub ks25.2, ks25.1])) ?_
          obtain ⟨A26, c27, rfl⟩ := OwF.form Guxs19
          have qbA26 := OwF.bound Guxs19
          obtain ⟨x28, hx30, hm⟩ := bnd hm
          obtain ⟨k29, hk31, hl32, hx30⟩ := getI_some hx30
          obtain ⟨b33, rfl⟩ := OwF.addr0 Guxs19 (by omega)
          refine RQ.y (wantT (dj := 18) rfl (vb rfl c22)) (Y.indexAddr (m := k29) (sz := 1) rfl rfl hk31 hl32 (by kernel_rfl)) ?_
          refine RQ.y (wantT (dj := 18) rfl (vb rfl c22)) (Y.load (v := .int .i64 x28) rfl (by kernel_rfl) (beC (OwF.cell fI Guxs19 hx30 (j := 0) rfl))) ?_
          refine RQ.y (wantT (dj := 18) rfl (vb rfl c22)) (Y.move (v := .slice (some ⟨b33, 0, none⟩) xs19.length c27) s3_2) ?_
          refine RQ.y (wantT (dj := 18) rfl (vb rfl c22)) (Y.move (v := .int .i64 i20) s5_2) ?_
          obtain ⟨x34, hx36, hm⟩ := bnd hm
          obtain ⟨k35, hk37, hl38, hx36⟩ := getI_some hx36
          refine RQ.y (wantT (dj := 18) rfl (vb rfl c22)) (Y.indexAddr (m := k35) (sz := 1) rfl rfl hk37 hl38 (by kernel_rfl)) ?_
          refine RQ.y (wantT (dj := 18) rfl (vb rfl c22)) (Y.load (v := .int .i64 x34) rfl (by kernel_rfl) (beC (OwF.cell fI Guxs19 hx36 (j := 0) rfl))) ?_
          refine RQ.y (wantT (dj := 18) rfl (vb rfl c22)) (Y.binI (v := .bool (decide (x28 > x34))) rfl rfl rfl) ?_
          refine RQ.y rfl (Y.pick (b := true) (v := .bool (decide (x28 > x34))) (vb rfl c22) rfl) ?_
          refine RQ.nil ?_
          intro w39 hb40
          have szw39 := hb40.size
          have Guxs19 := OwF.below Guxs19 hb40
          have T := Tt T hb40
          refine then_n ?_
          rcases bcases (decide (x28 > x34)) with c41 | c41
          · replace hm := cF c41 hm
            have pc41 := of_decide_eq_false c41
            refine cond_f rfl (vb rfl c41) ?_
            refine wp_exit ?_
            exact (then_x (then_x (hit_x ⟨_, rfl, ⟨xs19, (.slice (some ⟨b33, 0, none⟩) xs19.length c27), s4_2, s3_2, Guxs19, T, (by rw [hK2] at hm; exact hm)⟩⟩)))
          · replace hm := cT c41 hm
            have pc41 := of_decide_eq_true c41
            refine cond_t rfl (vb rfl c41) ?_
            refine wp_skip ?_
            refine then_n ?_
            refine wp_seq ?_
            refine wp_block ?_
            refine wp_seq ?_
            refine wp_rs rfl ?_
            refine RQ.y rfl (Y.move (v := .slice (some ⟨b33, 0, none⟩) xs19.length c27) s3_2) ?_
            refine RQ.y rfl (Y.move (v := .int .i64 i20) s5_2) ?_
            obtain ⟨x42, hx44, hm⟩ := bnd hm
            obtain ⟨k43, hk45, hl46, hx44⟩ := getI_some hx44
            refine RQ.y rfl (Y.indexAddr (m := k43) (sz := 1) rfl rfl hk45 hl46 (by kernel_rfl)) ?_
            refine RQ.y rfl (Y.load (v := .int .i64 x42) rfl (by kernel_rfl) (eqC (OwF.cell fI Guxs19 hx44 (j := 0) rfl))) ?_
            refine RQ.y rfl (Y.assign (v := .int .i64 x42) rfl) ?_
            refine RQ.nil ?_
            refine then_n ?_
            refine wp_seq ?_
            refine wp_rl rfl ?_
            refine RL.y rfl (Y.move (v := .slice (some ⟨b33, 0, none⟩) xs19.length c27) s3_2) ?_
            refine RL.y rfl (Y.move (v := .int .i64 i20) s5_2) ?_
            refine RL.y rfl (Y.move (v := .slice (some ⟨b33, 0, none⟩) xs19.length c27) s3_2) ?_
            refine RL.y rfl (Y.move (v := .int .i64 i20) s5_2) ?_
            obtain ⟨s47, ks47, hm⟩ := bnd hm
            replace ks47 := ck_some ks47
            refine RL.y rfl (Y.binI (v := .int .i64 s47) rfl rfl (by rw [binI_sub ks47.2, ks47.1])) ?_
            obtain ⟨x48, hx50, hm⟩ := bnd hm
            obtain ⟨k49, hk51, hl52, hx50⟩ := getI_some hx50
            refine RL.y rfl (Y.indexAddr (m := k49) (sz := 1) rfl rfl hk51 hl52 (by kernel_rfl)) ?_
            refine RL.y rfl (Y.load (v := .int .i64 x48) rfl (by kernel_rfl) (eqC (OwF.cell fI Guxs19 hx50 (j := 0) rfl))) ?_
            obtain ⟨x53, hx55, hm⟩ := bnd hm
            obtain ⟨k54, hk56, hl57, hx55⟩ := getI_some hx55
            refine RL.y rfl (Y.indexAddr (m := k54) (sz := 1) rfl rfl hk56 hl57 (by kernel_rfl)) ?_
            refine RL.storeF (k := k54) (a := x48) fI rfl rfl rfl Guxs19 hl57 rfl (by kernel_rfl) (fun w58 G59 ho60 => ?_)
            have szw58 := ho60.size
            have T := T.trans (ho60.below (by intro b hb; simp at hb; subst hb; exact OwF.lo_ Guxs19 _ rfl))
            have G59 : OwF 2 encI 1 w58 w.heap.size (.slice (some ⟨b33, 0, none⟩) xs19.length c27) (setI xs19 i20 x48) := by rw [hk56, setI_nat]; exact G59
            have hx61 : (setI xs19 i20 x48)[k54]? = some x48 := setI_at hk56 hl57
            have hl62 := lt_of_some hx61
            refine RL.nil ?_
            refine then_n ?_
            refine wp_rl rfl ?_
            refine RL.y rfl (Y.move (v := .slice (some ⟨b33, 0, none⟩) xs19.length c27) s3_2) ?_
            refine RL.y rfl (Y.move (v := .int .i64 i20) s5_2) ?_
            obtain ⟨s63, ks63, hm⟩ := bnd hm
            replace ks63 := ck_some ks63
            refine RL.y rfl (Y.binI (v := .int .i64 s63) rfl rfl (by rw [binI_sub ks63.2, ks63.1])) ?_
            refine RL.y rfl (Y.move (v := .int .i64 x42) rfl) ?_
            obtain ⟨x64, hx66, hm⟩ := bnd hm
            obtain ⟨k65, hk67, hl68, hx66⟩ := getI_some hx66
            refine RL.y rfl (Y.indexAddr (m := k65) (sz := 1) rfl rfl hk67 (by simpa [setI] using hl68) (by kernel_rfl)) ?_
            refine RL.storeF (k := k65) (a := x42) fI rfl rfl rfl G59 hl68 rfl (by kernel_rfl) (fun w69 G70 ho71 => ?_)
            have szw69 := ho71.size
            have T := T.trans (ho71.below (by intro b hb; simp at hb; subst hb; exact OwF.lo_ G59 _ rfl))
            have G70 : OwF 2 encI 1 w69 w.heap.size (.slice (some ⟨b33, 0, none⟩) xs19.length c27) (setI (setI xs19 i20 x48) s63 x42) := by rw [hk67, setI_nat]; exact G70
            have hx72 : (setI (setI xs19 i20 x48) s63 x42)[k65]? = some x42 := setI_at hk67 hl68
            have hl73 := lt_of_some hx72
            refine RL.nil ?_
            refine blk_n (then_n ?_)
            refine wp_rs rfl ?_
            refine RQ.y rfl (Y.move (v := .int .i64 i20) s5_2) ?_
            obtain ⟨s74, ks74, hm⟩ := bnd hm
            replace ks74 := ck_some ks74
            refine RQ.y rfl (Y.binI (v := .int .i64 s74) rfl rfl (by rw [binI_sub ks74.2, ks74.1])) ?_
            refine RQ.y rfl (Y.assign (v := .int .i64 s74) rfl) ?_
            refine RQ.nil ?_
            exact (then_n ⟨g, _, Nat.lt_succ_self _, rfl, ⟨(setI (setI xs19 i20 x48) s63 x42), s74, (.slice (some ⟨b33, 0, none⟩) xs19.length c27), s4_2, s3_2, G70, rfl, T, (by rw [← hrec2]; exact hm)⟩⟩)
end
section
open Go.RowKit
set_option linter.unusedVariables false
set_option linter.unusedSimpArgs false
theorem insR_app (x : Int) : ∀ (P Q R : List Int), insR x P (Q ++ R) = insR x P Q ++ R
  | [], Q, R => by simp [insR]
  | p :: P, Q, R => by
    unfold insR
    split
    · rw [← List.cons_append]; exact insR_app x P (p :: Q) R
    · simp
theorem sort_inner (K2 : List Int → Option (List Int)) : ∀ (P Q : List Int) (x : Int) (g : Nat), P.length < g → P.length ≤ 4294967296 → m_spec_l12Sorted_L2 K2 g (P.reverse ++ x :: Q) (P.length : Int) = K2 (insR x P Q)
  | [], Q, x, g + 1, _, _ => by
    simp -implicitDefEqProofs only [m_spec_l12Sorted_L2, m_spec_l12Sorted_B2, insR]
    rw [show decide (((([] : List Int).length : Nat) : Int) > 0) = false from rfl, cond_false]
    rfl
  | p :: P, Q, x, g + 1, hg, hP => by
    simp only [List.length_cons] at hg hP
    have e1 : ((p :: P).reverse ++ x :: Q)[P.length]? = some p := by
      rw [List.getElem?_append_left (by simp), List.getElem?_reverse (by simp)]; simp
    have e2 : ((p :: P).reverse ++ x :: Q)[P.length + 1]? = some x := by
      rw [List.getElem?_append_right (by simp)]; simp
    have hk : (((p :: P).length : Nat) : Int) = ((P.length + 1 : Nat) : Int) := by simp
    have hc : ck (((P.length + 1 : Nat) : Int) - 1) = some ((P.length : Nat) : Int) := by
      rw [show ((P.length + 1 : Nat) : Int) - 1 = (P.length : Int) by omega]; exact ck_ok (by omega)
    rw [hk]
    have ih := sort_inner K2 P (p :: Q) x g (by omega) (by omega)
    simp -implicitDefEqProofs only [m_spec_l12Sorted_L2, m_spec_l12Sorted_B2]
    rw [show decide (((P.length + 1 : Nat) : Int) > 0) = true from decide_eq_true (by omega), cond_true, hc]
    simp -implicitDefEqProofs only [Option.bind_some, getI_nat e1, getI_nat e2]
    by_cases h : p > x
    · rw [decide_eq_true h, cond_true]
      rw [setI_nat]
      have e3 : (((p :: P).reverse ++ x :: Q).set (P.length + 1) p)[P.length]? = some p := by
        rw [List.getElem?_set]; rw [if_neg (by omega)]; exact e1
      simp -implicitDefEqProofs only [getI_nat e3, Option.bind_some]
      rw [setI_nat]
      have e4 : (((p :: P).reverse ++ x :: Q).set (P.length + 1) p).set P.length x = P.reverse ++ x :: (p :: Q) := by
        rw [List.reverse_cons, List.append_assoc, List.singleton_append, List.set_append_right _ _ (by simp), List.set_append_right _ _ (by simp)]
        simp
      rw [e4]
      rw [show insR x (p :: P) Q = insR x P (p :: Q) by rw [insR, if_pos h]]
      exact ih
    · rw [decide_eq_false h, cond_false]
      rw [show insR x (p :: P) Q = (p :: P).reverse ++ (x :: Q) by rw [insR, if_neg h]]
theorem p_sSorted (l : List Int) (hl : l.length ≤ 4294967296) : m_spec_l12Sorted l = some (srt l) := by
  unfold m_spec_l12Sorted m_spec_l00Own
  rw [mustP_ok (by simpa using hl), Option.bind_some, Option.bind_some, List.nil_append]
  cases hn : l.length with
  | zero =>
    have h0 : l = [] := List.eq_nil_of_length_eq_zero hn
    subst h0
    simp -implicitDefEqProofs only [m_spec_l12Sorted_L1, m_spec_l12Sorted_B1]
    rw [show decide ((1 : Int) < ((([] : List Int).length : Nat) : Int)) = false from rfl, cond_false]
    unfold m_spec_l12Sorted_A1
    rw [show srt [] = [] from List.eq_nil_of_length_eq_zero (srt_len [])]
  | succ n =>
    have h1 : insK l 1 ++ l.drop 1 = l := by
      cases l with
      | nil => simp at hn
      | cons a l => rfl
    have k1 := traj (L := fun g (s : List Int × Int) => m_spec_l12Sorted_L1 m_spec_l12Sorted_A1 g s.1 s.2) (st := fun k => (insK l (k + 1) ++ l.drop (k + 1), ((k + 1 : Nat) : Int))) (n := n) (r := some (srt l))
      (fun g k hk => by
        have hx := List.getElem?_eq_getElem (show k + 1 < l.length by omega)
        have hlen := insK_len l (k + 1) (by omega)
        have hd : l.drop (k + 1) = l[k + 1] :: l.drop (k + 2) := List.drop_eq_getElem_cons (by omega)
        have hi := sort_inner (m_spec_l12Sorted_A2 (m_spec_l12Sorted_L1 m_spec_l12Sorted_A1 g) ((k + 1 : Nat) : Int)) (insK l (k + 1)).reverse (l.drop (k + 2)) l[k + 1] (((k + 1 : Nat) : Int).toNat + 2) (by rw [List.length_reverse, hlen]; omega) (by rw [List.length_reverse, hlen]; omega)
        rw [List.length_reverse, hlen, List.reverse_reverse, ← hd] at hi
        have hg : insK l (k + 2) = insR l[k + 1] (insK l (k + 1)).reverse [] := by
          rw [insK, List.getD_eq_getElem?_getD, hx]; rfl
        have hR := insR_app l[k + 1] (insK l (k + 1)).reverse [] (l.drop (k + 2))
        rw [List.nil_append, ← hg] at hR
        simp -implicitDefEqProofs only [m_spec_l12Sorted_L1, m_spec_l12Sorted_B1]
        rw [show decide (((k + 1 : Nat) : Int) < ((insK l (k + 1) ++ l.drop (k + 1)).length : Int)) = true by rw [List.length_append, hlen, List.length_drop]; simp; omega, cond_true, hi, hR]
        unfold m_spec_l12Sorted_A2
        rw [ck_ok (by omega), Option.bind_some]
        rw [show ((k + 1 : Nat) : Int) + 1 = ((k + 1 + 1 : Nat) : Int) by omega])
      (fun g => by
        have hlen := insK_len l (n + 1) (by omega)
        have hd : l.drop (n + 1) = [] := List.drop_eq_nil_of_le (by omega)
        simp -implicitDefEqProofs only [m_spec_l12Sorted_L1, m_spec_l12Sorted_B1]
        rw [hd, List.append_nil, hlen]
        rw [dge, cond_false]
        unfold m_spec_l12Sorted_A1
        rw [← hn, insK_all]) (n + 1 + 1) (by omega)
    simp only [h1] at k1
    exact k1
theorem GL.srt {n : Nat} {l : List Int} (h : GL n l) : GL n (srt l) := ⟨(srt_perm l).nodup_iff.2 h.nd, fun a ha => h.inr a (srt_mem.1 ha)⟩
end
section
open Go.RowKit
set_option linter.unusedVariables false
set_option linter.unusedSimpArgs false
set_option maxRecDepth 100000
def m_spec_l12Parts_A1 (xs15 : List (List Int)) : Option (List (List Int)) :=
  some xs15
def m_spec_l12Parts_A2 (rec1 : List (List Int) → List Bool → Int → Option (List (List Int))) (xs17 : List (List Int)) (i19 : Int) (y31 : (List Int) × (List Int)) (xs41 : List Bool) : Option (List (List Int)) :=
  ((m_spec_l12Sorted y31.1).bind fun y43 => ((mustP (xs17.length + ([y43]).length ≤ 4294967296)).bind fun _ => ((ck (i19 + 1)).bind fun s79 => (rec1 (xs17 ++ [y43]) xs41 s79))))
def m_spec_l12Parts_B2 (y31 : (List Int) × (List Int)) (rec2 : List Bool → Int → Option (List (List Int))) (K2 : List Bool → Option (List (List Int))) (xs80 : List Bool) (i81 : Int) : Option (List (List Int)) :=
  (bif (decide (i81 < (y31.1.length : Int))) then ((getI y31.1 i81).bind fun x86 => ((getI xs80 x86).bind fun x94 => (rec2 (setI xs80 x86 true) (i81 + 1)))) else (K2 xs80))
def m_spec_l12Parts_L2 (y31 : (List Int) × (List Int)) (K2 : List Bool → Option (List (List Int))) : Nat → List Bool → Int → Option (List (List Int))
  | 0, _, _ => none
  | g + 1, xs80, i81 => m_spec_l12Parts_B2 y31 (m_spec_l12Parts_L2 y31 K2 g) K2 xs80 i81
def m_spec_l12Parts_B1 (d0 : DNet) (rec1 : List (List Int) → List Bool → Int → Option (List (List Int))) (K1 : List (List Int) → Option (List (List Int))) (xs17 : List (List Int)) (xs18 : List Bool) (i19 : Int) : Option (List (List Int)) :=
  (bif (decide (i19 < (d0.agents.length : Int))) then ((getI xs18 i19).bind fun x24 => (bif x24 then (rec1 xs17 xs18 (i19 + 1)) else ((m_spec_l12Traverse d0 i19).bind fun y31 => (m_spec_l12Parts_L2 y31 (m_spec_l12Parts_A2 rec1 xs17 i19 y31) (y31.1.length + 1) xs18 0)))) else (K1 xs17))
def m_spec_l12Parts_L1 (d0 : DNet) (K1 : List (List Int) → Option (List (List Int))) : Nat → List (List Int) → List Bool → Int → Option (List (List Int))
  | 0, _, _, _ => none
  | g + 1, xs17, xs18, i19 => m_spec_l12Parts_B1 d0 (m_spec_l12Parts_L1 d0 K1 g) K1 xs17 xs18 i19
def m_spec_l12Parts (d0 : DNet) : Option (List (List Int)) :=
  ((mustP (d0.agents.length ≤ 4294967296)).bind fun _ => (m_spec_l12Parts_L1 d0 m_spec_l12Parts_A1 (d0.agents.length + 1) ([] : List (List Int)) (List.replicate d0.agents.length false) 0))
set_option maxHeartbeats 2000000 in
theorem c_m_spec_l12Parts (d0 : DNet) (r : List (List Int)) (hm : m_spec_l12Parts d0 = some r) (v0 : Value) (w : World) (hv0 : Pt netRd w v0 d0) :
    Calls Tryz.prog 41 #[v0] w fun e w' => (∃ (v0 : Value) (bs0 : List Nat), e = .returned (v0) ∧ OwN 26 (slOw intOw 1) 1 w' w.heap.size v0 r bs0) ∧ Below w.heap.size w w' := by
  obtain ⟨ba0, oa0, csa0, rfl, hba0, hRa0, hca0⟩ := hv0
  have hSa0 := hRa0
  obtain ⟨A1, n1, c1, rfl, ⟨h1, r1⟩⟩ := hRa0
  have e1 := h1.len; subst e1
  have q1 := len_le r1
  have T := Below.refl w.heap.size w
  unfold m_spec_l12Parts at hm
  refine enter 53 Tryz.func41 rfl rfl rfl ?_
  intro f hf
  have s0 : f 0 = .pointer (some ⟨ba0, oa0, none⟩) := hf 0 _ rfl
  refine wp_seq ?_
  refine wp_rs rfl ?_
  refine RQ.y rfl (Y.assign (v := .slice none 0 0) rfl) ?_
  refine RQ.nil ?_
  refine then_n ?_
  refine wp_seq ?_
  refine wp_rl rfl ?_
  refine RL.bslice (e := 26) (cells := #[]) rfl pm0 (by kernel_rfl) (fun w2 B3 hb4 szw2 => ?_)
  have ZB3 : w.heap.size ≤ w.heap.size := T.size
  have T := Tt T hb4
  have G6 : OwN 26 (slOw intOw 1) 1 w2 w.heap.size (.slice (some ⟨w.heap.size, 0, none⟩) 0 0) ([] : List (List Int)) [w.heap.size] := OwN.lit0 B3 ZB3 rfl
  refine RL.y rfl (Y.assign (v := .slice (some ⟨w.heap.size, 0, none⟩) 0 0) rfl) ?_
  refine RL.nil ?_
  refine then_n ?_
  refine wp_seq ?_
  refine wp_rl rfl ?_
  refine RL.y rfl (Y.move (v := .pointer (some ⟨ba0, oa0, none⟩)) s0) ?_
  refine RL.y rfl (Y.nilCheck rfl) ?_
  refine RL.y rfl (Y.fieldAddr (off := 0) rfl (by kernel_rfl)) ?_
  refine RL.y rfl (Y.load (v := .slice A1 d0.agents.length c1) rfl (by kernel_rfl) (eqC (cellT T (hca0 0 _ rfl)))) ?_
  refine RL.y rfl (Y.len (by kernel_rfl) rfl) ?_
  obtain ⟨_, m8, hm⟩ := bnd hm
  have hk9 := mustP_some m8
  refine RL.make (enc := encB) (z0 := false) (n := d0.agents.length) app_bool (by decide) rfl rfl rfl rfl hk9 (fun w10 G11 hb12 szw10 => ?_)
  replace G11 := OwF.mono G11 T.size
  have Do13_o5 : Ap ([w.heap.size]) [w2.heap.size] := Ap.far (OwN.hi G6)
  have G6 := OwN.below (slOw_ok intOw_ok) G6 hb12
  have T := Tt T hb12
  refine RL.y rfl (Y.assign (v := .slice (some ⟨w2.heap.size, 0, none⟩) d0.agents.length d0.agents.length) rfl) ?_
  refine RL.nil ?_
  refine then_n ?_
  refine wp_seq ?_
  refine wp_seq ?_
  refine wp_rs rfl ?_
  refine RQ.y rfl (Y.assign (v := .int .i64 0) rfl) ?_
  refine RQ.nil ?_
  refine then_n ?_
  refine wp_block ?_
  obtain ⟨K1, hK1, hm⟩ : ∃ K, K = m_spec_l12Parts_A1 ∧ m_spec_l12Parts_L1 d0 K (d0.agents.length + 1) ([] : List (List Int)) (List.replicate d0.agents.length false) 0 = some r := ⟨_, rfl, hm⟩
  refine wp_loopX (fun g f w' => ∃ (xs17 : List (List Int)) (xs18 : List Bool) (i19 : Int) (uxs17 : Value) (bsxs17 : List Nat) (uxs18 : Value), f 0 = .pointer (some ⟨ba0, oa0, none⟩) ∧ f 3 = uxs17 ∧ OwN 26 (slOw intOw 1) 1 w' w.heap.size uxs17 xs17 bsxs17 ∧ f 4 = uxs18 ∧ OwF 4 encB 1 w' w.heap.size uxs18 xs18 ∧ f 5 = .int .i64 i19 ∧ 0 ≤ i19 ∧ Ap (fb uxs18) bsxs17 ∧ Below w.heap.size w w' ∧ m_spec_l12Parts_L1 d0 K1 g xs17 xs18 i19 = some r) 0 (fun f w' => ∃ (xs15 : List (List Int)) (uxs15 : Value) (bsxs15 : List Nat), f 3 = uxs15 ∧ OwN 26 (slOw intOw 1) 1 w' w.heap.size uxs15 xs15 bsxs15 ∧ Below w.heap.size w w' ∧ m_spec_l12Parts_A1 xs15 = some r) (d0.agents.length + 1) ⟨([] : List (List Int)), (List.replicate d0.agents.length false), 0, (.slice (some ⟨w.heap.size, 0, none⟩) 0 0), ([w.heap.size]), (.slice (some ⟨w2.heap.size, 0, none⟩) d0.agents.length d0.agents.length), s0, rfl, G6, rfl, G11, rfl, (by omega), (Ap.symm Do13_o5), T, hm⟩ ?_ ?_
  · rintro f w16 ⟨xs15, uxs15, bsxs15, s3_1x, Guxs15, T, hm⟩
    unfold m_spec_l12Parts_A1 at hm
    refine blk_hit (then_n ?_)
    refine wp_seq ?_
    refine wp_rs rfl ?_
    refine RQ.y rfl (Y.move (v := uxs15) s3_1x) ?_
    refine RQ.y rfl (Y.assign (v := uxs15) rfl) ?_
    refine RQ.nil ?_
    refine then_n ?_
    refine wp_ret ?_
    obtain rfl := Option.some.inj hm
    exact (ret1 rfl rfl rfl ⟨⟨_, _, rfl, Guxs15⟩, T⟩)
  · rintro g f w20 ⟨xs17, xs18, i19, uxs17, bsxs17, uxs18, s0_1, s3_1, Guxs17, s4_1, Guxs18, s5_1, nn5_1, Doxs18_oxs17, T, hm⟩
    rcases g with _ | g
    · simp only [m_spec_l12Parts_L1] at hm; cases hm
    obtain ⟨rec1, hrec1, hm⟩ : ∃ z, z = m_spec_l12Parts_L1 d0 K1 g ∧ m_spec_l12Parts_B1 d0 z K1 xs17 xs18 i19 = some r := ⟨_, rfl, hm⟩
    unfold m_spec_l12Parts_B1 at hm
    refine wp_seq ?_
    refine wp_seq ?_
    refine wp_rs rfl ?_
    refine RQ.y rfl (Y.move (v := .int .i64 i19) s5_1) ?_
    refine RQ.y rfl (Y.move (v := .pointer (some ⟨ba0, oa0, none⟩)) s0_1) ?_
    refine RQ.y rfl (Y.nilCheck rfl) ?_
    refine RQ.y rfl (Y.fieldAddr (off := 0) rfl (by kernel_rfl)) ?_
    refine RQ.y rfl (Y.load (v := .slice A1 d0.agents.length c1) rfl (by kernel_rfl) (eqC (cellT T (hca0 0 _ rfl)))) ?_
    refine RQ.y rfl (Y.len (by kernel_rfl) rfl) ?_
    refine RQ.y rfl (Y.binI (v := .bool (decide (i19 < (d0.agents.length : Int)))) rfl rfl rfl) ?_
    refine RQ.nil ?_
    refine then_n ?_
    rcases bcases (decide (i19 < (d0.agents.length : Int))) with c21 | c21
    · replace hm := cF c21 hm
      have pc21 := of_decide_eq_false c21
      refine cond_f rfl (vb rfl c21) ?_
      refine wp_exit ?_
      exact (then_x (then_x (hit_x ⟨_, rfl, ⟨xs17, (uxs17), bsxs17, s3_1, Guxs17, T, (by rw [hK1] at hm; exact hm)⟩⟩)))
    · replace hm := cT c21 hm
      have pc21 := of_decide_eq_true c21
      refine cond_t rfl (vb rfl c21) ?_
      refine wp_skip ?_
      refine then_n ?_
      refine wp_seq ?_
      refine wp_block ?_
      refine wp_seq ?_
      refine wp_seq ?_
      refine wp_rs rfl ?_
      refine RQ.y rfl (Y.move (v := uxs18) s4_1) ?_
      refine RQ.y rfl (Y.move (v := .int .i64 i19) s5_1) ?_
      obtain ⟨A22, c23, rfl⟩ := OwF.form Guxs18
      have qbA22 := OwF.bound Guxs18
      obtain ⟨x24, hx26, hm⟩ := bnd hm
      obtain ⟨k25, hk27, hl28, hx26⟩ := getI_some hx26
      obtain ⟨b29, rfl⟩ := OwF.addr0 Guxs18 (by omega)
      refine RQ.y rfl (Y.indexAddr (m := k25) (sz := 1) rfl rfl hk27 hl28 (by kernel_rfl)) ?_
      refine RQ.y rfl (Y.load (v := .bool x24) rfl (by kernel_rfl) (eqC (OwF.cell fB Guxs18 hx26 (j := 0) rfl))) ?_
      refine RQ.nil ?_
      refine then_n ?_
      rcases bcases x24 with c30 | c30
      · replace hm := cF c30 hm
        refine cond_f rfl (vb rfl c30) ?_
        refine wp_skip ?_
        refine then_n ?_
        refine wp_seq ?_
        refine wp_rl rfl ?_
        refine RL.y rfl (Y.move (v := .pointer (some ⟨ba0, oa0, none⟩)) s0_1) ?_
        refine RL.y rfl (Y.move (v := .int .i64 i19) s5_1) ?_
        obtain ⟨y31, e32, hm⟩ := bnd hm
        refine RL.call rfl (am2 rfl rfl) (by kernel_rfl) ((c_m_spec_l12Traverse d0 i19 _ e32 _ _ (ptArg netRd_ok hba0 hSa0 hca0 T)).mono ?_)
        rintro _ w39 ⟨⟨v33, v36, rfl, G34, G37, Ro35_o38⟩, hb40⟩
        refine ⟨_, rfl, ?_⟩
        have szw39 := hb40.size
        have T0w39 := T.size
        have Zo35_oxs17 : Ap (fb v33) bsxs17 := (Ap.new (OwF.flo G34) (OwN.hi Guxs17))
        have Zo35_oxs18 := Ap.dj (Ap.new (OwF.flo G34) (OwF.fhi Guxs18))
        have Zo38_oxs17 : Ap (fb v36) bsxs17 := (Ap.new (OwF.flo G37) (OwN.hi Guxs17))
        have Zo38_oxs18 := Ap.dj (Ap.new (OwF.flo G37) (OwF.fhi Guxs18))
        have Guxs17 := OwN.below (slOw_ok intOw_ok) Guxs17 hb40
        have Guxs18 := OwF.below Guxs18 hb40
        have T := Tt T hb40
        replace G34 := OwF.mono G34 T0w39
        replace G37 := OwF.mono G37 T0w39
        refine RL.y rfl (Y.move (v := .tuple #[v33, v36]) rfl) ?_
        refine RL.y rfl (Y.extract (i := 0) rfl rfl) ?_
        refine RL.y rfl (Y.extract (i := 1) rfl rfl) ?_
        refine RL.y rfl (Y.assign (v := v33) rfl) ?_
        refine RL.y rfl (Y.assign (v := v36) rfl) ?_
        refine RL.nil ?_
        refine then_n ?_
        refine wp_seq ?_
        refine wp_seq ?_
        refine wp_rs rfl ?_
        refine RQ.y rfl (Y.assign (v := .int .i64 0) rfl) ?_
        refine RQ.nil ?_
        refine then_n ?_
        refine wp_block ?_
        obtain ⟨K2, hK2, hm⟩ : ∃ K, K = (m_spec_l12Parts_A2 rec1 xs17 i19 y31) ∧ m_spec_l12Parts_L2 y31 K (y31.1.length + 1) xs18 0 = some r := ⟨_, rfl, hm⟩
        refine wp_loopX (fun g f w' => ∃ (xs80 : List Bool) (i81 : Int) (uxs80 : Value), f 0 = .pointer (some ⟨ba0, oa0, none⟩) ∧ f 3 = uxs17 ∧ f 5 = .int .i64 i19 ∧ f 6 = v33 ∧ f 4 = uxs80 ∧ OwF 4 encB 1 w' w.heap.size uxs80 xs80 ∧ f 8 = .int .i64 i81 ∧ 0 ≤ i81 ∧ Ap (fb uxs80) bsxs17 ∧ Dj uxs80 v33 ∧ OwN 26 (slOw intOw 1) 1 w' w.heap.size uxs17 xs17 bsxs17 ∧ OwF 2 encI 1 w' w.heap.size v33 y31.1 ∧ Below w.heap.size w w' ∧ m_spec_l12Parts_L2 y31 K2 g xs80 i81 = some r) 2 (fun f w' => ∃ (xs41 : List Bool) (uxs41 : Value), f 0 = .pointer (some ⟨ba0, oa0, none⟩) ∧ f 3 = uxs17 ∧ f 5 = .int .i64 i19 ∧ f 6 = v33 ∧ f 4 = uxs41 ∧ OwF 4 encB 1 w' w.heap.size uxs41 xs41 ∧ Ap (fb uxs41) bsxs17 ∧ Dj uxs41 v33 ∧ OwN 26 (slOw intOw 1) 1 w' w.heap.size uxs17 xs17 bsxs17 ∧ OwF 2 encI 1 w' w.heap.size v33 y31.1 ∧ Below w.heap.size w w' ∧ m_spec_l12Parts_A2 rec1 xs17 i19 y31 xs41 = some r) (y31.1.length + 1) ⟨xs18, 0, (.slice (some ⟨b29, 0, none⟩) xs18.length c23), s0_1, s3_1, s5_1, rfl, s4_1, Guxs18, rfl, (by omega), Doxs18_oxs17, (Ap.dj (Ap.symm (Dj.ap Zo35_oxs18))), Guxs17, G34, T, hm⟩ ?_ ?_
        · rintro f w42 ⟨xs41, uxs41, s0_2x, s3_2x, s5_2x, s6_2x, s4_2x, Guxs41, Doxs41_oxs17, Doxs41_o35, Guxs17, G34, T, hm⟩
          unfold m_spec_l12Parts_A2 at hm
          refine blk_hit (then_n ?_)
          refine wp_rl rfl ?_
          refine RL.y rfl (Y.move (v := uxs17) s3_2x) ?_
          refine RL.y rfl (Y.move (v := v33) s6_2x) ?_
          obtain ⟨y43, e44, hm⟩ := bnd hm
          refine RL.call rfl (am1 rfl) (by kernel_rfl) ((c_m_spec_l12Sorted y31.1 _ e44 _ _ (OwF.arg fI G34)).mono ?_)
          rintro _ w48 ⟨⟨v45, rfl, G46⟩, hb49⟩
          refine ⟨_, rfl, ?_⟩
          have szw48 := hb49.size
          have T0w48 := T.size
          have Zo47_oxs17 : Ap (fb v45) bsxs17 := (Ap.new (OwF.flo G46) (OwN.hi Guxs17))
          have Zo47_o35 := Ap.dj (Ap.new (OwF.flo G46) (OwF.fhi G34))
          have Zo47_oxs41 := Ap.dj (Ap.new (OwF.flo G46) (OwF.fhi Guxs41))
          have Guxs17 := OwN.below (slOw_ok intOw_ok) Guxs17 hb49
          have G34 := OwF.below G34 hb49
          have Guxs41 := OwF.below Guxs41 hb49
          have T := Tt T hb49
          replace G46 := OwF.mono G46 T0w48
          obtain ⟨A54, c55, rfl⟩ := OwF.form G46
          have qbA54 := OwF.bound G46
          refine RL.bslice (e := 26) (cells := #[.slice A54 y43.length c55]) rfl (pm1 rfl) (by kernel_rfl) (fun w50 B51 hb52 szw50 => ?_)
          have ZB51 : w.heap.size ≤ w48.heap.size := T.size
          have q56 := OwF.fboth G46 (Nat.le_refl _)
          have z57 := Ap.cons (Ap.farL (OwN.hi Guxs17)) Zo47_oxs17
          have z58 := Ap.cons (Ap.farL (OwF.fhi G34)) (Dj.ap Zo47_o35)
          have z59 := Ap.cons (Ap.farL (OwF.fhi Guxs41)) (Dj.ap Zo47_oxs41)
          have Guxs17 := OwN.below (slOw_ok intOw_ok) Guxs17 hb52
          have G34 := OwF.below G34 hb52
          have Guxs41 := OwF.below Guxs41 hb52
          have G46 := OwF.below G46 hb52
          have T := Tt T hb52
          obtain ⟨l61, a60, nd62, sb63, r64⟩ := OwF.own2 fI G46
          have G65 : OwN 26 (slOw intOw 1) 1 w50 w.heap.size (.slice (some ⟨w48.heap.size, 0, none⟩) 1 1) [y43] (w48.heap.size :: (fb (.slice A54 y43.length c55))) := OwN.lit1 (b1 := l61) B51 ZB51 ⟨_, _, _, rfl, a60, r64⟩ (slOw_ok intOw_ok) nd62 sb63 q56
          obtain ⟨_, m67, hm⟩ := bnd hm
          have hk68 := mustP_some m67
          refine RL.appendN (slOw_ok intOw_ok) slOw_one (by decide) app_int64_ rfl rfl rfl Guxs17 G65 (Ap.symm z57) T.size hk68 (fun v69 w70 bs71 G72 hgr73 hbl74 hnb75 => ?_)
          have szw70 := hbl74.size
          have z77 := Ap.app hnb75 (Ap.symm Zo35_oxs17) z58 (OwF.fhi G34)
          have z78 := Ap.app hnb75 (Ap.symm Doxs41_oxs17) z59 (OwF.fhi Guxs41)
          have G34 := OwF.keptD G34 hgr73 (OwN.dj Guxs17 (Ap.symm Zo35_oxs17))
          have Guxs41 := OwF.keptD Guxs41 hgr73 (OwN.dj Guxs17 (Ap.symm Doxs41_oxs17))
          have T := T.trans hbl74
          refine RL.y rfl (Y.assign (v := v69) rfl) ?_
          refine RL.nil ?_
          refine blk_n (then_n ?_)
          refine wp_rs rfl ?_
          refine RQ.y rfl (Y.move (v := .int .i64 i19) s5_2x) ?_
          obtain ⟨s79, ks79, hm⟩ := bnd hm
          replace ks79 := ck_some ks79
          refine RQ.y rfl (Y.binI (v := .int .i64 s79) rfl rfl (by rw [binI_add ks79.2, ks79.1])) ?_
          refine RQ.y rfl (Y.assign (v := .int .i64 s79) rfl) ?_
          refine RQ.nil ?_
          exact (then_n ⟨g, _, Nat.lt_succ_self _, rfl, ⟨(xs17 ++ [y43]), xs41, s79, (v69), bs71, (uxs41), s0_2x, rfl, G72, s4_2x, Guxs41, rfl, (by omega), (Ap.symm z78), T, (by rw [← hrec1]; exact hm)⟩⟩)
        · rintro g f w82 ⟨xs80, i81, uxs80, s0_2, s3_2, s5_2, s6_2, s4_2, Guxs80, s8_2, nn8_2, Doxs80_oxs17, Doxs80_o35, Guxs17, G34, T, hm⟩
          rcases g with _ | g
          · simp only [m_spec_l12Parts_L2] at hm; cases hm
          obtain ⟨rec2, hrec2, hm⟩ : ∃ z, z = m_spec_l12Parts_L2 y31 K2 g ∧ m_spec_l12Parts_B2 y31 z K2 xs80 i81 = some r := ⟨_, rfl, hm⟩
          unfold m_spec_l12Parts_B2 at hm
          refine wp_seq ?_
          refine wp_seq ?_
          refine wp_rs rfl ?_
          refine RQ.y rfl (Y.move (v := .int .i64 i81) s8_2) ?_
          refine RQ.y rfl (Y.move (v := v33) s6_2) ?_
          obtain ⟨A83, c84, rfl⟩ := OwF.form G34
          have qbA83 := OwF.bound G34
          refine RQ.y rfl (Y.len (by kernel_rfl) rfl) ?_
          refine RQ.y rfl (Y.binI (v := .bool (decide (i81 < (y31.1.length : Int)))) rfl rfl rfl) ?_
          refine RQ.nil ?_
          refine then_n ?_
          rcases bcases (decide (i81 < (y31.1.length : Int))) with c85 | c85
          · replace hm := cF c85 hm
            have pc85 := of_decide_eq_false c85
            refine cond_f rfl (vb rfl c85) ?_
            refine wp_exit ?_
            exact (then_x (then_x (hit_x ⟨_, rfl, ⟨xs80, (uxs80), s0_2, s3_2, s5_2, s6_2, s4_2, Guxs80, Doxs80_oxs17, (Ap.dj (Dj.ap Doxs80_o35)), Guxs17, G34, T, (by rw [hK2] at hm; exact hm)⟩⟩)))
          · replace hm := cT c85 hm
            have pc85 := of_decide_eq_true c85
            refine cond_t rfl (vb rfl c85) ?_
            refine wp_skip ?_
            refine then_n ?_
            refine wp_seq ?_
            refine wp_block ?_
            refine wp_rl rfl ?_
            refine RL.y rfl (Y.move (v := uxs80) s4_2) ?_
            refine RL.y rfl (Y.move (v := .slice A83 y31.1.length c84) s6_2) ?_
            refine RL.y rfl (Y.move (v := .int .i64 i81) s8_2) ?_
            obtain ⟨x86, hx88, hm⟩ := bnd hm
            obtain ⟨k87, hk89, hl90, hx88⟩ := getI_some hx88
            obtain ⟨b91, rfl⟩ := OwF.addr0 G34 (by omega)
            refine RL.y rfl (Y.indexAddr (m := k87) (sz := 1) rfl rfl hk89 hl90 (by kernel_rfl)) ?_
            refine RL.y rfl (Y.load (v := .int .i64 x86) rfl (by kernel_rfl) (eqC (OwF.cell fI G34 hx88 (j := 0) rfl))) ?_
            obtain ⟨A92, c93, rfl⟩ := OwF.form Guxs80
            have qbA92 := OwF.bound Guxs80
            obtain ⟨x94, hx96, hm⟩ := bnd hm
            obtain ⟨k95, hk97, hl98, hx96⟩ := getI_some hx96
            obtain ⟨b99, rfl⟩ := OwF.addr0 Guxs80 (by omega)
            refine RL.y rfl (Y.indexAddr (m := k95) (sz := 1) rfl rfl hk97 hl98 (by kernel_rfl)) ?_
            refine RL.storeF (k := k95) (a := true) fB rfl rfl rfl Guxs80 hl98 rfl (by kernel_rfl) (fun w100 G101 ho102 => ?_)
            have szw100 := ho102.size
            have Guxs17 := OwN.only (slOw_ok intOw_ok) Guxs17 ho102 ((show Ap bsxs17 [b99] from (Ap.symm Doxs80_oxs17)).one)
            have G34 := OwF.only G34 ho102 (fun e => (Dj.symm Doxs80_o35) _ e rfl)
            have T := T.trans (ho102.below (by intro b hb; simp at hb; subst hb; exact OwF.lo_ Guxs80 _ rfl))
            have G101 : OwF 4 encB 1 w100 w.heap.size (.slice (some ⟨b99, 0, none⟩) xs80.length c93) (setI xs80 x86 true) := by rw [hk97, setI_nat]; exact G101
            have hx103 : (setI xs80 x86 true)[k95]? = some true := setI_at hk97 hl98
            have hl104 := lt_of_some hx103
            refine RL.nil ?_
            refine blk_n (then_n ?_)
            refine wp_rs rfl ?_
            refine RQ.y rfl (Y.move (v := .int .i64 i81) s8_2) ?_
            refine RQ.y rfl (Y.binI rfl rfl (binI_add (m := i81) (by omega))) ?_
            refine RQ.y rfl (Y.assign (v := .int .i64 (i81 + 1)) rfl) ?_
            refine RQ.nil ?_
            exact (then_n ⟨g, _, Nat.lt_succ_self _, rfl, ⟨(setI xs80 x86 true), (i81 + 1), (.slice (some ⟨b99, 0, none⟩) xs80.length c93), s0_2, s3_2, s5_2, s6_2, s4_2, G101, rfl, (by omega), Doxs80_oxs17, (Ap.dj (Dj.ap Doxs80_o35)), Guxs17, G34, T, (by rw [← hrec2]; exact hm)⟩⟩)
      · replace hm := cT c30 hm
        refine cond_t rfl (vb rfl c30) ?_
        refine wp_exit ?_
        refine then_x (blk_hit (then_n ?_))
        refine wp_rs rfl ?_
        refine RQ.y rfl (Y.move (v := .int .i64 i19) s5_1) ?_
        refine RQ.y rfl (Y.binI rfl rfl (binI_add (m := i19) (by omega))) ?_
        refine RQ.y rfl (Y.assign (v := .int .i64 (i19 + 1)) rfl) ?_
        refine RQ.nil ?_
        exact (then_n ⟨g, _, Nat.lt_succ_self _, rfl, ⟨xs17, xs18, (i19 + 1), (uxs17), bsxs17, (.slice (some ⟨b29, 0, none⟩) xs18.length c23), s0_1, s3_1, Guxs17, s4_1, Guxs18, rfl, (by omega), Doxs18_oxs17, T, (by rw [← hrec1]; exact hm)⟩⟩)
def m_impl_Net_components_A1 (xs9 : List (List Int)) : Option (List (List Int)) :=
  some xs9
def m_impl_Net_components_A2 (rec1 : List (List Int) → List Bool → Int → Option (List (List Int))) (xs11 : List (List Int)) (i13 : Int) (y25 : List Int) (xs34 : List Bool) : Option (List (List Int)) :=
  ((mustP (y25.length ≤ 4294967296)).bind fun _ => ((mustP (xs11.length + ([(srt y25)]).length ≤ 4294967296)).bind fun _ => ((ck (i13 + 1)).bind fun s70 => (rec1 (xs11 ++ [(srt y25)]) xs34 s70))))
def m_impl_Net_components_B2 (y25 : List Int) (rec2 : List Bool → Int → Option (List (List Int))) (K2 : List Bool → Option (List (List Int))) (xs71 : List Bool) (i72 : Int) : Option (List (List Int)) :=
  (bif (decide (i72 < (y25.length : Int))) then ((getI y25 i72).bind fun x75 => ((getI xs71 x75).bind fun x83 => (rec2 (setI xs71 x75 true) (i72 + 1)))) else (K2 xs71))
def m_impl_Net_components_L2 (y25 : List Int) (K2 : List Bool → Option (List (List Int))) : Nat → List Bool → Int → Option (List (List Int))
  | 0, _, _ => none
  | g + 1, xs71, i72 => m_impl_Net_components_B2 y25 (m_impl_Net_components_L2 y25 K2 g) K2 xs71 i72
def m_impl_Net_components_B1 (d0 : DNet) (rec1 : List (List Int) → List Bool → Int → Option (List (List Int))) (K1 : List (List Int) → Option (List (List Int))) (xs11 : List (List Int)) (xs12 : List Bool) (i13 : Int) : Option (List (List Int)) :=
  (bif (decide (i13 < (d0.agents.length : Int))) then ((getI xs12 i13).bind fun x18 => (bif x18 then (rec1 xs11 xs12 (i13 + 1)) else ((m_impl_Net_traverse d0 i13).bind fun y25 => (m_impl_Net_components_L2 y25 (m_impl_Net_components_A2 rec1 xs11 i13 y25) (y25.length + 1) xs12 0)))) else (K1 xs11))
def m_impl_Net_components_L1 (d0 : DNet) (K1 : List (List Int) → Option (List (List Int))) : Nat → List (List Int) → List Bool → Int → Option (List (List Int))
  | 0, _, _, _ => none
  | g + 1, xs11, xs12, i13 => m_impl_Net_components_B1 d0 (m_impl_Net_components_L1 d0 K1 g) K1 xs11 xs12 i13
def m_impl_Net_components (d0 : DNet) : Option (List (List Int)) :=
  ((mustP (d0.agents.length ≤ 4294967296)).bind fun _ => (m_impl_Net_components_L1 d0 m_impl_Net_components_A1 (d0.agents.length + 1) ([]) (List.replicate d0.agents.length false) 0))
set_option maxHeartbeats 2000000 in
theorem c_m_impl_Net_components (d0 : DNet) (r : List (List Int)) (hm : m_impl_Net_components d0 = some r) (v0 : Value) (w : World) (hv0 : Pt netRd w v0 d0) :
    Calls Tryz.prog 52 #[v0] w fun e w' => (∃ (v0 : Value) (bs0 : List Nat), e = .returned (v0) ∧ OwN 26 (slOw intOw 1) 1 w' w.heap.size v0 r bs0) ∧ Below w.heap.size w w' := by
  obtain ⟨ba0, oa0, csa0, rfl, hba0, hRa0, hca0⟩ := hv0
  have hSa0 := hRa0
  obtain ⟨A1, n1, c1, rfl, ⟨h1, r1⟩⟩ := hRa0
  have e1 := h1.len; subst e1
  have q1 := len_le r1
  have T := Below.refl w.heap.size w
  unfold m_impl_Net_components at hm
  refine enter 48 Tryz.func52 rfl rfl rfl ?_
  intro f hf
  have s0 : f 0 = .pointer (some ⟨ba0, oa0, none⟩) := hf 0 _ rfl
  refine wp_seq ?_
  refine wp_rs rfl ?_
  refine RQ.y rfl (Y.assign (v := .slice none 0 0) rfl) ?_
  refine RQ.nil ?_
  refine then_n ?_
  refine wp_seq ?_
  refine wp_rs rfl ?_
  refine RQ.y rfl (Y.assign (v := .slice none 0 0) rfl) ?_
  refine RQ.nil ?_
  refine then_n ?_
  refine wp_seq ?_
  refine wp_rl rfl ?_
  refine RL.y rfl (Y.move (v := .pointer (some ⟨ba0, oa0, none⟩)) s0) ?_
  refine RL.y rfl (Y.nilCheck rfl) ?_
  refine RL.y rfl (Y.fieldAddr (off := 0) rfl (by kernel_rfl)) ?_
  refine RL.y rfl (Y.load (v := .slice A1 d0.agents.length c1) rfl (by kernel_rfl) (eqC (cellT T (hca0 0 _ rfl)))) ?_
  refine RL.y rfl (Y.len (by kernel_rfl) rfl) ?_
  obtain ⟨_, m2, hm⟩ := bnd hm
  have hk3 := mustP_some m2
  refine RL.make (enc := encB) (z0 := false) (n := d0.agents.length) app_bool (by decide) rfl rfl rfl rfl hk3 (fun w4 G5 hb6 szw4 => ?_)
  replace G5 := OwF.mono G5 T.size
  have T := Tt T hb6
  refine RL.y rfl (Y.assign (v := .slice (some ⟨w.heap.size, 0, none⟩) d0.agents.length d0.agents.length) rfl) ?_
  refine RL.nil ?_
  refine then_n ?_
  refine wp_seq ?_
  refine wp_seq ?_
  refine wp_rs rfl ?_
  refine RQ.y rfl (Y.move (v := .pointer (some ⟨ba0, oa0, none⟩)) s0) ?_
  refine RQ.y rfl (Y.nilCheck rfl) ?_
  refine RQ.y rfl (Y.fieldAddr (off := 0) rfl (by kernel_rfl)) ?_
  refine RQ.y rfl (Y.load (v := .slice A1 d0.agents.length c1) rfl (by kernel_rfl) (eqC (cellT T (hca0 0 _ rfl)))) ?_
  refine RQ.y rfl (Y.len (by kernel_rfl) rfl) ?_
  refine RQ.y rfl (Y.move (v := .int .i64 0) rfl) ?_
  refine RQ.nil ?_
  refine then_n ?_
  refine wp_block ?_
  obtain ⟨K1, hK1, hm⟩ : ∃ K, K = m_impl_Net_components_A1 ∧ m_impl_Net_components_L1 d0 K (d0.agents.length + 1) ([]) (List.replicate d0.agents.length false) 0 = some r := ⟨_, rfl, hm⟩
  refine wp_loopX (fun g f w' => ∃ (xs11 : List (List Int)) (xs12 : List Bool) (i13 : Int) (uxs11 : Value) (bsxs11 : List Nat) (uxs12 : Value), f 0 = .pointer (some ⟨ba0, oa0, none⟩) ∧ f 19 = .int .i64 (d0.agents.length : Int) ∧ f 3 = uxs11 ∧ OwN 26 (slOw intOw 1) 1 w' w.heap.size uxs11 xs11 bsxs11 ∧ f 4 = uxs12 ∧ OwF 4 encB 1 w' w.heap.size uxs12 xs12 ∧ f 20 = .int .i64 i13 ∧ 0 ≤ i13 ∧ Ap (fb uxs12) bsxs11 ∧ Below w.heap.size w w' ∧ m_impl_Net_components_L1 d0 K1 g xs11 xs12 i13 = some r) 0 (fun f w' => ∃ (xs9 : List (List Int)) (uxs9 : Value) (bsxs9 : List Nat), f 3 = uxs9 ∧ OwN 26 (slOw intOw 1) 1 w' w.heap.size uxs9 xs9 bsxs9 ∧ Below w.heap.size w w' ∧ m_impl_Net_components_A1 xs9 = some r) (d0.agents.length + 1) ⟨([]), (List.replicate d0.agents.length false), 0, (.slice none 0 0), [], (.slice (some ⟨w.heap.size, 0, none⟩) d0.agents.length d0.agents.length), s0, rfl, rfl, OwN.nil, rfl, G5, rfl, (by omega), (Ap.symm Ap.nil), T, hm⟩ ?_ ?_
  · rintro f w10 ⟨xs9, uxs9, bsxs9, s3_1x, Guxs9, T, hm⟩
    unfold m_impl_Net_components_A1 at hm
    refine blk_hit (then_n ?_)
    refine wp_seq ?_
    refine wp_rs rfl ?_
    refine RQ.y rfl (Y.move (v := uxs9) s3_1x) ?_
    refine RQ.y rfl (Y.assign (v := uxs9) rfl) ?_
    refine RQ.nil ?_
    refine then_n ?_
    refine wp_ret ?_
    obtain rfl := Option.some.inj hm
    exact (ret1 rfl rfl rfl ⟨⟨_, _, rfl, Guxs9⟩, T⟩)
  · rintro g f w14 ⟨xs11, xs12, i13, uxs11, bsxs11, uxs12, s0_1, s19_1, s3_1, Guxs11, s4_1, Guxs12, s20_1, nn20_1, Doxs12_oxs11, T, hm⟩
    rcases g with _ | g
    · simp only [m_impl_Net_components_L1] at hm; cases hm
    obtain ⟨rec1, hrec1, hm⟩ : ∃ z, z = m_impl_Net_components_L1 d0 K1 g ∧ m_impl_Net_components_B1 d0 z K1 xs11 xs12 i13 = some r := ⟨_, rfl, hm⟩
    unfold m_impl_Net_components_B1 at hm
    refine wp_seq ?_
    refine wp_rs rfl ?_
    refine RQ.y rfl (Y.binI (v := .bool (decide (i13 < (d0.agents.length : Int)))) s20_1 s19_1 rfl) ?_
    refine RQ.nil ?_
    refine then_n ?_
    refine wp_seq ?_
    rcases bcases (decide (i13 < (d0.agents.length : Int))) with c15 | c15
    · replace hm := cF c15 hm
      have pc15 := of_decide_eq_false c15
      refine cond_f rfl (vb rfl c15) ?_
      refine wp_exit ?_
      exact (then_x (then_x (hit_x ⟨_, rfl, ⟨xs11, (uxs11), bsxs11, s3_1, Guxs11, T, (by rw [hK1] at hm; exact hm)⟩⟩)))
    · replace hm := cT c15 hm
      have pc15 := of_decide_eq_true c15
      refine cond_t rfl (vb rfl c15) ?_
      refine wp_skip ?_
      refine then_n ?_
      refine wp_seq ?_
      refine wp_block ?_
      refine wp_seq ?_
      refine wp_rs rfl ?_
      refine RQ.y rfl (Y.move (v := .int .i64 i13) s20_1) ?_
      refine RQ.y rfl (Y.assign (v := .int .i64 i13) rfl) ?_
      refine RQ.nil ?_
      refine then_n ?_
      refine wp_seq ?_
      refine wp_seq ?_
      refine wp_rs rfl ?_
      refine RQ.y rfl (Y.move (v := uxs12) s4_1) ?_
      refine RQ.y rfl (Y.move (v := .int .i64 i13) rfl) ?_
      obtain ⟨A16, c17, rfl⟩ := OwF.form Guxs12
      have qbA16 := OwF.bound Guxs12
      obtain ⟨x18, hx20, hm⟩ := bnd hm
      obtain ⟨k19, hk21, hl22, hx20⟩ := getI_some hx20
      obtain ⟨b23, rfl⟩ := OwF.addr0 Guxs12 (by omega)
      refine RQ.y rfl (Y.indexAddr (m := k19) (sz := 1) rfl rfl hk21 hl22 (by kernel_rfl)) ?_
      refine RQ.y rfl (Y.load (v := .bool x18) rfl (by kernel_rfl) (eqC (OwF.cell fB Guxs12 hx20 (j := 0) rfl))) ?_
      refine RQ.nil ?_
      refine then_n ?_
      rcases bcases x18 with c24 | c24
      · replace hm := cF c24 hm
        refine cond_f rfl (vb rfl c24) ?_
        refine wp_skip ?_
        refine then_n ?_
        refine wp_seq ?_
        refine wp_rl rfl ?_
        refine RL.y rfl (Y.move (v := .pointer (some ⟨ba0, oa0, none⟩)) s0_1) ?_
        refine RL.y rfl (Y.move (v := .int .i64 i13) rfl) ?_
        obtain ⟨y25, e26, hm⟩ := bnd hm
        refine RL.call rfl (am2 rfl rfl) (by kernel_rfl) ((c_m_impl_Net_traverse d0 i13 _ e26 _ _ (ptArg netRd_ok hba0 hSa0 hca0 T)).mono ?_)
        rintro _ w30 ⟨⟨v27, rfl, G28⟩, hb31⟩
        refine ⟨_, rfl, ?_⟩
        have szw30 := hb31.size
        have T0w30 := T.size
        have Zo29_oxs11 : Ap (fb v27) bsxs11 := (Ap.new (OwF.flo G28) (OwN.hi Guxs11))
        have Zo29_oxs12 := Ap.dj (Ap.new (OwF.flo G28) (OwF.fhi Guxs12))
        have Guxs11 := OwN.below (slOw_ok intOw_ok) Guxs11 hb31
        have Guxs12 := OwF.below Guxs12 hb31
        have T := Tt T hb31
        replace G28 := OwF.mono G28 T0w30
        refine RL.y rfl (Y.assign (v := v27) rfl) ?_
        refine RL.nil ?_
        refine then_n ?_
        refine wp_seq ?_
        refine wp_seq ?_
        refine wp_rs rfl ?_
        refine RQ.y rfl (Y.move (v := v27) rfl) ?_
        obtain ⟨A32, c33, rfl⟩ := OwF.form G28
        have qbA32 := OwF.bound G28
        refine RQ.y rfl (Y.len (by kernel_rfl) rfl) ?_
        refine RQ.y rfl (Y.move (v := .int .i64 0) rfl) ?_
        refine RQ.nil ?_
        refine then_n ?_
        refine wp_block ?_
        obtain ⟨K2, hK2, hm⟩ : ∃ K, K = (m_impl_Net_components_A2 rec1 xs11 i13 y25) ∧ m_impl_Net_components_L2 y25 K (y25.length + 1) xs12 0 = some r := ⟨_, rfl, hm⟩
        refine wp_loopX (fun g f w' => ∃ (xs71 : List Bool) (i72 : Int) (uxs71 : Value), f 0 = .pointer (some ⟨ba0, oa0, none⟩) ∧ f 3 = uxs11 ∧ f 6 = .slice A32 y25.length c33 ∧ f 19 = .int .i64 (d0.agents.length : Int) ∧ f 20 = .int .i64 i13 ∧ f 30 = .slice A32 y25.length c33 ∧ f 31 = .int .i64 (y25.length : Int) ∧ f 4 = uxs71 ∧ OwF 4 encB 1 w' w.heap.size uxs71 xs71 ∧ f 32 = .int .i64 i72 ∧ 0 ≤ i72 ∧ Ap (fb uxs71) bsxs11 ∧ Dj uxs71 (.slice A32 y25.length c33) ∧ OwN 26 (slOw intOw 1) 1 w' w.heap.size uxs11 xs11 bsxs11 ∧ OwF 2 encI 1 w' w.heap.size (.slice A32 y25.length c33) y25 ∧ Below w.heap.size w w' ∧ m_impl_Net_components_L2 y25 K2 g xs71 i72 = some r) 2 (fun f w' => ∃ (xs34 : List Bool) (uxs34 : Value), f 0 = .pointer (some ⟨ba0, oa0, none⟩) ∧ f 3 = uxs11 ∧ f 6 = .slice A32 y25.length c33 ∧ f 19 = .int .i64 (d0.agents.length : Int) ∧ f 20 = .int .i64 i13 ∧ f 4 = uxs34 ∧ OwF 4 encB 1 w' w.heap.size uxs34 xs34 ∧ Ap (fb uxs34) bsxs11 ∧ Dj uxs34 (.slice A32 y25.length c33) ∧ OwN 26 (slOw intOw 1) 1 w' w.heap.size uxs11 xs11 bsxs11 ∧ OwF 2 encI 1 w' w.heap.size (.slice A32 y25.length c33) y25 ∧ Below w.heap.size w w' ∧ m_impl_Net_components_A2 rec1 xs11 i13 y25 xs34 = some r) (y25.length + 1) ⟨xs12, 0, (.slice (some ⟨b23, 0, none⟩) xs12.length c17), s0_1, s3_1, rfl, s19_1, s20_1, rfl, rfl, s4_1, Guxs12, rfl, (by omega), Doxs12_oxs11, (Ap.dj (Ap.symm (Dj.ap Zo29_oxs12))), Guxs11, G28, T, hm⟩ ?_ ?_
        · rintro f w35 ⟨xs34, uxs34, s0_2x, s3_2x, s6_2x, s19_2x, s20_2x, s4_2x, Guxs34, Doxs34_oxs11, Doxs34_o29, Guxs11, G28, T, hm⟩
          unfold m_impl_Net_components_A2 at hm
          refine blk_hit (then_n ?_)
          refine wp_seq ?_
          refine wp_rl rfl ?_
          refine RL.y rfl (Y.move (v := .slice A32 y25.length c33) s6_2x) ?_
          obtain ⟨_, m36, hm⟩ := bnd hm
          have hk37 := mustP_some m36
          refine RL.call rfl (am1 rfl) (by kernel_rfl) ((sort_own G28 T.size hk37).mono ?_)
          rintro _ w38 ⟨rfl, G39, hgr40, hbl41⟩
          refine ⟨_, rfl, ?_⟩
          have szw38 := hbl41.size
          have Guxs11 := OwN.grown (slOw_ok intOw_ok) Guxs11 hgr40 (Ap.symm Zo29_oxs11)
          have Guxs34 := OwF.keptD Guxs34 hgr40 Doxs34_o29
          have T := T.trans hbl41
          refine RL.nil ?_
          refine then_n ?_
          refine wp_rl rfl ?_
          refine RL.y rfl (Y.move (v := uxs11) s3_2x) ?_
          refine RL.y rfl (Y.move (v := .slice A32 y25.length c33) s6_2x) ?_
          refine RL.bslice (e := 26) (cells := #[.slice A32 y25.length c33]) rfl (pm1 rfl) (by kernel_rfl) (fun w45 B46 hb47 szw45 => ?_)
          have ZB46 : w.heap.size ≤ w38.heap.size := T.size
          have q49 := OwF.fboth G39 (Nat.le_refl _)
          have z50 := Ap.cons (Ap.farL (OwN.hi Guxs11)) Zo29_oxs11
          have z51 := Ap.cons (Ap.farL (OwF.fhi Guxs34)) (Ap.symm (Dj.ap Doxs34_o29))
          have Guxs11 := OwN.below (slOw_ok intOw_ok) Guxs11 hb47
          have G39 := OwF.below G39 hb47
          have Guxs34 := OwF.below Guxs34 hb47
          have T := Tt T hb47
          obtain ⟨l53, a52, nd54, sb55, r56⟩ := OwF.own2 fI G39
          have G57 : OwN 26 (slOw intOw 1) 1 w45 w.heap.size (.slice (some ⟨w38.heap.size, 0, none⟩) 1 1) [(srt y25)] (w38.heap.size :: (fb (.slice A32 y25.length c33))) := OwN.lit1 (b1 := l53) B46 ZB46 ⟨_, _, _, rfl, a52, r56⟩ (slOw_ok intOw_ok) nd54 sb55 q49
          obtain ⟨_, m59, hm⟩ := bnd hm
          have hk60 := mustP_some m59
          refine RL.appendN (slOw_ok intOw_ok) slOw_one (by decide) app_int64_ rfl rfl rfl Guxs11 G57 (Ap.symm z50) T.size hk60 (fun v61 w62 bs63 G64 hgr65 hbl66 hnb67 => ?_)
          have szw62 := hbl66.size
          have z69 := Ap.app hnb67 (Ap.symm Doxs34_oxs11) z51 (OwF.fhi Guxs34)
          have Guxs34 := OwF.keptD Guxs34 hgr65 (OwN.dj Guxs11 (Ap.symm Doxs34_oxs11))
          have T := T.trans hbl66
          refine RL.y rfl (Y.assign (v := v61) rfl) ?_
          refine RL.nil ?_
          refine blk_n (then_n ?_)
          refine wp_rs rfl ?_
          obtain ⟨s70, ks70, hm⟩ := bnd hm
          replace ks70 := ck_some ks70
          refine RQ.y rfl (Y.binI (v := .int .i64 s70) s20_2x rfl (by rw [binI_add ks70.2, ks70.1])) ?_
          refine RQ.y rfl (Y.move (v := .int .i64 s70) rfl) ?_
          refine RQ.nil ?_
          exact (then_n ⟨g, _, Nat.lt_succ_self _, rfl, ⟨(xs11 ++ [(srt y25)]), xs34, s70, (v61), bs63, (uxs34), s0_2x, s19_2x, rfl, G64, s4_2x, Guxs34, rfl, (by omega), (Ap.symm z69), T, (by rw [← hrec1]; exact hm)⟩⟩)
        · rintro g f w73 ⟨xs71, i72, uxs71, s0_2, s3_2, s6_2, s19_2, s20_2, s30_2, s31_2, s4_2, Guxs71, s32_2, nn32_2, Doxs71_oxs11, Doxs71_o29, Guxs11, G28, T, hm⟩
          rcases g with _ | g
          · simp only [m_impl_Net_components_L2] at hm; cases hm
          obtain ⟨rec2, hrec2, hm⟩ : ∃ z, z = m_impl_Net_components_L2 y25 K2 g ∧ m_impl_Net_components_B2 y25 z K2 xs71 i72 = some r := ⟨_, rfl, hm⟩
          unfold m_impl_Net_components_B2 at hm
          refine wp_seq ?_
          refine wp_rs rfl ?_
          refine RQ.y rfl (Y.binI (v := .bool (decide (i72 < (y25.length : Int)))) s32_2 s31_2 rfl) ?_
          refine RQ.nil ?_
          refine then_n ?_
          refine wp_seq ?_
          rcases bcases (decide (i72 < (y25.length : Int))) with c74 | c74
          · replace hm := cF c74 hm
            have pc74 := of_decide_eq_false c74
            refine cond_f rfl (vb rfl c74) ?_
            refine wp_exit ?_
            exact (then_x (then_x (hit_x ⟨_, rfl, ⟨xs71, (uxs71), s0_2, s3_2, s6_2, s19_2, s20_2, s4_2, Guxs71, Doxs71_oxs11, (Ap.dj (Dj.ap Doxs71_o29)), Guxs11, G28, T, (by rw [hK2] at hm; exact hm)⟩⟩)))
          · replace hm := cT c74 hm
            have pc74 := of_decide_eq_true c74
            refine cond_t rfl (vb rfl c74) ?_
            refine wp_skip ?_
            refine then_n ?_
            refine wp_seq ?_
            refine wp_block ?_
            refine wp_seq ?_
            refine wp_rs rfl ?_
            obtain ⟨x75, hx77, hm⟩ := bnd hm
            obtain ⟨k76, hk78, hl79, hx77⟩ := getI_some hx77
            obtain ⟨b80, rfl⟩ := OwF.addr0 G28 (by omega)
            refine RQ.y rfl (Y.indexAddr (m := k76) (sz := 1) s30_2 s32_2 hk78 hl79 (by kernel_rfl)) ?_
            refine RQ.y rfl (Y.load (v := .int .i64 x75) rfl (by kernel_rfl) (eqC (OwF.cell fI G28 hx77 (j := 0) rfl))) ?_
            refine RQ.y rfl (Y.assign (v := .int .i64 x75) rfl) ?_
            refine RQ.nil ?_
            refine then_n ?_
            refine wp_rl rfl ?_
            refine RL.y rfl (Y.move (v := uxs71) s4_2) ?_
            refine RL.y rfl (Y.move (v := .int .i64 x75) rfl) ?_
            obtain ⟨A81, c82, rfl⟩ := OwF.form Guxs71
            have qbA81 := OwF.bound Guxs71
            obtain ⟨x83, hx85, hm⟩ := bnd hm
            obtain ⟨k84, hk86, hl87, hx85⟩ := getI_some hx85
            obtain ⟨b88, rfl⟩ := OwF.addr0 Guxs71 (by omega)
            refine RL.y rfl (Y.indexAddr (m := k84) (sz := 1) rfl rfl hk86 hl87 (by kernel_rfl)) ?_
            refine RL.storeF (k := k84) (a := true) fB rfl rfl rfl Guxs71 hl87 rfl (by kernel_rfl) (fun w89 G90 ho91 => ?_)
            have szw89 := ho91.size
            have Guxs11 := OwN.only (slOw_ok intOw_ok) Guxs11 ho91 ((show Ap bsxs11 [b88] from (Ap.symm Doxs71_oxs11)).one)
            have G28 := OwF.only G28 ho91 (fun e => (Dj.symm Doxs71_o29) _ e rfl)
            have T := T.trans (ho91.below (by intro b hb; simp at hb; subst hb; exact OwF.lo_ Guxs71 _ rfl))
            have G90 : OwF 4 encB 1 w89 w.heap.size (.slice (some ⟨b88, 0, none⟩) xs71.length c82) (setI xs71 x75 true) := by rw [hk86, setI_nat]; exact G90
            have hx92 : (setI xs71 x75 true)[k84]? = some true := setI_at hk86 hl87
            have hl93 := lt_of_some hx92
            refine RL.nil ?_
            refine blk_n (then_n ?_)
            refine wp_rs rfl ?_
            refine RQ.y rfl (Y.binI s32_2 rfl (binI_add (m := i72) (by omega))) ?_
            refine RQ.y rfl (Y.move (v := .int .i64 (i72 + 1)) rfl) ?_
            refine RQ.nil ?_
            exact (then_n ⟨g, _, Nat.lt_succ_self _, rfl, ⟨(setI xs71 x75 true), (i72 + 1), (.slice (some ⟨b88, 0, none⟩) xs71.length c82), s0_2, s3_2, s6_2, s19_2, s20_2, s30_2, s31_2, s4_2, G90, rfl, (by omega), Doxs71_oxs11, (Ap.dj (Dj.ap Doxs71_o29)), Guxs11, G28, T, (by rw [← hrec2]; exact hm)⟩⟩)
      · replace hm := cT c24 hm
        refine cond_t rfl (vb rfl c24) ?_
        refine wp_exit ?_
        refine then_x (blk_hit (then_n ?_))
        refine wp_rs rfl ?_
        refine RQ.y rfl (Y.binI s20_1 rfl (binI_add (m := i13) (by omega))) ?_
        refine RQ.y rfl (Y.move (v := .int .i64 (i13 + 1)) rfl) ?_
        refine RQ.nil ?_
        exact (then_n ⟨g, _, Nat.lt_succ_self _, rfl, ⟨xs11, xs12, (i13 + 1), (uxs11), bsxs11, (.slice (some ⟨b23, 0, none⟩) xs12.length c17), s0_1, s19_1, s3_1, Guxs11, s4_1, Guxs12, rfl, (by omega), Doxs12_oxs11, T, (by rw [← hrec1]; exact hm)⟩⟩)
end
section
open Go.RowKit
set_option linter.unusedVariables false
def marksF {α : Type} (f : Nat → α) (s k n : Nat) : List α := (List.range n).map fun i => f (k + s * i)
theorem marksF_len {α : Type} (f : Nat → α) (s k n : Nat) : (marksF f s k n).length = n := by simp [marksF]
theorem marksF_succ {α : Type} (f : Nat → α) (s k n : Nat) : marksF f s k (n + 1) = marksF f s k n ++ [f (k + s * n)] := by simp [marksF, List.range_succ]
def mkPort (k : Nat) : DPort := (⟨(k : Int), (k : Int) + 1⟩ : DPort)
theorem mkPort_cells (k0 k : Nat) : [Value.int .i64 (mkPort (k0 + 2 * k)).agent, Value.int .i64 (mkPort (k0 + 2 * k)).slot] = [.int .i64 ((k0 : Int) + 2 * k), .int .i64 ((k0 : Int) + 2 * k + 1)] := by simp [mkPort]
set_option maxHeartbeats 2000000 in
theorem markPortS_c (A : Option Addr) (n c k0 : Nat) (xs : List DPort) (bs : List Nat) (w : World) (hx : OwAt portOw 2 w A n xs bs) (hnd : bs.Nodup) (hn : n ≤ 4294967296) (hk0 : k0 ≤ 4611686018427387904) :
    Calls Tryz.prog 60 #[.slice A n c, .int .i64 k0] w fun e w' => e = .returned (.int .i64 ((k0 + 2 * n : Nat) : Int)) ∧ OwAt portOw 2 w' A n (marksF mkPort 2 k0 n) bs ∧ Only bs w w' := by
  have lx := Lib.hid hx.len
  have hmid := Lib.hid hx.mid
  clear hx
  go_enter Tryz.func60, Tryz.ntmps60
  go_wp2
  go_loopw [1, 5] (fun kk i wr => ∃ k : Nat, k ≤ n ∧ i = .int .i64 k ∧ kk = .int .i64 ((k0 : Int) + 2 * k) ∧ Only bs w wr ∧ Hid (MidAt portOw 2 wr A (marksF mkPort 2 k0 k) (xs.drop k) bs)) (fun _ i _ => n - (intOf i).toNat)
  case atStart => exact ⟨0, by omega, rfl, by simp, Only.refl _ _, hmid.out⟩
  case round =>
    obtain ⟨k, hk, rfl, rfl, ho, hm⟩ := hrel
    by_cases hlt : k < n
    · obtain ⟨x, hxk⟩ : ∃ x, xs[k]? = some x := ⟨_, List.getElem?_eq_getElem (by have := lx.out; omega)⟩
      have hm := hm.out
      rw [drop_some hxk] at hm
      obtain ⟨b, o, cs, b1, bx, b2, rfl, hbs, hO, hc, h1, h2⟩ := hm.next
      obtain ⟨rfl, rfl⟩ := hO
      rw [marksF_len] at hc h2
      obtain ⟨hc0, hd0⟩ := hc 0 _ rfl
      obtain ⟨hc1, hd1⟩ := hc 1 _ rfl
      rw [Nat.add_zero] at hc0 hd0
      have HN := Lib.hid hbs
      have Hx := Lib.hid hxk
      have H1 := Lib.hid h1
      have H2 := Lib.hid h2
      clear hbs hxk h1 h2 hm hc
      go_wp2
      go_roundw
      case rel =>
        have hnd' := hnd
        rw [HN.out] at hnd'
        have hb : b ∉ b1 ∧ b ∉ b2 := by simpa using (List.nodup_cons.1 hnd').1
        have hlen : (marksF mkPort 2 k0 k).length = k := marksF_len _ _ _ _
        refine ⟨k + 1, by omega, by go_num, by go_num, ?_, ?_⟩
        · exact ((ho.setCell (by rw [HN.out]; simp) _).setCell (by rw [HN.out]; simp) _)
        rw [marksF_succ, HN.out]
        refine MidAt.step (o := o) rfl (ElAt.setRun portOw_ok (vs := [.int .i64 ((k0 : Int) + 2 * k), .int .i64 ((k0 : Int) + 2 * k + 1)]) (p := o + k * 2) H1.out hb.1 (Or.inr (by omega))) (cs := [.int .i64 ((k0 : Int) + 2 * k), .int .i64 ((k0 : Int) + 2 * k + 1)]) ⟨(mkPort_cells k0 k).symm, rfl⟩ ?_ ?_
        · rw [hlen]
          exact setRun_csAt (vs := [.int .i64 ((k0 : Int) + 2 * k), .int .i64 ((k0 : Int) + 2 * k + 1)]) (fun j hj => by
            match j, hj with
            | 0, _ => exact ⟨_, hc0⟩
            | 1, _ => exact ⟨_, hc1⟩
            | j + 2, hj => simp at hj; omega) (fun j hj => by
            match j, hj with
            | 0, _ => exact hd0
            | 1, _ => exact hd1
            | j + 2, hj => simp at hj; omega)
        · rw [hlen]
          exact ElAt.setRun portOw_ok (vs := [.int .i64 ((k0 : Int) + 2 * k), .int .i64 ((k0 : Int) + 2 * k + 1)]) (p := o + k * 2) H2.out hb.2 (Or.inl (by simp))
      case measure => simp [intOf]; omega
    · obtain rfl : n = k := by omega
      have hm := hm.out
      rw [List.drop_of_length_le (by have := lx.out; omega)] at hm
      have Hm := Lib.hid (hm.whole (n := n) (marksF_len _ _ _ _).symm)
      clear hm
      go_wp2
      go_ret
      exact ⟨rfl, Hm.out, ho⟩
end
section
open Go.RowKit
set_option linter.unusedVariables false
set_option linter.unusedSimpArgs false
/-- The components that begin among the first k agents, and the agents that they hold. -/
def part (xs : List DAgent) : Nat → List (List Int) × List Int
  | 0 => ([], [])
  | k + 1 => if (k : Int) ∈ (part xs k).2 then part xs k else ((part xs k).1 ++ [srt (tr xs (k : Int) xs.length)], (part xs k).2 ++ tr xs (k : Int) xs.length)
theorem part_len (xs : List DAgent) : ∀ k, (part xs k).1.length ≤ k
  | 0 => by simp [part]
  | k + 1 => by
    have := part_len xs k
    unfold part
    split
    · omega
    · simp; omega
theorem seen_inner {L : Nat → List Bool → Int → Option (List (List Int))} {n : Nat} {l t : List Int} {r : Option (List (List Int))} (ht : ∀ a ∈ t, 0 ≤ a ∧ a < n)
    (h : ∀ g (j : Nat) a S, t[j]? = some a → (∃ b, getI S a = some b) → L (g + 1) S (j : Int) = L g (setI S a true) ((j : Int) + 1)) (he : ∀ g, L (g + 1) (seenL n (l ++ t)) (t.length : Int) = r) :
    L (t.length + 1) (seenL n l) 0 = r := by
  have := traj (L := fun g (s : List Bool × Int) => L g s.1 s.2) (st := fun j => (seenL n (l ++ t.take j), (j : Int))) (n := t.length) (r := r)
    (fun g j hj => by
      have ha := List.getElem?_eq_getElem hj
      have hr := ht _ (List.getElem_mem hj)
      simp only
      rw [h g j _ _ ha ⟨_, seenL_get hr.1 hr.2⟩, seenL_set hr.1 hr.2, take_succ_some ha, List.append_assoc]
      simp only [Int.natCast_add, Int.cast_ofNat_Int])
    (fun g => by simp only; rw [List.take_length]; exact he g) (t.length + 1) (Nat.lt_succ_self _)
  simpa using this
theorem p_sParts {xs : List DAgent} (G : Good xs) : m_spec_l12Parts ⟨xs⟩ = some (part xs xs.length).1 := by
  have h6 := G.len
  unfold m_spec_l12Parts
  rw [mustP_ok (show xs.length ≤ 4294967296 by omega), Option.bind_some]
  have key := traj (L := fun g (s : (List (List Int) × List Int) × Int) => m_spec_l12Parts_L1 ⟨xs⟩ m_spec_l12Parts_A1 g s.1.1 (seenL xs.length s.1.2) s.2) (st := fun k => (part xs k, (k : Int))) (n := xs.length) (r := some (part xs xs.length).1)
    (fun g k hk => by
      have hpl := part_len xs k
      simp -implicitDefEqProofs only [m_spec_l12Parts_L1, m_spec_l12Parts_B1, dlt hk, cond_true]
      rw [seenL_get (n := xs.length) (a := (k : Int)) (by omega) (by omega), Option.bind_some]
      by_cases hin : (k : Int) ∈ (part xs k).2
      · rw [decide_eq_true hin, cond_true]
        have e : part xs (k + 1) = part xs k := by rw [part, if_pos hin]
        rw [e]
        simp only [Int.natCast_add, Int.cast_ofNat_Int]
      · rw [decide_eq_false hin, cond_false]
        have hok := tr_ok G (s := (k : Int)) (by omega) (by omega) xs.length
        have hl := hok.len
        have e : part xs (k + 1) = ((part xs k).1 ++ [srt (tr xs (k : Int) xs.length)], (part xs k).2 ++ tr xs (k : Int) xs.length) := by rw [part, if_neg hin]
        rw [p_sTraverse G (by omega) (by omega), Option.bind_some, e]
        simp only
        generalize tr xs (k : Int) xs.length = t at *
        refine seen_inner (L := fun g' S i => m_spec_l12Parts_L2 (t, atOf xs.length t) (m_spec_l12Parts_A2 (m_spec_l12Parts_L1 ⟨xs⟩ m_spec_l12Parts_A1 g) (part xs k).1 (k : Int) (t, atOf xs.length t)) g' S i) hok.inr
          (fun g' j a S ha ⟨b, hb⟩ => by
            have hj := lt_of_some ha
            simp -implicitDefEqProofs only [m_spec_l12Parts_L2, m_spec_l12Parts_B2, dlt hj, cond_true, getI_nat ha, Option.bind_some, hb])
          (fun g' => by
            simp -implicitDefEqProofs only [m_spec_l12Parts_L2, m_spec_l12Parts_B2, dge, cond_false, m_spec_l12Parts_A2]
            rw [p_sSorted t (by omega), Option.bind_some, mustP_ok (by simp; omega), Option.bind_some, ck_ok (by omega), Option.bind_some]
            simp only [Int.natCast_add, Int.cast_ofNat_Int]))
    (fun g => by simp -implicitDefEqProofs only [m_spec_l12Parts_L1, m_spec_l12Parts_B1, dge, cond_false, m_spec_l12Parts_A1]) (xs.length + 1) (Nat.lt_succ_self _)
  rw [seenL_nil]
  simpa [part] using key
theorem p_iParts {xs : List DAgent} (G : Good xs) : m_impl_Net_components ⟨xs⟩ = some (part xs xs.length).1 := by
  have h6 := G.len
  unfold m_impl_Net_components
  rw [mustP_ok (show xs.length ≤ 4294967296 by omega), Option.bind_some]
  have key := traj (L := fun g (s : (List (List Int) × List Int) × Int) => m_impl_Net_components_L1 ⟨xs⟩ m_impl_Net_components_A1 g s.1.1 (seenL xs.length s.1.2) s.2) (st := fun k => (part xs k, (k : Int))) (n := xs.length) (r := some (part xs xs.length).1)
    (fun g k hk => by
      have hpl := part_len xs k
      simp -implicitDefEqProofs only [m_impl_Net_components_L1, m_impl_Net_components_B1, dlt hk, cond_true]
      rw [seenL_get (n := xs.length) (a := (k : Int)) (by omega) (by omega), Option.bind_some]
      by_cases hin : (k : Int) ∈ (part xs k).2
      · rw [decide_eq_true hin, cond_true]
        have e : part xs (k + 1) = part xs k := by rw [part, if_pos hin]
        rw [e]
        simp only [Int.natCast_add, Int.cast_ofNat_Int]
      · rw [decide_eq_false hin, cond_false]
        have hok := tr_ok G (s := (k : Int)) (by omega) (by omega) xs.length
        have hl := hok.len
        have e : part xs (k + 1) = ((part xs k).1 ++ [srt (tr xs (k : Int) xs.length)], (part xs k).2 ++ tr xs (k : Int) xs.length) := by rw [part, if_neg hin]
        rw [p_iTraverse G (by omega) (by omega), Option.bind_some, e]
        skip
        generalize tr xs (k : Int) xs.length = t at *
        refine seen_inner (L := fun g' S i => m_impl_Net_components_L2 t (m_impl_Net_components_A2 (m_impl_Net_components_L1 ⟨xs⟩ m_impl_Net_components_A1 g) (part xs k).1 (k : Int) t) g' S i) hok.inr
          (fun g' j a S ha ⟨b, hb⟩ => by
            have hj := lt_of_some ha
            simp -implicitDefEqProofs only [m_impl_Net_components_L2, m_impl_Net_components_B2, dlt hj, cond_true, getI_nat ha, Option.bind_some, hb])
          (fun g' => by
            simp -implicitDefEqProofs only [m_impl_Net_components_L2, m_impl_Net_components_B2, dge, cond_false, m_impl_Net_components_A2]
            rw [mustP_ok (show t.length ≤ 4294967296 by omega), Option.bind_some, mustP_ok (by simp; omega), Option.bind_some, ck_ok (by omega), Option.bind_some]
            simp only [Int.natCast_add, Int.cast_ofNat_Int]))
    (fun g => by simp -implicitDefEqProofs only [m_impl_Net_components_L1, m_impl_Net_components_B1, dge, cond_false, m_impl_Net_components_A1]) (xs.length + 1) (Nat.lt_succ_self _)
  rw [seenL_nil]
  simpa [part] using key
end
section
open Go.RowKit
set_option linter.unusedVariables false
set_option linter.unusedSimpArgs false
theorem srt_sorted (l : List Int) : (srt l).Pairwise (· ≤ ·) := by
  have tr : ∀ a b c : Int, decide (a ≤ b) = true → decide (b ≤ c) = true → decide (a ≤ c) = true := fun a b c h1 h2 => by simp only [decide_eq_true_eq] at *; exact Int.le_trans h1 h2
  have to : ∀ a b : Int, (decide (a ≤ b) || decide (b ≤ a)) = true := fun a b => by simp only [Bool.or_eq_true, decide_eq_true_eq]; exact Int.le_total a b
  exact (List.pairwise_mergeSort tr to l).imp fun h => of_decide_eq_true h
theorem srt_head {l : List Int} {i : Int} (hi : i ∈ l) (hm : ∀ a ∈ l, i ≤ a) : ∃ t, srt l = i :: t := by
  have hs := srt_sorted l
  have hmem := srt_mem.2 hi
  cases h : srt l with
  | nil => rw [h] at hmem; cases hmem
  | cons a t =>
    rw [h] at hs hmem
    have h1 : i ≤ a := hm a (srt_mem.1 (by rw [h]; simp))
    have h2 : a ≤ i := by
      rcases List.mem_cons.1 hmem with e | e
      · omega
      · exact (List.pairwise_cons.1 hs).1 i e
    exact ⟨t, by rw [show a = i by omega]⟩
section
variable {xs : List DAgent}
theorem nb_symm (G : Good xs) {a : Int} (h0 : 0 ≤ a) (h1 : a < xs.length) {q : DPort} (hq : q ∈ (agentAt xs a).ports) : ∃ p ∈ (agentAt xs q.agent).ports, p.agent = a := by
  obtain ⟨j, rfl⟩ := Int.eq_ofNat_of_zero_le h0
  have hx := List.getElem?_eq_getElem (show j < xs.length by omega)
  rw [agentAt_nat hx] at hq
  obtain ⟨k, hk, rfl⟩ := List.getElem_of_mem hq
  have hkx := List.getElem?_eq_getElem hk
  obtain ⟨h2, h3, _⟩ := G.peer (hasPort_of hx hk)
  rw [peer_of hx hkx] at h2 h3
  obtain ⟨j', s, y, e, hy, hs, ha⟩ := hasPort_at h2
  rw [ha]
  rw [e, peer_of hy (List.getElem?_eq_getElem hs)] at h3
  exact ⟨_, List.getElem_mem hs, by rw [h3]⟩
theorem nb_to (G : Good xs) {a : Int} (h0 : 0 ≤ a) (h1 : a < xs.length) {q : DPort} (hq : q ∈ (agentAt xs a).ports) : 0 ≤ q.agent ∧ q.agent < xs.length := by
  obtain ⟨j, rfl⟩ := Int.eq_ofNat_of_zero_le h0
  have hx := List.getElem?_eq_getElem (show j < xs.length by omega)
  rw [agentAt_nat hx] at hq
  obtain ⟨k, hk, rfl⟩ := List.getElem_of_mem hq
  exact G.to hx (List.getElem?_eq_getElem hk)
theorem visits_from (x : DAgent) : ∀ (l : List Int) (b : Int), b ∈ visits l x → b ∈ l ∨ ∃ q ∈ x.ports, q.agent = b := by
  unfold visits
  generalize x.ports = ps
  induction ps with
  | nil => intro l b h; exact .inl h
  | cons p ps ih =>
    intro l b h
    rw [List.foldl_cons] at h
    rcases ih _ _ h with h | ⟨q, hq, e⟩
    · unfold visit at h
      split at h
      · exact .inl h
      · rcases List.mem_append.1 h with h | h
        · exact .inl h
        · exact .inr ⟨p, by simp, by simpa using (List.mem_singleton.1 h).symm⟩
    · exact .inr ⟨q, by simp [hq], e⟩
theorem tr_min {s : Int} {p : Int → Prop} (h0 : p s) (hc : ∀ a, p a → ∀ q ∈ (agentAt xs a).ports, p q.agent) : ∀ k, ∀ a ∈ tr xs s k, p a
  | 0, a, h => by simp [tr] at h; subst h; exact h0
  | k + 1, a, h => by
    have ih := tr_min h0 hc k
    have h : a ∈ (match (tr xs s k)[k]? with | none => tr xs s k | some a => visits (tr xs s k) (agentAt xs a)) := h
    cases hk : (tr xs s k)[k]? with
    | none => rw [hk] at h; exact ih a h
    | some b =>
      rw [hk] at h
      rcases visits_from _ _ _ h with h | ⟨q, hq, rfl⟩
      · exact ih a h
      · exact hc b (ih b (List.mem_of_getElem? hk)) q hq
theorem tr_self (s : Int) (k : Nat) : s ∈ tr xs s k := by
  obtain ⟨t, ht⟩ := tr_pre xs s 0 k
  rw [Nat.zero_add] at ht
  rw [ht]; simp [tr]
theorem tr_sub (G : Good xs) {s a : Int} (h0 : 0 ≤ s) (h1 : s < xs.length) (ha : a ∈ tr xs s xs.length) : ∀ b ∈ tr xs a xs.length, b ∈ tr xs s xs.length :=
  tr_min (p := fun b => b ∈ tr xs s xs.length) ha (fun b hb q hq => tr_closed G h0 h1 hb hq) xs.length
theorem tr_symm (G : Good xs) {s : Int} (h0 : 0 ≤ s) (h1 : s < xs.length) {a : Int} (ha : a ∈ tr xs s xs.length) : s ∈ tr xs a xs.length := by
  have := tr_min (xs := xs) (s := s) (p := fun a => 0 ≤ a ∧ a < xs.length ∧ s ∈ tr xs a xs.length) ⟨h0, h1, tr_self s _⟩ (fun a ⟨a0, a1, hs⟩ q hq => by
    obtain ⟨b0, b1⟩ := nb_to G a0 a1 hq
    obtain ⟨p, hp, e⟩ := nb_symm G a0 a1 hq
    refine ⟨b0, b1, ?_⟩
    have hab : a ∈ tr xs q.agent xs.length := by
      have := tr_closed G b0 b1 (tr_self q.agent _) hp
      rwa [e] at this
    exact tr_sub G b0 b1 hab s hs) xs.length a ha
  exact this.2.2
/-- The least agents of the components that begin among the first k agents. -/
def stt (xs : List DAgent) : Nat → List Nat
  | 0 => []
  | k + 1 => if (k : Int) ∈ (part xs k).2 then stt xs k else stt xs k ++ [k]
def comp (xs : List DAgent) (i : Nat) : List Int := srt (tr xs (i : Int) xs.length)
theorem part_stt : ∀ k, part xs k = ((stt xs k).map (comp xs), (stt xs k).flatMap fun i : Nat => tr xs (i : Int) xs.length)
  | 0 => rfl
  | k + 1 => by
    have ih := part_stt k
    unfold part stt
    by_cases h : (k : Int) ∈ (part xs k).2
    · rw [if_pos h, if_pos h]; exact ih
    · rw [if_neg h, if_neg h, ih, List.map_append, List.flatMap_append]
      simp [comp]
theorem stt_lt : ∀ k, ∀ i ∈ stt xs k, i < k
  | 0, i, h => by cases h
  | k + 1, i, h => by
    unfold stt at h
    split at h
    · have := stt_lt k i h; omega
    · rcases List.mem_append.1 h with h | h
      · have := stt_lt k i h; omega
      · have := List.mem_singleton.1 h; omega
theorem stt_pw : ∀ k, (stt xs k).Pairwise (· < ·)
  | 0 => List.Pairwise.nil
  | k + 1 => by
    unfold stt
    split
    · exact stt_pw k
    · rw [List.pairwise_append]
      exact ⟨stt_pw k, List.pairwise_singleton _ _, fun a ha b hb => by have := List.mem_singleton.1 hb; have := stt_lt k a ha; omega⟩
theorem part_all : ∀ k, ∀ j, j < k → (j : Int) ∈ (part xs k).2
  | 0, j, h => by omega
  | k + 1, j, h => by
    unfold part
    by_cases hk : (k : Int) ∈ (part xs k).2
    · rw [if_pos hk]
      by_cases e : j = k
      · rw [e]; exact hk
      · exact part_all k j (by omega)
    · rw [if_neg hk]
      by_cases e : j = k
      · rw [e]; exact List.mem_append.2 (.inr (tr_self _ _))
      · exact List.mem_append.2 (.inl (part_all k j (by omega)))
theorem part_apart (G : Good xs) {k : Nat} (hk : k ≤ xs.length) {i : Int} (h0 : 0 ≤ i) (h1 : i < xs.length) (hi : i ∉ (part xs k).2) {a : Int} (ha : a ∈ tr xs i xs.length) : a ∉ (part xs k).2 := by
  intro hin
  rw [part_stt] at hin hi
  obtain ⟨j, hj, haj⟩ := List.mem_flatMap.1 hin
  have hjk := stt_lt k j hj
  have hs := tr_symm G h0 h1 ha
  have ra := (tr_ok G h0 h1 xs.length).inr a ha
  refine hi (List.mem_flatMap.2 ⟨j, hj, tr_sub G (by omega) (by omega) haj i hs⟩)
theorem stt_low (G : Good xs) : ∀ k, k ≤ xs.length → ∀ i ∈ stt xs k, ∀ a ∈ tr xs (i : Int) xs.length, (i : Int) ≤ a
  | 0, _, i, h => by cases h
  | k + 1, hk, i, h => by
    intro a ha
    unfold stt at h
    by_cases hin : (k : Int) ∈ (part xs k).2
    · rw [if_pos hin] at h; exact stt_low G k (by omega) i h a ha
    · rw [if_neg hin] at h
      rcases List.mem_append.1 h with h | h
      · exact stt_low G k (by omega) i h a ha
      · obtain rfl := List.mem_singleton.1 h
        have hna := part_apart G (k := i) (by omega) (i := (i : Int)) (by omega) (by omega) hin ha
        have r := (tr_ok G (s := (i : Int)) (by omega) (by omega) xs.length).inr a ha
        obtain ⟨j, rfl⟩ := Int.eq_ofNat_of_zero_le r.1
        by_cases hj : j < i
        · exact absurd (part_all i j hj) hna
        · omega
theorem stt_head (h1 : 1 ≤ xs.length) : ∀ k, 1 ≤ k → ∃ t, stt xs k = 0 :: t
  | 0, h => by omega
  | 1, _ => ⟨[], by simp [stt, part]⟩
  | k + 2, _ => by
    obtain ⟨t, ht⟩ := stt_head h1 (k + 1) (by omega)
    by_cases hin : ((k + 1 : Nat) : Int) ∈ (part xs (k + 1)).2
    · exact ⟨t, by rw [stt, if_pos hin, ht]⟩
    · exact ⟨t ++ [k + 1], by rw [stt, if_neg hin, ht]; rfl⟩
theorem comp_in (G : Good xs) {i : Nat} (hi : i < xs.length) : GL xs.length (comp xs i) := GL.srt (tr_ok G (by omega) (by omega) _)
end
end
section
open Go.RowKit
set_option linter.unusedVariables false
set_option linter.unusedSimpArgs false
/-- Where it holds nothing it is nil. -/
def NilF {α : Type} (v : Value) (xs : List α) : Prop := xs = [] → v = .slice none 0 0
theorem pos_of_isEmpty {α : Type} {xs : List α} (h : xs.isEmpty = false) : 0 < xs.length := by
  cases xs with
  | nil => cases h
  | cons x xs => simp
section
variable {α : Type} {R : Rd α} {O : Ow α} {enc : α → List Value} {sz B n c l lo : Nat} {w w' : World} {A Av : Option Addr} {xs : List α} {bs : List Nat} {e : TypeId}
theorem SlAt.dropV (h : SlAt R sz w B A n xs) (r : n ≤ c ∧ c ≤ maxLen) (hl : l ≤ xs.length) (eA : (if c = l then A else A.map (·.add (l * sz))) = Av) : SlAt R sz w B Av (xs.length - l) (xs.drop l) ∧ xs.length - l ≤ c - l ∧ c - l ≤ maxLen := by
  have hn := h.1
  refine ⟨⟨by rw [List.length_drop], fun h0 => ?_⟩, by omega, by omega⟩
  obtain ⟨b, off, ea, hb, hc⟩ := h.2 (by omega)
  subst ea
  rw [if_neg (by omega)] at eA
  subst eA
  refine ⟨b, off + l * sz, by simp only [Option.map_some, Addr.add_eq], hb, fun i x hx => ?_⟩
  rw [List.getElem?_drop] at hx
  obtain ⟨cs, h1, h2⟩ := hc _ x hx
  refine ⟨cs, h1, fun j v hj => ?_⟩
  have := h2 j v hj
  rwa [Nat.add_mul, ← Nat.add_assoc] at this
theorem OwN.view (ok : OwOk O sz) (hR : Gives O R w.heap.size) (h : OwN e O sz w lo (.slice A n c) xs bs) (hl : l ≤ xs.length) (eA : (if c = l then A else A.map (·.add (l * sz))) = Av) : SlAt R sz w w.heap.size Av (xs.length - l) (xs.drop l) ∧ xs.length - l ≤ c - l ∧ c - l ≤ maxLen :=
  SlAt.dropV (h.sl ok hR).1 (h.sl ok hR).2 hl eA
theorem OwF.view (F : FlatT R O enc sz) (h : OwF e enc sz w lo (.slice A n c) xs) (hl : l ≤ xs.length) (eA : (if c = l then A else A.map (·.add (l * sz))) = Av) : SlAt R sz w w.heap.size Av (xs.length - l) (xs.drop l) ∧ xs.length - l ≤ c - l ∧ c - l ≤ maxLen :=
  SlAt.dropV (OwF.sl F h).1 (OwF.sl F h).2 hl eA
end
section
variable {P : Program} {C : World → Prop} {f : Nat → Value} {d : Option Tmp} {ty : TypeId} {pos : String} {af : Array Edge} {g : Option (Nat × Bool)} {x y : Operand} {t : TypeId} {A Av : Option Addr} {n c : Nat}
theorem Y.sliceL {l sz N : Nat} {k : IntKind} {j : Int} (hx : ev f x = .slice A N c) (hy : ev f y = .int k j) (hj : j = (l : Int)) (hl : l ≤ N) (ht : elemO P t = some sz) (eA : (if c = l then A else A.map (·.add (l * sz))) = Av) :
    Y P C f ⟨d, .slice t x (some y) none none, ty, pos, af, g⟩ (.slice Av (N - l) (c - l)) := fun w _ => by
  subst hj
  unfold elemO at ht
  split at ht
  · rename_i e hu
    cases hinf : P.info? e with
    | none => rw [hinf] at ht; cases ht
    | some inf =>
      rw [hinf] at ht
      simp at ht
      subst ht
      have he : P.elem t = e := by simp [Program.elem, hu]
      have hu' : P.underlying t = some (.slice (P.elem t)) := by rw [he]; exact hu
      have := run_slice_l (P := P) (w := w) t A N c hu' k (l : Int) (by omega) (by omega)
      simp [execOp, hx, hy, run_sliceAt_slice, hu', this, he, sizeOf, typeInfo, hinf, sliced, eA]
  · cases ht
end
section
variable {C : World → Prop} {b o : Nat} {v0 v1 v2 : Value}
theorem cells3 (h0 : CellIn C ⟨b, o + 0, none⟩ v0) (h1 : CellIn C ⟨b, o + 1, none⟩ v1) (h2 : CellIn C ⟨b, o + 2, none⟩ v2) : CellsIn C b o [v0, v1, v2] := fun w hw j v hj => by
  match j, hj with
  | 0, hj => obtain rfl : v0 = v := by simpa using hj
             exact h0 w hw
  | 1, hj => obtain rfl : v1 = v := by simpa using hj
             exact h1 w hw
  | 2, hj => obtain rfl : v2 = v := by simpa using hj
             exact h2 w hw
  | _ + 3, hj => simp at hj
end
end
section
open Go.RowKit
set_option linter.unusedVariables false
set_option linter.unusedSimpArgs false
structure DTraversal where
  list : List Int
  code : List Int
  least : Int
def traversalRd : Rd DTraversal := fun w B cs x => ∃ (A1 : Option Addr) (n1 c1 : Nat) (A2 : Option Addr) (n2 c2 : Nat), cs = [.slice A1 n1 c1, .slice A2 n2 c2, .int .i64 x.least] ∧ (SlAt intRd 1 w B A1 n1 x.list ∧ n1 ≤ c1 ∧ c1 ≤ maxLen) ∧ (SlAt intRd 1 w B A2 n2 x.code ∧ n2 ≤ c2 ∧ c2 ≤ maxLen)
def traversalOw : Ow DTraversal := fun w cs x bs => ∃ (A1 : Option Addr) (n1 c1 : Nat) (A2 : Option Addr) (n2 c2 : Nat) (b1 b2 : List Nat), cs = [.slice A1 n1 c1, .slice A2 n2 c2, .int .i64 x.least] ∧ (OwAt intOw 1 w A1 n1 x.list b1 ∧ n1 ≤ c1 ∧ c1 ≤ maxLen) ∧ (OwAt intOw 1 w A2 n2 x.code b2 ∧ n2 ≤ c2 ∧ c2 ≤ maxLen) ∧ bs = b1 ++ b2
theorem traversalOw_ok : OwOk traversalOw 3 :=
  ⟨fun ⟨A1, n1, c1, A2, n2, c2, b1, b2, e, _⟩ => by rw [e]; rfl,
   fun hb ⟨A1, n1, c1, A2, n2, c2, b1, b2, e, ⟨h1, r1⟩, ⟨h2, r2⟩, eb⟩ => ⟨A1, n1, c1, A2, n2, c2, b1, b2, e, ⟨h1.keep intOw_ok (fun k hk => hb k (by rw [eb]; simp [hk])), r1⟩, ⟨h2.keep intOw_ok (fun k hk => hb k (by rw [eb]; simp [hk])), r2⟩, eb⟩⟩
theorem traversalOw_reads (B : Nat) : Gives traversalOw traversalRd B := fun _ _ _ _ ⟨A1, n1, c1, A2, n2, c2, b1, b2, e, ⟨h1, r1⟩, ⟨h2, r2⟩, eb⟩ hb => ⟨A1, n1, c1, A2, n2, c2, e, ⟨h1.reads (intOw_reads B) (fun k hk => hb k (by rw [eb]; simp [hk])), r1⟩, ⟨h2.reads (intOw_reads B) (fun k hk => hb k (by rw [eb]; simp [hk])), r2⟩⟩
theorem traversalOw_one : OneC traversalOw := fun ⟨A1, n1, c1, A2, n2, c2, b1, b2, e, _⟩ u hu => by rw [e] at hu; simp at hu; rcases hu with rfl | rfl | rfl <;> rfl
abbrev cmpI (x y : Int) : Int := Lib.compareInt x y
theorem cmpI_eq (x y : Int) : cmpI x y = if x < y then -1 else if y < x then 1 else 0 := by
  unfold cmpI Lib.compareInt
  repeat' split
  all_goals first | rfl | (exfalso; omega)
theorem cmpI_zero {x y : Int} : cmpI x y = 0 ↔ x = y := by
  rw [cmpI_eq]
  (repeat' split) <;> omega
theorem cmpI_neg {x y : Int} : cmpI x y < 0 ↔ x < y := by
  rw [cmpI_eq]
  (repeat' split) <;> omega
theorem cmpI_swap (x y : Int) : cmpI y x = -cmpI x y := by
  rw [cmpI_eq, cmpI_eq]
  (repeat' split) <;> omega
def cmpL : List Int → List Int → Int
  | [], [] => 0
  | [], _ :: _ => -1
  | _ :: _, [] => 1
  | x :: xs, y :: ys => if cmpI x y = 0 then cmpL xs ys else cmpI x y
theorem cmpL_zero : ∀ {xs ys : List Int}, cmpL xs ys = 0 ↔ xs = ys
  | [], [] => by simp [cmpL]
  | [], _ :: _ => by simp [cmpL]
  | _ :: _, [] => by simp [cmpL]
  | x :: xs, y :: ys => by
    unfold cmpL
    split
    · rename_i h; rw [cmpL_zero, cmpI_zero.1 h]; simp
    · rename_i h
      constructor
      · intro h2; exact absurd h2 h
      · intro h2; injection h2 with h3 h4; exact absurd (cmpI_zero.2 h3) h
theorem cmpL_swap : ∀ (xs ys : List Int), cmpL ys xs = -cmpL xs ys
  | [], [] => rfl
  | [], _ :: _ => rfl
  | _ :: _, [] => rfl
  | x :: xs, y :: ys => by
    unfold cmpL
    rw [cmpI_swap x y]
    by_cases h : cmpI x y = 0
    · rw [if_pos h, if_pos (by omega), cmpL_swap]
    · rw [if_neg h, if_neg (by omega)]
theorem cmpL_trans : ∀ {xs ys zs : List Int}, cmpL xs ys < 0 → cmpL ys zs < 0 → cmpL xs zs < 0
  | [], [], _, h, _ => by simp [cmpL] at h
  | [], _ :: _, [], _, h => by simp [cmpL] at h
  | [], _ :: _, _ :: _, _, _ => by simp [cmpL]
  | _ :: _, [], _, h, _ => by simp [cmpL] at h
  | _ :: _, _ :: _, [], _, h => by simp [cmpL] at h
  | x :: xs, y :: ys, z :: zs, h1, h2 => by
    unfold cmpL at h1 h2 ⊢
    by_cases e1 : cmpI x y = 0
    · rw [if_pos e1] at h1
      rw [cmpI_zero] at e1
      subst e1
      by_cases e2 : cmpI x z = 0
      · rw [if_pos e2] at h2 ⊢
        exact cmpL_trans h1 h2
      · rw [if_neg e2] at h2 ⊢
        exact h2
    · rw [if_neg e1] at h1
      have h1' := cmpI_neg.1 h1
      by_cases e2 : cmpI y z = 0
      · rw [cmpI_zero] at e2
        subst e2
        rw [if_neg e1]; exact h1
      · rw [if_neg e2] at h2
        have h2' := cmpI_neg.1 h2
        have h3 : cmpI x z < 0 := cmpI_neg.2 (by omega)
        rw [if_neg (by omega)]; exact h3
def cmpT (x y : DTraversal) : Int := if cmpL x.code y.code = 0 then cmpI x.least y.least else cmpL x.code y.code
theorem cmpT_swap (x y : DTraversal) : cmpT y x = -cmpT x y := by
  unfold cmpT
  rw [cmpL_swap x.code y.code, cmpI_swap x.least y.least]
  by_cases h : cmpL x.code y.code = 0
  · rw [if_pos h, if_pos (by omega)]
  · rw [if_neg h, if_neg (by omega)]
theorem cmpT_self (x : DTraversal) : cmpT x x = 0 := by unfold cmpT; rw [if_pos (cmpL_zero.2 rfl), cmpI_zero]
theorem cmpT_zero {x y : DTraversal} (h : cmpT x y = 0) : x.code = y.code ∧ x.least = y.least := by
  unfold cmpT at h
  split at h
  · rename_i h2; exact ⟨cmpL_zero.1 h2, cmpI_zero.1 h⟩
  · rename_i h2; exact absurd h h2
theorem cmpT_trans {x y z : DTraversal} (h1 : cmpT x y < 0) (h2 : cmpT y z < 0) : cmpT x z < 0 := by
  unfold cmpT at *
  by_cases e1 : cmpL x.code y.code = 0
  · rw [if_pos e1] at h1
    have e1 := cmpL_zero.1 e1
    by_cases e2 : cmpL y.code z.code = 0
    · rw [if_pos e2] at h2
      rw [e1, if_pos e2]
      have := cmpI_neg.1 h1; have := cmpI_neg.1 h2
      exact cmpI_neg.2 (by omega)
    · rw [if_neg e2] at h2
      rw [e1, if_neg e2]; exact h2
  · rw [if_neg e1] at h1
    by_cases e2 : cmpL y.code z.code = 0
    · have e2 := cmpL_zero.1 e2
      rw [← e2, if_neg e1]; exact h1
    · rw [if_neg e2] at h2
      have := cmpL_trans h1 h2
      rw [if_neg (by omega)]; exact this
theorem cmpT_key {x y z : DTraversal} (h : cmpT x y = 0) : cmpT x z = cmpT y z := by
  obtain ⟨h1, h2⟩ := cmpT_zero h
  unfold cmpT
  rw [h1, h2]
theorem cmpT_le {x y z : DTraversal} (h1 : 0 ≤ cmpT x y) (h2 : 0 ≤ cmpT y z) : 0 ≤ cmpT x z := by
  have s1 := cmpT_swap x y; have s2 := cmpT_swap y z; have s3 := cmpT_swap x z
  by_cases e1 : cmpT x y = 0
  · rw [cmpT_key e1]; exact h2
  · by_cases e2 : cmpT y z = 0
    · have e3 : cmpT z y = 0 := by omega
      have := cmpT_key (z := x) e3
      omega
    · have := cmpT_trans (x := z) (y := y) (z := x) (by omega) (by omega)
      omega
/-- In order, by code and least agent. -/
def srtT (xs : List DTraversal) : List DTraversal := xs.mergeSort fun x y => decide (0 ≤ cmpT y x)
theorem srtT_perm (xs : List DTraversal) : (srtT xs).Perm xs := List.mergeSort_perm _ _
theorem nodup_map_inj {α β : Type} {f : α → β} : ∀ {l : List α}, (l.map f).Nodup → ∀ {x y}, x ∈ l → y ∈ l → f x = f y → x = y
  | [], _, _, _, hx, _, _ => by simp at hx
  | a :: l, h, x, y, hx, hy, e => by
    rw [List.map_cons, List.nodup_cons] at h
    rcases List.mem_cons.1 hx with h1 | h1 <;> rcases List.mem_cons.1 hy with h2 | h2
    · rw [h1, h2]
    · exact absurd (List.mem_map.2 ⟨y, h2, by rw [← e, h1]⟩) h.1
    · exact absurd (List.mem_map.2 ⟨x, h1, by rw [e, h2]⟩) h.1
    · exact nodup_map_inj h.2 h1 h2 e
theorem srtT_unique {l m : List DTraversal} (hn : (l.map (·.least)).Nodup) (hp : m.Perm l) (hs : m.Pairwise (fun x y => 0 ≤ cmpT y x)) : m = srtT l := by
  have tr : ∀ a b c : DTraversal, decide (0 ≤ cmpT b a) = true → decide (0 ≤ cmpT c b) = true → decide (0 ≤ cmpT c a) = true := fun a b c h1 h2 => by simp only [decide_eq_true_eq] at *; exact cmpT_le h2 h1
  have to : ∀ a b : DTraversal, (decide (0 ≤ cmpT b a) || decide (0 ≤ cmpT a b)) = true := fun a b => by
    simp only [Bool.or_eq_true, decide_eq_true_eq]; have := cmpT_swap a b; omega
  refine List.Perm.eq_of_pairwise (le := fun a b => decide (0 ≤ cmpT b a) = true) (fun a b ha hb h1 h2 => ?_) (hs.imp fun h => decide_eq_true h) (List.pairwise_mergeSort tr to l) (hp.trans (List.mergeSort_perm l _).symm)
  simp only [decide_eq_true_eq] at h1 h2
  have s := cmpT_swap a b
  exact nodup_map_inj hn (hp.mem_iff.1 ha) ((List.mergeSort_perm l _).mem_iff.1 hb) (cmpT_zero (show cmpT a b = 0 by omega)).2
theorem swoT {α : Type} (f : α → DTraversal) : Go.Sort.SWO (fun x y => decide (cmpT (f x) (f y) < 0)) where
  irrefl x := by have := cmpT_self (f x); simp; omega
  trans x y z h1 h2 := by simp at *; exact cmpT_trans h1 h2
  ntrans x y z h1 h2 := by simp at *; exact cmpT_le h1 h2
end
end Go.Proofs.YtebioddcnldjkaaGreat
