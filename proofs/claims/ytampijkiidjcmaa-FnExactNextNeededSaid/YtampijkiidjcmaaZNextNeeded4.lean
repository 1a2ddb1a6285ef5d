/- Lemmas of the proof of NextNeeded, part 4. No condition. -/
import Derived.Test.YtampijkiidjcmaaZNextNeeded3
namespace Go.Proofs.Ytampijkiidjcmaa
section
open Go.RowKit
set_option linter.unusedVariables false
set_option linter.unusedSimpArgs false
set_option maxRecDepth 100000
def m_spec_l17Walk_A1 (xs32 : List Int) (z33 : DPair) : Option ((List Int) × DPair × Int) :=
  some (xs32, (⟨0, 0⟩ : DPair), 5)
def m_spec_l17Walk_B1 (d0 : DNet) (rec1 : List Int → DPair → DPort → Option ((List Int) × DPair × Int)) (K1 : List Int → DPair → Option ((List Int) × DPair × Int)) (xs38 : List Int) (z39 : DPair) (z40 : DPort) : Option ((List Int) × DPair × Int) :=
  (bif (z40.slot != 0) then (bif (decide ((xs38.length : Int) < (d0.agents.length : Int))) then ((mustP (xs38.length + ([z40.agent]).length ≤ 4294967296)).bind fun _ => ((m_spec_l13Port z40.agent 0).bind fun y61 => ((m_spec_l11Peer d0 y61).bind fun y65 => (bif (y65.slot == 0) then (bif (y65.agent != 0) then ((m_spec_l00Min z40.agent y65.agent).bind fun y76 => ((m_spec_l00Max z40.agent y65.agent).bind fun y80 => some ((xs38 ++ [z40.agent]), (⟨y76, y80⟩ : DPair), 0))) else (rec1 (xs38 ++ [z40.agent]) z39 y65)) else (rec1 (xs38 ++ [z40.agent]) z39 y65))))) else (K1 xs38 z39)) else (K1 xs38 z39))
def m_spec_l17Walk_L1 (d0 : DNet) (K1 : List Int → DPair → Option ((List Int) × DPair × Int)) : Nat → List Int → DPair → DPort → Option ((List Int) × DPair × Int)
  | 0, _, _, _ => none
  | g + 1, xs38, z39, z40 => m_spec_l17Walk_B1 d0 (m_spec_l17Walk_L1 d0 K1 g) K1 xs38 z39 z40
def m_spec_l17Walk (d0 : DNet) (d1 : DPort) : Option ((List Int) × DPair × Int) :=
  ((m_spec_l17Value d0 d1).bind fun y16 => (bif y16 then some (([] : List Int), (⟨0, 0⟩ : DPair), 3) else ((m_spec_l11Peer d0 d1).bind fun y21 => (m_spec_l17Walk_L1 d0 m_spec_l17Walk_A1 (d0.agents.length + 2) ([] : List Int) (⟨0, 0⟩ : DPair) y21))))
set_option maxHeartbeats 2000000 in
theorem c_m_spec_l17Walk (d0 : DNet) (d1 : DPort) (r : (List Int) × DPair × Int) (hm : m_spec_l17Walk d0 d1 = some r) (v0 : Value) (w : World) (hv0 : Pt netRd w v0 d0) :
    Calls Try.prog 122 #[v0, .agg #[.int .i64 d1.agent, .int .i64 d1.slot]] w fun e w' => (∃ v, e = .returned (.tuple #[v, .agg #[.int .i64 r.2.1.a, .int .i64 r.2.1.b], .int .i64 r.2.2]) ∧ OwF 2 encI 1 w' w.heap.size v r.1) ∧ Below w.heap.size w w' := by
  obtain ⟨ba0, oa0, csa0, rfl, hba0, hRa0, hca0⟩ := hv0
  have hSa0 := hRa0
  obtain ⟨A1, n1, c1, rfl, ⟨h1, r1⟩⟩ := hRa0
  have e1 := h1.len; subst e1
  have q1 := len_le r1
  have T := Below.refl w.heap.size w
  unfold m_spec_l17Walk at hm
  refine enter 62 Try.func122 rfl rfl rfl ?_
  intro f hf
  have s0 : f 0 = .pointer (some ⟨ba0, oa0, none⟩) := hf 0 _ rfl
  have s1 : f 1 = .agg #[.int .i64 d1.agent, .int .i64 d1.slot] := hf 1 _ rfl
  refine wp_seq ?_
  refine wp_rl rfl ?_
  refine RL.box rfl s1 (fun w2 B3 hb4 szw2 => ?_)
  replace B3 : Blk w2 w.heap.size 53 #[.int .i64 d1.agent, .int .i64 d1.slot] := B3
  have GB3 : w.heap.size ≤ w.heap.size := T.size
  have T := Tt T hb4
  refine RL.y rfl (Y.assign (v := .slice none 0 0) rfl) ?_
  refine RL.alloc (z := .agg #[.int .i64 0, .int .i64 0]) rfl (by kernel_rfl) (fun w6 B7 hb8 szw6 => ?_)
  replace B7 : Blk w6 w2.heap.size 81 #[.int .i64 0, .int .i64 0] := B7
  have GB7 : w.heap.size ≤ w2.heap.size := T.size
  have Eob9_ob5 := Nat.ne_of_lt B3.lt
  have B3 := blkT B3 hb8
  have T := Tt T hb8
  refine RL.y rfl (Y.assign (v := .int .i64 0) rfl) ?_
  refine RL.nil ?_
  refine then_n ?_
  refine wp_seq ?_
  refine wp_rl rfl ?_
  refine RL.bslice (e := 2) (cells := #[]) rfl pm0 (by kernel_rfl) (fun w10 B11 hb12 szw10 => ?_)
  have ZB11 : w.heap.size ≤ w6.heap.size := T.size
  have No13_ob5 := litNe (n := 0) (c := 0) B3.lt
  have No13_ob9 := litNe (n := 0) (c := 0) B7.lt
  have B3 := blkT B3 hb12
  have B7 := blkT B7 hb12
  have T := Tt T hb12
  have G14 := OwF.lit (enc := encI) (sz := 1) (xs := ([] : List Int)) B11 ZB11 rfl rfl rfl rfl
  refine RL.y rfl (Y.assign (v := .slice (some ⟨w6.heap.size, 0, none⟩) 0 0) rfl) ?_
  refine RL.nil ?_
  refine then_n ?_
  refine wp_seq ?_
  refine wp_seq ?_
  refine wp_rb rfl ?_
  refine RQ.y rfl (Y.move (v := .pointer (some ⟨ba0, oa0, none⟩)) s0) ?_
  refine RQ.y rfl (Y.loadN (cs := [.int .i64 d1.agent, .int .i64 d1.slot]) rfl (by kernel_rfl) (cells2 (beC (blkCell B3 (i := 0) rfl)) (beC (blkCell B3 (i := 1) rfl)))) ?_
  obtain ⟨y16, e17, hm⟩ := bnd hm
  refine RQ.call rfl (am2 rfl rfl) (by kernel_rfl) (v := .bool y16) (bel (K := fun _ => True) fun w' hb' => (c_m_spec_l17Value d0 d1 _ e17 _ w' (ptArg netRd_ok hba0 hSa0 hca0 (Tt T hb')))) ?_
  refine RQ.nil ?_
  intro w18 hb19
  have szw18 := hb19.size
  have B3 := blkT B3 hb19
  have B7 := blkT B7 hb19
  have G14 := OwF.below G14 hb19
  have T := Tt T hb19
  refine then_n ?_
  rcases bcases y16 with c20 | c20
  · replace hm := cF c20 hm
    refine cond_f rfl (vb rfl c20) ?_
    refine wp_skip ?_
    refine then_n ?_
    refine wp_seq ?_
    refine wp_rl rfl ?_
    refine RL.y rfl (Y.move (v := .pointer (some ⟨ba0, oa0, none⟩)) s0) ?_
    refine RL.y rfl (Y.loadN (cs := [.int .i64 d1.agent, .int .i64 d1.slot]) rfl (by kernel_rfl) (cells2 (eqC (blkCell B3 (i := 0) rfl)) (eqC (blkCell B3 (i := 1) rfl)))) ?_
    obtain ⟨y21, e22, hm⟩ := bnd hm
    refine RL.call rfl (am2 rfl rfl) (by kernel_rfl) ((c_m_spec_l11Peer d0 d1 _ e22 _ _ (ptArg netRd_ok hba0 hSa0 hca0 T)).mono ?_)
    rintro _ w23 ⟨rfl, hb24⟩
    refine ⟨_, rfl, ?_⟩
    have szw23 := hb24.size
    have B3 := blkT B3 hb24
    have B7 := blkT B7 hb24
    have G14 := OwF.below G14 hb24
    have T := Tt T hb24
    refine RL.alloc (z := .agg #[.int .i64 0, .int .i64 0]) rfl (by kernel_rfl) (fun w25 B26 hb27 szw25 => ?_)
    replace B26 : Blk w25 w23.heap.size 53 #[.int .i64 0, .int .i64 0] := B26
    have GB26 : w.heap.size ≤ w23.heap.size := T.size
    have Eob28_ob5 := Nat.ne_of_lt B3.lt
    have Eob28_ob9 := Nat.ne_of_lt B7.lt
    have No13_ob28 := OwF.far G14 (Nat.le_refl _)
    have B3 := blkT B3 hb27
    have B7 := blkT B7 hb27
    have G14 := OwF.below G14 hb27
    have T := Tt T hb27
    refine RL.store (v := .agg #[.int .i64 y21.agent, .int .i64 y21.slot]) (cs' := #[.int .i64 y21.agent, .int .i64 y21.slot]) rfl rfl rfl B26 (by kernel_rfl) (by rfl) (by rfl) (by rfl) (fun w29 B30 ho31 => ?_)
    have szw29 := ho31.size
    have B3 := B3.only_ ho31 (by intro hin; simp at hin; exact Eob28_ob5 hin)
    have B7 := B7.only_ ho31 (by intro hin; simp at hin; exact Eob28_ob9 hin)
    have G14 := OwF.only G14 ho31 No13_ob28
    have T := T.trans (ho31.below (by first | (simp; done) | (simp; omega)))
    refine RL.nil ?_
    refine then_n ?_
    refine wp_seq ?_
    refine wp_block ?_
    obtain ⟨K1, hK1, hm⟩ : ∃ K, K = m_spec_l17Walk_A1 ∧ m_spec_l17Walk_L1 d0 K (d0.agents.length + 2) ([] : List Int) (⟨0, 0⟩ : DPair) y21 = some r := ⟨_, rfl, hm⟩
    refine wp_loopX (fun g f w' => ∃ (xs38 : List Int) (z39 : DPair) (z40 : DPort) (uxs38 : Value), f 0 = .pointer (some ⟨ba0, oa0, none⟩) ∧ f 5 = .pointer (some ⟨w2.heap.size, 0, none⟩) ∧ f 8 = .pointer (some ⟨w23.heap.size, 0, none⟩) ∧ f 7 = uxs38 ∧ OwF 2 encI 1 w' w.heap.size uxs38 xs38 ∧ Blk w' w2.heap.size 81 #[.int .i64 z39.a, .int .i64 z39.b] ∧ Blk w' w23.heap.size 53 #[.int .i64 z40.agent, .int .i64 z40.slot] ∧ Value.ownBlock uxs38 ≠ some w2.heap.size ∧ Value.ownBlock uxs38 ≠ some w23.heap.size ∧ Below w.heap.size w w' ∧ m_spec_l17Walk_L1 d0 K1 g xs38 z39 z40 = some r) 0 (fun f w' => ∃ (xs32 : List Int) (z33 : DPair) (uxs32 : Value), f 5 = .pointer (some ⟨w2.heap.size, 0, none⟩) ∧ f 7 = uxs32 ∧ OwF 2 encI 1 w' w.heap.size uxs32 xs32 ∧ Blk w' w2.heap.size 81 #[.int .i64 z33.a, .int .i64 z33.b] ∧ Value.ownBlock uxs32 ≠ some w2.heap.size ∧ Value.ownBlock uxs32 ≠ some w23.heap.size ∧ Below w.heap.size w w' ∧ m_spec_l17Walk_A1 xs32 z33 = some r) (d0.agents.length + 2) ⟨([] : List Int), (⟨0, 0⟩ : DPair), y21, (.slice (some ⟨w6.heap.size, 0, none⟩) 0 0), s0, rfl, rfl, rfl, G14, B7, B30, No13_ob9, No13_ob28, T, hm⟩ ?_ ?_
    · rintro f w34 ⟨xs32, z33, uxs32, s5_1x, s7_1x, Gxs32, Bz33, Noxs32_ob9, Noxs32_ob28, T, hm⟩
      unfold m_spec_l17Walk_A1 at hm
      refine blk_hit (then_n ?_)
      refine wp_seq ?_
      refine wp_rl rfl ?_
      refine RL.y rfl (Y.move (v := uxs32) s7_1x) ?_
      refine RL.y rfl (Y.build0 (cells := #[.int .i64 0, .int .i64 0])  (by kernel_rfl) (by kernel_rfl)) ?_
      refine RL.y rfl (Y.assign (v := uxs32) rfl) ?_
      refine RL.store (v := .agg #[.int .i64 0, .int .i64 0]) (cs' := #[.int .i64 0, .int .i64 0]) rfl s5_1x rfl Bz33 (by kernel_rfl) (by rfl) (by rfl) (by rfl) (fun w35 B36 ho37 => ?_)
      have szw35 := ho37.size
      have Gxs32 := OwF.only Gxs32 ho37 Noxs32_ob9
      have T := T.trans (ho37.below (by first | (simp; done) | (simp; omega)))
      refine RL.y rfl (Y.assign (v := .int .i64 5) rfl) ?_
      refine RL.nil ?_
      refine then_n ?_
      refine wp_ret ?_
      obtain rfl := Option.some.inj hm
      exact (rettct (cs := [.int .i64 0, .int .i64 0]) rfl rfl rfl s5_1x rfl (by kernel_rfl) (blkCells B36) ⟨⟨_, rfl, Gxs32⟩, T⟩)
    · rintro g f w41 ⟨xs38, z39, z40, uxs38, s0_1, s5_1, s8_1, s7_1, Gxs38, Bz39, Bz40, Noxs38_ob9, Noxs38_ob28, T, hm⟩
      rcases g with _ | g
      · simp only [m_spec_l17Walk_L1] at hm; cases hm
      obtain ⟨rec1, hrec1, hm⟩ : ∃ z, z = m_spec_l17Walk_L1 d0 K1 g ∧ m_spec_l17Walk_B1 d0 z K1 xs38 z39 z40 = some r := ⟨_, rfl, hm⟩
      unfold m_spec_l17Walk_B1 at hm
      refine wp_seq ?_
      refine wp_seq ?_
      refine wp_rs rfl ?_
      refine RQ.y rfl (Y.fieldAddr (off := 1) s8_1 (by kernel_rfl)) ?_
      refine RQ.y rfl (Y.load (v := .int .i64 z40.slot) rfl (by kernel_rfl) (eqC (blkCell Bz40 (i := 1) rfl))) ?_
      refine RQ.y rfl (Y.binI (v := .bool (z40.slot != 0)) rfl rfl rfl) ?_
      refine RQ.y rfl (Y.move (v := .bool (z40.slot != 0)) rfl) ?_
      rcases bcases (z40.slot != 0) with c42 | c42
      · replace hm := cF c42 hm
        refine RQ.skip (wantN (dj := 22) rfl (vb rfl c42) rfl) ?_
        refine RQ.skip (wantN (dj := 22) rfl (vb rfl c42) rfl) ?_
        refine RQ.skip (wantN (dj := 22) rfl (vb rfl c42) rfl) ?_
        refine RQ.skip (wantN (dj := 22) rfl (vb rfl c42) rfl) ?_
        refine RQ.skip (wantN (dj := 22) rfl (vb rfl c42) rfl) ?_
        refine RQ.skip (wantN (dj := 22) rfl (vb rfl c42) rfl) ?_
        refine RQ.skip (wantN (dj := 22) rfl (vb rfl c42) rfl) ?_
        refine RQ.skip (wantN (dj := 22) rfl (vb rfl c42) rfl) ?_
        refine RQ.y rfl (Y.pick (b := false) (v := .bool false) (vb rfl c42) rfl) ?_
        refine RQ.nil ?_
        refine then_n ?_
        refine cond_f rfl rfl ?_
        refine wp_exit ?_
        exact (then_x (then_x (hit_x ⟨_, rfl, ⟨xs38, z39, (uxs38), s5_1, s7_1, Gxs38, Bz39, Noxs38_ob9, Noxs38_ob28, T, (by rw [hK1] at hm; exact hm)⟩⟩)))
      · replace hm := cT c42 hm
        refine RQ.y (wantT (dj := 22) rfl (vb rfl c42)) (Y.move (v := uxs38) s7_1) ?_
        obtain ⟨A43, c44, rfl⟩ := OwF.form Gxs38
        have qbA43 := OwF.bound Gxs38
        refine RQ.y (wantT (dj := 22) rfl (vb rfl c42)) (Y.len (by kernel_rfl) rfl) ?_
        refine RQ.y (wantT (dj := 22) rfl (vb rfl c42)) (Y.move (v := .pointer (some ⟨ba0, oa0, none⟩)) s0_1) ?_
        refine RQ.y (wantT (dj := 22) rfl (vb rfl c42)) (Y.nilCheck rfl) ?_
        refine RQ.y (wantT (dj := 22) rfl (vb rfl c42)) (Y.fieldAddr (off := 0) rfl (by kernel_rfl)) ?_
        refine RQ.y (wantT (dj := 22) rfl (vb rfl c42)) (Y.load (v := .slice A1 d0.agents.length c1) rfl (by kernel_rfl) (eqC (cellT T (hca0 0 _ rfl)))) ?_
        refine RQ.y (wantT (dj := 22) rfl (vb rfl c42)) (Y.len (by kernel_rfl) rfl) ?_
        refine RQ.y (wantT (dj := 22) rfl (vb rfl c42)) (Y.binI (v := .bool (decide ((xs38.length : Int) < (d0.agents.length : Int)))) rfl rfl rfl) ?_
        refine RQ.y rfl (Y.pick (b := true) (v := .bool (decide ((xs38.length : Int) < (d0.agents.length : Int)))) (vb rfl c42) rfl) ?_
        refine RQ.nil ?_
        refine then_n ?_
        rcases bcases (decide ((xs38.length : Int) < (d0.agents.length : Int))) with c45 | c45
        · replace hm := cF c45 hm
          have pc45 := of_decide_eq_false c45
          refine cond_f rfl (vb rfl c45) ?_
          refine wp_exit ?_
          exact (then_x (then_x (hit_x ⟨_, rfl, ⟨xs38, z39, (.slice A43 xs38.length c44), s5_1, s7_1, Gxs38, Bz39, Noxs38_ob9, Noxs38_ob28, T, (by rw [hK1] at hm; exact hm)⟩⟩)))
        · replace hm := cT c45 hm
          have pc45 := of_decide_eq_true c45
          refine cond_t rfl (vb rfl c45) ?_
          refine wp_skip ?_
          refine then_n ?_
          refine wp_block ?_
          refine wp_seq ?_
          refine wp_rs rfl ?_
          refine RQ.y rfl (Y.fieldAddr (off := 0) s8_1 (by kernel_rfl)) ?_
          refine RQ.y rfl (Y.load (v := .int .i64 z40.agent) rfl (by kernel_rfl) (eqC (blkCell Bz40 (i := 0) rfl))) ?_
          refine RQ.y rfl (Y.assign (v := .int .i64 z40.agent) rfl) ?_
          refine RQ.nil ?_
          refine then_n ?_
          refine wp_seq ?_
          refine wp_rl rfl ?_
          refine RL.y rfl (Y.move (v := .slice A43 xs38.length c44) s7_1) ?_
          refine RL.y rfl (Y.move (v := .int .i64 z40.agent) rfl) ?_
          refine RL.bslice (e := 2) (cells := #[.int .i64 z40.agent]) rfl (pm1 rfl) (by kernel_rfl) (fun w46 B47 hb48 szw46 => ?_)
          have ZB47 : w.heap.size ≤ w41.heap.size := T.size
          have No49_ob9 := litNe (n := 1) (c := 1) Bz39.lt
          have No49_ob28 := litNe (n := 1) (c := 1) Bz40.lt
          have Do49_oxs38 := Dj.new (v := .slice (some ⟨w41.heap.size, 0, none⟩) 1 1) litGe (OwF.hi Gxs38)
          have Bz39 := blkT Bz39 hb48
          have Bz40 := blkT Bz40 hb48
          have Gxs38 := OwF.below Gxs38 hb48
          have T := Tt T hb48
          have G50 := OwF.lit (enc := encI) (sz := 1) (xs := [z40.agent]) B47 ZB47 rfl rfl rfl rfl
          obtain ⟨_, m52, hm⟩ := bnd hm
          have hk53 := mustP_some m52
          refine RL.append fI app_int64 rfl rfl rfl Gxs38 (OwF.arg fI G50) T.size hk53 (fun v54 w55 G56 hgr57 hbl58 hnb59 => ?_)
          have szw55 := hbl58.size
          have No60_ob9 := ne_app hnb59 Noxs38_ob9 Bz39.lt
          have No60_ob28 := ne_app hnb59 Noxs38_ob28 Bz40.lt
          have Bz39 := Blk.kept Bz39 hgr57 Noxs38_ob9
          have Bz40 := Blk.kept Bz40 hgr57 Noxs38_ob28
          have T := T.trans hbl58
          refine RL.y rfl (Y.assign (v := v54) rfl) ?_
          refine RL.nil ?_
          refine then_n ?_
          refine wp_seq ?_
          refine wp_rl rfl ?_
          refine RL.y rfl (Y.move (v := .pointer (some ⟨ba0, oa0, none⟩)) s0_1) ?_
          refine RL.y rfl (Y.move (v := .int .i64 z40.agent) rfl) ?_
          obtain ⟨y61, e62, hm⟩ := bnd hm
          refine RL.call rfl (am2 rfl rfl) (by kernel_rfl) ((c_m_spec_l13Port z40.agent 0 _ e62  _ ).mono ?_)
          rintro _ w63 ⟨rfl, hb64⟩
          refine ⟨_, rfl, ?_⟩
          have szw63 := hb64.size
          have Bz39 := blkT Bz39 hb64
          have Bz40 := blkT Bz40 hb64
          have G56 := OwF.below G56 hb64
          have T := Tt T hb64
          obtain ⟨y65, e66, hm⟩ := bnd hm
          refine RL.call rfl (am2 rfl rfl) (by kernel_rfl) ((c_m_spec_l11Peer d0 y61 _ e66 _ _ (ptArg netRd_ok hba0 hSa0 hca0 T)).mono ?_)
          rintro _ w67 ⟨rfl, hb68⟩
          refine ⟨_, rfl, ?_⟩
          have szw67 := hb68.size
          have Bz39 := blkT Bz39 hb68
          have Bz40 := blkT Bz40 hb68
          have G56 := OwF.below G56 hb68
          have T := Tt T hb68
          refine RL.store (v := .agg #[.int .i64 y65.agent, .int .i64 y65.slot]) (cs' := #[.int .i64 y65.agent, .int .i64 y65.slot]) rfl s8_1 rfl Bz40 (by kernel_rfl) (by rfl) (by rfl) (by rfl) (fun w69 B70 ho71 => ?_)
          have szw69 := ho71.size
          have Bz39 := Bz39.only_ ho71 (by intro hin; simp at hin; exact Eob28_ob9 hin)
          have G56 := OwF.only G56 ho71 No60_ob28
          have T := T.trans (ho71.below (by first | (simp; done) | (simp; omega)))
          refine RL.nil ?_
          refine then_n ?_
          refine wp_seq ?_
          refine wp_rs rfl ?_
          refine RQ.y rfl (Y.fieldAddr (off := 1) s8_1 (by kernel_rfl)) ?_
          refine RQ.y rfl (Y.load (v := .int .i64 y65.slot) rfl (by kernel_rfl) (eqC (blkCell B70 (i := 1) rfl))) ?_
          refine RQ.y rfl (Y.binI (v := .bool (y65.slot == 0)) rfl rfl rfl) ?_
          refine RQ.y rfl (Y.move (v := .bool (y65.slot == 0)) rfl) ?_
          rcases bcases (y65.slot == 0) with c72 | c72
          · replace hm := cF c72 hm
            refine RQ.skip (wantN (dj := 45) rfl (vb rfl c72) rfl) ?_
            refine RQ.skip (wantN (dj := 45) rfl (vb rfl c72) rfl) ?_
            refine RQ.skip (wantN (dj := 45) rfl (vb rfl c72) rfl) ?_
            refine RQ.y rfl (Y.pick (b := false) (v := .bool false) (vb rfl c72) rfl) ?_
            refine RQ.nil ?_
            refine then_n ?_
            refine cond_f rfl rfl ?_
            refine wp_skip ?_
            exact (blk_n (then_n ⟨g, _, Nat.lt_succ_self _, rfl, ⟨(xs38 ++ [z40.agent]), z39, y65, (v54), s0_1, s5_1, s8_1, rfl, G56, Bz39, B70, No60_ob9, No60_ob28, T, (by rw [← hrec1]; exact hm)⟩⟩))
          · replace hm := cT c72 hm
            refine RQ.y (wantT (dj := 45) rfl (vb rfl c72)) (Y.fieldAddr (off := 0) s8_1 (by kernel_rfl)) ?_
            refine RQ.y (wantT (dj := 45) rfl (vb rfl c72)) (Y.load (v := .int .i64 y65.agent) rfl (by kernel_rfl) (eqC (blkCell B70 (i := 0) rfl))) ?_
            refine RQ.y (wantT (dj := 45) rfl (vb rfl c72)) (Y.binI (v := .bool (y65.agent != 0)) rfl rfl rfl) ?_
            refine RQ.y rfl (Y.pick (b := true) (v := .bool (y65.agent != 0)) (vb rfl c72) rfl) ?_
            refine RQ.nil ?_
            refine then_n ?_
            rcases bcases (y65.agent != 0) with c73 | c73
            · replace hm := cF c73 hm
              refine cond_f rfl (vb rfl c73) ?_
              refine wp_skip ?_
              exact (blk_n (then_n ⟨g, _, Nat.lt_succ_self _, rfl, ⟨(xs38 ++ [z40.agent]), z39, y65, (v54), s0_1, s5_1, s8_1, rfl, G56, Bz39, B70, No60_ob9, No60_ob28, T, (by rw [← hrec1]; exact hm)⟩⟩))
            · replace hm := cT c73 hm
              refine cond_t rfl (vb rfl c73) ?_
              refine wp_seq ?_
              refine wp_rg (fun w' => Below w.heap.size w w' ∧ Blk w' w23.heap.size 53 #[.int .i64 y65.agent, .int .i64 y65.slot]) [(0, true), (1, true), (2, true), (3, true), (5, true), (6, true), (7, true), (4, false), (8, false), (9, true), (10, true), (11, false), (12, true)] (by kernel_rfl) (by kernel_rfl) (fun w74 hb75 szw74 => ?_)
              have Bz39 := blkT Bz39 hb75
              have B70 := blkT B70 hb75
              have G56 := OwF.below G56 hb75
              have T := Tt T hb75
              refine ⟨⟨T, B70⟩, ?_⟩
              refine RG.y rfl rfl (Y.move (v := v54) rfl) ?_
              refine RG.y rfl rfl (Y.move (v := .int .i64 z40.agent) rfl) ?_
              refine RG.y rfl rfl (Y.fieldAddr (off := 0) s8_1 (by kernel_rfl)) ?_
              refine RG.y rfl rfl (Y.load (v := .int .i64 y65.agent) rfl (by kernel_rfl) (fun w' hS => (blkCell hS.2 (i := 0) rfl))) ?_
              refine RG.y rfl rfl (Y.move (v := .int .i64 z40.agent) rfl) ?_
              refine RG.y rfl rfl (Y.fieldAddr (off := 0) s8_1 (by kernel_rfl)) ?_
              refine RG.y rfl rfl (Y.load (v := .int .i64 y65.agent) rfl (by kernel_rfl) (fun w' hS => (blkCell hS.2 (i := 0) rfl))) ?_
              refine RG.act rfl ?_
              obtain ⟨y76, e77, hm⟩ := bnd hm
              refine RL.call rfl (am2 rfl rfl) (by kernel_rfl) ((c_m_spec_l00Min z40.agent y65.agent _ e77  _ ).mono ?_)
              rintro _ w78 ⟨rfl, hb79⟩
              refine ⟨_, rfl, ?_⟩
              have szw78 := hb79.size
              have Bz39 := blkT Bz39 hb79
              have B70 := blkT B70 hb79
              have G56 := OwF.below G56 hb79
              have T := Tt T hb79
              refine RL.nil ⟨⟨T, B70⟩, ?_⟩
              refine RG.act rfl ?_
              obtain ⟨y80, e81, hm⟩ := bnd hm
              refine RL.call rfl (am2 rfl rfl) (by kernel_rfl) ((c_m_spec_l00Max z40.agent y65.agent _ e81  _ ).mono ?_)
              rintro _ w82 ⟨rfl, hb83⟩
              refine ⟨_, rfl, ?_⟩
              have szw82 := hb83.size
              have Bz39 := blkT Bz39 hb83
              have B70 := blkT B70 hb83
              have G56 := OwF.below G56 hb83
              have T := Tt T hb83
              refine RL.nil ⟨⟨T, B70⟩, ?_⟩
              refine RG.y rfl rfl (Y.build2 (cells := #[.int .i64 y76, .int .i64 y80]) rfl rfl (by kernel_rfl) (by kernel_rfl)) ?_
              refine RG.y rfl rfl (Y.assign (v := v54) rfl) ?_
              refine RG.act rfl ?_
              refine RL.store (v := .agg #[.int .i64 y76, .int .i64 y80]) (cs' := #[.int .i64 y76, .int .i64 y80]) rfl s5_1 rfl Bz39 (by kernel_rfl) (by rfl) (by rfl) (by rfl) (fun w84 B85 ho86 => ?_)
              have szw84 := ho86.size
              have B70 := B70.only_ ho86 (by intro hin; simp at hin; exact Eob28_ob9.symm hin)
              have G56 := OwF.only G56 ho86 No60_ob9
              have T := T.trans (ho86.below (by first | (simp; done) | (simp; omega)))
              refine RL.nil ⟨⟨T, B70⟩, ?_⟩
              refine RG.y rfl rfl (Y.assign (v := .int .i64 0) rfl) ?_
              refine RG.nil ?_
              refine then_n ?_
              refine wp_ret ?_
              obtain rfl := Option.some.inj hm
              exact (blk_r (then_r (hit_r (blk_r (then_r (rettct (cs := [.int .i64 y76, .int .i64 y80]) rfl rfl rfl s5_1 rfl (by kernel_rfl) (blkCells B85) ⟨⟨_, rfl, G56⟩, T⟩))))))
  · replace hm := cT c20 hm
    refine cond_t rfl (vb rfl c20) ?_
    refine wp_seq ?_
    refine wp_rl rfl ?_
    refine RL.y rfl (Y.move (v := .slice (some ⟨w6.heap.size, 0, none⟩) 0 0) rfl) ?_
    refine RL.y rfl (Y.build0 (cells := #[.int .i64 0, .int .i64 0])  (by kernel_rfl) (by kernel_rfl)) ?_
    refine RL.y rfl (Y.assign (v := .slice (some ⟨w6.heap.size, 0, none⟩) 0 0) rfl) ?_
    refine RL.store (v := .agg #[.int .i64 0, .int .i64 0]) (cs' := #[.int .i64 0, .int .i64 0]) rfl rfl rfl B7 (by kernel_rfl) (by rfl) (by rfl) (by rfl) (fun w88 B89 ho90 => ?_)
    have szw88 := ho90.size
    have B3 := B3.only_ ho90 (by intro hin; simp at hin; exact Eob9_ob5 hin)
    have G14 := OwF.only G14 ho90 No13_ob9
    have T := T.trans (ho90.below (by first | (simp; done) | (simp; omega)))
    refine RL.y rfl (Y.assign (v := .int .i64 3) rfl) ?_
    refine RL.nil ?_
    refine then_n ?_
    refine wp_ret ?_
    obtain rfl := Option.some.inj hm
    exact (then_r (rettct (cs := [.int .i64 0, .int .i64 0]) rfl rfl rfl rfl rfl (by kernel_rfl) (blkCells B89) ⟨⟨_, rfl, G14⟩, T⟩))
def m_impl_Net_needed_A1 (d0 : DNet) (xs25 : List Int) (z26 : DPort) : Option ((List Int) × DPair × Bool) :=
  (bif (z26.slot != 0) then some ([], (⟨0, 0⟩ : DPair), false) else (bif ((xs25.length : Int) == 0) then some ([], (⟨0, 0⟩ : DPair), false) else ((getI d0.agents z26.agent).bind fun x32 => (bif (x32.kind == 1) then some ([], (⟨0, 0⟩ : DPair), false) else ((ck ((xs25.length : Int) - 1)).bind fun s46 => ((getI xs25 s46).bind fun x47 => some (xs25, (⟨(if z26.agent < x47 then z26.agent else x47), (if z26.agent > x47 then z26.agent else x47)⟩ : DPair), true)))))))
def m_impl_Net_needed_B1 (d0 : DNet) (rec1 : List Int → DPort → MapM Int Bool → Option ((List Int) × DPair × Bool)) (K1 : List Int → DPort → Option ((List Int) × DPair × Bool)) (xs71 : List Int) (z72 : DPort) (z73 : MapM Int Bool) : Option ((List Int) × DPair × Bool) :=
  (bif (z72.slot != 0) then ((ck z72.agent).bind fun _ => (bif (z73.look z72.agent false) then (K1 xs71 z72) else ((ck z72.agent).bind fun _ => ((mustP (z73.n ≤ 4294967296)).bind fun _ => ((mustP (xs71.length + ([z72.agent]).length ≤ 4294967296)).bind fun _ => ((m_impl_Net_peer d0 (⟨z72.agent, 0⟩ : DPort)).bind fun y99 => (rec1 (xs71 ++ [z72.agent]) y99 (z73.put z72.agent true)))))))) else (K1 xs71 z72))
def m_impl_Net_needed_L1 (d0 : DNet) (K1 : List Int → DPort → Option ((List Int) × DPair × Bool)) : Nat → List Int → DPort → MapM Int Bool → Option ((List Int) × DPair × Bool)
  | 0, _, _, _ => none
  | g + 1, xs71, z72, z73 => m_impl_Net_needed_B1 d0 (m_impl_Net_needed_L1 d0 K1 g) K1 xs71 z72 z73
def m_impl_Net_needed (d0 : DNet) (d1 : DPort) : Option ((List Int) × DPair × Bool) :=
  ((m_impl_Net_peer d0 d1).bind fun y10 => (m_impl_Net_needed_L1 d0 (m_impl_Net_needed_A1 d0) (d0.agents.length + 2) ([] : List Int) y10 (MapM.empty : MapM Int Bool)))
set_option maxHeartbeats 2000000 in
theorem c_m_impl_Net_needed (d0 : DNet) (d1 : DPort) (r : (List Int) × DPair × Bool) (hm : m_impl_Net_needed d0 d1 = some r) (v0 : Value) (w : World) (hv0 : Pt netRd w v0 d0) :
    Calls Try.prog 169 #[v0, .agg #[.int .i64 d1.agent, .int .i64 d1.slot]] w fun e w' => (∃ v, e = .returned (.tuple #[v, .agg #[.int .i64 r.2.1.a, .int .i64 r.2.1.b], .bool r.2.2]) ∧ OwF 2 encI 1 w' w.heap.size v r.1) ∧ Below w.heap.size w w' := by
  obtain ⟨ba0, oa0, csa0, rfl, hba0, hRa0, hca0⟩ := hv0
  have hSa0 := hRa0
  obtain ⟨A1, n1, c1, rfl, ⟨h1, r1⟩⟩ := hRa0
  have e1 := h1.len; subst e1
  have q1 := len_le r1
  have T := Below.refl w.heap.size w
  unfold m_impl_Net_needed at hm
  refine enter 75 Try.func169 rfl rfl rfl ?_
  intro f hf
  have s0 : f 0 = .pointer (some ⟨ba0, oa0, none⟩) := hf 0 _ rfl
  have s1 : f 1 = .agg #[.int .i64 d1.agent, .int .i64 d1.slot] := hf 1 _ rfl
  refine wp_seq ?_
  refine wp_rl rfl ?_
  refine RL.box rfl s1 (fun w2 B3 hb4 szw2 => ?_)
  replace B3 : Blk w2 w.heap.size 53 #[.int .i64 d1.agent, .int .i64 d1.slot] := B3
  have GB3 : w.heap.size ≤ w.heap.size := T.size
  have T := Tt T hb4
  refine RL.y rfl (Y.assign (v := .slice none 0 0) rfl) ?_
  refine RL.alloc (z := .agg #[.int .i64 0, .int .i64 0]) rfl (by kernel_rfl) (fun w6 B7 hb8 szw6 => ?_)
  replace B7 : Blk w6 w2.heap.size 81 #[.int .i64 0, .int .i64 0] := B7
  have GB7 : w.heap.size ≤ w2.heap.size := T.size
  have Eob9_ob5 := Nat.ne_of_lt B3.lt
  have B3 := blkT B3 hb8
  have T := Tt T hb8
  refine RL.y rfl (Y.assign (v := .bool false) rfl) ?_
  refine RL.nil ?_
  refine then_n ?_
  refine wp_seq ?_
  refine wp_rs rfl ?_
  refine RQ.y rfl (Y.assign (v := .slice none 0 0) rfl) ?_
  refine RQ.nil ?_
  refine then_n ?_
  refine wp_seq ?_
  refine wp_rl rfl ?_
  refine RL.y rfl (Y.move (v := .pointer (some ⟨ba0, oa0, none⟩)) s0) ?_
  refine RL.y rfl (Y.loadN (cs := [.int .i64 d1.agent, .int .i64 d1.slot]) rfl (by kernel_rfl) (cells2 (eqC (blkCell B3 (i := 0) rfl)) (eqC (blkCell B3 (i := 1) rfl)))) ?_
  obtain ⟨y10, e11, hm⟩ := bnd hm
  refine RL.call rfl (am2 rfl rfl) (by kernel_rfl) ((c_m_impl_Net_peer d0 d1 _ e11 _ _ (ptArg netRd_ok hba0 hSa0 hca0 T)).mono ?_)
  rintro _ w12 ⟨rfl, hb13⟩
  refine ⟨_, rfl, ?_⟩
  have szw12 := hb13.size
  have B3 := blkT B3 hb13
  have B7 := blkT B7 hb13
  have T := Tt T hb13
  refine RL.alloc (z := .agg #[.int .i64 0, .int .i64 0]) rfl (by kernel_rfl) (fun w14 B15 hb16 szw14 => ?_)
  replace B15 : Blk w14 w12.heap.size 53 #[.int .i64 0, .int .i64 0] := B15
  have GB15 : w.heap.size ≤ w12.heap.size := T.size
  have Eob17_ob5 := Nat.ne_of_lt B3.lt
  have Eob17_ob9 := Nat.ne_of_lt B7.lt
  have B3 := blkT B3 hb16
  have B7 := blkT B7 hb16
  have T := Tt T hb16
  refine RL.store (v := .agg #[.int .i64 y10.agent, .int .i64 y10.slot]) (cs' := #[.int .i64 y10.agent, .int .i64 y10.slot]) rfl rfl rfl B15 (by kernel_rfl) (by rfl) (by rfl) (by rfl) (fun w18 B19 ho20 => ?_)
  have szw18 := ho20.size
  have B3 := B3.only_ ho20 (by intro hin; simp at hin; exact Eob17_ob5 hin)
  have B7 := B7.only_ ho20 (by intro hin; simp at hin; exact Eob17_ob9 hin)
  have T := T.trans (ho20.below (by first | (simp; done) | (simp; omega)))
  refine RL.nil ?_
  refine then_n ?_
  refine wp_seq ?_
  refine wp_rl rfl ?_
  refine RL.makeMap (κ := Int) (β := Bool) 2 litI encVB rfl (fun w21 B22 hb23 szw21 => ?_)
  replace B22 := OwM.lower B22 T.size
  have Eob24_ob9 := Nat.ne_of_lt B7.lt
  have Eob24_ob17 := Nat.ne_of_lt B19.lt
  have B7 := blkT B7 hb23
  have B19 := blkT B19 hb23
  have T := Tt T hb23
  refine RL.y rfl (Y.assign (v := .map (some w18.heap.size)) rfl) ?_
  refine RL.nil ?_
  refine then_n ?_
  refine wp_seq ?_
  refine wp_block ?_
  have G107 : OwF 2 encI 1 w21 w.heap.size (.slice none 0 0) ([] : List Int) := OwF.nil
  have No106_ob9 := nilNe (b := w2.heap.size)
  have No106_ob17 := nilNe (b := w12.heap.size)
  have No106_ob24 := nilNe (b := w18.heap.size)
  obtain ⟨K1, hK1, hm⟩ : ∃ K, K = (m_impl_Net_needed_A1 d0) ∧ m_impl_Net_needed_L1 d0 K (d0.agents.length + 2) ([] : List Int) y10 (MapM.empty : MapM Int Bool) = some r := ⟨_, rfl, hm⟩
  refine wp_loopX (fun g f w' => ∃ (xs71 : List Int) (z72 : DPort) (z73 : MapM Int Bool) (uxs71 : Value), f 0 = .pointer (some ⟨ba0, oa0, none⟩) ∧ f 5 = .pointer (some ⟨w2.heap.size, 0, none⟩) ∧ f 8 = .pointer (some ⟨w12.heap.size, 0, none⟩) ∧ f 9 = .map (some w18.heap.size) ∧ f 7 = uxs71 ∧ OwF 2 encI 1 w' w.heap.size uxs71 xs71 ∧ Blk w' w12.heap.size 53 #[.int .i64 z72.agent, .int .i64 z72.slot] ∧ OwM Try.prog 2 litI encVB w' w.heap.size w18.heap.size z73 ∧ Value.ownBlock uxs71 ≠ some w2.heap.size ∧ Value.ownBlock uxs71 ≠ some w12.heap.size ∧ Value.ownBlock uxs71 ≠ some w18.heap.size ∧ Blk w' w2.heap.size 81 #[.int .i64 0, .int .i64 0] ∧ Below w.heap.size w w' ∧ m_impl_Net_needed_L1 d0 K1 g xs71 z72 z73 = some r) 0 (fun f w' => ∃ (xs25 : List Int) (z26 : DPort) (uxs25 : Value), f 0 = .pointer (some ⟨ba0, oa0, none⟩) ∧ f 5 = .pointer (some ⟨w2.heap.size, 0, none⟩) ∧ f 8 = .pointer (some ⟨w12.heap.size, 0, none⟩) ∧ f 7 = uxs25 ∧ OwF 2 encI 1 w' w.heap.size uxs25 xs25 ∧ Blk w' w12.heap.size 53 #[.int .i64 z26.agent, .int .i64 z26.slot] ∧ Value.ownBlock uxs25 ≠ some w2.heap.size ∧ Value.ownBlock uxs25 ≠ some w12.heap.size ∧ Value.ownBlock uxs25 ≠ some w18.heap.size ∧ Blk w' w2.heap.size 81 #[.int .i64 0, .int .i64 0] ∧ Below w.heap.size w w' ∧ m_impl_Net_needed_A1 d0 xs25 z26 = some r) (d0.agents.length + 2) ⟨([] : List Int), y10, (MapM.empty : MapM Int Bool), ((.slice none 0 0)), s0, rfl, rfl, rfl, rfl, G107, B19, B22, No106_ob9, No106_ob17, No106_ob24, B7, T, hm⟩ ?_ ?_
  · rintro f w27 ⟨xs25, z26, uxs25, s0_1x, s5_1x, s8_1x, s7_1x, Gxs25, Bz26, Noxs25_ob9, Noxs25_ob17, Noxs25_ob24, B7, T, hm⟩
    unfold m_impl_Net_needed_A1 at hm
    refine blk_hit (then_n ?_)
    refine wp_seq ?_
    refine wp_seq ?_
    refine wp_rbd (by kernel_rfl) (by kernel_rfl) ?_
    refine RQ.y rfl (Y.fieldAddr (off := 1) s8_1x (by kernel_rfl)) ?_
    refine RQ.y rfl (Y.load (v := .int .i64 z26.slot) rfl (by kernel_rfl) (beC (blkCell Bz26 (i := 1) rfl))) ?_
    refine RQ.y rfl (Y.binI (v := .bool (z26.slot != 0)) rfl rfl rfl) ?_
    refine RQ.y rfl (Y.move (v := .bool (z26.slot != 0)) rfl) ?_
    rcases bcases (z26.slot != 0) with c28 | c28
    · replace hm := cF c28 hm
      refine RQ.y (wantT (dj := 41) rfl (vb rfl c28)) (Y.move (v := uxs25) s7_1x) ?_
      obtain ⟨A29, c30, rfl⟩ := OwF.form Gxs25
      have qbA29 := OwF.bound Gxs25
      refine RQ.y (wantT (dj := 41) rfl (vb rfl c28)) (Y.len (by kernel_rfl) rfl) ?_
      refine RQ.y (wantT (dj := 41) rfl (vb rfl c28)) (Y.binI (v := .bool ((xs25.length : Int) == 0)) rfl rfl rfl) ?_
      refine RQ.y rfl (Y.pick (b := false) (v := .bool ((xs25.length : Int) == 0)) (vb rfl c28) rfl) ?_
      refine RQ.y rfl (Y.move (v := .bool ((xs25.length : Int) == 0)) rfl) ?_
      rcases bcases ((xs25.length : Int) == 0) with c31 | c31
      · replace hm := cF c31 hm
        refine RQ.y (wantT (dj := 46) rfl (vb rfl c31)) (Y.move (v := .pointer (some ⟨ba0, oa0, none⟩)) s0_1x) ?_
        refine RQ.y (wantT (dj := 46) rfl (vb rfl c31)) (Y.nilCheck rfl) ?_
        refine RQ.y (wantT (dj := 46) rfl (vb rfl c31)) (Y.fieldAddr (off := 0) rfl (by kernel_rfl)) ?_
        refine RQ.y (wantT (dj := 46) rfl (vb rfl c31)) (Y.load (v := .slice A1 d0.agents.length c1) rfl (by kernel_rfl) (beC (cellT T (hca0 0 _ rfl)))) ?_
        refine RQ.y (wantT (dj := 46) rfl (vb rfl c31)) (Y.fieldAddr (off := 0) s8_1x (by kernel_rfl)) ?_
        refine RQ.y (wantT (dj := 46) rfl (vb rfl c31)) (Y.load (v := .int .i64 z26.agent) rfl (by kernel_rfl) (beC (blkCell Bz26 (i := 0) rfl))) ?_
        obtain ⟨x32, hx35, hm⟩ := bnd hm
        obtain ⟨k33, hk36, hl37, hx35⟩ := getI_some hx35
        obtain ⟨b39, o40, rfl, hbb39⟩ := h1.addr (by omega)
        obtain ⟨cs34, hRcs34, hc38⟩ := h1.el hx35
        have hScs34 := hRcs34
        obtain ⟨A41, n41, c41, A42, n42, c42, rfl, ⟨h41, r41⟩, ⟨h42, r42⟩⟩ := hRcs34
        have e41 := h41.len; subst e41
        have q41 := len_le r41
        have e42 := h42.len; subst e42
        have q42 := len_le r42
        refine RQ.y (wantT (dj := 46) rfl (vb rfl c31)) (Y.indexAddr (m := k33) (sz := 5) rfl rfl hk36 hl37 (by kernel_rfl)) ?_
        refine RQ.y (wantT (dj := 46) rfl (vb rfl c31)) (Y.fieldAddr (off := 0) rfl (by kernel_rfl)) ?_
        refine RQ.y (wantT (dj := 46) rfl (vb rfl c31)) (Y.load (v := .int .i64 x32.kind) rfl (by kernel_rfl) (beC (cellT T (hc38 0 _ rfl)))) ?_
        refine RQ.y (wantT (dj := 46) rfl (vb rfl c31)) (Y.binI (v := .bool (x32.kind == 1)) rfl rfl rfl) ?_
        refine RQ.y rfl (Y.pick (b := false) (v := .bool (x32.kind == 1)) (vb rfl c31) rfl) ?_
        refine RQ.nil ?_
        intro w43 hb44
        have szw43 := hb44.size
        have B7 := blkT B7 hb44
        have Bz26 := blkT Bz26 hb44
        have Gxs25 := OwF.below Gxs25 hb44
        have T := Tt T hb44
        refine then_n ?_
        rcases bcases (x32.kind == 1) with c45 | c45
        · replace hm := cF c45 hm
          refine cond_f rfl (vb rfl c45) ?_
          refine wp_skip ?_
          refine then_n ?_
          refine wp_seq ?_
          refine wp_rs rfl ?_
          refine RQ.y rfl (Y.move (v := .slice A29 xs25.length c30) s7_1x) ?_
          refine RQ.y rfl (Y.move (v := .slice A29 xs25.length c30) s7_1x) ?_
          refine RQ.y rfl (Y.len (by kernel_rfl) rfl) ?_
          obtain ⟨s46, ks46, hm⟩ := bnd hm
          replace ks46 := ck_some ks46
          refine RQ.y rfl (Y.binI (v := .int .i64 s46) rfl rfl (by rw [binI_sub ks46.2, ks46.1])) ?_
          obtain ⟨x47, hx49, hm⟩ := bnd hm
          obtain ⟨k48, hk50, hl51, hx49⟩ := getI_some hx49
          obtain ⟨b52, rfl⟩ := OwF.addr0 Gxs25 (by omega)
          refine RQ.y rfl (Y.indexAddr (m := k48) (sz := 1) rfl rfl hk50 hl51 (by kernel_rfl)) ?_
          refine RQ.y rfl (Y.load (v := .int .i64 x47) rfl (by kernel_rfl) (eqC (OwF.cell fI Gxs25 hx49 (j := 0) rfl))) ?_
          refine RQ.y rfl (Y.assign (v := .int .i64 x47) rfl) ?_
          refine RQ.nil ?_
          refine then_n ?_
          refine wp_seq ?_
          refine wp_rg (fun w' => Below w.heap.size w w' ∧ Blk w' w12.heap.size 53 #[.int .i64 z26.agent, .int .i64 z26.slot]) [(0, true), (1, true), (2, true), (3, true), (4, true), (5, true), (6, true), (7, true), (8, true), (9, true), (10, true), (11, false), (12, true)] (by kernel_rfl) (by kernel_rfl) (fun w53 hb54 szw53 => ?_)
          have B7 := blkT B7 hb54
          have Bz26 := blkT Bz26 hb54
          have Gxs25 := OwF.below Gxs25 hb54
          have T := Tt T hb54
          refine ⟨⟨T, Bz26⟩, ?_⟩
          refine RG.y rfl rfl (Y.move (v := .slice (some ⟨b52, 0, none⟩) xs25.length c30) s7_1x) ?_
          refine RG.y rfl rfl (Y.move (v := .int .i64 x47) rfl) ?_
          refine RG.y rfl rfl (Y.fieldAddr (off := 0) s8_1x (by kernel_rfl)) ?_
          refine RG.y rfl rfl (Y.load (v := .int .i64 z26.agent) rfl (by kernel_rfl) (fun w' hS => (blkCell hS.2 (i := 0) rfl))) ?_
          refine RG.y rfl rfl (Y.min rfl rfl) ?_
          refine RG.y rfl rfl (Y.move (v := .int .i64 x47) rfl) ?_
          refine RG.y rfl rfl (Y.fieldAddr (off := 0) s8_1x (by kernel_rfl)) ?_
          refine RG.y rfl rfl (Y.load (v := .int .i64 z26.agent) rfl (by kernel_rfl) (fun w' hS => (blkCell hS.2 (i := 0) rfl))) ?_
          refine RG.y rfl rfl (Y.max rfl rfl) ?_
          refine RG.y rfl rfl (Y.build2 (cells := #[.int .i64 (if z26.agent < x47 then z26.agent else x47), .int .i64 (if z26.agent > x47 then z26.agent else x47)]) rfl rfl (by kernel_rfl) (by kernel_rfl)) ?_
          refine RG.y rfl rfl (Y.assign (v := .slice (some ⟨b52, 0, none⟩) xs25.length c30) rfl) ?_
          refine RG.act rfl ?_
          refine RL.store (v := .agg #[.int .i64 (if z26.agent < x47 then z26.agent else x47), .int .i64 (if z26.agent > x47 then z26.agent else x47)]) (cs' := #[.int .i64 (if z26.agent < x47 then z26.agent else x47), .int .i64 (if z26.agent > x47 then z26.agent else x47)]) rfl s5_1x rfl B7 (by kernel_rfl) (by rfl) (by rfl) (by rfl) (fun w55 B56 ho57 => ?_)
          have szw55 := ho57.size
          have Bz26 := Bz26.only_ ho57 (by intro hin; simp at hin; exact Eob17_ob9.symm hin)
          have Gxs25 := OwF.only Gxs25 ho57 Noxs25_ob9
          have T := T.trans (ho57.below (by first | (simp; done) | (simp; omega)))
          refine RL.nil ⟨⟨T, Bz26⟩, ?_⟩
          refine RG.y rfl rfl (Y.assign (v := .bool true) rfl) ?_
          refine RG.nil ?_
          refine then_n ?_
          refine wp_ret ?_
          obtain rfl := Option.some.inj hm
          exact (rettct (cs := [.int .i64 (if z26.agent < x47 then z26.agent else x47), .int .i64 (if z26.agent > x47 then z26.agent else x47)]) rfl rfl rfl s5_1x rfl (by kernel_rfl) (blkCells B56) ⟨⟨_, rfl, Gxs25⟩, T⟩)
        · replace hm := cT c45 hm
          refine cond_t rfl (vb rfl c45) ?_
          refine wp_seq ?_
          refine wp_rl rfl ?_
          refine RL.y rfl (Y.build0 (cells := #[.int .i64 0, .int .i64 0])  (by kernel_rfl) (by kernel_rfl)) ?_
          refine RL.y rfl (Y.assign (v := .slice none 0 0) rfl) ?_
          refine RL.store (v := .agg #[.int .i64 0, .int .i64 0]) (cs' := #[.int .i64 0, .int .i64 0]) rfl s5_1x rfl B7 (by kernel_rfl) (by rfl) (by rfl) (by rfl) (fun w58 B59 ho60 => ?_)
          have szw58 := ho60.size
          have Bz26 := Bz26.only_ ho60 (by intro hin; simp at hin; exact Eob17_ob9.symm hin)
          have Gxs25 := OwF.only Gxs25 ho60 Noxs25_ob9
          have T := T.trans (ho60.below (by first | (simp; done) | (simp; omega)))
          refine RL.y rfl (Y.assign (v := .bool false) rfl) ?_
          refine RL.nil ?_
          refine then_n ?_
          refine wp_ret ?_
          obtain rfl := Option.some.inj hm
          exact (then_r (rettct (cs := [.int .i64 0, .int .i64 0]) rfl rfl rfl s5_1x rfl (by kernel_rfl) (blkCells B59) ⟨⟨_, rfl, OwF.nil⟩, T⟩))
      · replace hm := cT c31 hm
        refine RQ.skip (wantN (dj := 46) rfl (vb rfl c31) rfl) ?_
        refine RQ.skip (wantN (dj := 46) rfl (vb rfl c31) rfl) ?_
        refine RQ.skip (wantN (dj := 46) rfl (vb rfl c31) rfl) ?_
        refine RQ.skip (wantN (dj := 46) rfl (vb rfl c31) rfl) ?_
        refine RQ.skip (wantN (dj := 46) rfl (vb rfl c31) rfl) ?_
        refine RQ.skip (wantN (dj := 46) rfl (vb rfl c31) rfl) ?_
        refine RQ.skip (wantN (dj := 46) rfl (vb rfl c31) rfl) ?_
        refine RQ.skip (wantN (dj := 46) rfl (vb rfl c31) rfl) ?_
        refine RQ.skip (wantN (dj := 46) rfl (vb rfl c31) rfl) ?_
        refine RQ.skip (wantN (dj := 46) rfl (vb rfl c31) rfl) ?_
        refine RQ.y rfl (Y.pick (b := true) (v := .bool true) (vb rfl c31) rfl) ?_
        refine RQ.nil ?_
        intro w61 hb62
        have szw61 := hb62.size
        have B7 := blkT B7 hb62
        have Bz26 := blkT Bz26 hb62
        have Gxs25 := OwF.below Gxs25 hb62
        have T := Tt T hb62
        refine then_n ?_
        refine cond_t rfl rfl ?_
        refine wp_seq ?_
        refine wp_rl rfl ?_
        refine RL.y rfl (Y.build0 (cells := #[.int .i64 0, .int .i64 0])  (by kernel_rfl) (by kernel_rfl)) ?_
        refine RL.y rfl (Y.assign (v := .slice none 0 0) rfl) ?_
        refine RL.store (v := .agg #[.int .i64 0, .int .i64 0]) (cs' := #[.int .i64 0, .int .i64 0]) rfl s5_1x rfl B7 (by kernel_rfl) (by rfl) (by rfl) (by rfl) (fun w63 B64 ho65 => ?_)
        have szw63 := ho65.size
        have Bz26 := Bz26.only_ ho65 (by intro hin; simp at hin; exact Eob17_ob9.symm hin)
        have Gxs25 := OwF.only Gxs25 ho65 Noxs25_ob9
        have T := T.trans (ho65.below (by first | (simp; done) | (simp; omega)))
        refine RL.y rfl (Y.assign (v := .bool false) rfl) ?_
        refine RL.nil ?_
        refine then_n ?_
        refine wp_ret ?_
        obtain rfl := Option.some.inj hm
        exact (then_r (rettct (cs := [.int .i64 0, .int .i64 0]) rfl rfl rfl s5_1x rfl (by kernel_rfl) (blkCells B64) ⟨⟨_, rfl, OwF.nil⟩, T⟩))
    · replace hm := cT c28 hm
      refine RQ.skip (wantN (dj := 41) rfl (vb rfl c28) rfl) ?_
      refine RQ.skip (wantN (dj := 41) rfl (vb rfl c28) rfl) ?_
      refine RQ.skip (wantN (dj := 41) rfl (vb rfl c28) rfl) ?_
      refine RQ.y rfl (Y.pick (b := true) (v := .bool true) (vb rfl c28) rfl) ?_
      refine RQ.y rfl (Y.move (v := .bool true) rfl) ?_
      refine RQ.skip (wantN (dj := 46) rfl rfl rfl) ?_
      refine RQ.skip (wantN (dj := 46) rfl rfl rfl) ?_
      refine RQ.skip (wantN (dj := 46) rfl rfl rfl) ?_
      refine RQ.skip (wantN (dj := 46) rfl rfl rfl) ?_
      refine RQ.skip (wantN (dj := 46) rfl rfl rfl) ?_
      refine RQ.skip (wantN (dj := 46) rfl rfl rfl) ?_
      refine RQ.skip (wantN (dj := 46) rfl rfl rfl) ?_
      refine RQ.skip (wantN (dj := 46) rfl rfl rfl) ?_
      refine RQ.skip (wantN (dj := 46) rfl rfl rfl) ?_
      refine RQ.skip (wantN (dj := 46) rfl rfl rfl) ?_
      refine RQ.y rfl (Y.pick (b := true) (v := .bool true) rfl rfl) ?_
      refine RQ.nil ?_
      intro w66 hb67
      have szw66 := hb67.size
      have B7 := blkT B7 hb67
      have Bz26 := blkT Bz26 hb67
      have Gxs25 := OwF.below Gxs25 hb67
      have T := Tt T hb67
      refine then_n ?_
      refine cond_t rfl rfl ?_
      refine wp_seq ?_
      refine wp_rl rfl ?_
      refine RL.y rfl (Y.build0 (cells := #[.int .i64 0, .int .i64 0])  (by kernel_rfl) (by kernel_rfl)) ?_
      refine RL.y rfl (Y.assign (v := .slice none 0 0) rfl) ?_
      refine RL.store (v := .agg #[.int .i64 0, .int .i64 0]) (cs' := #[.int .i64 0, .int .i64 0]) rfl s5_1x rfl B7 (by kernel_rfl) (by rfl) (by rfl) (by rfl) (fun w68 B69 ho70 => ?_)
      have szw68 := ho70.size
      have Bz26 := Bz26.only_ ho70 (by intro hin; simp at hin; exact Eob17_ob9.symm hin)
      have Gxs25 := OwF.only Gxs25 ho70 Noxs25_ob9
      have T := T.trans (ho70.below (by first | (simp; done) | (simp; omega)))
      refine RL.y rfl (Y.assign (v := .bool false) rfl) ?_
      refine RL.nil ?_
      refine then_n ?_
      refine wp_ret ?_
      obtain rfl := Option.some.inj hm
      exact (then_r (rettct (cs := [.int .i64 0, .int .i64 0]) rfl rfl rfl s5_1x rfl (by kernel_rfl) (blkCells B69) ⟨⟨_, rfl, OwF.nil⟩, T⟩))
  · rintro g f w74 ⟨xs71, z72, z73, uxs71, s0_1, s5_1, s8_1, s9_1, s7_1, Gxs71, Bz72, Bz73, Noxs71_ob9, Noxs71_ob17, Noxs71_ob24, B7, T, hm⟩
    rcases g with _ | g
    · simp only [m_impl_Net_needed_L1] at hm; cases hm
    obtain ⟨rec1, hrec1, hm⟩ : ∃ z, z = m_impl_Net_needed_L1 d0 K1 g ∧ m_impl_Net_needed_B1 d0 z K1 xs71 z72 z73 = some r := ⟨_, rfl, hm⟩
    unfold m_impl_Net_needed_B1 at hm
    refine wp_seq ?_
    refine wp_seq ?_
    refine wp_rs rfl ?_
    refine RQ.y rfl (Y.fieldAddr (off := 1) s8_1 (by kernel_rfl)) ?_
    refine RQ.y rfl (Y.load (v := .int .i64 z72.slot) rfl (by kernel_rfl) (eqC (blkCell Bz72 (i := 1) rfl))) ?_
    refine RQ.y rfl (Y.binI (v := .bool (z72.slot != 0)) rfl rfl rfl) ?_
    refine RQ.y rfl (Y.move (v := .bool (z72.slot != 0)) rfl) ?_
    rcases bcases (z72.slot != 0) with c75 | c75
    · replace hm := cF c75 hm
      refine RQ.skip (wantN (dj := 18) rfl (vb rfl c75) rfl) ?_
      refine RQ.skip (wantN (dj := 18) rfl (vb rfl c75) rfl) ?_
      refine RQ.skip (wantN (dj := 18) rfl (vb rfl c75) rfl) ?_
      refine RQ.skip (wantN (dj := 18) rfl (vb rfl c75) rfl) ?_
      refine RQ.skip (wantN (dj := 18) rfl (vb rfl c75) rfl) ?_
      refine RQ.y rfl (Y.pick (b := false) (v := .bool false) (vb rfl c75) rfl) ?_
      refine RQ.nil ?_
      refine then_n ?_
      refine cond_f rfl rfl ?_
      refine wp_exit ?_
      exact (then_x (then_x (hit_x ⟨_, rfl, ⟨xs71, z72, (uxs71), s0_1, s5_1, s8_1, s7_1, Gxs71, Bz72, Noxs71_ob9, Noxs71_ob17, Noxs71_ob24, B7, T, (by rw [hK1] at hm; exact hm)⟩⟩)))
    · replace hm := cT c75 hm
      refine RQ.y (wantT (dj := 18) rfl (vb rfl c75)) (Y.move (v := .map (some w18.heap.size)) s9_1) ?_
      refine RQ.y (wantT (dj := 18) rfl (vb rfl c75)) (Y.fieldAddr (off := 0) s8_1 (by kernel_rfl)) ?_
      refine RQ.y (wantT (dj := 18) rfl (vb rfl c75)) (Y.load (v := .int .i64 z72.agent) rfl (by kernel_rfl) (eqC (blkCell Bz72 (i := 0) rfl))) ?_
      obtain ⟨_, kc76, hm⟩ := bnd hm
      replace kc76 := (ck_some kc76).2
      refine RQ.y (wantT (dj := 18) rfl (vb rfl c75)) (Y.look (zb := false) (a := z72.agent) mt_int64_bool rfl rfl kc76 (fun w' e => by rw [e]; exact Bz73)) ?_
      refine RQ.y (wantT (dj := 18) rfl (vb rfl c75)) (Y.not (b' := (!(z73.look z72.agent false))) rfl rfl) ?_
      refine RQ.y rfl (Y.pick (b := true) (v := .bool (!(z73.look z72.agent false))) (vb rfl c75) rfl) ?_
      refine RQ.nil ?_
      refine then_n ?_
      rcases bcases (z73.look z72.agent false) with c77 | c77
      · replace hm := cF c77 hm
        refine cond_t rfl (vbn rfl c77 rfl) ?_
        refine wp_skip ?_
        refine then_n ?_
        refine wp_block ?_
        refine wp_seq ?_
        refine wp_rl rfl ?_
        refine RL.y rfl (Y.move (v := .map (some w18.heap.size)) s9_1) ?_
        refine RL.y rfl (Y.fieldAddr (off := 0) s8_1 (by kernel_rfl)) ?_
        refine RL.y rfl (Y.load (v := .int .i64 z72.agent) rfl (by kernel_rfl) (eqC (blkCell Bz72 (i := 0) rfl))) ?_
        obtain ⟨_, kc78, hm⟩ := bnd hm
        replace kc78 := (ck_some kc78).2
        obtain ⟨_, m79, hm⟩ := bnd hm
        have hk80 := mustP_some m79
        refine RL.mapSet (a := z72.agent) (v := true) (enc := encVB) mt_int64_bool rfl rfl rfl rfl kc78 Bz73 hk80 (fun w81 B82 ho83 => ?_)
        have szw81 := ho83.size
        have B7 := B7.only_ ho83 (by intro hin; simp at hin; exact Eob24_ob9 hin)
        have Bz72 := Bz72.only_ ho83 (by intro hin; simp at hin; exact Eob24_ob17 hin)
        have Gxs71 := OwF.only Gxs71 ho83 Noxs71_ob24
        have T := T.trans (ho83.below (by intro b hb; simp at hb; subst hb; exact Bz73.1))
        refine RL.nil ?_
        refine then_n ?_
        refine wp_seq ?_
        refine wp_rl rfl ?_
        refine RL.y rfl (Y.move (v := uxs71) s7_1) ?_
        refine RL.y rfl (Y.fieldAddr (off := 0) s8_1 (by kernel_rfl)) ?_
        refine RL.y rfl (Y.load (v := .int .i64 z72.agent) rfl (by kernel_rfl) (eqC (blkCell Bz72 (i := 0) rfl))) ?_
        refine RL.bslice (e := 2) (cells := #[.int .i64 z72.agent]) rfl (pm1 rfl) (by kernel_rfl) (fun w84 B85 hb86 szw84 => ?_)
        have ZB85 : w.heap.size ≤ w81.heap.size := T.size
        have No87_ob9 := litNe (n := 1) (c := 1) B7.lt
        have No87_ob17 := litNe (n := 1) (c := 1) Bz72.lt
        have No87_ob24 := litNe (n := 1) (c := 1) B82.lt
        have Do87_oxs71 := Dj.new (v := .slice (some ⟨w81.heap.size, 0, none⟩) 1 1) litGe (OwF.hi Gxs71)
        have B7 := blkT B7 hb86
        have Bz72 := blkT Bz72 hb86
        have B82 := OwM.below B82 hb86
        have Gxs71 := OwF.below Gxs71 hb86
        have T := Tt T hb86
        have G88 := OwF.lit (enc := encI) (sz := 1) (xs := [z72.agent]) B85 ZB85 rfl rfl rfl rfl
        obtain ⟨_, m90, hm⟩ := bnd hm
        have hk91 := mustP_some m90
        refine RL.append fI app_int64 rfl rfl rfl Gxs71 (OwF.arg fI G88) T.size hk91 (fun v92 w93 G94 hgr95 hbl96 hnb97 => ?_)
        have szw93 := hbl96.size
        have No98_ob9 := ne_app hnb97 Noxs71_ob9 B7.lt
        have No98_ob17 := ne_app hnb97 Noxs71_ob17 Bz72.lt
        have No98_ob24 := ne_app hnb97 Noxs71_ob24 B82.lt
        have B7 := Blk.kept B7 hgr95 Noxs71_ob9
        have Bz72 := Blk.kept Bz72 hgr95 Noxs71_ob17
        have B82 := OwM.grown B82 hgr95 Noxs71_ob24
        have T := T.trans hbl96
        refine RL.y rfl (Y.assign (v := v92) rfl) ?_
        refine RL.nil ?_
        refine then_n ?_
        refine wp_rl rfl ?_
        refine RL.y rfl (Y.move (v := .pointer (some ⟨ba0, oa0, none⟩)) s0_1) ?_
        refine RL.y rfl (Y.fieldAddr (off := 0) s8_1 (by kernel_rfl)) ?_
        refine RL.y rfl (Y.load (v := .int .i64 z72.agent) rfl (by kernel_rfl) (eqC (blkCell Bz72 (i := 0) rfl))) ?_
        refine RL.y rfl (Y.build2 (cells := #[.int .i64 z72.agent, .int .i64 0]) rfl rfl (by kernel_rfl) (by kernel_rfl)) ?_
        obtain ⟨y99, e100, hm⟩ := bnd hm
        refine RL.call rfl (am2 rfl rfl) (by kernel_rfl) ((c_m_impl_Net_peer d0 (⟨z72.agent, 0⟩ : DPort) _ e100 _ _ (ptArg netRd_ok hba0 hSa0 hca0 T)).mono ?_)
        rintro _ w101 ⟨rfl, hb102⟩
        refine ⟨_, rfl, ?_⟩
        have szw101 := hb102.size
        have B7 := blkT B7 hb102
        have Bz72 := blkT Bz72 hb102
        have B82 := OwM.below B82 hb102
        have G94 := OwF.below G94 hb102
        have T := Tt T hb102
        refine RL.store (v := .agg #[.int .i64 y99.agent, .int .i64 y99.slot]) (cs' := #[.int .i64 y99.agent, .int .i64 y99.slot]) rfl s8_1 rfl Bz72 (by kernel_rfl) (by rfl) (by rfl) (by rfl) (fun w103 B104 ho105 => ?_)
        have szw103 := ho105.size
        have B7 := B7.only_ ho105 (by intro hin; simp at hin; exact Eob17_ob9 hin)
        have B82 := B82.only ho105 (by intro hin; simp at hin; exact Eob24_ob17.symm hin)
        have G94 := OwF.only G94 ho105 No98_ob17
        have T := T.trans (ho105.below (by first | (simp; done) | (simp; omega)))
        refine RL.nil ?_
        exact (blk_n (then_n ⟨g, _, Nat.lt_succ_self _, rfl, ⟨(xs71 ++ [z72.agent]), y99, (z73.put z72.agent true), (v92), s0_1, s5_1, s8_1, s9_1, rfl, G94, B104, B82, No98_ob9, No98_ob17, No98_ob24, B7, T, (by rw [← hrec1]; exact hm)⟩⟩))
      · replace hm := cT c77 hm
        refine cond_f rfl (vbn rfl c77 rfl) ?_
        refine wp_exit ?_
        exact (then_x (then_x (hit_x ⟨_, rfl, ⟨xs71, z72, (uxs71), s0_1, s5_1, s8_1, s7_1, Gxs71, Bz72, Noxs71_ob9, Noxs71_ob17, Noxs71_ob24, B7, T, (by rw [hK1] at hm; exact hm)⟩⟩)))
def m_impl_neededAt (d0 : DNet) (d1 : DPort) : Option ((List Int) × DPair × Int) :=
  ((m_impl_ValidNet d0).bind fun y14 => (bif y14 then ((m_impl_hasPort d0.agents d1).bind fun y22 => (bif y22 then ((m_impl_Net_isKnown d0 d1).bind fun y30 => (bif y30 then some ([], (⟨0, 0⟩ : DPair), 3) else ((m_impl_Net_needed d0 d1).bind fun y35 => (bif y35.2.2 then some (y35.1, y35.2.1, 0) else some ([], (⟨0, 0⟩ : DPair), 5))))) else some ([], (⟨0, 0⟩ : DPair), 2))) else some ([], (⟨0, 0⟩ : DPair), 1)))
set_option maxHeartbeats 2000000 in
theorem c_m_impl_neededAt (d0 : DNet) (d1 : DPort) (r : (List Int) × DPair × Int) (hm : m_impl_neededAt d0 d1 = some r) (v0 : Value) (w : World) (hv0 : St netRd w v0 d0) :
    Calls Try.prog 128 #[v0, .agg #[.int .i64 d1.agent, .int .i64 d1.slot]] w fun e w' => (∃ v, e = .returned (.tuple #[v, .agg #[.int .i64 r.2.1.a, .int .i64 r.2.1.b], .int .i64 r.2.2]) ∧ OwF 2 encI 1 w' w.heap.size v r.1) ∧ Below w.heap.size w w' := by
  obtain ⟨csa0, rfl, ⟨A1, n1, c1, rfl, ⟨h1, r1⟩⟩⟩ := hv0
  have e1 := h1.len; subst e1
  have q1 := len_le r1
  have T := Below.refl w.heap.size w
  unfold m_impl_neededAt at hm
  refine enter 37 Try.func128 rfl rfl rfl ?_
  intro f hf
  have s0 : f 0 = .agg #[.slice A1 d0.agents.length c1] := hf 0 _ rfl
  have s1 : f 1 = .agg #[.int .i64 d1.agent, .int .i64 d1.slot] := hf 1 _ rfl
  refine wp_seq ?_
  refine wp_rl rfl ?_
  refine RL.box rfl s0 (fun w2 B3 hb4 szw2 => ?_)
  replace B3 : Blk w2 w.heap.size 30 #[.slice A1 d0.agents.length c1] := B3
  have GB3 : w.heap.size ≤ w.heap.size := T.size
  have T := Tt T hb4
  refine RL.box rfl s1 (fun w6 B7 hb8 szw6 => ?_)
  replace B7 : Blk w6 w2.heap.size 53 #[.int .i64 d1.agent, .int .i64 d1.slot] := B7
  have GB7 : w.heap.size ≤ w2.heap.size := T.size
  have Eob9_ob5 := Nat.ne_of_lt B3.lt
  have B3 := blkT B3 hb8
  have T := Tt T hb8
  refine RL.y rfl (Y.assign (v := .slice none 0 0) rfl) ?_
  refine RL.alloc (z := .agg #[.int .i64 0, .int .i64 0]) rfl (by kernel_rfl) (fun w10 B11 hb12 szw10 => ?_)
  replace B11 : Blk w10 w6.heap.size 81 #[.int .i64 0, .int .i64 0] := B11
  have GB11 : w.heap.size ≤ w6.heap.size := T.size
  have Eob13_ob5 := Nat.ne_of_lt B3.lt
  have Eob13_ob9 := Nat.ne_of_lt B7.lt
  have B3 := blkT B3 hb12
  have B7 := blkT B7 hb12
  have T := Tt T hb12
  refine RL.y rfl (Y.assign (v := .int .i64 0) rfl) ?_
  refine RL.nil ?_
  refine then_n ?_
  refine wp_seq ?_
  refine wp_block ?_
  refine wp_seq ?_
  refine wp_rb rfl ?_
  refine RQ.y rfl (Y.loadN (cs := [.slice A1 d0.agents.length c1]) rfl (by kernel_rfl) (cells1 (beC (blkCell B3 (i := 0) rfl)))) ?_
  obtain ⟨y14, e15, hm⟩ := bnd hm
  refine RQ.call rfl (am1 rfl) (by kernel_rfl) (v := .bool y14) (bel (K := fun _ => True) fun w' hb' => (c_m_impl_ValidNet d0 _ e15 _ w' (stArg (R := netRd) ⟨_, _, _, rfl, ⟨SlAt.now agentRd_ok h1 (Nat.le_refl _) (Tt T hb'), r1⟩⟩))) ?_
  refine RQ.y rfl (Y.not (b' := (!y14)) rfl rfl) ?_
  refine RQ.y rfl (Y.assign (v := .bool (!y14)) rfl) ?_
  refine RQ.nil ?_
  intro w16 hb17
  have szw16 := hb17.size
  have B3 := blkT B3 hb17
  have B7 := blkT B7 hb17
  have B11 := blkT B11 hb17
  have T := Tt T hb17
  refine then_n ?_
  rcases bcases y14 with c18 | c18
  · replace hm := cF c18 hm
    refine cond_t rfl (vbn rfl c18 rfl) ?_
    refine wp_seq ?_
    refine wp_rl rfl ?_
    refine RL.y rfl (Y.build0 (cells := #[.int .i64 0, .int .i64 0])  (by kernel_rfl) (by kernel_rfl)) ?_
    refine RL.y rfl (Y.assign (v := .slice none 0 0) rfl) ?_
    refine RL.store (v := .agg #[.int .i64 0, .int .i64 0]) (cs' := #[.int .i64 0, .int .i64 0]) rfl rfl rfl B11 (by kernel_rfl) (by rfl) (by rfl) (by rfl) (fun w19 B20 ho21 => ?_)
    have szw19 := ho21.size
    have B3 := B3.only_ ho21 (by intro hin; simp at hin; exact Eob13_ob5 hin)
    have B7 := B7.only_ ho21 (by intro hin; simp at hin; exact Eob13_ob9 hin)
    have T := T.trans (ho21.below (by first | (simp; done) | (simp; omega)))
    refine RL.y rfl (Y.assign (v := .int .i64 1) rfl) ?_
    refine RL.nil ?_
    refine then_n ?_
    refine wp_ret ?_
    obtain rfl := Option.some.inj hm
    exact (blk_r (then_r (rettct (cs := [.int .i64 0, .int .i64 0]) rfl rfl rfl rfl rfl (by kernel_rfl) (blkCells B20) ⟨⟨_, rfl, OwF.nil⟩, T⟩)))
  · replace hm := cT c18 hm
    refine cond_f rfl (vbn rfl c18 rfl) ?_
    refine wp_seq ?_
    refine wp_rb rfl ?_
    refine RQ.y rfl (Y.fieldAddr (off := 0) rfl (by kernel_rfl)) ?_
    refine RQ.y rfl (Y.load (v := .slice A1 d0.agents.length c1) rfl (by kernel_rfl) (beC (blkCell B3 (i := 0) rfl))) ?_
    refine RQ.y rfl (Y.loadN (cs := [.int .i64 d1.agent, .int .i64 d1.slot]) rfl (by kernel_rfl) (cells2 (beC (blkCell B7 (i := 0) rfl)) (beC (blkCell B7 (i := 1) rfl)))) ?_
    obtain ⟨y22, e23, hm⟩ := bnd hm
    refine RQ.call rfl (am2 rfl rfl) (by kernel_rfl) (v := .bool y22) (bel (K := fun _ => True) fun w' hb' => (c_m_impl_hasPort d0.agents d1 _ e23 _ w' (slArg agentRd_ok h1 r1 (Tt T hb')))) ?_
    refine RQ.y rfl (Y.not (b' := (!y22)) rfl rfl) ?_
    refine RQ.y rfl (Y.assign (v := .bool (!y22)) rfl) ?_
    refine RQ.nil ?_
    intro w24 hb25
    have szw24 := hb25.size
    have B3 := blkT B3 hb25
    have B7 := blkT B7 hb25
    have B11 := blkT B11 hb25
    have T := Tt T hb25
    refine then_n ?_
    rcases bcases y22 with c26 | c26
    · replace hm := cF c26 hm
      refine cond_t rfl (vbn rfl c26 rfl) ?_
      refine wp_seq ?_
      refine wp_rl rfl ?_
      refine RL.y rfl (Y.build0 (cells := #[.int .i64 0, .int .i64 0])  (by kernel_rfl) (by kernel_rfl)) ?_
      refine RL.y rfl (Y.assign (v := .slice none 0 0) rfl) ?_
      refine RL.store (v := .agg #[.int .i64 0, .int .i64 0]) (cs' := #[.int .i64 0, .int .i64 0]) rfl rfl rfl B11 (by kernel_rfl) (by rfl) (by rfl) (by rfl) (fun w27 B28 ho29 => ?_)
      have szw27 := ho29.size
      have B3 := B3.only_ ho29 (by intro hin; simp at hin; exact Eob13_ob5 hin)
      have B7 := B7.only_ ho29 (by intro hin; simp at hin; exact Eob13_ob9 hin)
      have T := T.trans (ho29.below (by first | (simp; done) | (simp; omega)))
      refine RL.y rfl (Y.assign (v := .int .i64 2) rfl) ?_
      refine RL.nil ?_
      refine then_n ?_
      refine wp_ret ?_
      obtain rfl := Option.some.inj hm
      exact (blk_r (then_r (rettct (cs := [.int .i64 0, .int .i64 0]) rfl rfl rfl rfl rfl (by kernel_rfl) (blkCells B28) ⟨⟨_, rfl, OwF.nil⟩, T⟩)))
    · replace hm := cT c26 hm
      refine cond_f rfl (vbn rfl c26 rfl) ?_
      refine wp_seq ?_
      refine wp_rb rfl ?_
      refine RQ.y rfl (Y.loadN (cs := [.int .i64 d1.agent, .int .i64 d1.slot]) rfl (by kernel_rfl) (cells2 (beC (blkCell B7 (i := 0) rfl)) (beC (blkCell B7 (i := 1) rfl)))) ?_
      obtain ⟨y30, e31, hm⟩ := bnd hm
      refine RQ.call rfl (am2 rfl rfl) (by kernel_rfl) (v := .bool y30) (bel (K := fun _ => True) fun w' hb' => (c_m_impl_Net_isKnown d0 d1 _ e31 _ w' (ptBox (R := netRd) (blkT B3 hb') ⟨_, _, _, rfl, ⟨SlAt.now agentRd_ok h1 (Nat.le_refl _) (Tt T hb'), r1⟩⟩))) ?_
      refine RQ.y rfl (Y.assign (v := .bool y30) rfl) ?_
      refine RQ.nil ?_
      intro w32 hb33
      have szw32 := hb33.size
      have B3 := blkT B3 hb33
      have B7 := blkT B7 hb33
      have B11 := blkT B11 hb33
      have T := Tt T hb33
      refine then_n ?_
      rcases bcases y30 with c34 | c34
      · replace hm := cF c34 hm
        refine cond_f rfl (vb rfl c34) ?_
        refine wp_skip ?_
        refine blk_n (then_n ?_)
        refine wp_seq ?_
        refine wp_rl rfl ?_
        refine RL.y rfl (Y.loadN (cs := [.int .i64 d1.agent, .int .i64 d1.slot]) rfl (by kernel_rfl) (cells2 (eqC (blkCell B7 (i := 0) rfl)) (eqC (blkCell B7 (i := 1) rfl)))) ?_
        obtain ⟨y35, e36, hm⟩ := bnd hm
        refine RL.call rfl (am2 rfl rfl) (by kernel_rfl) ((c_m_impl_Net_needed d0 d1 _ e36 _ _ (ptBox (R := netRd) B3 ⟨_, _, _, rfl, ⟨SlAt.now agentRd_ok h1 (Nat.le_refl _) T, r1⟩⟩)).mono ?_)
        rintro _ w40 ⟨⟨v37, rfl, G38⟩, hb41⟩
        refine ⟨_, rfl, ?_⟩
        have szw40 := hb41.size
        have T0w40 := T.size
        have No39_ob5 := OwF.ne G38 B3.lt
        have No39_ob9 := OwF.ne G38 B7.lt
        have No39_ob13 := OwF.ne G38 B11.lt
        have B3 := blkT B3 hb41
        have B7 := blkT B7 hb41
        have B11 := blkT B11 hb41
        have T := Tt T hb41
        replace G38 := OwF.mono G38 T0w40
        refine RL.y rfl (Y.move (v := .tuple #[v37, .agg #[.int .i64 y35.2.1.a, .int .i64 y35.2.1.b], .bool y35.2.2]) rfl) ?_
        refine RL.y rfl (Y.extract (i := 0) rfl rfl) ?_
        refine RL.y rfl (Y.extract (i := 1) rfl rfl) ?_
        refine RL.y rfl (Y.extract (i := 2) rfl rfl) ?_
        refine RL.alloc (z := .agg #[.int .i64 0, .int .i64 0]) rfl (by kernel_rfl) (fun w42 B43 hb44 szw42 => ?_)
        replace B43 : Blk w42 w40.heap.size 81 #[.int .i64 0, .int .i64 0] := B43
        have GB43 : w.heap.size ≤ w40.heap.size := T.size
        have Eob45_ob5 := Nat.ne_of_lt B3.lt
        have Eob45_ob9 := Nat.ne_of_lt B7.lt
        have Eob45_ob13 := Nat.ne_of_lt B11.lt
        have No39_ob45 := OwF.far G38 (Nat.le_refl _)
        have B3 := blkT B3 hb44
        have B7 := blkT B7 hb44
        have B11 := blkT B11 hb44
        have G38 := OwF.below G38 hb44
        have T := Tt T hb44
        refine RL.y rfl (Y.assign (v := v37) rfl) ?_
        refine RL.store (v := .agg #[.int .i64 y35.2.1.a, .int .i64 y35.2.1.b]) (cs' := #[.int .i64 y35.2.1.a, .int .i64 y35.2.1.b]) rfl rfl rfl B43 (by kernel_rfl) (by rfl) (by rfl) (by rfl) (fun w46 B47 ho48 => ?_)
        have szw46 := ho48.size
        have B3 := B3.only_ ho48 (by intro hin; simp at hin; exact Eob45_ob5 hin)
        have B7 := B7.only_ ho48 (by intro hin; simp at hin; exact Eob45_ob9 hin)
        have B11 := B11.only_ ho48 (by intro hin; simp at hin; exact Eob45_ob13 hin)
        have G38 := OwF.only G38 ho48 No39_ob45
        have T := T.trans (ho48.below (by first | (simp; done) | (simp; omega)))
        refine RL.y rfl (Y.assign (v := .bool y35.2.2) rfl) ?_
        refine RL.nil ?_
        refine then_n ?_
        refine wp_seq ?_
        refine wp_seq ?_
        refine wp_rs rfl ?_
        refine RQ.y rfl (Y.move (v := .bool y35.2.2) rfl) ?_
        refine RQ.y rfl (Y.not (b' := (!y35.2.2)) rfl rfl) ?_
        refine RQ.nil ?_
        refine then_n ?_
        rcases bcases y35.2.2 with c49 | c49
        · replace hm := cF c49 hm
          refine cond_t rfl (vbn rfl c49 rfl) ?_
          refine wp_seq ?_
          refine wp_rl rfl ?_
          refine RL.y rfl (Y.build0 (cells := #[.int .i64 0, .int .i64 0])  (by kernel_rfl) (by kernel_rfl)) ?_
          refine RL.y rfl (Y.assign (v := .slice none 0 0) rfl) ?_
          refine RL.store (v := .agg #[.int .i64 0, .int .i64 0]) (cs' := #[.int .i64 0, .int .i64 0]) rfl rfl rfl B11 (by kernel_rfl) (by rfl) (by rfl) (by rfl) (fun w50 B51 ho52 => ?_)
          have szw50 := ho52.size
          have B47 := B47.only_ ho52 (by intro hin; simp at hin; exact Eob45_ob13.symm hin)
          have G38 := OwF.only G38 ho52 No39_ob13
          have T := T.trans (ho52.below (by first | (simp; done) | (simp; omega)))
          refine RL.y rfl (Y.assign (v := .int .i64 5) rfl) ?_
          refine RL.nil ?_
          refine then_n ?_
          refine wp_ret ?_
          obtain rfl := Option.some.inj hm
          exact (then_r (rettct (cs := [.int .i64 0, .int .i64 0]) rfl rfl rfl rfl rfl (by kernel_rfl) (blkCells B51) ⟨⟨_, rfl, OwF.nil⟩, T⟩))
        · replace hm := cT c49 hm
          refine cond_f rfl (vbn rfl c49 rfl) ?_
          refine wp_skip ?_
          refine then_n ?_
          refine wp_seq ?_
          refine wp_rg (fun w' => Below w.heap.size w w' ∧ Blk w' w40.heap.size 81 #[.int .i64 y35.2.1.a, .int .i64 y35.2.1.b]) [(0, true), (1, true), (2, true), (3, false), (4, true)] (by kernel_rfl) (by kernel_rfl) (fun w53 hb54 szw53 => ?_)
          have B11 := blkT B11 hb54
          have B47 := blkT B47 hb54
          have G38 := OwF.below G38 hb54
          have T := Tt T hb54
          refine ⟨⟨T, B47⟩, ?_⟩
          refine RG.y rfl rfl (Y.move (v := v37) rfl) ?_
          refine RG.y rfl rfl (Y.loadN (cs := [.int .i64 y35.2.1.a, .int .i64 y35.2.1.b]) rfl (by kernel_rfl) (cells2 (fun w' hS => (blkCell hS.2 (i := 0) rfl)) (fun w' hS => (blkCell hS.2 (i := 1) rfl)))) ?_
          refine RG.y rfl rfl (Y.assign (v := v37) rfl) ?_
          refine RG.act rfl ?_
          refine RL.store (v := .agg #[.int .i64 y35.2.1.a, .int .i64 y35.2.1.b]) (cs' := #[.int .i64 y35.2.1.a, .int .i64 y35.2.1.b]) rfl rfl rfl B11 (by kernel_rfl) (by rfl) (by rfl) (by rfl) (fun w55 B56 ho57 => ?_)
          have szw55 := ho57.size
          have B47 := B47.only_ ho57 (by intro hin; simp at hin; exact Eob45_ob13.symm hin)
          have G38 := OwF.only G38 ho57 No39_ob13
          have T := T.trans (ho57.below (by first | (simp; done) | (simp; omega)))
          refine RL.nil ⟨⟨T, B47⟩, ?_⟩
          refine RG.y rfl rfl (Y.assign (v := .int .i64 0) rfl) ?_
          refine RG.nil ?_
          refine then_n ?_
          refine wp_ret ?_
          obtain rfl := Option.some.inj hm
          exact (rettct (cs := [.int .i64 y35.2.1.a, .int .i64 y35.2.1.b]) rfl rfl rfl rfl rfl (by kernel_rfl) (blkCells B56) ⟨⟨_, rfl, G38⟩, T⟩)
      · replace hm := cT c34 hm
        refine cond_t rfl (vb rfl c34) ?_
        refine wp_seq ?_
        refine wp_rl rfl ?_
        refine RL.y rfl (Y.build0 (cells := #[.int .i64 0, .int .i64 0])  (by kernel_rfl) (by kernel_rfl)) ?_
        refine RL.y rfl (Y.assign (v := .slice none 0 0) rfl) ?_
        refine RL.store (v := .agg #[.int .i64 0, .int .i64 0]) (cs' := #[.int .i64 0, .int .i64 0]) rfl rfl rfl B11 (by kernel_rfl) (by rfl) (by rfl) (by rfl) (fun w58 B59 ho60 => ?_)
        have szw58 := ho60.size
        have B3 := B3.only_ ho60 (by intro hin; simp at hin; exact Eob13_ob5 hin)
        have B7 := B7.only_ ho60 (by intro hin; simp at hin; exact Eob13_ob9 hin)
        have T := T.trans (ho60.below (by first | (simp; done) | (simp; omega)))
        refine RL.y rfl (Y.assign (v := .int .i64 3) rfl) ?_
        refine RL.nil ?_
        refine then_n ?_
        refine wp_ret ?_
        obtain rfl := Option.some.inj hm
        exact (blk_r (then_r (rettct (cs := [.int .i64 0, .int .i64 0]) rfl rfl rfl rfl rfl (by kernel_rfl) (blkCells B59) ⟨⟨_, rfl, OwF.nil⟩, T⟩)))
def m_impl_NeededPair (d0 : DNet) (d1 : DPort) : Option (Int × Int) :=
  ((m_impl_neededAt d0 d1).bind fun y10 => (bif (y10.2.2 != 0) then some (0, y10.2.2) else ((m_impl_Net_pairs d0).bind fun y27 => ((m_slices_Index_impl_Pair_impl_Pair y27 y10.2.1).bind fun y34 => some (y34, 0)))))
set_option maxHeartbeats 2000000 in
theorem c_m_impl_NeededPair (d0 : DNet) (d1 : DPort) (r : Int × Int) (hm : m_impl_NeededPair d0 d1 = some r) (v0 : Value) (w : World) (hv0 : St netRd w v0 d0) :
    Calls Try.prog 74 #[v0, .agg #[.int .i64 d1.agent, .int .i64 d1.slot]] w fun e w' => e = .returned (.tuple #[.int .i64 r.1, .int .i64 r.2]) ∧ Below w.heap.size w w' := by
  obtain ⟨csa0, rfl, ⟨A1, n1, c1, rfl, ⟨h1, r1⟩⟩⟩ := hv0
  have e1 := h1.len; subst e1
  have q1 := len_le r1
  have T := Below.refl w.heap.size w
  unfold m_impl_NeededPair at hm
  refine enter 22 Try.func74 rfl rfl rfl ?_
  intro f hf
  have s0 : f 0 = .agg #[.slice A1 d0.agents.length c1] := hf 0 _ rfl
  have s1 : f 1 = .agg #[.int .i64 d1.agent, .int .i64 d1.slot] := hf 1 _ rfl
  refine wp_seq ?_
  refine wp_rl rfl ?_
  refine RL.box rfl s0 (fun w2 B3 hb4 szw2 => ?_)
  replace B3 : Blk w2 w.heap.size 30 #[.slice A1 d0.agents.length c1] := B3
  have GB3 : w.heap.size ≤ w.heap.size := T.size
  have T := Tt T hb4
  refine RL.box rfl s1 (fun w6 B7 hb8 szw6 => ?_)
  replace B7 : Blk w6 w2.heap.size 53 #[.int .i64 d1.agent, .int .i64 d1.slot] := B7
  have GB7 : w.heap.size ≤ w2.heap.size := T.size
  have Eob9_ob5 := Nat.ne_of_lt B3.lt
  have B3 := blkT B3 hb8
  have T := Tt T hb8
  refine RL.y rfl (Y.assign (v := .int .i64 0) rfl) ?_
  refine RL.y rfl (Y.assign (v := .int .i64 0) rfl) ?_
  refine RL.nil ?_
  refine then_n ?_
  refine wp_seq ?_
  refine wp_rl rfl ?_
  refine RL.y rfl (Y.loadN (cs := [.slice A1 d0.agents.length c1]) rfl (by kernel_rfl) (cells1 (eqC (blkCell B3 (i := 0) rfl)))) ?_
  refine RL.y rfl (Y.loadN (cs := [.int .i64 d1.agent, .int .i64 d1.slot]) rfl (by kernel_rfl) (cells2 (eqC (blkCell B7 (i := 0) rfl)) (eqC (blkCell B7 (i := 1) rfl)))) ?_
  obtain ⟨y10, e11, hm⟩ := bnd hm
  refine RL.call rfl (am2 rfl rfl) (by kernel_rfl) ((c_m_impl_neededAt d0 d1 _ e11 _ _ (stArg (R := netRd) ⟨_, _, _, rfl, ⟨SlAt.now agentRd_ok h1 (Nat.le_refl _) T, r1⟩⟩)).mono ?_)
  rintro _ w15 ⟨⟨v12, rfl, G13⟩, hb16⟩
  refine ⟨_, rfl, ?_⟩
  have szw15 := hb16.size
  have T0w15 := T.size
  have No14_ob5 := OwF.ne G13 B3.lt
  have No14_ob9 := OwF.ne G13 B7.lt
  have B3 := blkT B3 hb16
  have B7 := blkT B7 hb16
  have T := Tt T hb16
  replace G13 := OwF.mono G13 T0w15
  refine RL.y rfl (Y.move (v := .tuple #[v12, .agg #[.int .i64 y10.2.1.a, .int .i64 y10.2.1.b], .int .i64 y10.2.2]) rfl) ?_
  refine RL.y rfl (Y.extract (i := 0) rfl rfl) ?_
  refine RL.y rfl (Y.extract (i := 1) rfl rfl) ?_
  refine RL.y rfl (Y.extract (i := 2) rfl rfl) ?_
  refine RL.alloc (z := .agg #[.int .i64 0, .int .i64 0]) rfl (by kernel_rfl) (fun w17 B18 hb19 szw17 => ?_)
  replace B18 : Blk w17 w15.heap.size 81 #[.int .i64 0, .int .i64 0] := B18
  have GB18 : w.heap.size ≤ w15.heap.size := T.size
  have Eob20_ob5 := Nat.ne_of_lt B3.lt
  have Eob20_ob9 := Nat.ne_of_lt B7.lt
  have No14_ob20 := OwF.far G13 (Nat.le_refl _)
  have B3 := blkT B3 hb19
  have B7 := blkT B7 hb19
  have G13 := OwF.below G13 hb19
  have T := Tt T hb19
  refine RL.y rfl (Y.assign (v := v12) rfl) ?_
  refine RL.store (v := .agg #[.int .i64 y10.2.1.a, .int .i64 y10.2.1.b]) (cs' := #[.int .i64 y10.2.1.a, .int .i64 y10.2.1.b]) rfl rfl rfl B18 (by kernel_rfl) (by rfl) (by rfl) (by rfl) (fun w21 B22 ho23 => ?_)
  have szw21 := ho23.size
  have B3 := B3.only_ ho23 (by intro hin; simp at hin; exact Eob20_ob5 hin)
  have B7 := B7.only_ ho23 (by intro hin; simp at hin; exact Eob20_ob9 hin)
  have G13 := OwF.only G13 ho23 No14_ob20
  have T := T.trans (ho23.below (by first | (simp; done) | (simp; omega)))
  refine RL.y rfl (Y.assign (v := .int .i64 y10.2.2) rfl) ?_
  refine RL.nil ?_
  refine then_n ?_
  refine wp_seq ?_
  refine wp_seq ?_
  refine wp_rs rfl ?_
  refine RQ.y rfl (Y.move (v := .int .i64 y10.2.2) rfl) ?_
  refine RQ.y rfl (Y.binI (v := .bool (y10.2.2 != 0)) rfl rfl rfl) ?_
  refine RQ.nil ?_
  refine then_n ?_
  rcases bcases (y10.2.2 != 0) with c24 | c24
  · replace hm := cF c24 hm
    refine cond_f rfl (vb rfl c24) ?_
    refine wp_skip ?_
    refine then_n ?_
    refine wp_seq ?_
    refine wp_rg (fun w' => Below w.heap.size w w' ∧ Blk w' w15.heap.size 81 #[.int .i64 y10.2.1.a, .int .i64 y10.2.1.b]) [(1, true), (0, false), (2, false), (3, true), (4, true)] (by kernel_rfl) (by kernel_rfl) (fun w25 hb26 szw25 => ?_)
    have B3 := blkT B3 hb26
    have B22 := blkT B22 hb26
    have T := Tt T hb26
    refine ⟨⟨T, B22⟩, ?_⟩
    refine RG.y rfl rfl (Y.loadN (cs := [.int .i64 y10.2.1.a, .int .i64 y10.2.1.b]) rfl (by kernel_rfl) (cells2 (fun w' hS => (blkCell hS.2 (i := 0) rfl)) (fun w' hS => (blkCell hS.2 (i := 1) rfl)))) ?_
    refine RG.act rfl ?_
    obtain ⟨y27, e28, hm⟩ := bnd hm
    refine RL.call rfl (am1 rfl) (by kernel_rfl) ((c_m_impl_Net_pairs d0 _ e28 _ _ (ptBox (R := netRd) B3 ⟨_, _, _, rfl, ⟨SlAt.now agentRd_ok h1 (Nat.le_refl _) T, r1⟩⟩)).mono ?_)
    rintro _ w32 ⟨⟨v29, rfl, G30⟩, hb33⟩
    refine ⟨_, rfl, ?_⟩
    have szw32 := hb33.size
    have T0w32 := T.size
    have No31_ob5 := OwF.ne G30 B3.lt
    have No31_ob20 := OwF.ne G30 B22.lt
    have B3 := blkT B3 hb33
    have B22 := blkT B22 hb33
    have T := Tt T hb33
    replace G30 := OwF.mono G30 T0w32
    refine RL.nil ⟨⟨T, B22⟩, ?_⟩
    refine RG.act rfl ?_
    obtain ⟨y34, e35, hm⟩ := bnd hm
    refine RL.call rfl (am2 rfl rfl) (by kernel_rfl) ((c_m_slices_Index_impl_Pair_impl_Pair y27 y10.2.1 _ e35 _ _ (OwF.arg fPair G30)).mono ?_)
    rintro _ w36 ⟨rfl, hb37⟩
    refine ⟨_, rfl, ?_⟩
    have szw36 := hb37.size
    have B3 := blkT B3 hb37
    have B22 := blkT B22 hb37
    have G30 := OwF.below G30 hb37
    have T := Tt T hb37
    refine RL.nil ⟨⟨T, B22⟩, ?_⟩
    refine RG.y rfl rfl (Y.assign (v := .int .i64 y34) rfl) ?_
    refine RG.y rfl rfl (Y.assign (v := .int .i64 0) rfl) ?_
    refine RG.nil ?_
    refine then_n ?_
    refine wp_ret ?_
    obtain rfl := Option.some.inj hm
    exact (ret2 rfl rfl rfl rfl ⟨rfl, T⟩)
  · replace hm := cT c24 hm
    refine cond_t rfl (vb rfl c24) ?_
    refine wp_seq ?_
    refine wp_rs rfl ?_
    refine RQ.y rfl (Y.move (v := .int .i64 y10.2.2) rfl) ?_
    refine RQ.y rfl (Y.assign (v := .int .i64 0) rfl) ?_
    refine RQ.y rfl (Y.assign (v := .int .i64 y10.2.2) rfl) ?_
    refine RQ.nil ?_
    refine then_n ?_
    refine wp_ret ?_
    obtain rfl := Option.some.inj hm
    exact (then_r (ret2 rfl rfl rfl rfl ⟨rfl, T⟩))
end
section
open Go.RowKit
set_option linter.unusedVariables false
set_option linter.unusedSimpArgs false
theorem php : ∀ (n : Nat) (l : List Nat), l.Nodup → (∀ x ∈ l, x < n) → l.length ≤ n
  | 0, l, _, h => by
    cases l with
    | nil => simp
    | cons x l => have := h x (by simp); omega
  | n + 1, l, hn, h => by
    by_cases hm : n ∈ l
    · have h1 := php n (l.erase n) (hn.erase n) (fun x hx => by
        have h2 := (hn.mem_erase_iff).1 hx
        have := h x h2.2
        have := h2.1
        omega)
      have := List.length_erase_of_mem hm
      omega
    · have := php n l hn (fun x hx => by
        have h1 := h x hx
        have : x ≠ n := fun e => hm (by rw [← e]; exact hx)
        omega)
      omega
theorem least {p : Nat → Prop} (h : ∃ n, p n) : ∃ n, p n ∧ ∀ k, k < n → ¬ p k := by
  obtain ⟨n, hn⟩ := h
  induction n using Nat.strongRecOn with
  | _ n ih =>
    by_cases h : ∃ k, k < n ∧ p k
    · obtain ⟨k, hk, hp⟩ := h; exact ih k hk hp
    · exact ⟨n, hn, fun k hk hp => h ⟨k, hk, hp⟩⟩
theorem steps {σ ρ : Type} {L : Nat → σ → Option ρ} {st : Nat → σ} : ∀ {n : Nat} (h : ∀ g k, k < n → L (g + 1) (st k) = L g (st (k + 1))) (g : Nat), L (g + n) (st 0) = L g (st n)
  | 0, h, g => rfl
  | n + 1, h, g => by
    rw [← h g n (by omega), ← steps (n := n) (fun g k hk => h g k (by omega)) (g + 1)]
    congr 1; omega
def stepQ (xs : List DAgent) (q : DPort) : DPort := peer xs ⟨q.agent, 0⟩
def orb (xs : List DAgent) (q : DPort) : Nat → DPort
  | 0 => q
  | k + 1 => stepQ xs (orb xs q k)
def pathTo (xs : List DAgent) (q : DPort) (k : Nat) : List Int := (List.range k).map fun i => (orb xs q i).agent
theorem pathTo_succ (xs : List DAgent) (q : DPort) (k : Nat) : pathTo xs q (k + 1) = pathTo xs q k ++ [(orb xs q k).agent] := by simp [pathTo, List.range_succ]
theorem pathTo_len (xs : List DAgent) (q : DPort) (k : Nat) : (pathTo xs q k).length = k := by simp [pathTo]
theorem Good.peer {xs : List DAgent} (G : Good xs) {p : DPort} (h : hasPort xs p = true) : hasPort xs (peer xs p) = true ∧ Go.Proofs.Ytampijkiidjcmaa.peer xs (Go.Proofs.Ytampijkiidjcmaa.peer xs p) = p ∧ Go.Proofs.Ytampijkiidjcmaa.peer xs p ≠ p := by
  obtain ⟨i, k, x, rfl, hx, hk, _⟩ := hasPort_at h
  have hb := G.ports i x hx k hk
  unfold badPort at hb
  simp only [Bool.or_eq_false_iff, Bool.not_eq_false', decide_eq_false_iff_not, decide_eq_true_eq] at hb
  exact ⟨hb.1.2, hb.2, hb.1.1⟩
theorem Good.zero {xs : List DAgent} (G : Good xs) {p : DPort} (h : hasPort xs p = true) : hasPort xs ⟨p.agent, 0⟩ = true := by
  obtain ⟨i, k, x, rfl, hx, hk, _⟩ := hasPort_at h
  exact hasPort_of (k := 0) hx (G.pos hx)
theorem orb_port {xs : List DAgent} (G : Good xs) {q : DPort} (h : hasPort xs q = true) : ∀ k, hasPort xs (orb xs q k) = true
  | 0 => h
  | k + 1 => (G.peer (G.zero (orb_port G h k))).1
def Stops (xs : List DAgent) (q : DPort) (k : Nat) : Prop := (orb xs q k).slot = 0 ∨ ∃ i, i < k ∧ (orb xs q i).agent = (orb xs q k).agent
theorem orb_cycle {xs : List DAgent} {q : DPort} {i j : Nat} (h : (orb xs q i).agent = (orb xs q j).agent) : ∀ m, orb xs q (i + 1 + m) = orb xs q (j + 1 + m)
  | 0 => by show stepQ xs _ = stepQ xs _; unfold stepQ; rw [h]
  | m + 1 => by
    show stepQ xs (orb xs q (i + 1 + m)) = stepQ xs (orb xs q (j + 1 + m))
    rw [orb_cycle h m]
theorem orb_nat {xs : List DAgent} (G : Good xs) {q : DPort} (h : hasPort xs q = true) (k : Nat) : ∃ a : Nat, (orb xs q k).agent = (a : Int) ∧ a < xs.length := by
  obtain ⟨i, s, x, he, hx, _⟩ := hasPort_at (orb_port G h k)
  exact ⟨i, by rw [he], lt_of_some hx⟩
theorem stops {xs : List DAgent} (G : Good xs) {q : DPort} (h : hasPort xs q = true) : ∃ S, S ≤ xs.length ∧ Stops xs q S ∧ ∀ k, k < S → ¬ Stops xs q k := by
  have hex : ∃ S, S ≤ xs.length ∧ Stops xs q S := by
    apply Classical.byContradiction
    intro hn
    have hd : ∀ k, k ≤ xs.length → ¬ Stops xs q k := fun k hk hs => hn ⟨k, hk, hs⟩
    have h1 := php xs.length ((List.range (xs.length + 1)).map fun k => (orb xs q k).agent.toNat) (by
      rw [List.nodup_iff_pairwise_ne, List.pairwise_map]
      refine List.Pairwise.imp_of_mem ?_ (List.pairwise_lt_range)
      intro a b ha hb hab e
      have hb : b < xs.length + 1 := by simpa using hb
      obtain ⟨u, hu, _⟩ := orb_nat G h a
      obtain ⟨v, hv, _⟩ := orb_nat G h b
      refine hd b (by omega) (.inr ⟨a, hab, ?_⟩)
      rw [hu, hv] at e
      have e : u = v := by simpa using e
      rw [hu, hv, e]) (fun x hx => by
      obtain ⟨k, _, rfl⟩ := List.mem_map.1 hx
      obtain ⟨u, hu, hlt⟩ := orb_nat G h k
      rw [hu]; simpa using hlt)
    simp at h1
    omega
  obtain ⟨S, ⟨h1, h2⟩, h3⟩ := least hex
  exact ⟨S, h1, h2, fun k hk hs => h3 k hk ⟨by omega, hs⟩⟩
theorem p_min (a b : Int) : m_spec_l00Min a b = some (if b < a then b else a) := by
  unfold m_spec_l00Min
  simp only [Bool.cond_eq_ite, decide_eq_true_eq]
  by_cases h : a < b
  · have : ¬ b < a := by omega
    simp [h, this]
  · by_cases h2 : b < a
    · simp [h, h2]
    · have : a = b := by omega
      subst this; simp
theorem p_max (a b : Int) : m_spec_l00Max a b = some (if b > a then b else a) := by
  unfold m_spec_l00Max
  simp only [Bool.cond_eq_ite, decide_eq_true_eq]
  by_cases h : a > b
  · have : ¬ b > a := by omega
    simp [h, this]
  · by_cases h2 : b > a
    · simp [h, h2]
    · have : a = b := by omega
      subst this; simp
def pairMM (a b : Int) : DPair := ⟨if b < a then b else a, if b > a then b else a⟩
/-- What the walk finds that stops at S. -/
def found (xs : List DAgent) (q : DPort) (S : Nat) : Bool := decide ((orb xs q S).slot = 0) && decide (0 < S) && !decide ((orb xs q S).agent = 0)
theorem walk_spec {xs : List DAgent} (G : Good xs) {p q : DPort} (hq : hasPort xs q = true) {S : Nat} (hS : S ≤ xs.length) (h1 : Stops xs q S) (h2 : ∀ k, k < S → ¬ Stops xs q k) :
    ∃ r, m_spec_l17Walk_L1 ⟨xs⟩ m_spec_l17Walk_A1 (xs.length + 2) [] ⟨0, 0⟩ q = some r ∧
      (found xs q S = true → r = (pathTo xs q S, pairMM (orb xs q (S - 1)).agent (orb xs q S).agent, 0)) ∧ (found xs q S = false → r.2.2 = 5) := by
  have hone : ∀ g (k : Nat), k < xs.length → (orb xs q k).slot ≠ 0 → m_spec_l17Walk_L1 ⟨xs⟩ m_spec_l17Walk_A1 (g + 1) (pathTo xs q k) ⟨0, 0⟩ (orb xs q k) =
      if (orb xs q (k + 1)).slot = 0 ∧ (orb xs q (k + 1)).agent ≠ 0 then some (pathTo xs q (k + 1), pairMM (orb xs q k).agent (orb xs q (k + 1)).agent, 0) else m_spec_l17Walk_L1 ⟨xs⟩ m_spec_l17Walk_A1 g (pathTo xs q (k + 1)) ⟨0, 0⟩ (orb xs q (k + 1)) := by
    intro g k hk hs
    have hl := G.len
    have e1 : ((orb xs q k).slot != 0) = true := by simpa using hs
    have e2 : decide (((pathTo xs q k).length : Int) < (xs.length : Int)) = true := by rw [pathTo_len]; exact dlt hk
    have e3 : m_spec_l11Peer ⟨xs⟩ ⟨(orb xs q k).agent, 0⟩ = some (orb xs q (k + 1)) := p_speer (G.zero (orb_port G hq k))
    simp -implicitDefEqProofs only [m_spec_l17Walk_L1, m_spec_l17Walk_B1, e1, e2, cond_true, m_spec_l13Port, Option.bind_some, e3, p_min, p_max]
    rw [mustP_ok (by rw [pathTo_len]; simp; omega), Option.bind_some, ← pathTo_succ]
    by_cases c1 : (orb xs q (k + 1)).slot = 0
    · rw [show ((orb xs q (k + 1)).slot == 0) = true by simpa using c1, cond_true]
      by_cases c2 : (orb xs q (k + 1)).agent = 0
      · rw [show ((orb xs q (k + 1)).agent != 0) = false by simpa using c2, cond_false, if_neg (show ¬ ((orb xs q (k + 1)).slot = 0 ∧ (orb xs q (k + 1)).agent ≠ 0) from fun h => h.2 c2)]
      · rw [show ((orb xs q (k + 1)).agent != 0) = true by simpa using c2, cond_true, if_pos (show (orb xs q (k + 1)).slot = 0 ∧ (orb xs q (k + 1)).agent ≠ 0 from ⟨c1, c2⟩)]; rfl
    · rw [show ((orb xs q (k + 1)).slot == 0) = false by simpa using c1, cond_false, if_neg (show ¬ ((orb xs q (k + 1)).slot = 0 ∧ (orb xs q (k + 1)).agent ≠ 0) from fun h => c1 h.1)]
  have hend : ∀ g (k : Nat), ((orb xs q k).slot = 0 ∨ xs.length ≤ k) → m_spec_l17Walk_L1 ⟨xs⟩ m_spec_l17Walk_A1 (g + 1) (pathTo xs q k) ⟨0, 0⟩ (orb xs q k) = some (pathTo xs q k, ⟨0, 0⟩, 5) := by
    intro g k h
    by_cases c1 : (orb xs q k).slot = 0
    · have e1 : ((orb xs q k).slot != 0) = false := by simpa using c1
      simp -implicitDefEqProofs only [m_spec_l17Walk_L1, m_spec_l17Walk_B1, e1, cond_false, m_spec_l17Walk_A1]
    · have e1 : ((orb xs q k).slot != 0) = true := by simpa using c1
      have e2 : decide (((pathTo xs q k).length : Int) < (xs.length : Int)) = false := by
        have : xs.length ≤ k := by rcases h with h | h; exact absurd h c1; exact h
        rw [pathTo_len]; simp; omega
      simp -implicitDefEqProofs only [m_spec_l17Walk_L1, m_spec_l17Walk_B1, e1, e2, cond_true, cond_false, m_spec_l17Walk_A1]
  by_cases c : (orb xs q S).slot = 0
  · -- the first zero is at S
    have hpre : ∀ k, k < S → (orb xs q k).slot ≠ 0 := fun k hk e => h2 k hk (.inl e)
    by_cases c0 : S = 0
    · subst c0
      refine ⟨_, hend (xs.length + 1) 0 (.inl c), fun h => ?_, fun _ => rfl⟩
      simp [found] at h
    · obtain ⟨m, rfl⟩ : ∃ m, S = m + 1 := ⟨S - 1, by omega⟩
      obtain ⟨g', hg'⟩ : ∃ g', xs.length + 2 = g' + 1 + 1 + m := ⟨xs.length - m, by omega⟩
      have hgo := steps (L := fun g (s : List Int × DPort) => m_spec_l17Walk_L1 ⟨xs⟩ m_spec_l17Walk_A1 g s.1 ⟨0, 0⟩ s.2) (st := fun k => (pathTo xs q k, orb xs q k)) (n := m)
        (fun g k hk => by
          have := hone g k (by omega) (hpre k (by omega))
          simp only
          rw [this, if_neg (fun h => hpre (k + 1) (by omega) h.1)]) (g' + 1 + 1)
      have hgo : m_spec_l17Walk_L1 ⟨xs⟩ m_spec_l17Walk_A1 (xs.length + 2) [] ⟨0, 0⟩ q = m_spec_l17Walk_L1 ⟨xs⟩ m_spec_l17Walk_A1 (g' + 1 + 1) (pathTo xs q m) ⟨0, 0⟩ (orb xs q m) := by rw [hg']; exact hgo
      rw [hgo, hone (g' + 1) m (by omega) (hpre m (by omega))]
      by_cases ca : (orb xs q (m + 1)).agent = 0
      · rw [if_neg (fun h => h.2 ca), hend g' (m + 1) (.inl c)]
        refine ⟨_, rfl, fun h => ?_, fun _ => rfl⟩
        simp [found, ca] at h
      · rw [if_pos ⟨c, ca⟩]
        refine ⟨_, rfl, fun _ => rfl, fun h => ?_⟩
        simp [found, ca, c] at h
  · have hcy : ∃ i, i < S ∧ (orb xs q i).agent = (orb xs q S).agent := by
      rcases h1 with h1 | h1
      · exact absurd h1 c
      · exact h1
    obtain ⟨i, hi, he⟩ := hcy
    have hall : ∀ k, (orb xs q k).slot ≠ 0 := by
      intro k
      induction k using Nat.strongRecOn with
      | _ k ih =>
        rcases Nat.lt_trichotomy k S with hk | hk | hk
        · exact fun e => h2 k hk (.inl e)
        · rw [hk]; exact c
        · obtain ⟨m, rfl⟩ : ∃ m, k = S + 1 + m := ⟨k - S - 1, by omega⟩
          rw [← orb_cycle he m]
          exact ih (i + 1 + m) (by omega)
    have hgo := steps (L := fun g (s : List Int × DPort) => m_spec_l17Walk_L1 ⟨xs⟩ m_spec_l17Walk_A1 g s.1 ⟨0, 0⟩ s.2) (st := fun k => (pathTo xs q k, orb xs q k)) (n := xs.length)
      (fun g k hk => by
        have := hone g k (by omega) (hall k)
        simp only
        rw [this, if_neg (fun h => hall (k + 1) h.1)]) 2
    have hgo : m_spec_l17Walk_L1 ⟨xs⟩ m_spec_l17Walk_A1 (xs.length + 2) [] ⟨0, 0⟩ q = m_spec_l17Walk_L1 ⟨xs⟩ m_spec_l17Walk_A1 2 (pathTo xs q xs.length) ⟨0, 0⟩ (orb xs q xs.length) := by rw [Nat.add_comm]; exact hgo
    rw [hgo, hend 1 xs.length (.inr (Nat.le_refl _))]
    refine ⟨_, rfl, fun h => ?_, fun _ => rfl⟩
    simp [found, c] at h
def seenTo (xs : List DAgent) (q : DPort) : Nat → MapM Int Bool
  | 0 => MapM.empty
  | k + 1 => (seenTo xs q k).put (orb xs q k).agent true
theorem seenTo_n (xs : List DAgent) (q : DPort) : ∀ k, (seenTo xs q k).n = k
  | 0 => rfl
  | k + 1 => by show (seenTo xs q k).n + 1 = k + 1; rw [seenTo_n xs q k]
theorem seenTo_look (xs : List DAgent) (q : DPort) : ∀ k a, (seenTo xs q k).look a false = decide (a ∈ pathTo xs q k)
  | 0, a => by simp [seenTo, MapM.empty, MapM.look, pathTo]
  | k + 1, a => by
    rw [pathTo_succ]
    have ih := seenTo_look xs q k a
    by_cases ha : a = (orb xs q k).agent
    · simp [seenTo, MapM.look, MapM.put, ha]
    · simp only [seenTo, MapM.look, MapM.put, if_neg ha] at ih ⊢
      rw [ih]
      simp [ha]
theorem walk_impl {xs : List DAgent} (G : Good xs) {q : DPort} (hq : hasPort xs q = true) {S : Nat} (hS : S ≤ xs.length) (h1 : Stops xs q S) (h2 : ∀ k, k < S → ¬ Stops xs q k) :
    ∃ r, m_impl_Net_needed_L1 ⟨xs⟩ (m_impl_Net_needed_A1 ⟨xs⟩) (xs.length + 2) [] q MapM.empty = some r ∧
      (found xs q S = true → r = (pathTo xs q S, pairMM (orb xs q (S - 1)).agent (orb xs q S).agent, true)) ∧ (found xs q S = false → r.2.2 = false) := by
  have hl := G.len
  have hMn := seenTo_n xs q
  have hMl := seenTo_look xs q
  have hMs : ∀ k, seenTo xs q (k + 1) = (seenTo xs q k).put (orb xs q k).agent true := fun k => rfl
  have hck : ∀ k, ck (orb xs q k).agent = some (orb xs q k).agent := fun k => by
    obtain ⟨a, ha, hlt⟩ := orb_nat G hq k
    rw [ha]; exact ck_ok (by omega)
  have hmem : ∀ k, (orb xs q k).agent ∈ pathTo xs q k ↔ ∃ i, i < k ∧ (orb xs q i).agent = (orb xs q k).agent := fun k => by simp [pathTo]
  have hone : ∀ g (k : Nat), k < S → m_impl_Net_needed_L1 ⟨xs⟩ (m_impl_Net_needed_A1 ⟨xs⟩) (g + 1) (pathTo xs q k) (orb xs q k) (seenTo xs q k) = m_impl_Net_needed_L1 ⟨xs⟩ (m_impl_Net_needed_A1 ⟨xs⟩) g (pathTo xs q (k + 1)) (orb xs q (k + 1)) (seenTo xs q (k + 1)) := by
    intro g k hk
    have hns := h2 k hk
    have e1 : ((orb xs q k).slot != 0) = true := by
      have : (orb xs q k).slot ≠ 0 := fun e => hns (.inl e)
      simpa using this
    have e2 : (seenTo xs q k).look (orb xs q k).agent false = false := by
      rw [hMl]
      exact decide_eq_false (fun h => hns (.inr ((hmem k).1 h)))
    have e3 : m_impl_Net_peer ⟨xs⟩ ⟨(orb xs q k).agent, 0⟩ = some (orb xs q (k + 1)) := p_peer (G.zero (orb_port G hq k))
    have hn := hMn k
    simp -implicitDefEqProofs only [m_impl_Net_needed_L1, m_impl_Net_needed_B1, e1, e2, cond_true, cond_false, hck, Option.bind_some, e3]
    rw [mustP_ok (by omega), Option.bind_some, mustP_ok (by rw [pathTo_len]; simp; omega), Option.bind_some, ← pathTo_succ, ← hMs]
  have hend : ∀ g, m_impl_Net_needed_L1 ⟨xs⟩ (m_impl_Net_needed_A1 ⟨xs⟩) (g + 1) (pathTo xs q S) (orb xs q S) (seenTo xs q S) = m_impl_Net_needed_A1 ⟨xs⟩ (pathTo xs q S) (orb xs q S) := by
    intro g
    by_cases c : (orb xs q S).slot = 0
    · have e1 : ((orb xs q S).slot != 0) = false := by simpa using c
      simp -implicitDefEqProofs only [m_impl_Net_needed_L1, m_impl_Net_needed_B1, e1, cond_false]
    · have e1 : ((orb xs q S).slot != 0) = true := by simpa using c
      have e2 : (seenTo xs q S).look (orb xs q S).agent false = true := by
        rw [hMl]
        refine decide_eq_true ((hmem S).2 ?_)
        rcases h1 with h1 | h1
        · exact absurd h1 c
        · exact h1
      simp -implicitDefEqProofs only [m_impl_Net_needed_L1, m_impl_Net_needed_B1, e1, e2, cond_true, hck, Option.bind_some]
  obtain ⟨g', hg'⟩ : ∃ g', xs.length + 2 = g' + 1 + S := ⟨xs.length + 1 - S, by omega⟩
  have hgo := steps (L := fun g (s : List Int × DPort × MapM Int Bool) => m_impl_Net_needed_L1 ⟨xs⟩ (m_impl_Net_needed_A1 ⟨xs⟩) g s.1 s.2.1 s.2.2) (st := fun k => (pathTo xs q k, orb xs q k, seenTo xs q k)) (n := S)
    (fun g k hk => hone g k hk) (g' + 1)
  have hgo : m_impl_Net_needed_L1 ⟨xs⟩ (m_impl_Net_needed_A1 ⟨xs⟩) (xs.length + 2) [] q MapM.empty = m_impl_Net_needed_A1 ⟨xs⟩ (pathTo xs q S) (orb xs q S) := by
    rw [hg', ← hend g']; exact hgo
  rw [hgo]
  unfold m_impl_Net_needed_A1
  by_cases c : (orb xs q S).slot = 0
  · rw [show ((orb xs q S).slot != 0) = false by simpa using c, cond_false]
    by_cases c0 : S = 0
    · subst c0
      rw [show (((pathTo xs q 0).length : Int) == 0) = true by rw [pathTo_len]; rfl, cond_true]
      exact ⟨_, rfl, fun h => by simp [found] at h, fun _ => rfl⟩
    · rw [show (((pathTo xs q S).length : Int) == 0) = false by rw [pathTo_len]; simp; omega, cond_false]
      obtain ⟨i, s, x, hqe, hx, _⟩ := hasPort_at (orb_port G hq S)
      have ha : (orb xs q S).agent = (i : Int) := by rw [hqe]
      rw [ha, getI_nat hx, Option.bind_some]
      by_cases ck1 : i = 0
      · have hk := (G.root i x hx).2 ck1
        rw [show (x.kind == 1) = true by simpa using hk, cond_true]
        exact ⟨_, rfl, fun h => by simp [found, ha, ck1] at h, fun _ => rfl⟩
      · have hk : x.kind ≠ 1 := fun e => ck1 ((G.root i x hx).1 e)
        rw [show (x.kind == 1) = false by simpa using hk, cond_false]
        rw [ck_ok (by rw [pathTo_len]; omega), Option.bind_some]
        have hlast : getI (pathTo xs q S) (((pathTo xs q S).length : Int) - 1) = some (orb xs q (S - 1)).agent := by
          rw [pathTo_len, show (S : Int) - 1 = ((S - 1 : Nat) : Int) by omega]
          refine getI_nat ?_
          unfold pathTo
          rw [List.getElem?_map, List.getElem?_range (by omega)]
          rfl
        rw [hlast, Option.bind_some]
        refine ⟨_, rfl, fun _ => ?_, fun h => ?_⟩
        · rfl
        · simp [found, ha, c, ck1] at h
          omega
  · rw [show ((orb xs q S).slot != 0) = true by simpa using c, cond_true]
    exact ⟨_, rfl, fun h => by simp [found, c] at h, fun _ => rfl⟩
def known (xs : List DAgent) (p : DPort) : Bool := (peer xs p).slot == 0 && (let k := (agentAt xs (peer xs p).agent).kind; k == 2 || k == 6 || k == 9 || k == 12)
theorem p_value {xs : List DAgent} (G : Good xs) {p : DPort} (h : hasPort xs p = true) : m_spec_l17Value ⟨xs⟩ p = some (known xs p) := by
  obtain ⟨i, s, x, hqe, hx, _, ha⟩ := hasPort_at (G.peer h).1
  have ha1 : (peer xs p).agent = (i : Int) := by rw [hqe]
  unfold m_spec_l17Value known
  rw [p_speer h, Option.bind_some, ha]
  rw [ha1, getI_nat hx]
  simp only [Option.bind_some]
  cases h1 : (peer xs p).slot == 0 with
  | false => rw [show ((peer xs p).slot != 0) = true by simp at h1 ⊢; exact h1]; rfl
  | true =>
    rw [show ((peer xs p).slot != 0) = false by simp at h1 ⊢; exact h1]
    simp only [Bool.true_and, cond_false]
    cases x.kind == 2 <;> cases x.kind == 6 <;> cases x.kind == 9 <;> cases x.kind == 12 <;> rfl
theorem p_isKnown {xs : List DAgent} (G : Good xs) {p : DPort} (h : hasPort xs p = true) : m_impl_Net_isKnown ⟨xs⟩ p = some (known xs p) := by
  obtain ⟨i, s, x, hqe, hx, _, ha⟩ := hasPort_at (G.peer h).1
  have ha1 : (peer xs p).agent = (i : Int) := by rw [hqe]
  unfold m_impl_Net_isKnown known
  rw [p_peer h, Option.bind_some, ha]
  rw [ha1, getI_nat hx]
  simp only [Option.bind_some]
  cases (peer xs p).slot == 0 <;> cases x.kind == 2 <;> cases x.kind == 6 <;> cases x.kind == 9 <;> cases x.kind == 12 <;> rfl
theorem pairAt_mem {xs : List DAgent} (G : Good xs) {a b : Nat} {x : DAgent} (hx : xs[a]? = some x) (hp : x.ports[0]? = some ⟨(b : Int), 0⟩) (hab : a < b) (ha : a ≠ 0) : (⟨(a : Int), (b : Int)⟩ : DPair) ∈ pairsOf xs := by
  unfold pairsOf
  rw [List.mem_flatMap]
  refine ⟨a, by simpa using lt_of_some hx, ?_⟩
  rw [pairAt_eq hx hp, if_pos ⟨rfl, by simp only; omega, fun e => ha ((G.root a x hx).1 e)⟩]
  simp
theorem found_mem {xs : List DAgent} (G : Good xs) {p : DPort} (hp : hasPort xs p = true) {q : DPort} (hq : q = peer xs p) {S : Nat} (h2 : ∀ k, k < S → ¬ Stops xs q k) (hf : found xs q S = true) : pairMM (orb xs q (S - 1)).agent (orb xs q S).agent ∈ pairsOf xs := by
  have hqp : hasPort xs q = true := by rw [hq]; exact (G.peer hp).1
  simp only [found, Bool.and_eq_true, decide_eq_true_eq, Bool.not_eq_true', decide_eq_false_iff_not] at hf
  obtain ⟨⟨f1, f2⟩, f3⟩ := hf
  obtain ⟨m, rfl⟩ : ∃ m, S = m + 1 := ⟨S - 1, by omega⟩
  rw [Nat.add_sub_cancel]
  have hns : (orb xs q m).slot ≠ 0 := fun e => h2 m (by omega) (.inl e)
  obtain ⟨a, sa, x, hqa, hx, hsa, _⟩ := hasPort_at (orb_port G hqp m)
  obtain ⟨b, sb, y, hqb, hy, hsb, _⟩ := hasPort_at (orb_port G hqp (m + 1))
  have ea : (orb xs q m).agent = (a : Int) := by rw [hqa]
  have eb : (orb xs q (m + 1)).agent = (b : Int) := by rw [hqb]
  have eb0 : orb xs q (m + 1) = ⟨(b : Int), 0⟩ := by rw [hqb] at f1 ⊢; simp only at f1; rw [f1]
  have ha0 : hasPort xs ⟨(a : Int), ((0 : Nat) : Int)⟩ = true := hasPort_of hx (G.pos hx)
  have hpa := G.peer ha0
  have hstep : peer xs ⟨(a : Int), ((0 : Nat) : Int)⟩ = ⟨(b : Int), 0⟩ := by
    have : orb xs q (m + 1) = peer xs ⟨(orb xs q m).agent, 0⟩ := rfl
    rw [← eb0, this, ea]; rfl
  rw [hstep] at hpa
  obtain ⟨_, hback, hne⟩ := hpa
  have hab : a ≠ b := fun e => hne (by rw [e]; rfl)
  have hb : b ≠ 0 := fun e => f3 (by rw [eb, e]; rfl)
  have hx0 := List.getElem?_eq_getElem (G.pos hx)
  have hy0 := List.getElem?_eq_getElem (G.pos hy)
  have pa : x.ports[0]? = some ⟨(b : Int), 0⟩ := by rw [hx0, ← peer_of hx hx0, hstep]
  have pb : y.ports[0]? = some ⟨(a : Int), 0⟩ := by
    have e1 := peer_of hy hy0
    have e2 : peer xs ⟨(b : Int), ((0 : Nat) : Int)⟩ = ⟨(a : Int), 0⟩ := hback
    rw [hy0, ← e1, e2]
  have ha : a ≠ 0 := by
    intro e
    have hk := (G.root a x hx).2 e
    have hok := G.ok a x hx
    unfold agentOk at hok
    simp only [Bool.and_eq_true, decide_eq_true_eq, hk] at hok
    have h3 := hok.1.1.2
    have h4 : portsOf 1 (fieldsN 1 x.ports.length) = 1 := by simp [portsOf, fieldsN]
    rw [h4] at h3
    have : sa ≠ 0 := fun e => hns (by rw [hqa, e]; rfl)
    omega
  rw [ea, eb]
  unfold pairMM
  rcases Nat.lt_or_gt_of_ne hab with h | h
  · rw [if_neg (by omega), if_pos (by omega)]
    exact pairAt_mem G hx pa h ha
  · rw [if_pos (by omega), if_neg (by omega)]
    exact pairAt_mem G hy pb h hb
theorem walk_both {xs : List DAgent} (G : Good xs) {p : DPort} (hp : hasPort xs p = true) (hk : known xs p = false) :
    ∃ rs ri, m_spec_l17Walk ⟨xs⟩ p = some rs ∧ m_impl_Net_needed ⟨xs⟩ p = some ri ∧ ((rs.2.2 = 0 ∧ ri.2.2 = true ∧ rs.1 = ri.1 ∧ rs.2.1 = ri.2.1 ∧ rs.2.1 ∈ pairsOf xs) ∨ (rs.2.2 = 5 ∧ ri.2.2 = false)) := by
  have hq := (G.peer hp).1
  obtain ⟨S, hS, h1, h2⟩ := stops G hq
  obtain ⟨rs, e1, f1, f2⟩ := walk_spec G (p := p) hq hS h1 h2
  obtain ⟨ri, e3, f3, f4⟩ := walk_impl G hq hS h1 h2
  refine ⟨rs, ri, ?_, ?_, ?_⟩
  · unfold m_spec_l17Walk
    rw [p_value G hp, Option.bind_some, hk, cond_false, p_speer hp, Option.bind_some]
    exact e1
  · unfold m_impl_Net_needed
    rw [p_peer hp, Option.bind_some]
    exact e3
  · cases hf : found xs (peer xs p) S with
    | true =>
      have g1 := f1 hf
      have g3 := f3 hf
      refine .inl ?_
      rw [g1, g3]
      exact ⟨rfl, rfl, rfl, rfl, found_mem G hp rfl h2 hf⟩
    | false => exact .inr ⟨f2 hf, f4 hf⟩
theorem p_sIndex {xs : List DAgent} (G : Good xs) (p : DPair) : m_spec_l17Index ⟨xs⟩ p = some (match (pairsOf xs).findIdx? (fun x => x.a == p.a && x.b == p.b) with | some i => (i : Int) | none => 0) := by
  unfold m_spec_l17Index
  rw [p_sPairs (d := ⟨xs⟩) G, Option.bind_some]
  refine (findI (L := m_spec_l17Index_L1 p (pairsOf xs) m_spec_l17Index_A1) (d := pairsOf xs) (q := fun x => x.a == p.a && x.b == p.b) (hit := fun i => some (i : Int)) (K := some 0)
    (fun g k x hx => by
      have hk := lt_of_some hx
      simp -implicitDefEqProofs only [m_spec_l17Index_L1, m_spec_l17Index_B1, getI_nat hx, Option.bind_some, dlt hk, cond_true]
      cases (x.a == p.a && x.b == p.b) <;> rfl)
    (fun g => by simp -implicitDefEqProofs only [m_spec_l17Index_L1, m_spec_l17Index_B1, dge, cond_false, m_spec_l17Index_A1]) ((pairsOf xs).length + 1) (Nat.lt_succ_self _)).trans ?_
  cases (pairsOf xs).findIdx? (fun x => x.a == p.a && x.b == p.b) <;> rfl
theorem p_iIndex (l : List DPair) (p : DPair) : m_slices_Index_impl_Pair_impl_Pair l p = some (match l.findIdx? (fun x => x.a == p.a && x.b == p.b) with | some i => (i : Int) | none => -1) := by
  unfold m_slices_Index_impl_Pair_impl_Pair
  refine (findI (L := m_slices_Index_impl_Pair_impl_Pair_L1 l p m_slices_Index_impl_Pair_impl_Pair_A1) (d := l) (q := fun x => x.a == p.a && x.b == p.b) (hit := fun i => some (i : Int)) (K := some (-1))
    (fun g k x hx => by
      have hk := lt_of_some hx
      have e : (p.a == x.a && p.b == x.b) = (x.a == p.a && x.b == p.b) := by rw [Bool.eq_iff_iff]; simp only [Bool.and_eq_true, beq_iff_eq]; constructor <;> rintro ⟨h1, h2⟩ <;> exact ⟨h1.symm, h2.symm⟩
      simp -implicitDefEqProofs only [m_slices_Index_impl_Pair_impl_Pair_L1, m_slices_Index_impl_Pair_impl_Pair_B1, getI_nat hx, Option.bind_some, dlt hk, cond_true, e]
      cases (x.a == p.a && x.b == p.b) <;> rfl)
    (fun g => by simp -implicitDefEqProofs only [m_slices_Index_impl_Pair_impl_Pair_L1, m_slices_Index_impl_Pair_impl_Pair_B1, dge, cond_false, m_slices_Index_impl_Pair_impl_Pair_A1]) (l.length + 1) (Nat.lt_succ_self _)).trans ?_
  cases l.findIdx? (fun x => x.a == p.a && x.b == p.b) <;> rfl
end
section
open Go.RowKit
set_option linter.unusedVariables false
set_option linter.unusedSimpArgs false
structure GL (n : Nat) (l : List Int) : Prop where
  nd : l.Nodup
  inr : ∀ a ∈ l, 0 ≤ a ∧ a < n
theorem GL.len {n : Nat} {l : List Int} (h : GL n l) : l.length ≤ n := by
  have := php n (l.map Int.toNat) (by
    rw [List.nodup_iff_pairwise_ne, List.pairwise_map]
    refine (List.nodup_iff_pairwise_ne.1 h.nd).imp_of_mem ?_
    intro a b ha hb hab e
    have := h.inr a ha; have := h.inr b hb
    exact hab (by omega)) (fun x hx => by
    obtain ⟨a, ha, rfl⟩ := List.mem_map.1 hx
    have := h.inr a ha
    omega)
  simpa using this
theorem GL.add {n : Nat} {l : List Int} (h : GL n l) {a : Int} (h0 : 0 ≤ a) (h1 : a < n) (hn : a ∉ l) : GL n (l ++ [a]) :=
  ⟨List.nodup_append.2 ⟨h.nd, by simp, fun x hx y hy e => by simp at hy; subst hy; subst e; exact hn hx⟩, fun x hx => by
    rcases List.mem_append.1 hx with h2 | h2
    · exact h.inr x h2
    · simp at h2; subst h2; exact ⟨h0, h1⟩⟩
end
section
open Go.RowKit
set_option linter.unusedVariables false
set_option linter.unusedSimpArgs false
theorem agentOk_small {x : DAgent} (h : agentOk x = true) : x.ports.length ≤ 4 ∧ x.data.length ≤ 4 := by
  unfold agentOk at h
  simp only [Bool.and_eq_true, decide_eq_true_eq] at h
  obtain ⟨⟨⟨h1, h2⟩, _⟩, h3⟩ := h
  constructor
  · have : ∀ k f : Int, portsOf k f ≤ 4 := by
      intro k f
      unfold portsOf
      split
      · split <;> omega
      · split
        · omega
        · split
          · omega
          · split
            · omega
            · split <;> omega
    have := this x.kind (fieldsN x.kind x.ports.length)
    omega
  · unfold content at h3
    split at h3
    · simp only [Bool.and_eq_true, decide_eq_true_eq] at h3; omega
    · split at h3
      · simp only [Bool.and_eq_true, decide_eq_true_eq] at h3; omega
      · split at h3
        · simp only [Bool.and_eq_true, decide_eq_true_eq] at h3; omega
        · split at h3
          · simp only [Bool.and_eq_true, decide_eq_true_eq] at h3; omega
          · split at h3
            · simp only [Bool.and_eq_true, decide_eq_true_eq] at h3; omega
            · split at h3
              · simp only [Bool.and_eq_true, decide_eq_true_eq] at h3; omega
              · split at h3
                · simp only [Bool.and_eq_true, decide_eq_true_eq] at h3; omega
                · simp only [Bool.and_eq_true, decide_eq_true_eq] at h3; omega
end
section
open Go.RowKit
set_option linter.unusedVariables false
set_option linter.unusedSimpArgs false
/-- The block of a slice's row. -/
def fb (v : Value) : List Nat := v.ownBlock.toList
/-- Two lists of blocks lie apart. -/
def Ap (l m : List Nat) : Prop := ∀ b ∈ l, b ∉ m
section
variable {l m x l' l2 : List Nat} {k g : Nat} {v u v' : Value}
theorem mem_fb {b : Nat} : b ∈ fb v ↔ v.ownBlock = some b := by simp [fb]
theorem Ap.symm (h : Ap l m) : Ap m l := fun b h1 h2 => h b h2 h1
theorem Ap.nil : Ap [] m := fun b h => by simp at h
theorem Ap.new (h1 : ∀ b ∈ l, k ≤ b) (h2 : ∀ b ∈ x, b < k) : Ap l x := fun b h h' => by have := h1 b h; have := h2 b h'; omega
theorem Ap.one (h : Ap l [g]) : g ∉ l := fun hg => h g hg (by simp)
theorem Ap.far (h : ∀ b ∈ l, b < g) : Ap l [g] := fun b hb h' => by simp at h'; subst h'; exact absurd (h b hb) (Nat.lt_irrefl _)
theorem Ap.cons (h1 : Ap [g] x) (h2 : Ap l x) : Ap (g :: l) x := fun b hb h' => by
  rcases List.mem_cons.1 hb with rfl | hb
  · exact h1 b (by simp) h'
  · exact h2 b hb h'
theorem Ap.append (h1 : Ap l x) (h2 : Ap m x) : Ap (l ++ m) x := fun b hb h' => by
  rcases List.mem_append.1 hb with hb | hb
  · exact h1 b hb h'
  · exact h2 b hb h'
theorem Ap.dj (h : Ap (fb v) (fb u)) : Dj v u := fun b h1 h2 => h b (mem_fb.2 h1) (mem_fb.2 h2)
theorem ap_ne (h : Ap (fb v) [g]) : v.ownBlock ≠ some g := fun h1 => h g (mem_fb.2 h1) (by simp)
end
/-- Elements one behind the other, with what they own. -/
def Parts {α : Type} (O : Ow α) (w : World) : List Value → List α → List Nat → Prop
  | cells, [], ib => cells = [] ∧ ib = []
  | cells, x :: xs, ib => ∃ cs rest b1 b2, cells = cs ++ rest ∧ O w cs x b1 ∧ ib = b1 ++ b2 ∧ Parts O w rest xs b2
/-- A slice of the call's own: its row from block lo on, its elements' blocks (no two alike, none the row's), all among bs. -/
def OwN {α : Type} (e : TypeId) (O : Ow α) (sz : Nat) (w : World) (lo : Nat) (v : Value) (xs : List α) (bs : List Nat) : Prop :=
  ∃ cells ib, w.ownsRow lo e sz v xs.length cells ∧ Parts O w cells xs ib ∧ ib.Nodup ∧ (∀ b ∈ ib, b ∈ bs) ∧ (∀ b, v.ownBlock = some b → b ∈ bs ∧ b ∉ ib) ∧ (∀ b ∈ bs, lo ≤ b ∧ b < w.heap.size)
section
variable {α : Type} {O : Ow α} {R : Rd α} {sz : Nat} {w w' : World} {lo lo' : Nat} {v : Value} {xs ys : List α} {x : α} {bs : List Nat} {e : TypeId}
theorem Parts.keep (ok : OwOk O sz) : ∀ {xs : List α} {cells : List Value} {ib : List Nat}, (∀ b ∈ ib, w'.heap[b]? = w.heap[b]?) → Parts O w cells xs ib → Parts O w' cells xs ib
  | [], _, _, _, h => h
  | x :: xs, _, _, hb, ⟨cs, rest, b1, b2, e1, hO, e2, hr⟩ => by
    subst e1 e2
    exact ⟨cs, rest, b1, b2, rfl, ok.keep (fun b h => hb b (by simp [h])) hO, rfl, Parts.keep ok (fun b h => hb b (by simp [h])) hr⟩
theorem Parts.append : ∀ {xs ys : List α} {c1 c2 : List Value} {i1 i2 : List Nat}, Parts O w c1 xs i1 → Parts O w c2 ys i2 → Parts O w (c1 ++ c2) (xs ++ ys) (i1 ++ i2)
  | [], _, _, _, _, _, ⟨e1, e2⟩, h2 => by subst e1 e2; exact h2
  | x :: xs, _, _, _, _, _, ⟨cs, rest, b1, b2, e1, hO, e2, hr⟩, h2 => by
    subst e1 e2
    exact ⟨cs, _, b1, _, by rw [List.append_assoc], hO, by rw [List.append_assoc], Parts.append hr h2⟩
theorem Parts.one {cs : List Value} {b : List Nat} (h : O w cs x b) : Parts O w cs [x] b := ⟨cs, [], b, [], by simp, h, by simp, rfl, rfl⟩
theorem Parts.len (ok : OwOk O sz) : ∀ {xs : List α} {cells : List Value} {ib : List Nat}, Parts O w cells xs ib → cells.length = xs.length * sz
  | [], _, _, ⟨e, _⟩ => by rw [e]; simp
  | x :: xs, _, _, ⟨cs, rest, b1, b2, e1, hO, e2, hr⟩ => by
    subst e1
    rw [List.length_append, ok.len hO, Parts.len ok hr, List.length_cons, Nat.add_mul]; omega
theorem Parts.elAt (ok : OwOk O sz) {g : Nat} {cur : Array Value} (hb : Blk w g e cur) : ∀ {xs : List α} {cells : List Value} {ib : List Nat} (o : Nat), (∀ (j : Nat) (u : Value), cells[j]? = some u → cur[o + j]? = some u) → Parts O w cells xs ib → ElAt O sz w g o xs ib
  | [], _, _, o, _, ⟨_, e⟩ => e
  | x :: xs, _, _, o, hc, ⟨cs, rest, b1, b2, e1, hO, e2, hr⟩ => by
    subst e1 e2
    have hl := ok.len hO
    refine ⟨cs, b1, b2, hO, hb.csAt (fun j u hj => hc j u ?_), rfl, Parts.elAt ok hb (o + sz) (fun j u hj => ?_) hr⟩
    · rw [List.getElem?_append_left (lt_of_some hj)]; exact hj
    · have := hc (sz + j) u (by rw [List.getElem?_append_right (by omega), hl, show sz + j - sz = j by omega]; exact hj)
      rwa [show o + (sz + j) = o + sz + j by omega] at this
/-- One element of many. -/
theorem Parts.split (ok : OwOk O sz) : ∀ {xs : List α} {cells : List Value} {ib : List Nat} {k : Nat} {x : α}, Parts O w cells xs ib → xs[k]? = some x →
    ∃ c1 cs c2 i1 b1 i2, cells = c1 ++ cs ++ c2 ∧ c1.length = k * sz ∧ O w cs x b1 ∧ ib = i1 ++ (b1 ++ i2) ∧ ∀ w' cs' x' b1', (∀ b ∈ i1 ++ i2, w'.heap[b]? = w.heap[b]?) → O w' cs' x' b1' → Parts O w' (c1 ++ cs' ++ c2) (xs.set k x') (i1 ++ (b1' ++ i2))
  | [], _, _, _, _, _, h => by simp at h
  | y :: ys, _, _, 0, x, ⟨cs, rest, b1, b2, e1, hO, e2, hr⟩, h => by
    have : y = x := by simpa using h
    subst this
    subst e1 e2
    exact ⟨[], cs, rest, [], b1, b2, by simp, by simp, hO, by simp, fun w' cs' x' b1' hb hO' => ⟨cs', rest, b1', b2, by simp, hO', by simp, Parts.keep ok (fun b h => hb b (by simp [h])) hr⟩⟩
  | y :: ys, _, _, k + 1, x, ⟨cs, rest, b1, b2, e1, hO, e2, hr⟩, h => by
    subst e1 e2
    obtain ⟨c1, cs2, c2, i1, b3, i2, f1, f2, f3, f4, f5⟩ := Parts.split ok hr (by simpa using h)
    subst f1 f4
    refine ⟨cs ++ c1, cs2, c2, b1 ++ i1, b3, i2, by simp, by rw [List.length_append, ok.len hO, f2, Nat.add_mul]; omega, f3, by simp, fun w' cs' x' b1' hb hO' => ?_⟩
    refine ⟨cs, _, b1, _, by simp [List.append_assoc], ok.keep (fun b h => hb b (by simp [h])) hO, by simp [List.append_assoc], f5 w' cs' x' b1' (fun b h => hb b (by simp at h ⊢; rcases h with h | h <;> simp [h])) hO'⟩
theorem OwN.keep (ok : OwOk O sz) (h : OwN e O sz w lo v xs bs) (hk : ∀ b ∈ bs, w'.heap[b]? = w.heap[b]?) (hs : w.heap.size ≤ w'.heap.size) : OwN e O sz w' lo v xs bs := by
  obtain ⟨cells, ib, h1, h2, h3, h4, h5, h6⟩ := h
  refine ⟨cells, ib, ?_, h2.keep ok (fun b hb => hk b (h4 b hb)), h3, h4, h5, fun b hb => by have := h6 b hb; omega⟩
  refine ⟨h1.1, ?_⟩
  rcases h1.2 with h | ⟨g, cap, cur, hv, hg, hh, r⟩
  · exact .inl h
  · exact .inr ⟨g, cap, cur, hv, hg, (hk g (h5 g (by rw [hv]; rfl)).1).trans hh, r⟩
theorem OwN.hi (h : OwN e O sz w lo v xs bs) : ∀ b ∈ bs, b < w.heap.size := by obtain ⟨cells, ib, h1, h2, h3, h4, h5, h6⟩ := h; exact fun b hb => (h6 b hb).2
theorem OwN.lo_ (h : OwN e O sz w lo v xs bs) : ∀ b ∈ bs, lo ≤ b := by obtain ⟨cells, ib, h1, h2, h3, h4, h5, h6⟩ := h; exact fun b hb => (h6 b hb).1
theorem OwN.row (h : OwN e O sz w lo v xs bs) {b : Nat} (hb : v.ownBlock = some b) : b ∈ bs := by obtain ⟨cells, ib, h1, h2, h3, h4, h5, h6⟩ := h; exact (h5 b hb).1
theorem OwN.below (ok : OwOk O sz) (h : OwN e O sz w lo v xs bs) (hb : Below w.heap.size w w') : OwN e O sz w' lo v xs bs := h.keep ok (fun b hin => hb.block b (h.hi b hin)) hb.size
theorem OwN.only {b : Nat} (ok : OwOk O sz) (h : OwN e O sz w lo v xs bs) (ho : Only [b] w w') (hn : b ∉ bs) : OwN e O sz w' lo v xs bs := h.keep ok (fun k hk => ho.block k (by intro hin; simp at hin; subst hin; exact hn hk)) (Nat.le_of_eq ho.size.symm)
theorem OwN.grown {row : Option Nat} (ok : OwOk O sz) (h : OwN e O sz w lo v xs bs) (hg : w.grownBy w' row) (hn : Ap bs row.toList) : OwN e O sz w' lo v xs bs := h.keep ok (fun k hk => hg.block k (h.hi k hk) (fun e => hn k hk (by simp [← e]))) hg.size
theorem OwN.mono (h : OwN e O sz w lo v xs bs) (hl : lo' ≤ lo) : OwN e O sz w lo' v xs bs := by
  obtain ⟨cells, ib, h1, h2, h3, h4, h5, h6⟩ := h
  refine ⟨cells, ib, ?_, h2, h3, h4, h5, fun b hb => by have := h6 b hb; omega⟩
  refine ⟨h1.1, ?_⟩
  rcases h1.2 with h | ⟨g, cap, cur, hv, hg, r⟩
  · exact .inl h
  · exact .inr ⟨g, cap, cur, hv, by omega, r⟩
theorem OwN.nil : OwN e O sz w lo (.slice none 0 0) ([] : List α) [] := ⟨[], [], ⟨by simp, .inl ⟨rfl, rfl⟩⟩, ⟨rfl, rfl⟩, List.nodup_nil, fun b hb => by simp at hb, fun b hb => by simp [Value.ownBlock] at hb, fun b hb => by simp at hb⟩
theorem OwN.own1 (ok : OwOk O sz) (h : OwN e O sz w lo v xs bs) : ∃ A n c l, v = .slice A n c ∧ OwAt O sz w A n xs l ∧ l.Nodup ∧ (∀ b ∈ l, b ∈ bs) ∧ n ≤ c ∧ c ≤ maxLen := by
  obtain ⟨cells, ib, h1, h2, h3, h4, h5, h6⟩ := h
  rcases h1.2 with ⟨rfl, h0⟩ | ⟨g, cap, cur, rfl, hg, hh, k1, k2, k3, k4⟩
  · have : xs = [] := List.eq_nil_of_length_eq_zero h0
    subst this
    exact ⟨none, 0, 0, [], rfl, ⟨rfl, .inl ⟨rfl, rfl⟩⟩, List.nodup_nil, fun b hb => by simp at hb, Nat.le_refl _, Nat.zero_le _⟩
  · obtain ⟨hg1, hg2⟩ := h5 g rfl
    refine ⟨some ⟨g, 0, none⟩, _, cap, g :: ib, rfl, ⟨rfl, .inr ⟨g, 0, ib, rfl, rfl, ?_⟩⟩, List.nodup_cons.2 ⟨hg2, h3⟩, fun b hb => by
      rcases List.mem_cons.1 hb with rfl | hb
      · exact hg1
      · exact h4 b hb, k1, k2⟩
    refine h2.elAt (e := e) ok (cur := cur) hh 0 (fun j u hj => ?_)
    rw [← k4, List.getElem?_take] at hj
    split at hj
    · simpa using hj
    · cases hj
theorem OwN.own (ok : OwOk O sz) (h : OwN e O sz w lo v xs bs) : OwS O sz w v xs lo w.heap.size := by
  obtain ⟨A, n, c, l, e1, h1, h2, h3, r⟩ := h.own1 ok
  exact ⟨A, n, c, l, e1, h1, h2, fun b hb => ⟨h.lo_ b (h3 b hb), h.hi b (h3 b hb)⟩, r⟩
end
section
variable {α : Type} {R : Rd α} {O : Ow α} {enc : α → List Value} {sz : Nat} {w w' : World} {lo lo' : Nat} {v : Value} {xs ys : List α} {e : TypeId}
theorem OwF.flo (h : OwF e enc sz w lo v xs) : ∀ b ∈ fb v, lo ≤ b := fun b hb => h.lo_ b (mem_fb.1 hb)
theorem one_hi {g : Nat} (h : g < w.heap.size) : ∀ b ∈ [g], b < w.heap.size := fun b hb => by simp at hb; subst hb; exact h
variable {O' : Ow α} {bs : List Nat} {u : Value}
/-- Another slice of the call's own, while the row of v grows or is written. -/
theorem OwN.dj (h : OwN e O' sz w lo v xs bs) (A : Ap bs (fb u)) : Dj u v := fun b h1 h2 => A b (h.row h2) (mem_fb.2 h1)
theorem OwN.both (h : OwN e O' sz w lo v xs bs) {g : Nat} (hg : w.heap.size ≤ g) : ∀ b ∈ bs, lo ≤ b ∧ b < g := fun b hb => ⟨h.lo_ b hb, Nat.lt_of_lt_of_le (h.hi b hb) hg⟩
end
end
section
open Go.RowKit
set_option linter.unusedVariables false
set_option linter.unusedSimpArgs false
set_option maxRecDepth 100000
def m_spec_l17Next_A1 (z41 : DPair) : Option (DPair × Int) :=
  some ((⟨0, 0⟩ : DPair), 3)
def m_spec_l17Next_B1 (d0 : DNet) (self : DNet → DPort → Option (DPair × Int)) (y25 : DPort) (rec1 : Int → DPair → DPair → Option (DPair × Int)) (K1 : DPair → Option (DPair × Int)) (i46 : Int) (z47 : DPair) (z48 : DPair) : Option (DPair × Int) :=
  ((getI d0.agents y25.agent).bind fun x50 => (bif (decide (i46 < (x50.ports.length : Int))) then ((m_spec_l13Port y25.agent i46).bind fun y60 => ((self d0 y60).bind fun y64 => (bif (y64.2 != 3) then some (y64.1, y64.2) else (rec1 (i46 + 1) z47 y64.1)))) else (K1 z47)))
def m_spec_l17Next_L1 (d0 : DNet) (self : DNet → DPort → Option (DPair × Int)) (y25 : DPort) (K1 : DPair → Option (DPair × Int)) : Nat → Int → DPair → DPair → Option (DPair × Int)
  | 0, _, _, _ => none
  | g + 1, i46, z47, z48 => m_spec_l17Next_B1 d0 self y25 (m_spec_l17Next_L1 d0 self y25 K1 g) K1 i46 z47 z48
def m_spec_l17Next_R (self : DNet → DPort → Option (DPair × Int)) (d0 : DNet) (d1 : DPort) : Option (DPair × Int) :=
  ((m_spec_l17Walk d0 d1).bind fun y10 => (bif (y10.2.2 != 3) then some (y10.2.1, y10.2.2) else ((m_spec_l11Peer d0 d1).bind fun y25 => ((getI d0.agents y25.agent).bind fun x29 => (bif (x29.kind != 9) then some ((⟨0, 0⟩ : DPair), 3) else (m_spec_l17Next_L1 d0 self y25 m_spec_l17Next_A1 (((getI d0.agents y25.agent).getD default).ports.length + 1) 1 (⟨0, 0⟩ : DPair) y10.2.1))))))
def m_spec_l17Next : Nat → DNet → DPort → Option (DPair × Int)
  | 0, _, _ => none
  | gas + 1, d0, d1 => m_spec_l17Next_R (m_spec_l17Next gas) d0 d1
set_option maxHeartbeats 2000000 in
theorem c_m_spec_l17Next : ∀ (gas : Nat) (d0 : DNet) (d1 : DPort) (r : DPair × Int) (hm : m_spec_l17Next gas d0 d1 = some r) (v0 : Value) (w : World) (hv0 : Pt netRd w v0 d0),
    Calls Try.prog 71 #[v0, .agg #[.int .i64 d1.agent, .int .i64 d1.slot]] w fun e w' => e = .returned (.tuple #[.agg #[.int .i64 r.1.a, .int .i64 r.1.b], .int .i64 r.2]) ∧ Below w.heap.size w w' := by
  intro gas
  induction gas with
  | zero =>
    intro d0 d1 r hm v0 w hv0
    cases hm
  | succ gas ih =>
    intro d0 d1 r hm v0 w hv0
    obtain ⟨ba0, oa0, csa0, rfl, hba0, hRa0, hca0⟩ := hv0
    have hSa0 := hRa0
    obtain ⟨A1, n1, c1, rfl, ⟨h1, r1⟩⟩ := hRa0
    have e1 := h1.len; subst e1
    have q1 := len_le r1
    have T := Below.refl w.heap.size w
    obtain ⟨self, hself, hm⟩ : ∃ s, s = m_spec_l17Next gas ∧ m_spec_l17Next_R s d0 d1 = some r := ⟨_, rfl, hm⟩
    unfold m_spec_l17Next_R at hm
    refine enter 62 Try.func71 rfl rfl rfl ?_
    intro f hf
    have s0 : f 0 = .pointer (some ⟨ba0, oa0, none⟩) := hf 0 _ rfl
    have s1 : f 1 = .agg #[.int .i64 d1.agent, .int .i64 d1.slot] := hf 1 _ rfl
    refine wp_seq ?_
    refine wp_rl rfl ?_
    refine RL.box rfl s1 (fun w2 B3 hb4 szw2 => ?_)
    replace B3 : Blk w2 w.heap.size 53 #[.int .i64 d1.agent, .int .i64 d1.slot] := B3
    have GB3 : w.heap.size ≤ w.heap.size := T.size
    have T := Tt T hb4
    refine RL.alloc (z := .agg #[.int .i64 0, .int .i64 0]) rfl (by kernel_rfl) (fun w6 B7 hb8 szw6 => ?_)
    replace B7 : Blk w6 w2.heap.size 81 #[.int .i64 0, .int .i64 0] := B7
    have GB7 : w.heap.size ≤ w2.heap.size := T.size
    have Eob9_ob5 := Nat.ne_of_lt B3.lt
    have B3 := blkT B3 hb8
    have T := Tt T hb8
    refine RL.y rfl (Y.assign (v := .int .i64 0) rfl) ?_
    refine RL.nil ?_
    refine then_n ?_
    refine wp_seq ?_
    refine wp_rl rfl ?_
    refine RL.y rfl (Y.move (v := .pointer (some ⟨ba0, oa0, none⟩)) s0) ?_
    refine RL.y rfl (Y.loadN (cs := [.int .i64 d1.agent, .int .i64 d1.slot]) rfl (by kernel_rfl) (cells2 (eqC (blkCell B3 (i := 0) rfl)) (eqC (blkCell B3 (i := 1) rfl)))) ?_
    obtain ⟨y10, e11, hm⟩ := bnd hm
    refine RL.call rfl (am2 rfl rfl) (by kernel_rfl) ((c_m_spec_l17Walk d0 d1 _ e11 _ _ (ptArg netRd_ok hba0 hSa0 hca0 T)).mono ?_)
    rintro _ w15 ⟨⟨v12, rfl, G13⟩, hb16⟩
    refine ⟨_, rfl, ?_⟩
    have szw15 := hb16.size
    have T0w15 := T.size
    have Zo14_ob5 := ap_ne (Ap.new (OwF.flo G13) (one_hi B3.lt))
    have Zo14_ob9 := ap_ne (Ap.new (OwF.flo G13) (one_hi B7.lt))
    have B3 := blkT B3 hb16
    have B7 := blkT B7 hb16
    have T := Tt T hb16
    replace G13 := OwF.mono G13 T0w15
    refine RL.y rfl (Y.move (v := .tuple #[v12, .agg #[.int .i64 y10.2.1.a, .int .i64 y10.2.1.b], .int .i64 y10.2.2]) rfl) ?_
    refine RL.y rfl (Y.extract (i := 0) rfl rfl) ?_
    refine RL.y rfl (Y.extract (i := 1) rfl rfl) ?_
    refine RL.y rfl (Y.extract (i := 2) rfl rfl) ?_
    refine RL.alloc (z := .agg #[.int .i64 0, .int .i64 0]) rfl (by kernel_rfl) (fun w17 B18 hb19 szw17 => ?_)
    replace B18 : Blk w17 w15.heap.size 81 #[.int .i64 0, .int .i64 0] := B18
    have GB18 : w.heap.size ≤ w15.heap.size := T.size
    have Eob20_ob5 := Nat.ne_of_lt B3.lt
    have Eob20_ob9 := Nat.ne_of_lt B7.lt
    have No14_ob20 := OwF.far G13 (Nat.le_refl _)
    have B3 := blkT B3 hb19
    have B7 := blkT B7 hb19
    have G13 := OwF.below G13 hb19
    have T := Tt T hb19
    refine RL.y rfl (Y.assign (v := v12) rfl) ?_
    refine RL.store (v := .agg #[.int .i64 y10.2.1.a, .int .i64 y10.2.1.b]) (cs' := #[.int .i64 y10.2.1.a, .int .i64 y10.2.1.b]) rfl rfl rfl B18 (by kernel_rfl) (by rfl) (by rfl) (by rfl) (fun w21 B22 ho23 => ?_)
    have szw21 := ho23.size
    have B3 := B3.only_ ho23 (by intro hin; simp at hin; exact Eob20_ob5 hin)
    have B7 := B7.only_ ho23 (by intro hin; simp at hin; exact Eob20_ob9 hin)
    have G13 := OwF.only G13 ho23 No14_ob20
    have T := T.trans (ho23.below (by first | (simp; done) | (simp; omega)))
    refine RL.y rfl (Y.assign (v := .int .i64 y10.2.2) rfl) ?_
    refine RL.nil ?_
    refine then_n ?_
    refine wp_seq ?_
    refine wp_seq ?_
    refine wp_rs rfl ?_
    refine RQ.y rfl (Y.move (v := .int .i64 y10.2.2) rfl) ?_
    refine RQ.y rfl (Y.binI (v := .bool (y10.2.2 != 3)) rfl rfl rfl) ?_
    refine RQ.nil ?_
    refine then_n ?_
    rcases bcases (y10.2.2 != 3) with c24 | c24
    · replace hm := cF c24 hm
      refine cond_f rfl (vb rfl c24) ?_
      refine wp_skip ?_
      refine then_n ?_
      refine wp_seq ?_
      refine wp_rb rfl ?_
      refine RQ.y rfl (Y.move (v := .pointer (some ⟨ba0, oa0, none⟩)) s0) ?_
      refine RQ.y rfl (Y.loadN (cs := [.int .i64 d1.agent, .int .i64 d1.slot]) rfl (by kernel_rfl) (cells2 (beC (blkCell B3 (i := 0) rfl)) (beC (blkCell B3 (i := 1) rfl)))) ?_
      obtain ⟨y25, e26, hm⟩ := bnd hm
      refine RQ.call rfl (am2 rfl rfl) (by kernel_rfl) (v := .agg #[.int .i64 y25.agent, .int .i64 y25.slot]) (bel (K := fun _ => True) fun w' hb' => (c_m_spec_l11Peer d0 d1 _ e26 _ w' (ptArg netRd_ok hba0 hSa0 hca0 (Tt T hb')))) ?_
      refine RQ.y rfl (Y.field (i := 0) (v := .int .i64 y25.agent) rfl (by kernel_rfl)) ?_
      refine RQ.y rfl (Y.assign (v := .int .i64 y25.agent) rfl) ?_
      refine RQ.nil ?_
      intro w27 hb28
      have szw27 := hb28.size
      have B7 := blkT B7 hb28
      have B22 := blkT B22 hb28
      have T := Tt T hb28
      refine then_n ?_
      refine wp_seq ?_
      refine wp_seq ?_
      refine wp_rs rfl ?_
      refine RQ.y rfl (Y.move (v := .pointer (some ⟨ba0, oa0, none⟩)) s0) ?_
      refine RQ.y rfl (Y.nilCheck rfl) ?_
      refine RQ.y rfl (Y.fieldAddr (off := 0) rfl (by kernel_rfl)) ?_
      refine RQ.y rfl (Y.load (v := .slice A1 d0.agents.length c1) rfl (by kernel_rfl) (eqC (cellT T (hca0 0 _ rfl)))) ?_
      refine RQ.y rfl (Y.move (v := .int .i64 y25.agent) rfl) ?_
      obtain ⟨x29, hx32, hm⟩ := bnd hm
      obtain ⟨k30, hk33, hl34, hx32⟩ := getI_some hx32
      obtain ⟨b36, o37, rfl, hbb36⟩ := h1.addr (by omega)
      obtain ⟨cs31, hRcs31, hc35⟩ := h1.el hx32
      have hScs31 := hRcs31
      obtain ⟨A38, n38, c38, A39, n39, c39, rfl, ⟨h38, r38⟩, ⟨h39, r39⟩⟩ := hRcs31
      have e38 := h38.len; subst e38
      have q38 := len_le r38
      have e39 := h39.len; subst e39
      have q39 := len_le r39
      refine RQ.y rfl (Y.indexAddr (m := k30) (sz := 5) rfl rfl hk33 hl34 (by kernel_rfl)) ?_
      refine RQ.y rfl (Y.fieldAddr (off := 0) rfl (by kernel_rfl)) ?_
      refine RQ.y rfl (Y.load (v := .int .i64 x29.kind) rfl (by kernel_rfl) (eqC (cellT T (hc35 0 _ rfl)))) ?_
      refine RQ.y rfl (Y.binI (v := .bool (x29.kind != 9)) rfl rfl rfl) ?_
      refine RQ.nil ?_
      refine then_n ?_
      rcases bcases (x29.kind != 9) with c40 | c40
      · replace hm := cF c40 hm
        refine cond_f rfl (vb rfl c40) ?_
        refine wp_skip ?_
        refine then_n ?_
        refine wp_seq ?_
        refine wp_seq ?_
        refine wp_rs rfl ?_
        refine RQ.y rfl (Y.assign (v := .int .i64 1) rfl) ?_
        refine RQ.nil ?_
        refine then_n ?_
        refine wp_block ?_
        obtain ⟨K1, hK1, hm⟩ : ∃ K, K = m_spec_l17Next_A1 ∧ m_spec_l17Next_L1 d0 self y25 K (((getI d0.agents y25.agent).getD default).ports.length + 1) 1 (⟨0, 0⟩ : DPair) y10.2.1 = some r := ⟨_, rfl, hm⟩
        refine wp_loopX (fun g f w' => ∃ (i46 : Int) (z47 : DPair) (z48 : DPair), f 0 = .pointer (some ⟨ba0, oa0, none⟩) ∧ f 4 = .pointer (some ⟨w2.heap.size, 0, none⟩) ∧ f 7 = .pointer (some ⟨w15.heap.size, 0, none⟩) ∧ f 9 = .int .i64 y25.agent ∧ f 10 = .int .i64 i46 ∧ 0 ≤ i46 ∧ Blk w' w2.heap.size 81 #[.int .i64 z47.a, .int .i64 z47.b] ∧ Blk w' w15.heap.size 81 #[.int .i64 z48.a, .int .i64 z48.b] ∧ Below w.heap.size w w' ∧ m_spec_l17Next_L1 d0 self y25 K1 g i46 z47 z48 = some r) 0 (fun f w' => ∃ (z41 : DPair), f 4 = .pointer (some ⟨w2.heap.size, 0, none⟩) ∧ Blk w' w2.heap.size 81 #[.int .i64 z41.a, .int .i64 z41.b] ∧ Below w.heap.size w w' ∧ m_spec_l17Next_A1 z41 = some r) (((getI d0.agents y25.agent).getD default).ports.length + 1) ⟨1, (⟨0, 0⟩ : DPair), y10.2.1, s0, rfl, rfl, rfl, rfl, (by omega), B7, B22, T, hm⟩ ?_ ?_
        · rintro f w42 ⟨z41, s4_1x, Bz41, T, hm⟩
          unfold m_spec_l17Next_A1 at hm
          refine blk_hit (then_n ?_)
          refine wp_seq ?_
          refine wp_rl rfl ?_
          refine RL.y rfl (Y.build0 (cells := #[.int .i64 0, .int .i64 0])  (by kernel_rfl) (by kernel_rfl)) ?_
          refine RL.store (v := .agg #[.int .i64 0, .int .i64 0]) (cs' := #[.int .i64 0, .int .i64 0]) rfl s4_1x rfl Bz41 (by kernel_rfl) (by rfl) (by rfl) (by rfl) (fun w43 B44 ho45 => ?_)
          have szw43 := ho45.size
          have T := T.trans (ho45.below (by first | (simp; done) | (simp; omega)))
          refine RL.y rfl (Y.assign (v := .int .i64 3) rfl) ?_
          refine RL.nil ?_
          refine then_n ?_
          refine wp_ret ?_
          obtain rfl := Option.some.inj hm
          exact (retct (cs := [.int .i64 0, .int .i64 0]) rfl rfl s4_1x rfl (by kernel_rfl) (blkCells B44) ⟨rfl, T⟩)
        · rintro g f w49 ⟨i46, z47, z48, s0_1, s4_1, s7_1, s9_1, s10_1, nn10_1, Bz47, Bz48, T, hm⟩
          rcases g with _ | g
          · simp only [m_spec_l17Next_L1] at hm; cases hm
          obtain ⟨rec1, hrec1, hm⟩ : ∃ z, z = m_spec_l17Next_L1 d0 self y25 K1 g ∧ m_spec_l17Next_B1 d0 self y25 z K1 i46 z47 z48 = some r := ⟨_, rfl, hm⟩
          unfold m_spec_l17Next_B1 at hm
          refine wp_seq ?_
          refine wp_seq ?_
          refine wp_rs rfl ?_
          refine RQ.y rfl (Y.move (v := .int .i64 i46) s10_1) ?_
          refine RQ.y rfl (Y.move (v := .pointer (some ⟨ba0, oa0, none⟩)) s0_1) ?_
          refine RQ.y rfl (Y.nilCheck rfl) ?_
          refine RQ.y rfl (Y.fieldAddr (off := 0) rfl (by kernel_rfl)) ?_
          refine RQ.y rfl (Y.load (v := .slice (some ⟨b36, o37, none⟩) d0.agents.length c1) rfl (by kernel_rfl) (eqC (cellT T (hca0 0 _ rfl)))) ?_
          refine RQ.y rfl (Y.move (v := .int .i64 y25.agent) s9_1) ?_
          obtain ⟨x50, hx53, hm⟩ := bnd hm
          obtain ⟨k51, hk54, hl55, hx53⟩ := getI_some hx53
          obtain ⟨cs52, hRcs52, hc56⟩ := h1.el hx53
          have hScs52 := hRcs52
          obtain ⟨A57, n57, c57, A58, n58, c58, rfl, ⟨h57, r57⟩, ⟨h58, r58⟩⟩ := hRcs52
          have e57 := h57.len; subst e57
          have q57 := len_le r57
          have e58 := h58.len; subst e58
          have q58 := len_le r58
          refine RQ.y rfl (Y.indexAddr (m := k51) (sz := 5) rfl rfl hk54 hl55 (by kernel_rfl)) ?_
          refine RQ.y rfl (Y.fieldAddr (off := 4) rfl (by kernel_rfl)) ?_
          refine RQ.y rfl (Y.load (v := .slice A58 x50.ports.length c58) rfl (by kernel_rfl) (eqC (cellT T (hc56 4 _ rfl)))) ?_
          refine RQ.y rfl (Y.len (by kernel_rfl) rfl) ?_
          refine RQ.y rfl (Y.binI (v := .bool (decide (i46 < (x50.ports.length : Int)))) rfl rfl rfl) ?_
          refine RQ.nil ?_
          refine then_n ?_
          rcases bcases (decide (i46 < (x50.ports.length : Int))) with c59 | c59
          · replace hm := cF c59 hm
            have pc59 := of_decide_eq_false c59
            refine cond_f rfl (vb rfl c59) ?_
            refine wp_exit ?_
            exact (then_x (then_x (hit_x ⟨_, rfl, ⟨z47, s4_1, Bz47, T, (by rw [hK1] at hm; exact hm)⟩⟩)))
          · replace hm := cT c59 hm
            have pc59 := of_decide_eq_true c59
            refine cond_t rfl (vb rfl c59) ?_
            refine wp_skip ?_
            refine then_n ?_
            refine wp_seq ?_
            refine wp_block ?_
            refine wp_seq ?_
            refine wp_rl rfl ?_
            refine RL.y rfl (Y.move (v := .pointer (some ⟨ba0, oa0, none⟩)) s0_1) ?_
            refine RL.y rfl (Y.move (v := .int .i64 y25.agent) s9_1) ?_
            refine RL.y rfl (Y.move (v := .int .i64 i46) s10_1) ?_
            obtain ⟨y60, e61, hm⟩ := bnd hm
            refine RL.call rfl (am2 rfl rfl) (by kernel_rfl) ((c_m_spec_l13Port y25.agent i46 _ e61  _ ).mono ?_)
            rintro _ w62 ⟨rfl, hb63⟩
            refine ⟨_, rfl, ?_⟩
            have szw62 := hb63.size
            have Bz47 := blkT Bz47 hb63
            have Bz48 := blkT Bz48 hb63
            have T := Tt T hb63
            obtain ⟨y64, e65, hm⟩ := bnd hm
            refine RL.call rfl (am2 rfl rfl) (by kernel_rfl) ((ih d0 y60 _ (by rw [← hself]; exact e65) _ _ (ptArg netRd_ok hba0 hSa0 hca0 T)).mono ?_)
            rintro _ w66 ⟨rfl, hb67⟩
            refine ⟨_, rfl, ?_⟩
            have szw66 := hb67.size
            have Bz47 := blkT Bz47 hb67
            have Bz48 := blkT Bz48 hb67
            have T := Tt T hb67
            refine RL.y rfl (Y.move (v := .tuple #[.agg #[.int .i64 y64.1.a, .int .i64 y64.1.b], .int .i64 y64.2]) rfl) ?_
            refine RL.y rfl (Y.extract (i := 0) rfl rfl) ?_
            refine RL.y rfl (Y.extract (i := 1) rfl rfl) ?_
            refine RL.store (v := .agg #[.int .i64 y64.1.a, .int .i64 y64.1.b]) (cs' := #[.int .i64 y64.1.a, .int .i64 y64.1.b]) rfl s7_1 rfl Bz48 (by kernel_rfl) (by rfl) (by rfl) (by rfl) (fun w68 B69 ho70 => ?_)
            have szw68 := ho70.size
            have Bz47 := Bz47.only_ ho70 (by intro hin; simp at hin; exact Eob20_ob9 hin)
            have T := T.trans (ho70.below (by first | (simp; done) | (simp; omega)))
            refine RL.y rfl (Y.assign (v := .int .i64 y64.2) rfl) ?_
            refine RL.nil ?_
            refine then_n ?_
            refine wp_seq ?_
            refine wp_rs rfl ?_
            refine RQ.y rfl (Y.move (v := .int .i64 y64.2) rfl) ?_
            refine RQ.y rfl (Y.binI (v := .bool (y64.2 != 3)) rfl rfl rfl) ?_
            refine RQ.nil ?_
            refine then_n ?_
            rcases bcases (y64.2 != 3) with c71 | c71
            · replace hm := cF c71 hm
              refine cond_f rfl (vb rfl c71) ?_
              refine wp_skip ?_
              refine blk_n (then_n ?_)
              refine wp_rs rfl ?_
              refine RQ.y rfl (Y.move (v := .int .i64 i46) s10_1) ?_
              refine RQ.y rfl (Y.binI rfl rfl (binI_add (m := i46) (by omega))) ?_
              refine RQ.y rfl (Y.assign (v := .int .i64 (i46 + 1)) rfl) ?_
              refine RQ.nil ?_
              exact (then_n ⟨g, _, Nat.lt_succ_self _, rfl, ⟨(i46 + 1), z47, y64.1, s0_1, s4_1, s7_1, s9_1, rfl, (by omega), Bz47, B69, T, (by rw [← hrec1]; exact hm)⟩⟩)
            · replace hm := cT c71 hm
              refine cond_t rfl (vb rfl c71) ?_
              refine wp_seq ?_
              refine wp_rl rfl ?_
              refine RL.y rfl (Y.loadN (cs := [.int .i64 y64.1.a, .int .i64 y64.1.b]) s7_1 (by kernel_rfl) (cells2 (eqC (blkCell B69 (i := 0) rfl)) (eqC (blkCell B69 (i := 1) rfl)))) ?_
              refine RL.y rfl (Y.move (v := .int .i64 y64.2) rfl) ?_
              refine RL.store (v := .agg #[.int .i64 y64.1.a, .int .i64 y64.1.b]) (cs' := #[.int .i64 y64.1.a, .int .i64 y64.1.b]) rfl s4_1 rfl Bz47 (by kernel_rfl) (by rfl) (by rfl) (by rfl) (fun w72 B73 ho74 => ?_)
              have szw72 := ho74.size
              have B69 := B69.only_ ho74 (by intro hin; simp at hin; exact Eob20_ob9.symm hin)
              have T := T.trans (ho74.below (by first | (simp; done) | (simp; omega)))
              refine RL.y rfl (Y.assign (v := .int .i64 y64.2) rfl) ?_
              refine RL.nil ?_
              refine then_n ?_
              refine wp_ret ?_
              obtain rfl := Option.some.inj hm
              exact (blk_r (then_r (then_r (hit_r (blk_r (then_r (retct (cs := [.int .i64 y64.1.a, .int .i64 y64.1.b]) rfl rfl s4_1 rfl (by kernel_rfl) (blkCells B73) ⟨rfl, T⟩)))))))
      · replace hm := cT c40 hm
        refine cond_t rfl (vb rfl c40) ?_
        refine wp_seq ?_
        refine wp_rl rfl ?_
        refine RL.y rfl (Y.build0 (cells := #[.int .i64 0, .int .i64 0])  (by kernel_rfl) (by kernel_rfl)) ?_
        refine RL.store (v := .agg #[.int .i64 0, .int .i64 0]) (cs' := #[.int .i64 0, .int .i64 0]) rfl rfl rfl B7 (by kernel_rfl) (by rfl) (by rfl) (by rfl) (fun w76 B77 ho78 => ?_)
        have szw76 := ho78.size
        have B22 := B22.only_ ho78 (by intro hin; simp at hin; exact Eob20_ob9.symm hin)
        have T := T.trans (ho78.below (by first | (simp; done) | (simp; omega)))
        refine RL.y rfl (Y.assign (v := .int .i64 3) rfl) ?_
        refine RL.nil ?_
        refine then_n ?_
        refine wp_ret ?_
        obtain rfl := Option.some.inj hm
        exact (then_r (retct (cs := [.int .i64 0, .int .i64 0]) rfl rfl rfl rfl (by kernel_rfl) (blkCells B77) ⟨rfl, T⟩))
    · replace hm := cT c24 hm
      refine cond_t rfl (vb rfl c24) ?_
      refine wp_seq ?_
      refine wp_rl rfl ?_
      refine RL.y rfl (Y.loadN (cs := [.int .i64 y10.2.1.a, .int .i64 y10.2.1.b]) rfl (by kernel_rfl) (cells2 (eqC (blkCell B22 (i := 0) rfl)) (eqC (blkCell B22 (i := 1) rfl)))) ?_
      refine RL.y rfl (Y.move (v := .int .i64 y10.2.2) rfl) ?_
      refine RL.store (v := .agg #[.int .i64 y10.2.1.a, .int .i64 y10.2.1.b]) (cs' := #[.int .i64 y10.2.1.a, .int .i64 y10.2.1.b]) rfl rfl rfl B7 (by kernel_rfl) (by rfl) (by rfl) (by rfl) (fun w79 B80 ho81 => ?_)
      have szw79 := ho81.size
      have B3 := B3.only_ ho81 (by intro hin; simp at hin; exact Eob9_ob5 hin)
      have B22 := B22.only_ ho81 (by intro hin; simp at hin; exact Eob20_ob9.symm hin)
      have T := T.trans (ho81.below (by first | (simp; done) | (simp; omega)))
      refine RL.y rfl (Y.assign (v := .int .i64 y10.2.2) rfl) ?_
      refine RL.nil ?_
      refine then_n ?_
      refine wp_ret ?_
      obtain rfl := Option.some.inj hm
      exact (then_r (retct (cs := [.int .i64 y10.2.1.a, .int .i64 y10.2.1.b]) rfl rfl rfl rfl (by kernel_rfl) (blkCells B80) ⟨rfl, T⟩))
def m_spec_NextNeeded (d0 : DNet) : Option (Int × Int) :=
  ((m_spec_l11Ok d0).bind fun y6 => (bif y6 then ((m_spec_l17Next (d0.agents.length + 2) d0 (⟨0, 0⟩ : DPort)).bind fun y11 => (bif (y11.2 != 0) then some (0, y11.2) else ((m_spec_l17Index d0 y11.1).bind fun y23 => some (y23, 0)))) else some (0, 1)))
set_option maxHeartbeats 2000000 in
theorem c_m_spec_NextNeeded (d0 : DNet) (r : Int × Int) (hm : m_spec_NextNeeded d0 = some r) (v0 : Value) (w : World) (hv0 : St netRd w v0 d0) :
    Calls Try.prog 26 #[v0] w fun e w' => e = .returned (.tuple #[.int .i64 r.1, .int .i64 r.2]) ∧ Below w.heap.size w w' := by
  obtain ⟨csa0, rfl, ⟨A1, n1, c1, rfl, ⟨h1, r1⟩⟩⟩ := hv0
  have e1 := h1.len; subst e1
  have q1 := len_le r1
  have T := Below.refl w.heap.size w
  unfold m_spec_NextNeeded at hm
  refine enter 18 Try.func26 rfl rfl rfl ?_
  intro f hf
  have s0 : f 0 = .agg #[.slice A1 d0.agents.length c1] := hf 0 _ rfl
  refine wp_seq ?_
  refine wp_rl rfl ?_
  refine RL.box rfl s0 (fun w2 B3 hb4 szw2 => ?_)
  replace B3 : Blk w2 w.heap.size 30 #[.slice A1 d0.agents.length c1] := B3
  have GB3 : w.heap.size ≤ w.heap.size := T.size
  have T := Tt T hb4
  refine RL.y rfl (Y.assign (v := .int .i64 0) rfl) ?_
  refine RL.y rfl (Y.assign (v := .int .i64 0) rfl) ?_
  refine RL.nil ?_
  refine then_n ?_
  refine wp_seq ?_
  refine wp_seq ?_
  refine wp_rb rfl ?_
  obtain ⟨y6, e7, hm⟩ := bnd hm
  refine RQ.call rfl (am1 rfl) (by kernel_rfl) (v := .bool y6) (bel (K := fun _ => True) fun w' hb' => (c_m_spec_l11Ok d0 _ e7 _ w' (ptBox (R := netRd) (blkT B3 hb') ⟨_, _, _, rfl, ⟨SlAt.now agentRd_ok h1 (Nat.le_refl _) (Tt T hb'), r1⟩⟩))) ?_
  refine RQ.y rfl (Y.not (b' := (!y6)) rfl rfl) ?_
  refine RQ.nil ?_
  intro w8 hb9
  have szw8 := hb9.size
  have B3 := blkT B3 hb9
  have T := Tt T hb9
  refine then_n ?_
  rcases bcases y6 with c10 | c10
  · replace hm := cF c10 hm
    refine cond_t rfl (vbn rfl c10 rfl) ?_
    refine wp_seq ?_
    refine wp_rs rfl ?_
    refine RQ.y rfl (Y.assign (v := .int .i64 0) rfl) ?_
    refine RQ.y rfl (Y.assign (v := .int .i64 1) rfl) ?_
    refine RQ.nil ?_
    refine then_n ?_
    refine wp_ret ?_
    obtain rfl := Option.some.inj hm
    exact (then_r (ret2 rfl rfl rfl rfl ⟨rfl, T⟩))
  · replace hm := cT c10 hm
    refine cond_f rfl (vbn rfl c10 rfl) ?_
    refine wp_skip ?_
    refine then_n ?_
    refine wp_seq ?_
    refine wp_rl rfl ?_
    refine RL.y rfl (Y.build0 (cells := #[.int .i64 0, .int .i64 0])  (by kernel_rfl) (by kernel_rfl)) ?_
    obtain ⟨y11, e12, hm⟩ := bnd hm
    refine RL.call rfl (am2 rfl rfl) (by kernel_rfl) ((c_m_spec_l17Next (d0.agents.length + 2) d0 (⟨0, 0⟩ : DPort) _ e12 _ _ (ptBox (R := netRd) B3 ⟨_, _, _, rfl, ⟨SlAt.now agentRd_ok h1 (Nat.le_refl _) T, r1⟩⟩)).mono ?_)
    rintro _ w13 ⟨rfl, hb14⟩
    refine ⟨_, rfl, ?_⟩
    have szw13 := hb14.size
    have B3 := blkT B3 hb14
    have T := Tt T hb14
    refine RL.y rfl (Y.move (v := .tuple #[.agg #[.int .i64 y11.1.a, .int .i64 y11.1.b], .int .i64 y11.2]) rfl) ?_
    refine RL.y rfl (Y.extract (i := 0) rfl rfl) ?_
    refine RL.y rfl (Y.extract (i := 1) rfl rfl) ?_
    refine RL.alloc (z := .agg #[.int .i64 0, .int .i64 0]) rfl (by kernel_rfl) (fun w15 B16 hb17 szw15 => ?_)
    replace B16 : Blk w15 w13.heap.size 81 #[.int .i64 0, .int .i64 0] := B16
    have GB16 : w.heap.size ≤ w13.heap.size := T.size
    have Eob18_ob5 := Nat.ne_of_lt B3.lt
    have B3 := blkT B3 hb17
    have T := Tt T hb17
    refine RL.store (v := .agg #[.int .i64 y11.1.a, .int .i64 y11.1.b]) (cs' := #[.int .i64 y11.1.a, .int .i64 y11.1.b]) rfl rfl rfl B16 (by kernel_rfl) (by rfl) (by rfl) (by rfl) (fun w19 B20 ho21 => ?_)
    have szw19 := ho21.size
    have B3 := B3.only_ ho21 (by intro hin; simp at hin; exact Eob18_ob5 hin)
    have T := T.trans (ho21.below (by first | (simp; done) | (simp; omega)))
    refine RL.y rfl (Y.assign (v := .int .i64 y11.2) rfl) ?_
    refine RL.nil ?_
    refine then_n ?_
    refine wp_seq ?_
    refine wp_seq ?_
    refine wp_rs rfl ?_
    refine RQ.y rfl (Y.move (v := .int .i64 y11.2) rfl) ?_
    refine RQ.y rfl (Y.binI (v := .bool (y11.2 != 0)) rfl rfl rfl) ?_
    refine RQ.nil ?_
    refine then_n ?_
    rcases bcases (y11.2 != 0) with c22 | c22
    · replace hm := cF c22 hm
      refine cond_f rfl (vb rfl c22) ?_
      refine wp_skip ?_
      refine then_n ?_
      refine wp_seq ?_
      refine wp_rb rfl ?_
      refine RQ.y rfl (Y.loadN (cs := [.int .i64 y11.1.a, .int .i64 y11.1.b]) rfl (by kernel_rfl) (cells2 (beC (blkCell B20 (i := 0) rfl)) (beC (blkCell B20 (i := 1) rfl)))) ?_
      obtain ⟨y23, e24, hm⟩ := bnd hm
      refine RQ.call rfl (am2 rfl rfl) (by kernel_rfl) (v := .int .i64 y23) (bel (K := fun _ => True) fun w' hb' => (c_m_spec_l17Index d0 y11.1 _ e24 _ w' (ptBox (R := netRd) (blkT B3 hb') ⟨_, _, _, rfl, ⟨SlAt.now agentRd_ok h1 (Nat.le_refl _) (Tt T hb'), r1⟩⟩))) ?_
      refine RQ.y rfl (Y.assign (v := .int .i64 y23) rfl) ?_
      refine RQ.y rfl (Y.assign (v := .int .i64 0) rfl) ?_
      refine RQ.nil ?_
      intro w25 hb26
      have szw25 := hb26.size
      have T := Tt T hb26
      refine then_n ?_
      refine wp_ret ?_
      obtain rfl := Option.some.inj hm
      exact (ret2 rfl rfl rfl rfl ⟨rfl, T⟩)
    · replace hm := cT c22 hm
      refine cond_t rfl (vb rfl c22) ?_
      refine wp_seq ?_
      refine wp_rs rfl ?_
      refine RQ.y rfl (Y.move (v := .int .i64 y11.2) rfl) ?_
      refine RQ.y rfl (Y.assign (v := .int .i64 0) rfl) ?_
      refine RQ.y rfl (Y.assign (v := .int .i64 y11.2) rfl) ?_
      refine RQ.nil ?_
      refine then_n ?_
      refine wp_ret ?_
      obtain rfl := Option.some.inj hm
      exact (then_r (ret2 rfl rfl rfl rfl ⟨rfl, T⟩))
end
section
open Go.RowKit
set_option linter.unusedVariables false
set_option linter.unusedSimpArgs false
set_option maxRecDepth 100000
section
variable {w0 w1 w2 : World} {row : Option Nat} {g : Nat}
theorem gr_step (h : w0.grownBy w1 row) (hb : Below w1.heap.size w1 w2) : w0.grownBy w2 row :=
  ⟨hb.os.trans h.os, hb.tape.trans h.tape, hb.output.trans h.output, Nat.le_trans h.size hb.size, fun k hk hne => (hb.block k (Nat.lt_of_lt_of_le hk h.size)).trans (h.block k hk hne)⟩
theorem gr_only (h : w0.grownBy w1 row) (ho : Only [g] w1 w2) (hg : w0.heap.size ≤ g) : w0.grownBy w2 row :=
  ⟨ho.os.trans h.os, ho.tape.trans h.tape, ho.output.trans h.output, Nat.le_trans h.size (Nat.le_of_eq ho.size.symm), fun k hk hne => (ho.block k (by intro hin; simp at hin; omega)).trans (h.block k hk hne)⟩
theorem gr_row (h : w0.grownBy w1 (some g)) (ho : Only [g] w1 w2) : w0.grownBy w2 (some g) :=
  ⟨ho.os.trans h.os, ho.tape.trans h.tape, ho.output.trans h.output, Nat.le_trans h.size (Nat.le_of_eq ho.size.symm), fun k hk hne => (ho.block k (by intro hin; simp at hin; exact hne (by rw [hin]))).trans (h.block k hk hne)⟩
theorem gr_trans (h : w0.grownBy w1 row) (h2 : w1.grownBy w2 row) : w0.grownBy w2 row :=
  ⟨h2.os.trans h.os, h2.tape.trans h.tape, h2.output.trans h.output, Nat.le_trans h.size h2.size, fun k hk hne => (h2.block k (Nat.lt_of_lt_of_le hk h.size) hne).trans (h.block k hk hne)⟩
end
theorem c_unk1 (d0 : DNet) (d1 : DPort) (dep : Int) (b : Bool) (hm : m_impl_Net_isKnown d0 d1 = some b) (v0 : Value) (w w0 : World) (gb gn : Nat) (at0 : DPort) (T : Below w.heap.size w w0) (hv0 : Pt netRd w v0 d0) (hgb : w.heap.size ≤ gb)
    (Bb : Blk w0 gb 53 #[.int .i64 at0.agent, .int .i64 at0.slot]) (Bn : Blk w0 gn 84 #[v0]) (hne : gn ≠ gb) :
    Calls Try.prog 126 #[.agg #[.int .i64 d1.agent, .int .i64 d1.slot], .int .i64 dep, .pointer (some ⟨gb, 0, none⟩), .pointer (some ⟨gn, 0, none⟩)] w0 fun e w' => e = .returned (.bool b) ∧ Blk w' gb 53 #[.int .i64 d1.agent, .int .i64 d1.slot] ∧ w0.grownBy w' (some gb) := by
  have Gr : w0.grownBy w0 (some gb) := World.grownBy.refl _ _
  refine enter 11 Try.func126 rfl rfl rfl ?_
  intro f hf
  have s0 : f 0 = .agg #[.int .i64 d1.agent, .int .i64 d1.slot] := hf 0 _ rfl
  have s2 : f 2 = .pointer (some ⟨gb, 0, none⟩) := hf 2 _ rfl
  have s3 : f 3 = .pointer (some ⟨gn, 0, none⟩) := hf 3 _ rfl
  have Eb := Nat.ne_of_lt Bb.lt
  refine wp_seq ?_
  refine wp_rl rfl ?_
  refine RL.box rfl s0 (fun w2 B4 hb5 szw2 => ?_)
  replace B4 : Blk w2 w0.heap.size 53 #[.int .i64 d1.agent, .int .i64 d1.slot] := B4
  have T := Tt T hb5
  have Gr := gr_step Gr hb5
  have Bb := blkT Bb hb5
  have Bn := blkT Bn hb5
  refine RL.y rfl (Y.assign (v := .bool false) rfl) ?_
  refine RL.nil ?_
  refine then_n ?_
  refine wp_seq ?_
  refine wp_rl rfl ?_
  refine RL.y rfl (Y.loadN (cs := [.int .i64 d1.agent, .int .i64 d1.slot]) rfl (by kernel_rfl) (cells2 (eqC (blkCell B4 (i := 0) rfl)) (eqC (blkCell B4 (i := 1) rfl)))) ?_
  refine RL.store (v := .agg #[.int .i64 d1.agent, .int .i64 d1.slot]) (cs' := #[.int .i64 d1.agent, .int .i64 d1.slot]) rfl s2 rfl Bb (by kernel_rfl) (by rfl) (by rfl) (by rfl) (fun w3 Bb3 ho6 => ?_)
  have B4 := B4.only_ ho6 (by intro hin; simp at hin; exact Eb hin.symm)
  have Bn := Bn.only_ ho6 (by intro hin; simp at hin; exact hne hin)
  have T := T.trans (ho6.below (by intro b hb; simp at hb; subst hb; exact hgb))
  have Gr := gr_row Gr ho6
  refine RL.nil ?_
  refine then_n ?_
  refine wp_seq ?_
  refine wp_rb rfl ?_
  refine RQ.y rfl (Y.load (v := v0) s3 (by kernel_rfl) (beC (blkCell Bn (i := 0) rfl))) ?_
  refine RQ.y rfl (Y.loadN (cs := [.int .i64 d1.agent, .int .i64 d1.slot]) rfl (by kernel_rfl) (cells2 (beC (blkCell B4 (i := 0) rfl)) (beC (blkCell B4 (i := 1) rfl)))) ?_
  refine RQ.call rfl (am2 rfl rfl) (by kernel_rfl) (v := .bool b) (bel (K := fun _ => True) fun w' hb' => (c_m_impl_Net_isKnown d0 d1 _ hm _ w' (Pt.at_ netRd_ok hv0 (Tt T hb')))) ?_
  refine RQ.y rfl (Y.assign (v := .bool b) rfl) ?_
  refine RQ.nil ?_
  intro w7 hb8
  refine then_n ?_
  refine wp_ret ?_
  exact ret1 rfl rfl rfl ⟨rfl, blkT Bb3 hb8, gr_step Gr hb8⟩
def dem_A1 (z : DPort) : Option (Bool × DPort) := some (true, z)
def dem_B1 (d0 : DNet) (d2 : Int) (self : DNet → DPort → Int → Option (Bool × DPort)) (y11 : DPort) (rec1 : Int → DPort → Option (Bool × DPort)) (K1 : DPort → Option (Bool × DPort)) (i : Int) (z : DPort) : Option (Bool × DPort) :=
  ((getI d0.agents y11.agent).bind fun x44 => (bif (decide (i < (x44.ports.length : Int))) then ((ck (d2 + 1)).bind fun s56 => ((self d0 (⟨y11.agent, i⟩ : DPort) s56).bind fun y57 => (bif y57.1 then (rec1 (i + 1) y57.2) else some (false, y57.2)))) else (K1 z)))
def dem_L1 (d0 : DNet) (d2 : Int) (self : DNet → DPort → Int → Option (Bool × DPort)) (y11 : DPort) (K1 : DPort → Option (Bool × DPort)) : Nat → Int → DPort → Option (Bool × DPort)
  | 0, _, _ => none
  | g + 1, i, z => dem_B1 d0 d2 self y11 (dem_L1 d0 d2 self y11 K1 g) K1 i z
def dem_R (self : DNet → DPort → Int → Option (Bool × DPort)) (d0 : DNet) (d1 : DPort) (d2 : Int) : Option (Bool × DPort) :=
  ((m_impl_Net_isKnown d0 d1).bind fun y6 => (bif y6 then ((m_impl_Net_peer d0 d1).bind fun y11 => ((m_impl_Net_isKnown d0 d1).bind fun y22 => (bif y22 then ((getI d0.agents y11.agent).bind fun x27 => (bif (x27.kind != 9) then some (true, d1) else (dem_L1 d0 d2 self y11 dem_A1 6 1 d1))) else some (true, d1)))) else some (false, d1)))
def dem : Nat → DNet → DPort → Int → Option (Bool × DPort)
  | 0, _, _, _ => none
  | gas + 1, d0, d1, d2 => dem_R (dem gas) d0 d1 d2
set_option maxHeartbeats 2000000 in
theorem c_dem : ∀ (gas : Nat) (d0 : DNet) (d1 : DPort) (d2 : Int) (r : Bool × DPort) (hm : dem gas d0 d1 d2 = some r) (v0 : Value) (w w0 : World) (gb gn : Nat) (at0 : DPort) (T : Below w.heap.size w w0) (hv0 : Pt netRd w v0 d0) (hgb : w.heap.size ≤ gb)
    (Bb : Blk w0 gb 53 #[.int .i64 at0.agent, .int .i64 at0.slot]) (Bn : Blk w0 gn 84 #[v0]) (hne : gn ≠ gb),
    Calls Try.prog 125 #[v0, .agg #[.int .i64 d1.agent, .int .i64 d1.slot], .int .i64 d2, .func (.func 126) #[] #[.pointer (some ⟨gb, 0, none⟩), .pointer (some ⟨gn, 0, none⟩)]] w0 fun e w' => e = .returned (.bool r.1) ∧ Blk w' gb 53 #[.int .i64 r.2.agent, .int .i64 r.2.slot] ∧ w0.grownBy w' (some gb) := by
  intro gas
  induction gas with
  | zero =>
    intro d0 d1 d2 r hm v0 w w0 gb gn at0 T hv0 hgb Bb Bn hne
    cases hm
  | succ gas ih =>
    intro d0 d1 d2 r hm v0 w w0 gb gn at0 T hv0 hgb Bb Bn hne
    obtain ⟨ba0, oa0, csa0, rfl, hba0, hRa0, hca0⟩ := hv0
    have hSa0 := hRa0
    obtain ⟨A1, n1, c1, rfl, ⟨h1, r1⟩⟩ := hRa0
    have e1 := h1.len; subst e1
    have q1 := len_le r1
    have Gr : w0.grownBy w0 (some gb) := World.grownBy.refl _ _
    obtain ⟨self, hself, hm⟩ : ∃ s, s = dem gas ∧ dem_R s d0 d1 d2 = some r := ⟨_, rfl, hm⟩
    unfold dem_R at hm
    refine enter 59 Try.func125 rfl rfl rfl ?_
    intro f hf
    have s0 : f 0 = .pointer (some ⟨ba0, oa0, none⟩) := hf 0 _ rfl
    have s1 : f 1 = .agg #[.int .i64 d1.agent, .int .i64 d1.slot] := hf 1 _ rfl
    have s2 : f 2 = .int .i64 d2 := hf 2 _ rfl
    have s3 : f 3 = .func (.func 126) #[] #[.pointer (some ⟨gb, 0, none⟩), .pointer (some ⟨gn, 0, none⟩)] := hf 3 _ rfl
    have Eb3 := Nat.ne_of_lt Bb.lt
    refine wp_seq ?_
    refine wp_rl rfl ?_
    refine RL.box rfl s1 (fun w2 B3 hb4 szw2 => ?_)
    replace B3 : Blk w2 w0.heap.size 53 #[.int .i64 d1.agent, .int .i64 d1.slot] := B3
    have GB3 : w.heap.size ≤ w0.heap.size := T.size
    have GW3 : w0.heap.size ≤ w0.heap.size := Nat.le_refl _
    have T := Tt T hb4
    have Gr := gr_step Gr hb4
    have Bb := blkT Bb hb4
    have Bn := blkT Bn hb4
    refine RL.y rfl (Y.assign (v := .bool false) rfl) ?_
    refine RL.nil ?_
    refine then_n ?_
    refine wp_seq ?_
    refine wp_seq ?_
    refine wp_rl rfl ?_
    refine RL.y rfl (Y.move (v := .func (.func 126) #[] #[.pointer (some ⟨gb, 0, none⟩), .pointer (some ⟨gn, 0, none⟩)]) s3) ?_
    refine RL.y rfl (Y.loadN (cs := [.int .i64 d1.agent, .int .i64 d1.slot]) rfl (by kernel_rfl) (cells2 (eqC (blkCell B3 (i := 0) rfl)) (eqC (blkCell B3 (i := 1) rfl)))) ?_
    refine RL.y rfl (Y.move (v := .int .i64 d2) s2) ?_
    obtain ⟨y6, e7, hm⟩ := bnd hm
    refine RL.callV rfl rfl (am2 rfl rfl) (by kernel_rfl) ((c_unk1 d0 d1 d2 y6 e7 _ w _ gb gn _ T (Pt.at_ netRd_ok ⟨ba0, oa0, _, rfl, hba0, hSa0, hca0⟩ (Below.refl _ _)) hgb Bb Bn hne).mono ?_)
    rintro _ w8 ⟨rfl, Bb8, hg9⟩
    refine ⟨_, rfl, ?_⟩
    have szw8 := hg9.size
    have B3 := (hg9.block _ B3.lt (by intro e; injection e with e; exact Eb3 e.symm)).trans B3
    have Bn := (hg9.block _ Bn.lt (by intro e; injection e with e; exact hne e)).trans Bn
    have T := T.grown hg9 T.size (by intro b hb; injection hb with hb; subst hb; exact hgb)
    have Gr := gr_trans Gr hg9
    have Bb := Bb8
    refine RL.y rfl (Y.not (b' := (!y6)) rfl rfl) ?_
    refine RL.nil ?_
    refine then_n ?_
    rcases bcases y6 with c10 | c10
    · replace hm := cF c10 hm
      refine cond_t rfl (vbn rfl c10 rfl) ?_
      refine wp_seq ?_
      refine wp_rs rfl ?_
      refine RQ.y rfl (Y.assign (v := .bool false) rfl) ?_
      refine RQ.nil ?_
      refine then_n ?_
      refine wp_ret ?_
      obtain rfl := Option.some.inj hm
      exact (then_r (ret1 rfl rfl rfl ⟨rfl, Bb, Gr⟩))
    · replace hm := cT c10 hm
      refine cond_f rfl (vbn rfl c10 rfl) ?_
      refine wp_skip ?_
      refine then_n ?_
      refine wp_seq ?_
      refine wp_rl rfl ?_
      refine RL.y rfl (Y.move (v := .pointer (some ⟨ba0, oa0, none⟩)) s0) ?_
      refine RL.y rfl (Y.loadN (cs := [.int .i64 d1.agent, .int .i64 d1.slot]) rfl (by kernel_rfl) (cells2 (eqC (blkCell B3 (i := 0) rfl)) (eqC (blkCell B3 (i := 1) rfl)))) ?_
      obtain ⟨y11, e12, hm⟩ := bnd hm
      refine RL.call rfl (am2 rfl rfl) (by kernel_rfl) ((c_m_impl_Net_peer d0 d1 _ e12 _ _ (ptArg netRd_ok hba0 hSa0 hca0 T)).mono ?_)
      rintro _ w13 ⟨rfl, hb14⟩
      refine ⟨_, rfl, ?_⟩
      have szw13 := hb14.size
      have B3 := blkT B3 hb14
      have T := Tt T hb14
      have Gr := gr_step Gr hb14
      have Bb := blkT Bb hb14
      have Bn := blkT Bn hb14
      have GW16 : w0.heap.size ≤ w13.heap.size := Gr.size
      have Eb16 := Nat.ne_of_lt Bb.lt
      have En16 := Nat.ne_of_lt Bn.lt
      refine RL.alloc (z := .agg #[.int .i64 0, .int .i64 0]) rfl (by kernel_rfl) (fun w15 B16 hb17 szw15 => ?_)
      replace B16 : Blk w15 w13.heap.size 53 #[.int .i64 0, .int .i64 0] := B16
      have GB16 : w.heap.size ≤ w13.heap.size := T.size
      have Eob18_ob5 := Nat.ne_of_lt B3.lt
      have B3 := blkT B3 hb17
      have T := Tt T hb17
      have Gr := gr_step Gr hb17
      have Bb := blkT Bb hb17
      have Bn := blkT Bn hb17
      refine RL.store (v := .agg #[.int .i64 y11.agent, .int .i64 y11.slot]) (cs' := #[.int .i64 y11.agent, .int .i64 y11.slot]) rfl rfl rfl B16 (by kernel_rfl) (by rfl) (by rfl) (by rfl) (fun w19 B20 ho21 => ?_)
      have szw19 := ho21.size
      have B3 := B3.only_ ho21 (by intro hin; simp at hin; exact Eob18_ob5 hin)
      have T := T.trans (ho21.below (by first | (simp; done) | (simp; omega)))
      have Gr := gr_only Gr ho21 GW16
      have Bb := Bb.only_ ho21 (by intro hin; simp at hin; exact Eb16 hin)
      have Bn := Bn.only_ ho21 (by intro hin; simp at hin; exact En16 hin)
      refine RL.nil ?_
      refine then_n ?_
      refine wp_seq ?_
      refine wp_seq ?_
      refine wp_rbd (by kernel_rfl) (by kernel_rfl) ?_
      refine RQ.y rfl (Y.move (v := .pointer (some ⟨ba0, oa0, none⟩)) s0) ?_
      refine RQ.y rfl (Y.loadN (cs := [.int .i64 d1.agent, .int .i64 d1.slot]) rfl (by kernel_rfl) (cells2 (beC (blkCell B3 (i := 0) rfl)) (beC (blkCell B3 (i := 1) rfl)))) ?_
      obtain ⟨y22, e23, hm⟩ := bnd hm
      refine RQ.call rfl (am2 rfl rfl) (by kernel_rfl) (v := .bool y22) (bel (K := fun _ => True) fun w' hb' => (c_m_impl_Net_isKnown d0 d1 _ e23 _ w' (ptArg netRd_ok hba0 hSa0 hca0 (Tt T hb')))) ?_
      refine RQ.y rfl (Y.not (b' := (!y22)) rfl rfl) ?_
      refine RQ.y rfl (Y.move (v := .bool (!y22)) rfl) ?_
      rcases bcases y22 with c24 | c24
      · replace hm := cF c24 hm
        refine RQ.skip (wantN (dj := 23) rfl (vbn rfl c24 rfl) rfl) ?_
        refine RQ.skip (wantN (dj := 23) rfl (vbn rfl c24 rfl) rfl) ?_
        refine RQ.skip (wantN (dj := 23) rfl (vbn rfl c24 rfl) rfl) ?_
        refine RQ.skip (wantN (dj := 23) rfl (vbn rfl c24 rfl) rfl) ?_
        refine RQ.skip (wantN (dj := 23) rfl (vbn rfl c24 rfl) rfl) ?_
        refine RQ.skip (wantN (dj := 23) rfl (vbn rfl c24 rfl) rfl) ?_
        refine RQ.skip (wantN (dj := 23) rfl (vbn rfl c24 rfl) rfl) ?_
        refine RQ.skip (wantN (dj := 23) rfl (vbn rfl c24 rfl) rfl) ?_
        refine RQ.skip (wantN (dj := 23) rfl (vbn rfl c24 rfl) rfl) ?_
        refine RQ.skip (wantN (dj := 23) rfl (vbn rfl c24 rfl) rfl) ?_
        refine RQ.y rfl (Y.pick (b := true) (v := .bool true) (vbn rfl c24 rfl) rfl) ?_
        refine RQ.nil ?_
        intro w25 hb26
        have szw25 := hb26.size
        have B20 := blkT B20 hb26
        have T := Tt T hb26
        have Gr := gr_step Gr hb26
        have Bb := blkT Bb hb26
        have Bn := blkT Bn hb26
        refine then_n ?_
        refine cond_t rfl rfl ?_
        refine wp_seq ?_
        refine wp_rs rfl ?_
        refine RQ.y rfl (Y.assign (v := .bool true) rfl) ?_
        refine RQ.nil ?_
        refine then_n ?_
        refine wp_ret ?_
        obtain rfl := Option.some.inj hm
        exact (then_r (ret1 rfl rfl rfl ⟨rfl, Bb, Gr⟩))
      · replace hm := cT c24 hm
        refine RQ.y (wantT (dj := 23) rfl (vbn rfl c24 rfl)) (Y.move (v := .pointer (some ⟨ba0, oa0, none⟩)) s0) ?_
        refine RQ.y (wantT (dj := 23) rfl (vbn rfl c24 rfl)) (Y.nilCheck rfl) ?_
        refine RQ.y (wantT (dj := 23) rfl (vbn rfl c24 rfl)) (Y.fieldAddr (off := 0) rfl (by kernel_rfl)) ?_
        refine RQ.y (wantT (dj := 23) rfl (vbn rfl c24 rfl)) (Y.load (v := .slice A1 d0.agents.length c1) rfl (by kernel_rfl) (beC (cellT T (hca0 0 _ rfl)))) ?_
        refine RQ.y (wantT (dj := 23) rfl (vbn rfl c24 rfl)) (Y.fieldAddr (off := 0) rfl (by kernel_rfl)) ?_
        refine RQ.y (wantT (dj := 23) rfl (vbn rfl c24 rfl)) (Y.load (v := .int .i64 y11.agent) rfl (by kernel_rfl) (beC (blkCell B20 (i := 0) rfl))) ?_
        obtain ⟨x27, hx30, hm⟩ := bnd hm
        obtain ⟨k28, hk31, hl32, hx30⟩ := getI_some hx30
        obtain ⟨b34, o35, rfl, hbb34⟩ := h1.addr (by omega)
        obtain ⟨cs29, hRcs29, hc33⟩ := h1.el hx30
        have hScs29 := hRcs29
        obtain ⟨A36, n36, c36, A37, n37, c37, rfl, ⟨h36, r36⟩, ⟨h37, r37⟩⟩ := hRcs29
        have e36 := h36.len; subst e36
        have q36 := len_le r36
        have e37 := h37.len; subst e37
        have q37 := len_le r37
        refine RQ.y (wantT (dj := 23) rfl (vbn rfl c24 rfl)) (Y.indexAddr (m := k28) (sz := 5) rfl rfl hk31 hl32 (by kernel_rfl)) ?_
        refine RQ.y (wantT (dj := 23) rfl (vbn rfl c24 rfl)) (Y.fieldAddr (off := 0) rfl (by kernel_rfl)) ?_
        refine RQ.y (wantT (dj := 23) rfl (vbn rfl c24 rfl)) (Y.load (v := .int .i64 x27.kind) rfl (by kernel_rfl) (beC (cellT T (hc33 0 _ rfl)))) ?_
        refine RQ.y (wantT (dj := 23) rfl (vbn rfl c24 rfl)) (Y.binI (v := .bool (x27.kind != 9)) rfl rfl rfl) ?_
        refine RQ.y rfl (Y.pick (b := false) (v := .bool (x27.kind != 9)) (vbn rfl c24 rfl) rfl) ?_
        refine RQ.nil ?_
        intro w38 hb39
        have szw38 := hb39.size
        have B20 := blkT B20 hb39
        have T := Tt T hb39
        have Gr := gr_step Gr hb39
        have Bb := blkT Bb hb39
        have Bn := blkT Bn hb39
        refine then_n ?_
        rcases bcases (x27.kind != 9) with c40 | c40
        · replace hm := cF c40 hm
          refine cond_f rfl (vb rfl c40) ?_
          refine wp_skip ?_
          refine then_n ?_
          refine wp_seq ?_
          refine wp_seq ?_
          refine wp_rs rfl ?_
          refine RQ.y rfl (Y.assign (v := .int .i64 1) rfl) ?_
          refine RQ.nil ?_
          refine then_n ?_
          refine wp_block ?_
          obtain ⟨K1, hK1, hm⟩ : ∃ K, K = dem_A1 ∧ dem_L1 d0 d2 self y11 K 6 1 d1 = some r := ⟨_, rfl, hm⟩
          refine wp_loopX (fun g f w' => ∃ (i42 : Int) (z42 : DPort), f 0 = .pointer (some ⟨ba0, oa0, none⟩) ∧ f 2 = .int .i64 d2 ∧ f 3 = .func (.func 126) #[] #[.pointer (some ⟨gb, 0, none⟩), .pointer (some ⟨gn, 0, none⟩)] ∧ f 9 = .pointer (some ⟨w13.heap.size, 0, none⟩) ∧ f 10 = .int .i64 i42 ∧ 0 ≤ i42 ∧ Blk w' w13.heap.size 53 #[.int .i64 y11.agent, .int .i64 y11.slot] ∧ Below w.heap.size w w' ∧ w0.grownBy w' (some gb) ∧ Blk w' gb 53 #[.int .i64 z42.agent, .int .i64 z42.slot] ∧ Blk w' gn 84 #[.pointer (some ⟨ba0, oa0, none⟩)] ∧ dem_L1 d0 d2 self y11 K1 g i42 z42 = some r) 0 (fun f w' => ∃ (z42 : DPort), Blk w' w13.heap.size 53 #[.int .i64 y11.agent, .int .i64 y11.slot] ∧ Below w.heap.size w w' ∧ w0.grownBy w' (some gb) ∧ Blk w' gb 53 #[.int .i64 z42.agent, .int .i64 z42.slot] ∧ Blk w' gn 84 #[.pointer (some ⟨ba0, oa0, none⟩)] ∧ dem_A1 z42 = some r) (6) ⟨1, d1, s0, s2, s3, rfl, rfl, (by omega), B20, T, Gr, Bb, Bn, hm⟩ ?_ ?_
          · rintro f w41 ⟨z42, B20, T, Gr, Bb, Bn, hm⟩
            unfold dem_A1 at hm
            refine blk_hit (then_n ?_)
            refine wp_seq ?_
            refine wp_rs rfl ?_
            refine RQ.y rfl (Y.assign (v := .bool true) rfl) ?_
            refine RQ.nil ?_
            refine then_n ?_
            refine wp_ret ?_
            obtain rfl := Option.some.inj hm
            exact (ret1 rfl rfl rfl ⟨rfl, Bb, Gr⟩)
          · rintro g f w43 ⟨i42, z42, s0_1, s2_1, s3_1, s9_1, s10_1, nn10_1, B20, T, Gr, Bb, Bn, hm⟩
            rcases g with _ | g
            · simp only [dem_L1] at hm; cases hm
            obtain ⟨rec1, hrec1, hm⟩ : ∃ z, z = dem_L1 d0 d2 self y11 K1 g ∧ dem_B1 d0 d2 self y11 z K1 i42 z42 = some r := ⟨_, rfl, hm⟩
            unfold dem_B1 at hm
            refine wp_seq ?_
            refine wp_seq ?_
            refine wp_rbd (by kernel_rfl) (by kernel_rfl) ?_
            refine RQ.y rfl (Y.move (v := .int .i64 i42) s10_1) ?_
            refine RQ.y rfl (Y.move (v := .pointer (some ⟨ba0, oa0, none⟩)) s0_1) ?_
            refine RQ.y rfl (Y.nilCheck rfl) ?_
            refine RQ.y rfl (Y.fieldAddr (off := 0) rfl (by kernel_rfl)) ?_
            refine RQ.y rfl (Y.load (v := .slice (some ⟨b34, o35, none⟩) d0.agents.length c1) rfl (by kernel_rfl) (beC (cellT T (hca0 0 _ rfl)))) ?_
            refine RQ.y rfl (Y.fieldAddr (off := 0) s9_1 (by kernel_rfl)) ?_
            refine RQ.y rfl (Y.load (v := .int .i64 y11.agent) rfl (by kernel_rfl) (beC (blkCell B20 (i := 0) rfl))) ?_
            obtain ⟨x44, hx47, hm⟩ := bnd hm
            obtain ⟨k45, hk48, hl49, hx47⟩ := getI_some hx47
            obtain ⟨cs46, hRcs46, hc50⟩ := h1.el hx47
            have hScs46 := hRcs46
            obtain ⟨A51, n51, c51, A52, n52, c52, rfl, ⟨h51, r51⟩, ⟨h52, r52⟩⟩ := hRcs46
            have e51 := h51.len; subst e51
            have q51 := len_le r51
            have e52 := h52.len; subst e52
            have q52 := len_le r52
            refine RQ.y rfl (Y.indexAddr (m := k45) (sz := 5) rfl rfl hk48 hl49 (by kernel_rfl)) ?_
            refine RQ.y rfl (Y.fieldAddr (off := 4) rfl (by kernel_rfl)) ?_
            refine RQ.y rfl (Y.load (v := .slice A52 x44.ports.length c52) rfl (by kernel_rfl) (beC (cellT T (hc50 4 _ rfl)))) ?_
            refine RQ.y rfl (Y.len (by kernel_rfl) rfl) ?_
            refine RQ.y rfl (Y.binI (v := .bool (decide (i42 < (x44.ports.length : Int)))) rfl rfl rfl) ?_
            refine RQ.nil ?_
            intro w53 hb54
            have szw53 := hb54.size
            have B20 := blkT B20 hb54
            have T := Tt T hb54
            have Gr := gr_step Gr hb54
            have Bb := blkT Bb hb54
            have Bn := blkT Bn hb54
            refine then_n ?_
            rcases bcases (decide (i42 < (x44.ports.length : Int))) with c55 | c55
            · replace hm := cF c55 hm
              have pc55 := of_decide_eq_false c55
              refine cond_f rfl (vb rfl c55) ?_
              refine wp_exit ?_
              exact (then_x (then_x (hit_x ⟨_, rfl, ⟨z42, B20, T, Gr, Bb, Bn, (by rw [hK1] at hm; exact hm)⟩⟩)))
            · replace hm := cT c55 hm
              have pc55 := of_decide_eq_true c55
              refine cond_t rfl (vb rfl c55) ?_
              refine wp_skip ?_
              refine then_n ?_
              refine wp_seq ?_
              refine wp_block ?_
              refine wp_seq ?_
              refine wp_rl rfl ?_
              refine RL.y rfl (Y.move (v := .pointer (some ⟨ba0, oa0, none⟩)) s0_1) ?_
              refine RL.y rfl (Y.fieldAddr (off := 0) s9_1 (by kernel_rfl)) ?_
              refine RL.y rfl (Y.load (v := .int .i64 y11.agent) rfl (by kernel_rfl) (eqC (blkCell B20 (i := 0) rfl))) ?_
              refine RL.y rfl (Y.move (v := .int .i64 i42) s10_1) ?_
              refine RL.y rfl (Y.build2 (cells := #[.int .i64 y11.agent, .int .i64 i42]) rfl rfl (by kernel_rfl) (by kernel_rfl)) ?_
              refine RL.y rfl (Y.move (v := .int .i64 d2) s2_1) ?_
              obtain ⟨s56, ks56, hm⟩ := bnd hm
              replace ks56 := ck_some ks56
              refine RL.y rfl (Y.binI (v := .int .i64 s56) rfl rfl (by rw [binI_add ks56.2, ks56.1])) ?_
              refine RL.y rfl (Y.move (v := .func (.func 126) #[] #[.pointer (some ⟨gb, 0, none⟩), .pointer (some ⟨gn, 0, none⟩)]) s3_1) ?_
              obtain ⟨y57, e58, hm⟩ := bnd hm
              have Eb20 : gb ≠ w13.heap.size := Eb16
              refine RL.call rfl (am4 rfl rfl rfl rfl) (by kernel_rfl) ((ih d0 (⟨y11.agent, i42⟩ : DPort) s56 y57 (by rw [← hself]; exact e58) _ w _ gb gn _ T (Pt.at_ netRd_ok ⟨ba0, oa0, _, rfl, hba0, hSa0, hca0⟩ (Below.refl _ _)) hgb Bb Bn hne).mono ?_)
              rintro _ w59 ⟨rfl, Bb9, hg60⟩
              refine ⟨_, rfl, ?_⟩
              have szw59 := hg60.size
              have B20 := (hg60.block _ B20.lt (by intro e; injection e with e; exact Eb20 e.symm)).trans B20
              have Bn := (hg60.block _ Bn.lt (by intro e; injection e with e; exact hne e)).trans Bn
              have T := T.grown hg60 T.size (by intro b hb; injection hb with hb; subst hb; exact hgb)
              have Gr := gr_trans Gr hg60
              have Bb := Bb9
              refine RL.y rfl (Y.not (b' := (!y57.1)) rfl rfl) ?_
              refine RL.nil ?_
              refine then_n ?_
              rcases bcases y57.1 with c61 | c61
              · replace hm := cF c61 hm
                refine cond_t rfl (vbn rfl c61 rfl) ?_
                refine wp_seq ?_
                refine wp_rs rfl ?_
                refine RQ.y rfl (Y.assign (v := .bool false) rfl) ?_
                refine RQ.nil ?_
                refine then_n ?_
                refine wp_ret ?_
                obtain rfl := Option.some.inj hm
                exact (blk_r (then_r (then_r (hit_r (blk_r (then_r (ret1 rfl rfl rfl ⟨rfl, Bb, Gr⟩)))))))
              · replace hm := cT c61 hm
                refine cond_f rfl (vbn rfl c61 rfl) ?_
                refine wp_skip ?_
                refine blk_n (then_n ?_)
                refine wp_rs rfl ?_
                refine RQ.y rfl (Y.move (v := .int .i64 i42) s10_1) ?_
                refine RQ.y rfl (Y.binI rfl rfl (binI_add (m := i42) (by omega))) ?_
                refine RQ.y rfl (Y.assign (v := .int .i64 (i42 + 1)) rfl) ?_
                refine RQ.nil ?_
                exact (then_n ⟨g, _, Nat.lt_succ_self _, rfl, ⟨(i42 + 1), y57.2, s0_1, s2_1, s3_1, s9_1, rfl, (by omega), B20, T, Gr, Bb, Bn, (by rw [← hrec1]; exact hm)⟩⟩)
        · replace hm := cT c40 hm
          refine cond_t rfl (vb rfl c40) ?_
          refine wp_seq ?_
          refine wp_rs rfl ?_
          refine RQ.y rfl (Y.assign (v := .bool true) rfl) ?_
          refine RQ.nil ?_
          refine then_n ?_
          refine wp_ret ?_
          obtain rfl := Option.some.inj hm
          exact (then_r (ret1 rfl rfl rfl ⟨rfl, Bb, Gr⟩))
end
section
open Go.RowKit
set_option linter.unusedVariables false
set_option linter.unusedSimpArgs false
set_option maxRecDepth 100000
def m_impl_rootPort  : Option DPort :=
  some (⟨0, 0⟩ : DPort)
set_option maxHeartbeats 2000000 in
theorem c_m_impl_rootPort  (r : DPort) (hm : m_impl_rootPort  = some r)  (w : World)  :
    Calls Try.prog 98 #[] w fun e w' => e = .returned (.agg #[.int .i64 r.agent, .int .i64 r.slot]) ∧ Below w.heap.size w w' := by
  have T := Below.refl w.heap.size w
  unfold m_impl_rootPort at hm
  refine enter 2 Try.func98 rfl rfl rfl ?_
  intro f hf
  refine wp_seq ?_
  refine wp_rl rfl ?_
  refine RL.alloc (z := .agg #[.int .i64 0, .int .i64 0]) rfl (by kernel_rfl) (fun w1 B2 hb3 szw1 => ?_)
  replace B2 : Blk w1 w.heap.size 53 #[.int .i64 0, .int .i64 0] := B2
  have GB2 : w.heap.size ≤ w.heap.size := T.size
  have T := Tt T hb3
  refine RL.nil ?_
  refine then_n ?_
  refine wp_seq ?_
  refine wp_rl rfl ?_
  refine RL.y rfl (Y.build2 (cells := #[.int .i64 0, .int .i64 0]) rfl rfl (by kernel_rfl) (by kernel_rfl)) ?_
  refine RL.store (v := .agg #[.int .i64 0, .int .i64 0]) (cs' := #[.int .i64 0, .int .i64 0]) rfl rfl rfl B2 (by kernel_rfl) (by rfl) (by rfl) (by rfl) (fun w5 B6 ho7 => ?_)
  have szw5 := ho7.size
  have T := T.trans (ho7.below (by first | (simp; done) | (simp; omega)))
  refine RL.nil ?_
  refine then_n ?_
  refine wp_ret ?_
  obtain rfl := Option.some.inj hm
  exact (retc (cs := [.int .i64 0, .int .i64 0]) rfl rfl rfl (by kernel_rfl) (blkCells B6) ⟨rfl, T⟩)
end
section
open Go.RowKit
set_option linter.unusedVariables false
set_option linter.unusedSimpArgs false
set_option maxRecDepth 100000
def unkM (d0 : DNet) : Option (DPort × Bool) := (dem (d0.agents.length + 2) d0 ⟨0, 0⟩ 1).bind fun y => some (y.2, !y.1)
set_option maxHeartbeats 2000000 in
theorem c_unkM (d0 : DNet) (r : DPort × Bool) (hm : unkM d0 = some r) (v0 : Value) (w : World) (hv0 : Pt netRd w v0 d0) :
    Calls Try.prog 73 #[v0] w fun e w' => e = .returned (.tuple #[.agg #[.int .i64 r.1.agent, .int .i64 r.1.slot], .bool r.2]) ∧ Below w.heap.size w w' := by
  have hv := hv0
  obtain ⟨ba0, oa0, csa0, rfl, hba0, hRa0, hca0⟩ := hv0
  have T := Below.refl w.heap.size w
  unfold unkM at hm
  obtain ⟨y, e5, hm⟩ := bnd hm
  obtain rfl := Option.some.inj hm
  refine enter 13 Try.func73 rfl rfl rfl ?_
  intro f hf
  have s0 : f 0 = .pointer (some ⟨ba0, oa0, none⟩) := hf 0 _ rfl
  refine wp_seq ?_
  refine wp_rl rfl ?_
  refine RL.box rfl s0 (fun w2 B3 hb4 szw2 => ?_)
  replace B3 : Blk w2 w.heap.size 84 #[.pointer (some ⟨ba0, oa0, none⟩)] := B3
  have T := Tt T hb4
  have G6 : w.heap.size ≤ w2.heap.size := T.size
  refine RL.alloc (z := .agg #[.int .i64 0, .int .i64 0]) rfl (by kernel_rfl) (fun w5 B6 hb7 szw5 => ?_)
  replace B6 : Blk w5 w2.heap.size 53 #[.int .i64 0, .int .i64 0] := B6
  have B3 := blkT B3 hb7
  have T := Tt T hb7
  refine RL.y rfl (Y.assign (v := .bool false) rfl) ?_
  refine RL.nil ?_
  refine then_n ?_
  refine wp_seq ?_
  refine wp_rl rfl ?_
  have E2 := Nat.ne_of_lt B3.lt
  have E3 := Nat.ne_of_lt B6.lt
  have G8 : w.heap.size ≤ w5.heap.size := T.size
  refine RL.alloc (z := .agg #[.int .i64 0, .int .i64 0]) rfl (by kernel_rfl) (fun w8 B9 hb10 szw8 => ?_)
  replace B9 : Blk w8 w5.heap.size 53 #[.int .i64 0, .int .i64 0] := B9
  have B3 := blkT B3 hb10
  have B6 := blkT B6 hb10
  have T := Tt T hb10
  refine RL.nil ?_
  refine then_n ?_
  refine wp_seq ?_
  refine wp_rg (fun w' => Below w.heap.size w w' ∧ Blk w' w.heap.size 84 #[.pointer (some ⟨ba0, oa0, none⟩)]) [(0, true), (2, true), (1, false), (3, false), (4, true)] (by kernel_rfl) (by kernel_rfl) (fun w11 hb12 szw11 => ?_)
  have B3 := blkT B3 hb12
  have B6 := blkT B6 hb12
  have B9 := blkT B9 hb12
  have T := Tt T hb12
  refine ⟨⟨T, B3⟩, ?_⟩
  refine RG.y rfl rfl (Y.load (v := .pointer (some ⟨ba0, oa0, none⟩)) rfl (by kernel_rfl) (fun w' hS => (blkCell hS.2 (i := 0) rfl))) ?_
  refine RG.y rfl rfl (Y.makeFunc (vals := #[.pointer (some ⟨w5.heap.size, 0, none⟩), .pointer (some ⟨w.heap.size, 0, none⟩)]) (am2 rfl rfl)) ?_
  refine RG.act rfl ?_
  refine RL.call rfl (vals := #[]) (by simp) (by kernel_rfl) ((c_m_impl_rootPort ⟨0, 0⟩ rfl _).mono ?_)
  rintro _ w13 ⟨rfl, hb14⟩
  refine ⟨_, rfl, ?_⟩
  have szw13 := hb14.size
  have B3 := blkT B3 hb14
  have B6 := blkT B6 hb14
  have B9 := blkT B9 hb14
  have T := Tt T hb14
  refine RL.nil ⟨⟨T, B3⟩, ?_⟩
  refine RG.act rfl ?_
  refine RL.call rfl (am4 rfl rfl rfl rfl) (by kernel_rfl) ((c_dem _ d0 ⟨0, 0⟩ 1 y e5 _ w _ w5.heap.size w.heap.size ⟨0, 0⟩ T hv G8 B9 B3 E2).mono ?_)
  rintro _ w15 ⟨rfl, Bb, hg⟩
  refine ⟨_, rfl, ?_⟩
  have B6 := (hg.block _ B6.lt (by intro e; injection e with e; exact E3 e)).trans B6
  have B3 := (hg.block _ B3.lt (by intro e; injection e with e; exact E2 e)).trans B3
  have T := T.grown hg T.size (by intro b hb; injection hb with hb; subst hb; exact G8)
  refine RL.nil ⟨⟨T, B3⟩, ?_⟩
  refine RG.y rfl rfl (Y.assign (v := .bool y.1) rfl) ?_
  refine RG.nil ?_
  refine then_n ?_
  refine wp_seq ?_
  refine wp_rl rfl ?_
  refine RL.y rfl (Y.loadN (cs := [.int .i64 y.2.agent, .int .i64 y.2.slot]) rfl (by kernel_rfl) (cells2 (eqC (blkCell Bb (i := 0) rfl)) (eqC (blkCell Bb (i := 1) rfl)))) ?_
  refine RL.y rfl (Y.move (v := .bool y.1) rfl) ?_
  refine RL.y rfl (Y.not (b' := (!y.1)) rfl rfl) ?_
  refine RL.store (v := .agg #[.int .i64 y.2.agent, .int .i64 y.2.slot]) (cs' := #[.int .i64 y.2.agent, .int .i64 y.2.slot]) rfl rfl rfl B6 (by kernel_rfl) (by rfl) (by rfl) (by rfl) (fun w16 B17 ho18 => ?_)
  have T := T.trans (ho18.below (by intro b hb; simp at hb; subst hb; exact G6))
  refine RL.y rfl (Y.assign (v := .bool (!y.1)) rfl) ?_
  refine RL.nil ?_
  refine then_n ?_
  refine wp_ret ?_
  exact retct (cs := [.int .i64 y.2.agent, .int .i64 y.2.slot]) rfl rfl rfl rfl (by kernel_rfl) (blkCells B17) ⟨rfl, T⟩
end
section
open Go.RowKit
set_option linter.unusedVariables false
set_option linter.unusedSimpArgs false
/-- The agents that were entered, each by its port 0 from the one before it; the last one first. -/
inductive Tr (xs : List DAgent) : List Nat → Prop
  | root : Tr xs [0]
  | step {i a : Nat} {L : List Nat} (h : Tr xs (a :: L)) (hp : (peer xs ⟨(i : Int), 0⟩).agent = (a : Int)) (h0 : i ≠ 0) : Tr xs (i :: a :: L)
theorem Tr.mem {xs : List DAgent} {i : Nat} (h0 : i ≠ 0) : ∀ {M : List Nat}, Tr xs M → i ∈ M → ∃ (pre rest : List Nat) (b : Nat), M = pre ++ i :: b :: rest ∧ (peer xs ⟨(i : Int), 0⟩).agent = (b : Int)
  | _, .root, h => by simp at h; exact absurd h h0
  | _, .step (i := j) (a := a) (L := L) h hp hj, hm => by
    rcases List.mem_cons.1 hm with rfl | hm
    · exact ⟨[], L, a, rfl, hp⟩
    · obtain ⟨pre, rest, b, e, hb⟩ := Tr.mem h0 h hm
      exact ⟨j :: pre, rest, b, by rw [e]; rfl, hb⟩
theorem Tr.new {xs : List DAgent} {i a : Nat} {L : List Nat} (h : Tr xs (a :: L)) (nd : (a :: L).Nodup) (hp : (peer xs ⟨(i : Int), 0⟩).agent = (a : Int)) (h0 : i ≠ 0) : i ∉ a :: L := by
  intro hm
  obtain ⟨pre, rest, b, e, hb⟩ := Tr.mem h0 h hm
  have hba : b = a := by omega
  subst hba
  cases pre with
  | nil =>
    simp only [List.nil_append, List.cons.injEq] at e
    have := (List.nodup_cons.1 nd).1
    rw [e.2] at this
    simp at this
  | cons c pre =>
    simp only [List.cons_append, List.cons.injEq] at e
    have := (List.nodup_cons.1 nd).1
    rw [e.2] at this
    simp at this
/-- What both ways give at a port. -/
def Both (xs : List DAgent) (rs : Option (DPair × Int)) (ri : Option (Bool × DPort)) : Prop :=
  ∃ (pr : DPair) (c : Int) (b : Bool) (z : DPort), rs = some (pr, c) ∧ ri = some (b, z) ∧ ((b = true ∧ c = 3) ∨ (b = false ∧ c ≠ 3 ∧ hasPort xs z = true ∧ known xs z = false ∧ ∃ l, m_spec_l17Walk ⟨xs⟩ z = some (l, pr, c)))
theorem known_at {xs : List DAgent} (G : Good xs) {p : DPort} (hp : hasPort xs p = true) (hk : known xs p = true) : ∃ (i : Nat) (x : DAgent), peer xs p = ⟨(i : Int), 0⟩ ∧ xs[i]? = some x ∧ i ≠ 0 := by
  obtain ⟨i, s, x, hqe, hx, _, ha⟩ := hasPort_at (G.peer hp).1
  unfold known at hk
  rw [hqe] at hk
  simp only [Bool.and_eq_true, beq_iff_eq] at hk
  have hs : s = 0 := by have := hk.1; omega
  subst hs
  refine ⟨i, x, hqe, hx, fun h0 => ?_⟩
  subst h0
  have hr := (G.root 0 x hx).2 rfl
  have h2 := hk.2
  rw [agentAt_nat hx, hr] at h2
  simp at h2
theorem walk_one {xs : List DAgent} (G : Good xs) {p : DPort} (hp : hasPort xs p = true) (hk : known xs p = false) : ∃ rs, m_spec_l17Walk ⟨xs⟩ p = some rs ∧ (rs.2.2 = 0 ∨ rs.2.2 = 5) := by
  have hq := (G.peer hp).1
  obtain ⟨S, hS, h1, h2⟩ := stops G hq
  obtain ⟨rs, e1, f1, f2⟩ := walk_spec G (p := p) hq hS h1 h2
  refine ⟨rs, ?_, ?_⟩
  · unfold m_spec_l17Walk
    rw [p_value G hp, Option.bind_some, hk, cond_false, p_speer hp, Option.bind_some]
    exact e1
  · cases hf : found xs (peer xs p) S with
    | true => left; rw [f1 hf]
    | false => right; exact f2 hf
theorem both {xs : List DAgent} (G : Good xs) (hs : Small xs) : ∀ (gas : Nat) (p : DPort) (a : Nat) (L : List Nat), hasPort xs p = true → p.agent = (a : Int) → Tr xs (a :: L) → (a :: L).Nodup → (∀ x ∈ a :: L, x < xs.length) → xs.length + 1 ≤ gas + (a :: L).length →
    Both xs (m_spec_l17Next gas ⟨xs⟩ p) (dem gas ⟨xs⟩ p ((a :: L).length : Int))
  | 0, p, a, L, hp, ha, ht, nd, hn, hg => by
    have := php xs.length (a :: L) nd hn
    omega
  | gas + 1, p, a, L, hp, ha, ht, nd, hn, hg => by
    have hlen := php xs.length (a :: L) nd hn
    have h6 := G.len
    unfold m_spec_l17Next dem m_spec_l17Next_R dem_R
    rw [p_isKnown G hp, Option.bind_some]
    cases hk : known xs p with
    | false =>
      obtain ⟨rs, e1, hr⟩ := walk_one G hp hk
      have hc : rs.2.2 ≠ 3 := by rcases hr with h | h <;> omega
      rw [e1, Option.bind_some, cond_false, show (rs.2.2 != 3) = true by simpa using hc, cond_true]
      exact ⟨_, _, _, _, rfl, rfl, .inr ⟨rfl, hc, hp, hk, rs.1, e1⟩⟩
    | true =>
      have ew : m_spec_l17Walk ⟨xs⟩ p = some ([], ⟨0, 0⟩, 3) := by unfold m_spec_l17Walk; rw [p_value G hp, Option.bind_some, hk, cond_true]
      obtain ⟨i, x, hq, hx, hi0⟩ := known_at G hp hk
      have hpp := (G.peer hp).2.1
      rw [hq] at hpp
      rw [ew, Option.bind_some, cond_true, show (((3 : Int)) != 3) = false from rfl, cond_false, p_speer hp, p_peer hp, Option.bind_some, Option.bind_some, hq]
      simp only [getI_nat hx, Option.bind_some, Option.getD_some, p_isKnown G hp, hk, cond_true]
      cases hc : (x.kind != 9) with
      | true =>
        rw [cond_true, cond_true]
        exact ⟨_, _, _, _, rfl, rfl, .inl ⟨rfl, rfl⟩⟩
      | false =>
        rw [cond_false, cond_false]
        have hpa : (peer xs ⟨(i : Int), 0⟩).agent = (a : Int) := by rw [hpp, ha]
        have hni := ht.new nd hpa hi0
        have ht' : Tr xs (i :: a :: L) := .step ht hpa hi0
        have nd' : (i :: a :: L).Nodup := List.nodup_cons.2 ⟨hni, nd⟩
        have hn' : ∀ y ∈ i :: a :: L, y < xs.length := fun y hy => by
          rcases List.mem_cons.1 hy with rfl | hy
          · exact lt_of_some hx
          · exact hn y hy
        have hlen' := php xs.length (i :: a :: L) nd' hn'
        have h4 := (agentOk_small (G.ok i x hx)).1
        have key : ∀ (m k g gs : Nat) (z48 : DPair) (z : DPort), k + m = x.ports.length → m < g → m < gs →
            Both xs (m_spec_l17Next_L1 ⟨xs⟩ (m_spec_l17Next gas) ⟨(i : Int), 0⟩ m_spec_l17Next_A1 gs (k : Int) ⟨0, 0⟩ z48) (dem_L1 ⟨xs⟩ ((a :: L).length : Int) (dem gas) ⟨(i : Int), 0⟩ dem_A1 g (k : Int) z) := by
          intro m
          induction m with
          | zero =>
            intro k g gs z48 z hm hg1 hg2
            obtain ⟨g, rfl⟩ : ∃ q, g = q + 1 := ⟨g - 1, by omega⟩
            obtain ⟨gs, rfl⟩ : ∃ q, gs = q + 1 := ⟨gs - 1, by omega⟩
            have hk' : k = x.ports.length := by omega
            subst hk'
            simp -implicitDefEqProofs only [m_spec_l17Next_L1, m_spec_l17Next_B1, dem_L1, dem_B1, getI_nat hx, Option.bind_some, dge, cond_false, m_spec_l17Next_A1, dem_A1]
            exact ⟨_, _, _, _, rfl, rfl, .inl ⟨rfl, rfl⟩⟩
          | succ m ih2 =>
            intro k g gs z48 z hm hg1 hg2
            obtain ⟨g, rfl⟩ : ∃ q, g = q + 1 := ⟨g - 1, by omega⟩
            obtain ⟨gs, rfl⟩ : ∃ q, gs = q + 1 := ⟨gs - 1, by omega⟩
            have hkl : k < x.ports.length := by omega
            obtain ⟨pr, c, b, z', r1, r2, hrel⟩ := both G hs gas ⟨(i : Int), (k : Int)⟩ i (a :: L) (hasPort_of hx hkl) rfl ht' nd' hn' (by simp only [List.length_cons] at hg ⊢; omega)
            have hdep : (((a :: L).length : Nat) : Int) + 1 = (((i :: a :: L).length : Nat) : Int) := by simp
            simp -implicitDefEqProofs only [m_spec_l17Next_L1, m_spec_l17Next_B1, dem_L1, dem_B1, getI_nat hx, Option.bind_some, dlt hkl, cond_true, m_spec_l13Port, r1]
            rw [hdep, ck_ok (by omega), Option.bind_some, r2, Option.bind_some]
            rcases hrel with ⟨rfl, rfl⟩ | ⟨rfl, hc3, hrest⟩
            · rw [show ((3 : Int) != 3) = false from rfl, cond_false]
              simp only [cond_true]
              have := ih2 (k + 1) g gs pr z' (by omega) (by omega) (by omega)
              simpa only [Int.natCast_add, Int.cast_ofNat_Int] using this
            · rw [show (c != 3) = true by simpa using hc3, cond_true]
              simp only [cond_false]
              exact ⟨_, _, _, _, rfl, rfl, .inr ⟨rfl, hc3, hrest⟩⟩
        have h1 : 1 ≤ x.ports.length := G.pos hx
        exact key (x.ports.length - 1) 1 6 (x.ports.length + 1) ⟨0, 0⟩ p (by omega) (by omega) (by omega)
theorem both0 {xs : List DAgent} (G : Good xs) (hs : Small xs) : Both xs (m_spec_l17Next (xs.length + 2) ⟨xs⟩ ⟨0, 0⟩) (dem (xs.length + 2) ⟨xs⟩ ⟨0, 0⟩ 1) := by
  have h1 := G.one
  have hx := List.getElem?_eq_getElem (show 0 < xs.length by omega)
  exact both G hs (xs.length + 2) ⟨0, 0⟩ 0 [] (hasPort_of (i := 0) (k := 0) hx (G.pos hx)) rfl .root (by simp) (fun y hy => by simp at hy; omega) (by simp)
end
section
open Go.RowKit
set_option linter.unusedVariables false
set_option linter.unusedSimpArgs false
set_option maxRecDepth 100000
def m_impl_NextNeeded (d0 : DNet) : Option (Int × Int) :=
  ((m_impl_ValidNet d0).bind fun y6 => (bif y6 then ((unkM d0).bind fun y11 => (bif y11.2 then ((m_impl_NeededPair d0 y11.1).bind fun y23 => some (y23.1, y23.2)) else some (0, 3))) else some (0, 1)))
set_option maxHeartbeats 2000000 in
theorem c_m_impl_NextNeeded (d0 : DNet) (r : Int × Int) (hm : m_impl_NextNeeded d0 = some r) (v0 : Value) (w : World) (hv0 : St netRd w v0 d0) :
    Calls Try.prog 27 #[v0] w fun e w' => e = .returned (.tuple #[.int .i64 r.1, .int .i64 r.2]) ∧ Below w.heap.size w w' := by
  obtain ⟨csa0, rfl, ⟨A1, n1, c1, rfl, ⟨h1, r1⟩⟩⟩ := hv0
  have e1 := h1.len; subst e1
  have q1 := len_le r1
  have T := Below.refl w.heap.size w
  unfold m_impl_NextNeeded at hm
  refine enter 20 Try.func27 rfl rfl rfl ?_
  intro f hf
  have s0 : f 0 = .agg #[.slice A1 d0.agents.length c1] := hf 0 _ rfl
  refine wp_seq ?_
  refine wp_rl rfl ?_
  refine RL.box rfl s0 (fun w2 B3 hb4 szw2 => ?_)
  replace B3 : Blk w2 w.heap.size 30 #[.slice A1 d0.agents.length c1] := B3
  have GB3 : w.heap.size ≤ w.heap.size := T.size
  have T := Tt T hb4
  refine RL.y rfl (Y.assign (v := .int .i64 0) rfl) ?_
  refine RL.y rfl (Y.assign (v := .int .i64 0) rfl) ?_
  refine RL.nil ?_
  refine then_n ?_
  refine wp_seq ?_
  refine wp_seq ?_
  refine wp_rb rfl ?_
  refine RQ.y rfl (Y.loadN (cs := [.slice A1 d0.agents.length c1]) rfl (by kernel_rfl) (cells1 (beC (blkCell B3 (i := 0) rfl)))) ?_
  obtain ⟨y6, e7, hm⟩ := bnd hm
  refine RQ.call rfl (am1 rfl) (by kernel_rfl) (v := .bool y6) (bel (K := fun _ => True) fun w' hb' => (c_m_impl_ValidNet d0 _ e7 _ w' (stArg (R := netRd) ⟨_, _, _, rfl, ⟨SlAt.now agentRd_ok h1 (Nat.le_refl _) (Tt T hb'), r1⟩⟩))) ?_
  refine RQ.y rfl (Y.not (b' := (!y6)) rfl rfl) ?_
  refine RQ.nil ?_
  intro w8 hb9
  have szw8 := hb9.size
  have B3 := blkT B3 hb9
  have T := Tt T hb9
  refine then_n ?_
  rcases bcases y6 with c10 | c10
  · replace hm := cF c10 hm
    refine cond_t rfl (vbn rfl c10 rfl) ?_
    refine wp_seq ?_
    refine wp_rs rfl ?_
    refine RQ.y rfl (Y.assign (v := .int .i64 0) rfl) ?_
    refine RQ.y rfl (Y.assign (v := .int .i64 1) rfl) ?_
    refine RQ.nil ?_
    refine then_n ?_
    refine wp_ret ?_
    obtain rfl := Option.some.inj hm
    exact (then_r (ret2 rfl rfl rfl rfl ⟨rfl, T⟩))
  · replace hm := cT c10 hm
    refine cond_f rfl (vbn rfl c10 rfl) ?_
    refine wp_skip ?_
    refine then_n ?_
    refine wp_seq ?_
    refine wp_rl rfl ?_
    obtain ⟨y11, e12, hm⟩ := bnd hm
    refine RL.call rfl (am1 rfl) (by kernel_rfl) ((c_unkM d0 _ e12 _ _ (ptBox (R := netRd) B3 ⟨_, _, _, rfl, ⟨SlAt.now agentRd_ok h1 (Nat.le_refl _) T, r1⟩⟩)).mono ?_)
    rintro _ w13 ⟨rfl, hb14⟩
    refine ⟨_, rfl, ?_⟩
    have szw13 := hb14.size
    have B3 := blkT B3 hb14
    have T := Tt T hb14
    refine RL.y rfl (Y.move (v := .tuple #[.agg #[.int .i64 y11.1.agent, .int .i64 y11.1.slot], .bool y11.2]) rfl) ?_
    refine RL.y rfl (Y.extract (i := 0) rfl rfl) ?_
    refine RL.y rfl (Y.extract (i := 1) rfl rfl) ?_
    refine RL.alloc (z := .agg #[.int .i64 0, .int .i64 0]) rfl (by kernel_rfl) (fun w15 B16 hb17 szw15 => ?_)
    replace B16 : Blk w15 w13.heap.size 53 #[.int .i64 0, .int .i64 0] := B16
    have GB16 : w.heap.size ≤ w13.heap.size := T.size
    have Eob18_ob5 := Nat.ne_of_lt B3.lt
    have B3 := blkT B3 hb17
    have T := Tt T hb17
    refine RL.store (v := .agg #[.int .i64 y11.1.agent, .int .i64 y11.1.slot]) (cs' := #[.int .i64 y11.1.agent, .int .i64 y11.1.slot]) rfl rfl rfl B16 (by kernel_rfl) (by rfl) (by rfl) (by rfl) (fun w19 B20 ho21 => ?_)
    have szw19 := ho21.size
    have B3 := B3.only_ ho21 (by intro hin; simp at hin; exact Eob18_ob5 hin)
    have T := T.trans (ho21.below (by first | (simp; done) | (simp; omega)))
    refine RL.y rfl (Y.assign (v := .bool y11.2) rfl) ?_
    refine RL.nil ?_
    refine then_n ?_
    refine wp_seq ?_
    refine wp_seq ?_
    refine wp_rs rfl ?_
    refine RQ.y rfl (Y.move (v := .bool y11.2) rfl) ?_
    refine RQ.y rfl (Y.not (b' := (!y11.2)) rfl rfl) ?_
    refine RQ.nil ?_
    refine then_n ?_
    rcases bcases y11.2 with c22 | c22
    · replace hm := cF c22 hm
      refine cond_t rfl (vbn rfl c22 rfl) ?_
      refine wp_seq ?_
      refine wp_rs rfl ?_
      refine RQ.y rfl (Y.assign (v := .int .i64 0) rfl) ?_
      refine RQ.y rfl (Y.assign (v := .int .i64 3) rfl) ?_
      refine RQ.nil ?_
      refine then_n ?_
      refine wp_ret ?_
      obtain rfl := Option.some.inj hm
      exact (then_r (ret2 rfl rfl rfl rfl ⟨rfl, T⟩))
    · replace hm := cT c22 hm
      refine cond_f rfl (vbn rfl c22 rfl) ?_
      refine wp_skip ?_
      refine then_n ?_
      refine wp_seq ?_
      refine wp_rb rfl ?_
      refine RQ.y rfl (Y.loadN (cs := [.slice A1 d0.agents.length c1]) rfl (by kernel_rfl) (cells1 (beC (blkCell B3 (i := 0) rfl)))) ?_
      refine RQ.y rfl (Y.loadN (cs := [.int .i64 y11.1.agent, .int .i64 y11.1.slot]) rfl (by kernel_rfl) (cells2 (beC (blkCell B20 (i := 0) rfl)) (beC (blkCell B20 (i := 1) rfl)))) ?_
      obtain ⟨y23, e24, hm⟩ := bnd hm
      refine RQ.call rfl (am2 rfl rfl) (by kernel_rfl) (v := .tuple #[.int .i64 y23.1, .int .i64 y23.2]) (bel (K := fun _ => True) fun w' hb' => (c_m_impl_NeededPair d0 y11.1 _ e24 _ w' (stArg (R := netRd) ⟨_, _, _, rfl, ⟨SlAt.now agentRd_ok h1 (Nat.le_refl _) (Tt T hb'), r1⟩⟩))) ?_
      refine RQ.y rfl (Y.extract (i := 0) rfl rfl) ?_
      refine RQ.y rfl (Y.extract (i := 1) rfl rfl) ?_
      refine RQ.y rfl (Y.assign (v := .int .i64 y23.1) rfl) ?_
      refine RQ.y rfl (Y.assign (v := .int .i64 y23.2) rfl) ?_
      refine RQ.nil ?_
      intro w25 hb26
      have szw25 := hb26.size
      have T := Tt T hb26
      refine then_n ?_
      refine wp_ret ?_
      obtain rfl := Option.some.inj hm
      exact (ret2 rfl rfl rfl rfl ⟨rfl, T⟩)
end
section
open Go.RowKit
set_option linter.unusedVariables false
set_option linter.unusedSimpArgs false
theorem needAt {xs : List DAgent} (G : Good xs) (hv : validNet ⟨xs⟩ = true) (hs : Small xs) {z : DPort} (hz : hasPort xs z = true) (hk : known xs z = false) {l : List Int} {pr : DPair} {c : Int} (hw : m_spec_l17Walk ⟨xs⟩ z = some (l, pr, c)) :
    ∃ r, (bif (c != 0) then some ((0 : Int), c) else (m_spec_l17Index ⟨xs⟩ pr).bind fun y => some (y, (0 : Int))) = some r ∧ m_impl_NeededPair ⟨xs⟩ z = some r := by
  unfold m_impl_NeededPair m_impl_neededAt
  obtain ⟨rs, ri, e1, e2, h⟩ := walk_both G hz hk
  rw [hw] at e1
  injection e1 with e1
  subst e1
  rw [p_valid ⟨xs⟩ hs, p_hasPort, Option.bind_some]
  simp only [hv, hz, cond_true, Option.bind_some, p_isKnown G hz, hk, cond_false, e2]
  rcases h with ⟨h1, h2, h3, h4, h5⟩ | ⟨h1, h2⟩
  · simp only at h1 h4 h5
    rw [h1, h2]
    simp only [cond_true, Option.bind_some, show ((0 : Int) != 0) = false from rfl, cond_false]
    rw [p_sIndex G, p_iPairs (d := ⟨xs⟩) G, Option.bind_some, Option.bind_some, p_iIndex, ← h4, Option.bind_some]
    cases hfi : (pairsOf xs).findIdx? (fun x => x.a == pr.a && x.b == pr.b) with
    | none =>
      have := List.findIdx?_eq_none_iff.1 hfi _ h5
      simp at this
    | some i => exact ⟨_, rfl, rfl⟩
  · simp only at h1
    rw [h1, h2]
    exact ⟨_, rfl, rfl⟩
theorem p_next (d : DNet) (hs : Small d.agents) : ∃ r, m_spec_NextNeeded d = some r ∧ m_impl_NextNeeded d = some r := by
  unfold m_spec_NextNeeded m_impl_NextNeeded
  rw [p_ok _ hs, p_valid _ hs, Option.bind_some, Option.bind_some]
  cases hv : validNet d with
  | false => exact ⟨_, rfl, rfl⟩
  | true =>
    obtain ⟨xs⟩ := d
    have G : Good xs := good hv
    obtain ⟨pr, c, b, z, e1, e2, h⟩ := both0 G hs
    unfold unkM
    rw [cond_true, cond_true, e1, e2, Option.bind_some, Option.bind_some, Option.bind_some]
    rcases h with ⟨rfl, rfl⟩ | ⟨rfl, hc, hz, hk, l, hw⟩
    · exact ⟨_, rfl, rfl⟩
    · obtain ⟨r, h1, h2⟩ := needAt G hv hs hz hk hw
      refine ⟨r, h1, ?_⟩
      simp only [Bool.not_false, cond_true]
      rw [h2, Option.bind_some]
noncomputable def nextNeeded (d : DNet) : Int × Int := (m_spec_NextNeeded d).getD default
theorem p_sNextNeeded (d : DNet) (hs : Small d.agents) : m_spec_NextNeeded d = some (nextNeeded d) := by
  obtain ⟨r, h, _⟩ := p_next d hs
  unfold nextNeeded; rw [h]; rfl
theorem p_iNextNeeded (d : DNet) (hs : Small d.agents) : m_impl_NextNeeded d = some (nextNeeded d) := by
  obtain ⟨r, h, h'⟩ := p_next d hs
  unfold nextNeeded; rw [h, h']; rfl
end
section
open Go.RowKit
set_option linter.unusedVariables false
theorem specNextNeeded_v (v : Value) (x : DNet) (w : World) {B : Nat} (h : RdT netRd w B v x) (hB : B ≤ w.heap.size) (hs : szNet x ≤ 1048576) :
    Calls Try.prog 26 #[v] w fun e w' => e = .returned (.tuple #[.int .i64 (nextNeeded x).1, .int .i64 (nextNeeded x).2]) ∧ Below w.heap.size w w' :=
  c_m_spec_NextNeeded x _ (p_sNextNeeded x hs) v w (h.more netRd_ok hB)
theorem implNextNeeded_v (v : Value) (x : DNet) (w : World) {B : Nat} (h : RdT netRd w B v x) (hB : B ≤ w.heap.size) (hs : szNet x ≤ 1048576) :
    Calls Try.prog 27 #[v] w fun e w' => e = .returned (.tuple #[.int .i64 (nextNeeded x).1, .int .i64 (nextNeeded x).2]) ∧ Below w.heap.size w w' :=
  c_m_impl_NextNeeded x _ (p_iNextNeeded x hs) v w (h.more netRd_ok hB)
end
section
open Go.RowKit
set_option linter.unusedVariables false
set_option linter.unusedSimpArgs false
theorem szInt64S_v (v : Value) (xs : List Int) (left : Int) (w : World) {B : Nat} (h : RdS intRd 1 w B v xs) (hB : B ≤ w.heap.size) (h0 : 0 ≤ left) (h1 : left ≤ 1048576) :
    Calls Try.prog 157 #[v, .int .i64 left] w fun e w' => e = .returned (.int .i64 (szL left xs.length)) ∧ Below w.heap.size w w' := by
  obtain ⟨A, n, c, rfl, h, hnc, hcm⟩ := h
  have hr := Below.refl w.heap.size w
  have hl := h.len
  rw [← hl]
  unfold maxLen at hcm
  clear h hl
  by_cases hl : left - n < 0
  · have He := Lib.hid (szL_neg hl)
    go_enter Try.func157, Try.ntmps157
    go_wp2
    go_ret
    exact ⟨by rw [He.out]; rfl, hr⟩
  · have He := Lib.hid (szL_pos hl)
    go_enter Try.func157, Try.ntmps157
    go_wp2
    go_ret
    exact ⟨by rw [He.out]; rfl, hr⟩
theorem szPortS_v (v : Value) (xs : List DPort) (left : Int) (w : World) {B : Nat} (h : RdS portRd 2 w B v xs) (hB : B ≤ w.heap.size) (h0 : 0 ≤ left) (h1 : left ≤ 1048576) :
    Calls Try.prog 158 #[v, .int .i64 left] w fun e w' => e = .returned (.int .i64 (szL left xs.length)) ∧ Below w.heap.size w w' := by
  obtain ⟨A, n, c, rfl, h, hnc, hcm⟩ := h
  have hr := Below.refl w.heap.size w
  have hl := h.len
  rw [← hl]
  unfold maxLen at hcm
  clear h hl
  by_cases hl : left - n < 0
  · have He := Lib.hid (szL_neg hl)
    go_enter Try.func158, Try.ntmps158
    go_wp2
    go_ret
    exact ⟨by rw [He.out]; rfl, hr⟩
  · have He := Lib.hid (szL_pos hl)
    go_enter Try.func158, Try.ntmps158
    go_wp2
    go_ret
    exact ⟨by rw [He.out]; rfl, hr⟩
set_option maxHeartbeats 1000000 in
theorem szAgent_v (v : Value) (x : DAgent) (left : Int) (w : World) {B : Nat} (h : RdT agentRd w B v x) (hB : B ≤ w.heap.size) (h0 : 0 ≤ left) (h1 : left ≤ 1048576) :
    Calls Try.prog 108 #[v, .int .i64 left] w fun e w' => e = .returned (.int .i64 (szL left (szAgent x))) ∧ Below w.heap.size w w' := by
  obtain ⟨cs, rfl, A1, n1, c1, A2, n2, c2, rfl, ⟨g1, r1⟩, ⟨g2, r2⟩⟩ := h
  have hb : ∀ o1, Below w.heap.size w (w.alloc o1) := fun o1 => (Below.refl _ _).alloc (Nat.le_refl _) _
  obtain ⟨s0, es0⟩ : ∃ s : Nat, s = x.data.length := ⟨_, rfl⟩
  obtain ⟨s1, es1⟩ : ∃ s : Nat, s = x.ports.length := ⟨_, rfl⟩
  have Hs : Hid (szAgent x = s0 + s1) := by show _ = _; rw [es0, es1]; rfl
  have Es0 := Lib.hid es0
  have Es1 := Lib.hid es1
  clear es0 es1
  by_cases d0 : left - (s0 : Int) < 0
  · have He : Hid (szL left (szAgent x) = -1) := by show _ = _; rw [Hs.out, szL_neg (by omega)]
    go_enter Try.func108, Try.ntmps108
    go_wp2_with fail
    refine (szInt64S_v _ x.data (left) _ (B := B) ⟨A1, n1, c1, rfl, g1.below intRd_ok ((hb _).mono hB), r1⟩ (Nat.le_trans hB (hb _).size) (by omega) (by omega)).mono ?_
    rw [← Es0.out, szL_neg (by omega)]
    rintro e w1 ⟨rfl, q1⟩
    have T := (hb _).trans (q1.mono (hb _).size)
    have B1 := (Blk.new w _ _).below q1 (by simp)
    have z1 : w.heap.size + 1 ≤ w1.heap.size := by have := q1.size; simpa using this
    clear q1
    go_wp2_with fail
    go_ret
    exact ⟨by rw [He.out]; rfl, T⟩
  · skip
    by_cases d1 : left - s0 - (s1 : Int) < 0
    · have He : Hid (szL left (szAgent x) = -1) := by show _ = _; rw [Hs.out, szL_neg (by omega)]
      go_enter Try.func108, Try.ntmps108
      go_wp2_with fail
      refine (szInt64S_v _ x.data (left) _ (B := B) ⟨A1, n1, c1, rfl, g1.below intRd_ok ((hb _).mono hB), r1⟩ (Nat.le_trans hB (hb _).size) (by omega) (by omega)).mono ?_
      rw [← Es0.out, szL_pos (by omega)]
      rintro e w1 ⟨rfl, q1⟩
      have T := (hb _).trans (q1.mono (hb _).size)
      have B1 := (Blk.new w _ _).below q1 (by simp)
      have z1 : w.heap.size + 1 ≤ w1.heap.size := by have := q1.size; simpa using this
      clear q1
      have cB := B1.cell
      go_wp2_with fail
      clear cB
      refine (szPortS_v _ x.ports (left - s0) _ (B := B) ⟨A2, n2, c2, rfl, g2.below portRd_ok ((T).mono hB), r2⟩ (Nat.le_trans hB (T).size) (by omega) (by omega)).mono ?_
      rw [← Es1.out, szL_neg (by omega)]
      rintro e w2 ⟨rfl, q2⟩
      have T := T.trans (q2.mono T.size)
      have B1 := B1.below q2 (by omega)
      have z2 := Nat.le_trans z1 q2.size
      clear q2
      go_wp2_with fail
      go_ret
      exact ⟨by rw [He.out]; rfl, T⟩
    · skip
      have He : Hid (szL left (szAgent x) = left - s0 - s1) := by show _ = _; rw [Hs.out, szL_pos (by omega)]; try omega
      go_enter Try.func108, Try.ntmps108
      go_wp2_with fail
      refine (szInt64S_v _ x.data (left) _ (B := B) ⟨A1, n1, c1, rfl, g1.below intRd_ok ((hb _).mono hB), r1⟩ (Nat.le_trans hB (hb _).size) (by omega) (by omega)).mono ?_
      rw [← Es0.out, szL_pos (by omega)]
      rintro e w1 ⟨rfl, q1⟩
      have T := (hb _).trans (q1.mono (hb _).size)
      have B1 := (Blk.new w _ _).below q1 (by simp)
      have z1 : w.heap.size + 1 ≤ w1.heap.size := by have := q1.size; simpa using this
      clear q1
      have cB := B1.cell
      go_wp2_with fail
      clear cB
      refine (szPortS_v _ x.ports (left - s0) _ (B := B) ⟨A2, n2, c2, rfl, g2.below portRd_ok ((T).mono hB), r2⟩ (Nat.le_trans hB (T).size) (by omega) (by omega)).mono ?_
      rw [← Es1.out, szL_pos (by omega)]
      rintro e w2 ⟨rfl, q2⟩
      have T := T.trans (q2.mono T.size)
      have B1 := B1.below q2 (by omega)
      have z2 := Nat.le_trans z1 q2.size
      clear q2
      go_wp2_with fail
      go_ret
      exact ⟨by rw [He.out]; rfl, T⟩
theorem szAgentS_take {xs : List DAgent} {k : Nat} {x : DAgent} (h : xs[k]? = some x) : ((xs.take (k + 1)).map szAgent).sum = ((xs.take k).map szAgent).sum + szAgent x := by
  rw [take_succ_some h]; simp
theorem szAgentS_le (xs : List DAgent) (k : Nat) : ((xs.take k).map szAgent).sum ≤ (xs.map szAgent).sum := by
  have h : ((xs.take k ++ xs.drop k).map szAgent).sum = (xs.map szAgent).sum := by rw [List.take_append_drop]
  rw [List.map_append, List.sum_append] at h
  omega
set_option maxHeartbeats 1000000 in
theorem szAgentS_v (v : Value) (xs : List DAgent) (left : Int) (w : World) {B : Nat} (h : RdS agentRd 5 w B v xs) (hB : B ≤ w.heap.size) (h0 : 0 ≤ left) (h1 : left ≤ 1048576) :
    Calls Try.prog 59 #[v, .int .i64 left] w fun e w' => e = .returned (.int .i64 (szL left (szAgentS xs))) ∧ Below w.heap.size w w' := by
  obtain ⟨A, n, c, rfl, hx, hnc, hcm⟩ := h
  have hr := Below.refl w.heap.size w
  unfold maxLen at hcm
  have lx := Lib.hid hx.len
  by_cases hl : left - n < 0
  · have He : Hid (szL left (szAgentS xs) = -1) := szL_neg (by unfold szAgentS; rw [← lx.out]; omega)
    go_enter Try.func59, Try.ntmps59
    go_wp2
    go_ret
    exact ⟨by rw [He.out]; rfl, hr⟩
  · go_enter Try.func59, Try.ntmps59
    go_wp2
    go_loopw [1, 5] (fun s i wr => ∃ (k : Nat) (l : Int), k ≤ n ∧ i = .int .i64 k ∧ s = .int .i64 l ∧ 0 ≤ l ∧ l ≤ 1048576 ∧ Hid (l = left - n - (((xs.take k).map szAgent).sum : Nat)) ∧ Below w.heap.size w wr) (fun _ i _ => n - (intOf i).toNat)
    case atStart => exact ⟨0, left - n, by omega, rfl, rfl, by omega, by omega, by simp [Hid], hr⟩
    case round =>
      obtain ⟨k, s, hk, rfl, rfl, hs0, hs1, hs, hq⟩ := hrel
      by_cases hlt : k < n
      · obtain ⟨b, off, x, A1, n1, c1, A2, n2, c2, rfl, hb, hxk, hc0, hc1, hc2, hc3, hc4, ⟨g1, r1⟩, ⟨g2, r2⟩⟩ := (hx.below agentRd_ok (hq.mono hB)).agent hlt
        have Hxk := Lib.hid hxk
        clear hxk
        by_cases hd : s - (szAgent x : Int) < 0
        · have f := szL_neg hd
          have He : Hid (szL left (szAgentS xs) = -1) := szL_neg (by
            have e1 := szAgentS_le xs (k + 1)
            rw [szAgentS_take Hxk.out] at e1
            have e2 := hs.out
            have e3 := lx.out
            unfold szAgentS
            omega)
          go_wp2_with fail
          refine (szAgent_v _ x s _ (B := B) ⟨_, rfl, A1, n1, c1, A2, n2, c2, rfl, ⟨g1, r1⟩, ⟨g2, r2⟩⟩ (Nat.le_trans hB hq.size) hs0 hs1).mono ?_
          rintro e w1 ⟨rfl, q1⟩
          go_wp2_with fail
          go_ret
          exact ⟨by rw [He.out]; rfl, hq.trans (q1.mono hq.size)⟩
        · have f := szL_pos hd
          have Hn : Hid (s - (szAgent x : Int) = left - n - (((xs.take (k + 1)).map szAgent).sum : Nat)) := by
            have e1 := szAgentS_take Hxk.out
            have e2 := hs.out
            show _ = _
            rw [e1]
            omega
          go_wp2_with fail
          refine (szAgent_v _ x s _ (B := B) ⟨_, rfl, A1, n1, c1, A2, n2, c2, rfl, ⟨g1, r1⟩, ⟨g2, r2⟩⟩ (Nat.le_trans hB hq.size) hs0 hs1).mono ?_
          rintro e w1 ⟨rfl, q1⟩
          go_wp2_with fail
          go_roundw
          case rel => exact ⟨k + 1, s - (szAgent x : Int), by omega, by go_num, rfl, by omega, by omega, Hn.out, hq.trans (q1.mono hq.size)⟩
          case measure => simp [intOf]; omega
      · have He : Hid (szL left (szAgentS xs) = s) := by
          have e1 : xs.take k = xs := List.take_of_length_le (by have := lx.out; omega)
          have e2 := hs.out
          rw [e1] at e2
          have e3 := lx.out
          show _ = _
          rw [szL_pos (by unfold szAgentS; omega)]
          unfold szAgentS
          omega
        go_wp2_with fail
        go_ret
        exact ⟨by rw [He.out]; rfl, hq⟩
set_option maxHeartbeats 1000000 in
theorem szNet_v (v : Value) (x : DNet) (left : Int) (w : World) {B : Nat} (h : RdT netRd w B v x) (hB : B ≤ w.heap.size) (h0 : 0 ≤ left) (h1 : left ≤ 1048576) :
    Calls Try.prog 15 #[v, .int .i64 left] w fun e w' => e = .returned (.int .i64 (szL left (szNet x))) ∧ Below w.heap.size w w' := by
  obtain ⟨cs, rfl, A1, n1, c1, rfl, ⟨g1, r1⟩⟩ := h
  have hb : ∀ o1, Below w.heap.size w (w.alloc o1) := fun o1 => (Below.refl _ _).alloc (Nat.le_refl _) _
  obtain ⟨s0, es0⟩ : ∃ s : Nat, s = szAgentS x.agents := ⟨_, rfl⟩
  have Hs : Hid (szNet x = s0) := by show _ = _; rw [es0]; rfl
  have Es0 := Lib.hid es0
  clear es0
  by_cases d0 : left - (s0 : Int) < 0
  · have He : Hid (szL left (szNet x) = -1) := by show _ = _; rw [Hs.out, szL_neg (by omega)]
    go_enter Try.func15, Try.ntmps15
    go_wp2_with fail
    refine (szAgentS_v _ x.agents (left) _ (B := B) ⟨A1, n1, c1, rfl, g1.below agentRd_ok ((hb _).mono hB), r1⟩ (Nat.le_trans hB (hb _).size) (by omega) (by omega)).mono ?_
    rw [← Es0.out, szL_neg (by omega)]
    rintro e w1 ⟨rfl, q1⟩
    have T := (hb _).trans (q1.mono (hb _).size)
    have B1 := (Blk.new w _ _).below q1 (by simp)
    have z1 : w.heap.size + 1 ≤ w1.heap.size := by have := q1.size; simpa using this
    clear q1
    go_wp2_with fail
    go_ret
    exact ⟨by rw [He.out]; rfl, T⟩
  · skip
    have He : Hid (szL left (szNet x) = left - s0) := by show _ = _; rw [Hs.out, szL_pos (by omega)]; try omega
    go_enter Try.func15, Try.ntmps15
    go_wp2_with fail
    refine (szAgentS_v _ x.agents (left) _ (B := B) ⟨A1, n1, c1, rfl, g1.below agentRd_ok ((hb _).mono hB), r1⟩ (Nat.le_trans hB (hb _).size) (by omega) (by omega)).mono ?_
    rw [← Es0.out, szL_pos (by omega)]
    rintro e w1 ⟨rfl, q1⟩
    have T := (hb _).trans (q1.mono (hb _).size)
    have B1 := (Blk.new w _ _).below q1 (by simp)
    have z1 : w.heap.size + 1 ≤ w1.heap.size := by have := q1.size; simpa using this
    clear q1
    go_wp2_with fail
    go_ret
    exact ⟨by rw [He.out]; rfl, T⟩
end
section
open Go.RowKit
set_option linter.unusedVariables false
set_option linter.unusedSimpArgs false
theorem toPort_v (v : Value) (x : DPort) (w : World) {B : Nat} (h : RdT portRd w B v x) :
    Calls Try.prog 179 #[v] w fun e w' => e = .returned (.agg #[.int .i64 x.agent, .int .i64 x.slot]) ∧ Below w.heap.size w w' := by
  obtain ⟨cs, rfl, rfl⟩ := h
  go_enter Try.func179, Try.ntmps179
  go_wp2_with fail
  exact bodyPost_ret (v := .agg #[.int .i64 x.agent, .int .i64 x.slot]) (by simp [results, Try.results179, go_sem]) rfl ⟨rfl, (((Below.refl _ _).alloc (Nat.le_refl _) _).alloc (by simp) _).alloc (by simp; omega) _⟩
theorem info_PortS : (Try.prog.info? 53).map (fun i => (i.zero, i.size, i.bytes)) = some (some (.agg #[.int .i64 0, .int .i64 0]), 2, 16) := by kernel_rfl
set_option maxHeartbeats 1000000 in
theorem toPortS_v (v : Value) (xs : List DPort) (w : World) {B : Nat} (h : RdS portRd 2 w B v xs) (hB : B ≤ w.heap.size) (hs : xs.length ≤ 1048576) :
    Calls Try.prog 161 #[v] w fun e w' => Ret1 (fun v' => OwS portOw 2 w' v' xs w.heap.size w'.heap.size) e ∧ Below w.heap.size w w' := by
  obtain ⟨A, n, c, rfl, hx, hnc, hcm⟩ := h
  have lx := Lib.hid hx.len
  have hlen := hs
  have hn : n ≤ 1048576 := by have := lx.out; omega
  have hmk := run_make_sz 87 53 Try.underlying87 info_PortS n (by omega) (by omega)
  go_enter Try.func161, Try.ntmps161
  go_wp2
  clear hmk
  go_loopw [4] (fun i wr => ∃ k : Nat, k ≤ n ∧ i = .int .i64 k ∧ Below w.heap.size w wr ∧ w.heap.size + 1 ≤ wr.heap.size ∧ (∃ arr, Blk wr w.heap.size 53 arr ∧ Hid (arr.size = n * 2)) ∧ ∃ bs, ElAt portOw 2 wr w.heap.size 0 (xs.take k) bs ∧ bs.Nodup ∧ ∀ b ∈ bs, w.heap.size + 1 ≤ b ∧ b < wr.heap.size) (fun i _ => n - (intOf i).toNat)
  case atStart => exact ⟨0, by omega, rfl, (Below.refl _ _).alloc (Nat.le_refl _) _, by simp, ⟨_, Blk.new _ _ _, by simp [Hid, madeCells_size]⟩, [], rfl, List.nodup_nil, fun b hb => by simp at hb⟩
  case round =>
    obtain ⟨k, hk, rfl, hb, hzz, ⟨arr, BA, hasz⟩, bs, hel, hnd, hin⟩ := hrel
    by_cases hlt : k < n
    · obtain ⟨b, off, x, rfl, hlb, hxk, hc0, hc1⟩ := (hx.below portRd_ok (hb.mono hB)).port hlt
      have Hxk := Lib.hid hxk
      clear hxk
      go_wp2_with fail
      refine (toPort_v _ x _ (B := 0) ⟨_, rfl, rfl⟩).mono ?_
      rintro e w1 ⟨rfl, q1⟩
      obtain ⟨bl, HO, nd1, in1⟩ : ∃ bl, portOw w1 [.int .i64 x.agent, .int .i64 x.slot] x bl ∧ bl.Nodup ∧ ∀ b ∈ bl, wr.heap.size ≤ b ∧ b < w1.heap.size := ⟨[], ⟨rfl, rfl⟩, List.nodup_nil, fun b hb => by simp at hb⟩
      have BA := BA.below q1 (by omega)
      obtain ⟨z0, hz0⟩ := BA.some_ (i := k * 2) (by rw [hasz.out]; omega)
      obtain ⟨z1, hz1⟩ := BA.some_ (i := k * 2 + 1) (by rw [hasz.out]; omega)
      have fz := BA.frozen
      have zz := q1.size
      have Hel := Lib.hid (hel.keep portOw_ok (q1.block _ (by omega)) (fun k hk => q1.block k (hin k hk).2))
      clear hel
      have TB : ∀ y0 y1, Below w.heap.size w ((w1.setCell ⟨w.heap.size, k * 2, none⟩ y0).setCell ⟨w.heap.size, k * 2 + 1, none⟩ y1) := fun y0 y1 => (((hb.trans (q1.mono hb.size)).setCell (p := ⟨w.heap.size, k * 2, none⟩) (Nat.le_refl _) _).setCell (p := ⟨w.heap.size, k * 2 + 1, none⟩) (Nat.le_refl _) _)
      go_wp2_with fail
      go_roundw
      case rel =>
        refine ⟨k + 1, by omega, by go_num, TB _ _, by simp [World.setCell]; omega, ⟨_, ((BA.set_ (k * 2) _).set_ (k * 2 + 1) _), by simpa [Hid] using hasz⟩, bs ++ bl, ?_⟩
        rw [take_succ_some Hxk.out]
        have hlk : (xs.take k).length = k := by have := lx.out; simp; omega
        have h1 := ElAt.setRun portOw_ok (vs := [.int .i64 x.agent, .int .i64 x.slot]) (p := k * 2) Hel.out (fun hh => by have := hin _ hh; omega) (Or.inr (by rw [hlk]; omega))
        have hnn := nodup_two hnd nd1 hin in1 hzz zz
        refine ⟨ElAt.append h1 (ElAt.one (portOw_ok.keep (w' := setRun w1 w.heap.size (k * 2) [.int .i64 x.agent, .int .i64 x.slot]) (fun b hb => setRun_block (fun e => by have := in1 b hb; omega)) HO) ?_), hnn.1, fun b hb => by have := hnn.2 b hb; simp only [World.size_setCell]; exact this⟩
        rw [hlk, Nat.zero_add]
        exact setRun_csAt (vs := [.int .i64 x.agent, .int .i64 x.slot]) (fun j hj => by
          have hj : j < 2 := by simpa using hj
          match j, hj with
          | 0, _ => exact ⟨z0, hz0⟩
          | 1, _ => exact ⟨z1, hz1⟩) (fun j hj => fz _)
      case measure => simp [intOf]; omega
    · have hkn : k = n := by omega
      have e : xs.take k = xs := List.take_of_length_le (by have := lx.out; omega)
      rw [e] at hel
      have Hkn := Lib.hid hkn
      clear hkn e
      go_wp2
      go_ret
      exact ⟨⟨_, rfl, some ⟨w.heap.size, 0, none⟩, n, n, w.heap.size :: bs, rfl, ⟨lx.out, .inr ⟨_, _, bs, rfl, rfl, hel⟩⟩, List.nodup_cons.2 ⟨fun hh => by have := hin _ hh; omega, hnd⟩, fun b hb => by
        rcases List.mem_cons.1 hb with rfl | hb
        · omega
        · have := hin b hb; omega, Nat.le_refl _, by unfold maxLen; omega⟩, hb⟩
end
section
open Go.RowKit
set_option linter.unusedVariables false
set_option linter.unusedSimpArgs false
set_option maxHeartbeats 1000000 in
theorem toAgent_v (v : Value) (x : DAgent) (w : World) {B : Nat} (h : RdT agentRd w B v x) (hB : B ≤ w.heap.size) (hs : szAgent x ≤ 1048576) :
    Calls Try.prog 110 #[v] w fun e w' => Ret1 (fun v' => OwT agentOw w' v' x w.heap.size w'.heap.size) e ∧ Below w.heap.size w w' := by
  obtain ⟨cs, rfl, A1, n1, c1, A2, n2, c2, rfl, ⟨h1, r1⟩, ⟨h2, r2⟩⟩ := h
  unfold szAgent at hs
  have hb : ∀ o1 o2 o3, Below w.heap.size w (((w.alloc o1).alloc o2).alloc o3) := fun o1 o2 o3 => (((Below.refl _ _).alloc (Nat.le_refl _) _).alloc (by simp) _).alloc (by simp; omega) _
  go_enter Try.func110, Try.ntmps110
  go_wp2_with fail
  refine (toInt64S_v _ x.data _ (B := B) ⟨A1, n1, c1, rfl, h1.below intRd_ok ((hb _ _ _).mono hB), r1⟩ (Nat.le_trans hB (hb _ _ _).size) (by first | omega | (unfold lenOk; omega))).mono ?_
  rintro e w1 ⟨⟨v1, rfl, O1⟩, q1⟩
  have z1 : w.heap.size + 1 + 1 + 1 ≤ w1.heap.size := by have := q1.size; simpa using this
  have O1 := O1.wide (lo' := w.heap.size + 1 + 1 + 1) (hi' := w1.heap.size) (by simp) (Nat.le_refl _)
  obtain ⟨A1', m1, d1, bs1, rfl, ow1, nd1, in1, rr1⟩ := O1
  have T1 := (hb _ _ _).trans (q1.mono (hb _ _ _).size)
  have BB := blk3_0.below q1 (by simp <;> omega)
  have BR := blk3_1.below q1 (by simp <;> omega)
  have BO := blk3_2.below q1 (by simp <;> omega)
  clear q1
  have cB := BB.cell
  have cO := BO.cell
  have fO := BO.frozen
  go_wp2_with fail
  clear cB cO fO
  have T1 := T1.setCell (p := ⟨w.heap.size + 1 + 1, 3, none⟩) (by simp; omega) (.slice A1' m1 d1)
  have BB := BB.far (p := ⟨w.heap.size + 1 + 1, 3, none⟩) (by simp; omega) (.slice A1' m1 d1)
  have BR := BR.far (p := ⟨w.heap.size + 1 + 1, 3, none⟩) (by simp) (.slice A1' m1 d1)
  have BO := BO.set_ 3 (.slice A1' m1 d1)
  have ow1 := ow1.keep intOw_ok (w' := World.setCell w1 ⟨w.heap.size + 1 + 1, 3, none⟩ (.slice A1' m1 d1)) (fun k hk => Below.heap_setCell _ _ _ _ (by have := in1 k hk; simp; omega))
  refine (toPortS_v _ x.ports _ (B := B) ⟨A2, n2, c2, rfl, h2.below portRd_ok (T1.mono hB), r2⟩ (Nat.le_trans hB T1.size) (by first | omega | (unfold lenOk; omega))).mono ?_
  rintro e w2 ⟨⟨v2, rfl, O2⟩, q2⟩
  have z2 : w1.heap.size ≤ w2.heap.size := by have := q2.size; simpa using this
  have O2 := O2.wide (lo' := w1.heap.size) (hi' := w2.heap.size) (by simp) (Nat.le_refl _)
  obtain ⟨A2', m2, d2, bs2, rfl, ow2, nd2, in2, rr2⟩ := O2
  have T1 := T1.trans (q2.mono T1.size)
  have BB := BB.below q2 (by simp <;> omega)
  have BR := BR.below q2 (by simp <;> omega)
  have BO := BO.below q2 (by simp <;> omega)
  have ow1 := ow1.keep intOw_ok (w' := w2) (fun k hk => q2.block k (by have := in1 k hk; simp <;> omega))
  clear q2
  have cB := BB.cell
  have cO := BO.cell
  have fO := BO.frozen
  have cR := BR.cell
  have fR := BR.frozen
  go_wp2_with fail
  have hfin : ∀ w', OnlyIn (w.heap.size + 1) (w.heap.size + 1 + 1 + 1) w2 w' → (Ret1 (fun v' => OwT agentOw w' v' x w.heap.size w'.heap.size) (.returned (.agg #[.int .i64 x.kind, .int .i64 x.level, .int .i64 x.value, (.slice A1' m1 d1), (.slice A2' m2 d2)])) ∧ Below w.heap.size w w') := fun w' ho => by
    refine ⟨⟨_, rfl, [.int .i64 x.kind, .int .i64 x.level, .int .i64 x.value, (.slice A1' m1 d1), (.slice A2' m2 d2)], bs1 ++ bs2, rfl, ⟨A1', m1, d1, A2', m2, d2, bs1, bs2, rfl, ⟨ow1.keep intOw_ok (fun k hk => ho.block k (.inr (by have := in1 k hk; omega))), rr1⟩, ⟨ow2.keep portOw_ok (fun k hk => ho.block k (.inr (by have := in2 k hk; omega))), rr2⟩, rfl⟩, ?_⟩, T1.trans (ho.below.mono (by omega))⟩
    have h1 : bs1.Nodup ∧ ∀ b ∈ bs1, w.heap.size ≤ b ∧ b < w1.heap.size := ⟨nd1, fun b hb => by have := in1 b hb; omega⟩
    have h2 := nodup_two (lo := w.heap.size) (mid := w1.heap.size) (hi := w2.heap.size) h1.1 nd2 (fun b hb => by have := h1.2 b hb; omega) in2 (by omega) (by omega)
    exact ⟨h2.1, fun b hb => by have := h2.2 b hb; have := ho.size; omega⟩
  refine bodyPost_ret (v := .agg #[.int .i64 x.kind, .int .i64 x.level, .int .i64 x.value, (.slice A1' m1 d1), (.slice A2' m2 d2)]) (by simp [results, Try.results110, go_sem, cR]) rfl (hfin _ ?_)
  repeat (first | (with_reducible exact OnlyIn.refl _ _ _) | (with_reducible refine OnlyIn.setCell ?_ ⟨by simp, by simp⟩ _))
theorem szAgentS_el {xs : List DAgent} {k : Nat} {x : DAgent} (h : xs[k]? = some x) : szAgent x ≤ szAgentS xs := by
  have h1 := szAgentS_take h
  have h2 := szAgentS_le xs (k + 1)
  unfold szAgentS
  omega
theorem info_AgentS : (Try.prog.info? 89).map (fun i => (i.zero, i.size, i.bytes)) = some (some (.agg #[.int .i64 0, .int .i64 0, .int .i64 0, .slice none 0 0, .slice none 0 0]), 5, 72) := by kernel_rfl
set_option maxHeartbeats 1000000 in
theorem toAgentS_v (v : Value) (xs : List DAgent) (w : World) {B : Nat} (h : RdS agentRd 5 w B v xs) (hB : B ≤ w.heap.size) (hs : szAgentS xs ≤ 1048576) :
    Calls Try.prog 62 #[v] w fun e w' => Ret1 (fun v' => OwS agentOw 5 w' v' xs w.heap.size w'.heap.size) e ∧ Below w.heap.size w w' := by
  obtain ⟨A, n, c, rfl, hx, hnc, hcm⟩ := h
  have lx := Lib.hid hx.len
  have hlen : xs.length ≤ 1048576 := by unfold szAgentS at hs; omega
  have hn : n ≤ 1048576 := by have := lx.out; omega
  have hmk := run_make_sz 28 89 Try.underlying28 info_AgentS n (by omega) (by omega)
  go_enter Try.func62, Try.ntmps62
  go_wp2
  clear hmk
  go_loopw [4] (fun i wr => ∃ k : Nat, k ≤ n ∧ i = .int .i64 k ∧ Below w.heap.size w wr ∧ w.heap.size + 1 ≤ wr.heap.size ∧ (∃ arr, Blk wr w.heap.size 89 arr ∧ Hid (arr.size = n * 5)) ∧ ∃ bs, ElAt agentOw 5 wr w.heap.size 0 (xs.take k) bs ∧ bs.Nodup ∧ ∀ b ∈ bs, w.heap.size + 1 ≤ b ∧ b < wr.heap.size) (fun i _ => n - (intOf i).toNat)
  case atStart => exact ⟨0, by omega, rfl, (Below.refl _ _).alloc (Nat.le_refl _) _, by simp, ⟨_, Blk.new _ _ _, by simp [Hid, madeCells_size]⟩, [], rfl, List.nodup_nil, fun b hb => by simp at hb⟩
  case round =>
    obtain ⟨k, hk, rfl, hb, hzz, ⟨arr, BA, hasz⟩, bs, hel, hnd, hin⟩ := hrel
    by_cases hlt : k < n
    · obtain ⟨b, off, x, A1, n1, c1, A2, n2, c2, rfl, hlb, hxk, hc0, hc1, hc2, hc3, hc4, ⟨h1, r1⟩, ⟨h2, r2⟩⟩ := (hx.below agentRd_ok (hb.mono hB)).agent hlt
      have Hxk := Lib.hid hxk
      clear hxk
      go_wp2_with fail
      refine (toAgent_v _ x _ (B := B) ⟨_, rfl, A1, n1, c1, A2, n2, c2, rfl, ⟨h1, r1⟩, ⟨h2, r2⟩⟩ (Nat.le_trans hB hb.size) (by have := szAgentS_el Hxk.out; omega)).mono ?_
      rintro e w1 ⟨⟨v1, rfl, O1⟩, q1⟩
      obtain ⟨cs1, bl, rfl, HO, nd1, in1⟩ := O1
      have HO' := HO
      obtain ⟨A1', m1, d1, A2', m2, d2, b1, b2, rfl, _⟩ := HO'
      have BA := BA.below q1 (by omega)
      obtain ⟨z0, hz0⟩ := BA.some_ (i := k * 5) (by rw [hasz.out]; omega)
      obtain ⟨z1, hz1⟩ := BA.some_ (i := k * 5 + 1) (by rw [hasz.out]; omega)
      obtain ⟨z2, hz2⟩ := BA.some_ (i := k * 5 + 2) (by rw [hasz.out]; omega)
      obtain ⟨z3, hz3⟩ := BA.some_ (i := k * 5 + 3) (by rw [hasz.out]; omega)
      obtain ⟨z4, hz4⟩ := BA.some_ (i := k * 5 + 4) (by rw [hasz.out]; omega)
      have fz := BA.frozen
      have zz := q1.size
      have Hel := Lib.hid (hel.keep agentOw_ok (q1.block _ (by omega)) (fun k hk => q1.block k (hin k hk).2))
      clear hel
      have TB : ∀ y0 y1 y2 y3 y4, Below w.heap.size w (((((w1.setCell ⟨w.heap.size, k * 5, none⟩ y0).setCell ⟨w.heap.size, k * 5 + 1, none⟩ y1).setCell ⟨w.heap.size, k * 5 + 2, none⟩ y2).setCell ⟨w.heap.size, k * 5 + 3, none⟩ y3).setCell ⟨w.heap.size, k * 5 + 4, none⟩ y4) := fun y0 y1 y2 y3 y4 => ((((((hb.trans (q1.mono hb.size)).setCell (p := ⟨w.heap.size, k * 5, none⟩) (Nat.le_refl _) _).setCell (p := ⟨w.heap.size, k * 5 + 1, none⟩) (Nat.le_refl _) _).setCell (p := ⟨w.heap.size, k * 5 + 2, none⟩) (Nat.le_refl _) _).setCell (p := ⟨w.heap.size, k * 5 + 3, none⟩) (Nat.le_refl _) _).setCell (p := ⟨w.heap.size, k * 5 + 4, none⟩) (Nat.le_refl _) _)
      go_wp2_with fail
      go_roundw
      case rel =>
        refine ⟨k + 1, by omega, by go_num, TB _ _ _ _ _, by simp [World.setCell]; omega, ⟨_, (((((BA.set_ (k * 5) _).set_ (k * 5 + 1) _).set_ (k * 5 + 2) _).set_ (k * 5 + 3) _).set_ (k * 5 + 4) _), by simpa [Hid] using hasz⟩, bs ++ bl, ?_⟩
        rw [take_succ_some Hxk.out]
        have hlk : (xs.take k).length = k := by have := lx.out; simp; omega
        have h1 := ElAt.setRun agentOw_ok (vs := [.int .i64 x.kind, .int .i64 x.level, .int .i64 x.value, .slice A1' m1 d1, .slice A2' m2 d2]) (p := k * 5) Hel.out (fun hh => by have := hin _ hh; omega) (Or.inr (by rw [hlk]; omega))
        have hnn := nodup_two hnd nd1 hin in1 hzz zz
        refine ⟨ElAt.append h1 (ElAt.one (agentOw_ok.keep (w' := setRun w1 w.heap.size (k * 5) [.int .i64 x.kind, .int .i64 x.level, .int .i64 x.value, .slice A1' m1 d1, .slice A2' m2 d2]) (fun b hb => setRun_block (fun e => by have := in1 b hb; omega)) HO) ?_), hnn.1, fun b hb => by have := hnn.2 b hb; simp only [World.size_setCell]; exact this⟩
        rw [hlk, Nat.zero_add]
        exact setRun_csAt (vs := [.int .i64 x.kind, .int .i64 x.level, .int .i64 x.value, .slice A1' m1 d1, .slice A2' m2 d2]) (fun j hj => by
          have hj : j < 5 := by simpa using hj
          match j, hj with
          | 0, _ => exact ⟨z0, hz0⟩
          | 1, _ => exact ⟨z1, hz1⟩
          | 2, _ => exact ⟨z2, hz2⟩
          | 3, _ => exact ⟨z3, hz3⟩
          | 4, _ => exact ⟨z4, hz4⟩) (fun j hj => fz _)
      case measure => simp [intOf]; omega
    · have hkn : k = n := by omega
      have e : xs.take k = xs := List.take_of_length_le (by have := lx.out; omega)
      rw [e] at hel
      have Hkn := Lib.hid hkn
      clear hkn e
      go_wp2
      go_ret
      exact ⟨⟨_, rfl, some ⟨w.heap.size, 0, none⟩, n, n, w.heap.size :: bs, rfl, ⟨lx.out, .inr ⟨_, _, bs, rfl, rfl, hel⟩⟩, List.nodup_cons.2 ⟨fun hh => by have := hin _ hh; omega, hnd⟩, fun b hb => by
        rcases List.mem_cons.1 hb with rfl | hb
        · omega
        · have := hin b hb; omega, Nat.le_refl _, by unfold maxLen; omega⟩, hb⟩
set_option maxHeartbeats 1000000 in
theorem toNet_v (v : Value) (x : DNet) (w : World) {B : Nat} (h : RdT netRd w B v x) (hB : B ≤ w.heap.size) (hs : szNet x ≤ 1048576) :
    Calls Try.prog 17 #[v] w fun e w' => Ret1 (fun v' => OwT netOw w' v' x w.heap.size w'.heap.size) e ∧ Below w.heap.size w w' := by
  obtain ⟨cs, rfl, A1, n1, c1, rfl, ⟨h1, r1⟩⟩ := h
  unfold szNet at hs
  have hb : ∀ o1 o2 o3, Below w.heap.size w (((w.alloc o1).alloc o2).alloc o3) := fun o1 o2 o3 => (((Below.refl _ _).alloc (Nat.le_refl _) _).alloc (by simp) _).alloc (by simp; omega) _
  go_enter Try.func17, Try.ntmps17
  go_wp2_with fail
  refine (toAgentS_v _ x.agents _ (B := B) ⟨A1, n1, c1, rfl, h1.below agentRd_ok ((hb _ _ _).mono hB), r1⟩ (Nat.le_trans hB (hb _ _ _).size) (by first | omega | (unfold lenOk; omega))).mono ?_
  rintro e w1 ⟨⟨v1, rfl, O1⟩, q1⟩
  have z1 : w.heap.size + 1 + 1 + 1 ≤ w1.heap.size := by have := q1.size; simpa using this
  have O1 := O1.wide (lo' := w.heap.size + 1 + 1 + 1) (hi' := w1.heap.size) (by simp) (Nat.le_refl _)
  obtain ⟨A1', m1, d1, bs1, rfl, ow1, nd1, in1, rr1⟩ := O1
  have T1 := (hb _ _ _).trans (q1.mono (hb _ _ _).size)
  have BB := blk3_0.below q1 (by simp <;> omega)
  have BR := blk3_1.below q1 (by simp <;> omega)
  have BO := blk3_2.below q1 (by simp <;> omega)
  clear q1
  have cB := BB.cell
  have cO := BO.cell
  have fO := BO.frozen
  have cR := BR.cell
  have fR := BR.frozen
  go_wp2_with fail
  have hfin : ∀ w', OnlyIn (w.heap.size + 1) (w.heap.size + 1 + 1 + 1) w1 w' → (Ret1 (fun v' => OwT netOw w' v' x w.heap.size w'.heap.size) (.returned (.agg #[(.slice A1' m1 d1)])) ∧ Below w.heap.size w w') := fun w' ho => by
    refine ⟨⟨_, rfl, [(.slice A1' m1 d1)], bs1, rfl, ⟨A1', m1, d1, bs1, rfl, ⟨ow1.keep agentOw_ok (fun k hk => ho.block k (.inr (by have := in1 k hk; omega))), rr1⟩, rfl⟩, ?_⟩, T1.trans (ho.below.mono (by omega))⟩
    have h1 : bs1.Nodup ∧ ∀ b ∈ bs1, w.heap.size ≤ b ∧ b < w1.heap.size := ⟨nd1, fun b hb => by have := in1 b hb; omega⟩
    exact ⟨h1.1, fun b hb => by have := h1.2 b hb; have := ho.size; omega⟩
  refine bodyPost_ret (v := .agg #[(.slice A1' m1 d1)]) (by simp [results, Try.results17, go_sem, cR]) rfl (hfin _ ?_)
  repeat (first | (with_reducible exact OnlyIn.refl _ _ _) | (with_reducible refine OnlyIn.setCell ?_ ⟨by simp, by simp⟩ _))
end
section
open Go.RowKit
set_option linter.unusedVariables false
set_option linter.unusedSimpArgs false
set_option maxHeartbeats 1000000 in
theorem eqPort_v (v u : Value) (x y : DPort) (w : World) {B B' : Nat} (h : RdT portRd w B v x) (h' : RdT portRd w B' u y) (hB : B ≤ w.heap.size) (hB' : B' ≤ w.heap.size) :
    Calls Try.prog 93 #[v, u] w fun e w' => e = .returned (.bool (decide (x = y))) ∧ Below w.heap.size w w' := by
  obtain ⟨cs, rfl, rfl⟩ := h
  obtain ⟨cs, rfl, rfl⟩ := h'
  have hb : ∀ o1 o2, Below w.heap.size w ((w.alloc o1).alloc o2) := fun o1 o2 => ((Below.refl _ _).alloc (Nat.le_refl _) _).alloc (by simp) _
  by_cases e0 : x.agent = y.agent
  · have f0 : (x.agent != y.agent) = false := by simp [e0]
    by_cases e1 : x.slot = y.slot
    · have f1 : (x.slot != y.slot) = false := by simp [e1]
      have He : Hid (decide (x = y) = true) := decide_eq_true (by cases x; cases y; simp_all)
      clear e0 e1
      go_enter Try.func93, Try.ntmps93
      go_wp2_with fail
      go_ret
      exact ⟨by rw [He.out]; rfl, hb _ _⟩
    · have f1 : (x.slot != y.slot) = true := by simp [e1]
      have He : Hid (decide (x = y) = false) := decide_eq_false (by intro exy; exact e1 (by rw [exy]))
      clear e0 e1
      go_enter Try.func93, Try.ntmps93
      go_wp2_with fail
      go_ret
      exact ⟨by rw [He.out]; rfl, hb _ _⟩
  · have f0 : (x.agent != y.agent) = true := by simp [e0]
    have He : Hid (decide (x = y) = false) := decide_eq_false (by intro exy; exact e0 (by rw [exy]))
    clear e0
    go_enter Try.func93, Try.ntmps93
    go_wp2_with fail
    go_ret
    exact ⟨by rw [He.out]; rfl, hb _ _⟩
set_option maxHeartbeats 1000000 in
theorem eqPortS_v (v u : Value) (xs ys : List DPort) (w : World) {B B' : Nat} (h : RdS portRd 2 w B v xs) (h' : RdS portRd 2 w B' u ys) (hB : B ≤ w.heap.size) (hB' : B' ≤ w.heap.size) :
    Calls Try.prog 164 #[v, u] w fun e w' => e = .returned (.bool (eqL xs ys)) ∧ Below w.heap.size w w' := by
  obtain ⟨A, n, c, rfl, hx, hnc, hcm⟩ := h
  obtain ⟨C, m, d, rfl, hy, hmd, hdm⟩ := h'
  unfold maxLen at hcm hdm
  have lx := Lib.hid hx.len
  have ly := Lib.hid hy.len
  have hr := Below.refl w.heap.size w
  by_cases hnm : n = m
  · subst hnm
    go_enter Try.func164, Try.ntmps164
    go_wp2
    go_loopw [5] (fun i wr => ∃ k : Nat, k ≤ n ∧ i = .int .i64 k ∧ Hid (xs.take k = ys.take k) ∧ Below w.heap.size w wr) (fun i _ => n - (intOf i).toNat)
    case atStart => exact ⟨0, by omega, rfl, rfl, hr⟩
    case round =>
      obtain ⟨k, hk, rfl, ht, hq⟩ := hrel
      by_cases hlt : k < n
      · have hx' := hx.below portRd_ok (hq.mono hB)
        have hy' := hy.below portRd_ok (hq.mono hB')
        obtain ⟨b, off, x, rfl, hb, hxk, hc0, hc1⟩ := hx'.port hlt
        obtain ⟨b', off', y, rfl, hb', hyk, hc0', hc1'⟩ := hy'.port hlt
        have Hxk := Lib.hid hxk
        have Hyk := Lib.hid hyk
        clear hxk hyk hx' hy'
        have hzB : B ≤ wr.drew.heap.size := Nat.le_trans hB hq.size
        have hzB' : B' ≤ wr.drew.heap.size := Nat.le_trans hB' hq.size
        by_cases hxy : x = y
        · have hf : decide (x = y) = true := decide_eq_true hxy
          have Hxy := Lib.hid hxy
          clear hxy
          go_wp2_with fail
          go_region_with (go_at_call 93; refine (eqPort_v _ _ x y _ (B := 0) (B' := 0) ⟨_, rfl, rfl⟩ ⟨_, rfl, rfl⟩ (Nat.zero_le _) (Nat.zero_le _)).mono ?_; rintro e w1 ⟨rfl, hq1⟩)
          all_goals
            go_wp2_with fail
            go_roundw
            case rel => exact ⟨k + 1, by omega, by go_num, eqL_step Hxk.out Hyk.out ht.out Hxy.out, hq.drew.trans (hq1.mono hq.size)⟩
            case measure => simp [intOf]; omega
        · have hf : decide (x = y) = false := decide_eq_false hxy
          have Hno := Lib.hid (eqL_no Hxk.out Hyk.out hxy)
          clear hxy
          go_wp2_with fail
          go_region_with (go_at_call 93; refine (eqPort_v _ _ x y _ (B := 0) (B' := 0) ⟨_, rfl, rfl⟩ ⟨_, rfl, rfl⟩ (Nat.zero_le _) (Nat.zero_le _)).mono ?_; rintro e w1 ⟨rfl, hq1⟩)
          all_goals
            go_wp2_with fail
            go_ret
            exact ⟨by rw [Hno.out]; rfl, hq.drew.trans (hq1.mono hq.size)⟩
      · have Hyes := Lib.hid (eqL_yes (k := k) ht.out (by have := lx.out; omega) (by have := ly.out; omega))
        go_wp2
        go_ret
        exact ⟨by rw [Hyes.out]; rfl, hq⟩
  · have Hno := Lib.hid (eqL_len (xs := xs) (ys := ys) (by have := lx.out; have := ly.out; omega))
    have hf : ((n : Int) != (m : Int)) = true := by simp; omega
    go_enter Try.func164, Try.ntmps164
    go_wp2
    go_ret
    exact ⟨by rw [Hno.out]; rfl, hr⟩
end
section
open Go.RowKit
set_option linter.unusedVariables false
set_option linter.unusedSimpArgs false
set_option maxHeartbeats 1000000 in
theorem eqAgent_v (v u : Value) (x y : DAgent) (w : World) {B B' : Nat} (h : RdT agentRd w B v x) (h' : RdT agentRd w B' u y) (hB : B ≤ w.heap.size) (hB' : B' ≤ w.heap.size) :
    Calls Try.prog 112 #[v, u] w fun e w' => e = .returned (.bool (decide (x = y))) ∧ Below w.heap.size w w' := by
  obtain ⟨cs, rfl, A1, n1, c1, A2, n2, c2, rfl, ⟨h1, r1⟩, ⟨h2, r2⟩⟩ := h
  obtain ⟨cs, rfl, A1', n1', c1', A2', n2', c2', rfl, ⟨h1', r1'⟩, ⟨h2', r2'⟩⟩ := h'
  have hb : ∀ o1 o2, Below w.heap.size w ((w.alloc o1).alloc o2) := fun o1 o2 => ((Below.refl _ _).alloc (Nat.le_refl _) _).alloc (by simp) _
  by_cases e0 : x.kind = y.kind
  · have f0 : (x.kind != y.kind) = false := by simp [e0]
    by_cases e1 : x.level = y.level
    · have f1 : (x.level != y.level) = false := by simp [e1]
      by_cases e2 : x.value = y.value
      · have f2 : (x.value != y.value) = false := by simp [e2]
        by_cases e3 : x.data = y.data
        · have f3 : eqL x.data y.data = true := decide_eq_true e3
          by_cases e4 : x.ports = y.ports
          · have f4 : eqL x.ports y.ports = true := decide_eq_true e4
            have He : Hid (decide (x = y) = true) := decide_eq_true (by cases x; cases y; simp_all)
            clear e0 e1 e2 e3 e4
            go_enter Try.func112, Try.ntmps112
            go_wp2_with fail
            refine (eqInt64S_v _ _ x.data y.data _ (B := B) (B' := B') ⟨A1, n1, c1, rfl, h1.below intRd_ok ((hb _ _).mono hB), r1⟩ ⟨A1', n1', c1', rfl, h1'.below intRd_ok ((hb _ _).mono hB'), r1'⟩ (Nat.le_trans hB (hb _ _).size) (Nat.le_trans hB' (hb _ _).size)).mono ?_
            rintro e w1 ⟨rfl, q1⟩
            have T := (hb _ _).trans (q1.mono (hb _ _).size)
            have B1 := blk2_0.below q1 (by simp <;> omega)
            have B2 := blk2_1.below q1 (by simp <;> omega)
            have z1 : w.heap.size + 1 + 1 ≤ w1.heap.size := by have := q1.size; simpa using this
            clear q1
            have g1 := B1.cell
            have g2 := B2.cell
            go_wp2_with fail
            clear g1 g2
            refine (eqPortS_v _ _ x.ports y.ports _ (B := B) (B' := B') ⟨A2, n2, c2, rfl, h2.below portRd_ok ((T).mono hB), r2⟩ ⟨A2', n2', c2', rfl, h2'.below portRd_ok ((T).mono hB'), r2'⟩ (Nat.le_trans hB (T).size) (Nat.le_trans hB' (T).size)).mono ?_
            rintro e w2 ⟨rfl, q2⟩
            have T := T.trans (q2.mono T.size)
            have B1 := B1.below q2 (by omega)
            have B2 := B2.below q2 (by omega)
            have z2 := Nat.le_trans z1 q2.size
            clear q2
            go_wp2_with fail
            go_ret
            exact ⟨by rw [He.out]; rfl, T⟩
          · have f4 : eqL x.ports y.ports = false := decide_eq_false e4
            have He : Hid (decide (x = y) = false) := decide_eq_false (by intro exy; exact e4 (by rw [exy]))
            clear e0 e1 e2 e3 e4
            go_enter Try.func112, Try.ntmps112
            go_wp2_with fail
            refine (eqInt64S_v _ _ x.data y.data _ (B := B) (B' := B') ⟨A1, n1, c1, rfl, h1.below intRd_ok ((hb _ _).mono hB), r1⟩ ⟨A1', n1', c1', rfl, h1'.below intRd_ok ((hb _ _).mono hB'), r1'⟩ (Nat.le_trans hB (hb _ _).size) (Nat.le_trans hB' (hb _ _).size)).mono ?_
            rintro e w1 ⟨rfl, q1⟩
            have T := (hb _ _).trans (q1.mono (hb _ _).size)
            have B1 := blk2_0.below q1 (by simp <;> omega)
            have B2 := blk2_1.below q1 (by simp <;> omega)
            have z1 : w.heap.size + 1 + 1 ≤ w1.heap.size := by have := q1.size; simpa using this
            clear q1
            have g1 := B1.cell
            have g2 := B2.cell
            go_wp2_with fail
            clear g1 g2
            refine (eqPortS_v _ _ x.ports y.ports _ (B := B) (B' := B') ⟨A2, n2, c2, rfl, h2.below portRd_ok ((T).mono hB), r2⟩ ⟨A2', n2', c2', rfl, h2'.below portRd_ok ((T).mono hB'), r2'⟩ (Nat.le_trans hB (T).size) (Nat.le_trans hB' (T).size)).mono ?_
            rintro e w2 ⟨rfl, q2⟩
            have T := T.trans (q2.mono T.size)
            have B1 := B1.below q2 (by omega)
            have B2 := B2.below q2 (by omega)
            have z2 := Nat.le_trans z1 q2.size
            clear q2
            go_wp2_with fail
            go_ret
            exact ⟨by rw [He.out]; rfl, T⟩
        · have f3 : eqL x.data y.data = false := decide_eq_false e3
          have He : Hid (decide (x = y) = false) := decide_eq_false (by intro exy; exact e3 (by rw [exy]))
          clear e0 e1 e2 e3
          go_enter Try.func112, Try.ntmps112
          go_wp2_with fail
          refine (eqInt64S_v _ _ x.data y.data _ (B := B) (B' := B') ⟨A1, n1, c1, rfl, h1.below intRd_ok ((hb _ _).mono hB), r1⟩ ⟨A1', n1', c1', rfl, h1'.below intRd_ok ((hb _ _).mono hB'), r1'⟩ (Nat.le_trans hB (hb _ _).size) (Nat.le_trans hB' (hb _ _).size)).mono ?_
          rintro e w1 ⟨rfl, q1⟩
          have T := (hb _ _).trans (q1.mono (hb _ _).size)
          have B1 := blk2_0.below q1 (by simp <;> omega)
          have B2 := blk2_1.below q1 (by simp <;> omega)
          have z1 : w.heap.size + 1 + 1 ≤ w1.heap.size := by have := q1.size; simpa using this
          clear q1
          go_wp2_with fail
          go_ret
          exact ⟨by rw [He.out]; rfl, T⟩
      · have f2 : (x.value != y.value) = true := by simp [e2]
        have He : Hid (decide (x = y) = false) := decide_eq_false (by intro exy; exact e2 (by rw [exy]))
        clear e0 e1 e2
        go_enter Try.func112, Try.ntmps112
        go_wp2_with fail
        go_ret
        exact ⟨by rw [He.out]; rfl, hb _ _⟩
    · have f1 : (x.level != y.level) = true := by simp [e1]
      have He : Hid (decide (x = y) = false) := decide_eq_false (by intro exy; exact e1 (by rw [exy]))
      clear e0 e1
      go_enter Try.func112, Try.ntmps112
      go_wp2_with fail
      go_ret
      exact ⟨by rw [He.out]; rfl, hb _ _⟩
  · have f0 : (x.kind != y.kind) = true := by simp [e0]
    have He : Hid (decide (x = y) = false) := decide_eq_false (by intro exy; exact e0 (by rw [exy]))
    clear e0
    go_enter Try.func112, Try.ntmps112
    go_wp2_with fail
    go_ret
    exact ⟨by rw [He.out]; rfl, hb _ _⟩
set_option maxHeartbeats 1000000 in
theorem eqAgentS_v (v u : Value) (xs ys : List DAgent) (w : World) {B B' : Nat} (h : RdS agentRd 5 w B v xs) (h' : RdS agentRd 5 w B' u ys) (hB : B ≤ w.heap.size) (hB' : B' ≤ w.heap.size) :
    Calls Try.prog 65 #[v, u] w fun e w' => e = .returned (.bool (eqL xs ys)) ∧ Below w.heap.size w w' := by
  obtain ⟨A, n, c, rfl, hx, hnc, hcm⟩ := h
  obtain ⟨C, m, d, rfl, hy, hmd, hdm⟩ := h'
  unfold maxLen at hcm hdm
  have lx := Lib.hid hx.len
  have ly := Lib.hid hy.len
  have hr := Below.refl w.heap.size w
  by_cases hnm : n = m
  · subst hnm
    go_enter Try.func65, Try.ntmps65
    go_wp2
    go_loopw [5] (fun i wr => ∃ k : Nat, k ≤ n ∧ i = .int .i64 k ∧ Hid (xs.take k = ys.take k) ∧ Below w.heap.size w wr) (fun i _ => n - (intOf i).toNat)
    case atStart => exact ⟨0, by omega, rfl, rfl, hr⟩
    case round =>
      obtain ⟨k, hk, rfl, ht, hq⟩ := hrel
      by_cases hlt : k < n
      · have hx' := hx.below agentRd_ok (hq.mono hB)
        have hy' := hy.below agentRd_ok (hq.mono hB')
        obtain ⟨b, off, x, A1, n1, c1, A2, n2, c2, rfl, hb, hxk, hc0, hc1, hc2, hc3, hc4, ⟨h1, r1⟩, ⟨h2, r2⟩⟩ := hx'.agent hlt
        obtain ⟨b', off', y, A1', n1', c1', A2', n2', c2', rfl, hb', hyk, hc0', hc1', hc2', hc3', hc4', ⟨h1', r1'⟩, ⟨h2', r2'⟩⟩ := hy'.agent hlt
        have Hxk := Lib.hid hxk
        have Hyk := Lib.hid hyk
        clear hxk hyk hx' hy'
        have hzB : B ≤ wr.drew.heap.size := Nat.le_trans hB hq.size
        have hzB' : B' ≤ wr.drew.heap.size := Nat.le_trans hB' hq.size
        by_cases hxy : x = y
        · have hf : decide (x = y) = true := decide_eq_true hxy
          have Hxy := Lib.hid hxy
          clear hxy
          go_wp2_with fail
          go_region_with (go_at_call 112; refine (eqAgent_v _ _ x y _ (B := B) (B' := B') ⟨_, rfl, A1, n1, c1, A2, n2, c2, rfl, ⟨h1.drew intRd_ok, r1⟩, ⟨h2.drew portRd_ok, r2⟩⟩ ⟨_, rfl, A1', n1', c1', A2', n2', c2', rfl, ⟨h1'.drew intRd_ok, r1'⟩, ⟨h2'.drew portRd_ok, r2'⟩⟩ hzB hzB').mono ?_; rintro e w1 ⟨rfl, hq1⟩)
          all_goals
            go_wp2_with fail
            go_roundw
            case rel => exact ⟨k + 1, by omega, by go_num, eqL_step Hxk.out Hyk.out ht.out Hxy.out, hq.drew.trans (hq1.mono hq.size)⟩
            case measure => simp [intOf]; omega
        · have hf : decide (x = y) = false := decide_eq_false hxy
          have Hno := Lib.hid (eqL_no Hxk.out Hyk.out hxy)
          clear hxy
          go_wp2_with fail
          go_region_with (go_at_call 112; refine (eqAgent_v _ _ x y _ (B := B) (B' := B') ⟨_, rfl, A1, n1, c1, A2, n2, c2, rfl, ⟨h1.drew intRd_ok, r1⟩, ⟨h2.drew portRd_ok, r2⟩⟩ ⟨_, rfl, A1', n1', c1', A2', n2', c2', rfl, ⟨h1'.drew intRd_ok, r1'⟩, ⟨h2'.drew portRd_ok, r2'⟩⟩ hzB hzB').mono ?_; rintro e w1 ⟨rfl, hq1⟩)
          all_goals
            go_wp2_with fail
            go_ret
            exact ⟨by rw [Hno.out]; rfl, hq.drew.trans (hq1.mono hq.size)⟩
      · have Hyes := Lib.hid (eqL_yes (k := k) ht.out (by have := lx.out; omega) (by have := ly.out; omega))
        go_wp2
        go_ret
        exact ⟨by rw [Hyes.out]; rfl, hq⟩
  · have Hno := Lib.hid (eqL_len (xs := xs) (ys := ys) (by have := lx.out; have := ly.out; omega))
    have hf : ((n : Int) != (m : Int)) = true := by simp; omega
    go_enter Try.func65, Try.ntmps65
    go_wp2
    go_ret
    exact ⟨by rw [Hno.out]; rfl, hr⟩
set_option maxHeartbeats 1000000 in
theorem eqNet_v (v u : Value) (x y : DNet) (w : World) {B B' : Nat} (h : RdT netRd w B v x) (h' : RdT netRd w B' u y) (hB : B ≤ w.heap.size) (hB' : B' ≤ w.heap.size) :
    Calls Try.prog 19 #[v, u] w fun e w' => e = .returned (.bool (decide (x = y))) ∧ Below w.heap.size w w' := by
  obtain ⟨cs, rfl, A1, n1, c1, rfl, ⟨h1, r1⟩⟩ := h
  obtain ⟨cs, rfl, A1', n1', c1', rfl, ⟨h1', r1'⟩⟩ := h'
  have hb : ∀ o1 o2, Below w.heap.size w ((w.alloc o1).alloc o2) := fun o1 o2 => ((Below.refl _ _).alloc (Nat.le_refl _) _).alloc (by simp) _
  by_cases e0 : x.agents = y.agents
  · have f0 : eqL x.agents y.agents = true := decide_eq_true e0
    have He : Hid (decide (x = y) = true) := decide_eq_true (by cases x; cases y; simp_all)
    clear e0
    go_enter Try.func19, Try.ntmps19
    go_wp2_with fail
    refine (eqAgentS_v _ _ x.agents y.agents _ (B := B) (B' := B') ⟨A1, n1, c1, rfl, h1.below agentRd_ok ((hb _ _).mono hB), r1⟩ ⟨A1', n1', c1', rfl, h1'.below agentRd_ok ((hb _ _).mono hB'), r1'⟩ (Nat.le_trans hB (hb _ _).size) (Nat.le_trans hB' (hb _ _).size)).mono ?_
    rintro e w1 ⟨rfl, q1⟩
    have T := (hb _ _).trans (q1.mono (hb _ _).size)
    have B1 := blk2_0.below q1 (by simp <;> omega)
    have B2 := blk2_1.below q1 (by simp <;> omega)
    have z1 : w.heap.size + 1 + 1 ≤ w1.heap.size := by have := q1.size; simpa using this
    clear q1
    go_wp2_with fail
    go_ret
    exact ⟨by rw [He.out]; rfl, T⟩
  · have f0 : eqL x.agents y.agents = false := decide_eq_false e0
    have He : Hid (decide (x = y) = false) := decide_eq_false (by intro exy; exact e0 (by rw [exy]))
    clear e0
    go_enter Try.func19, Try.ntmps19
    go_wp2_with fail
    refine (eqAgentS_v _ _ x.agents y.agents _ (B := B) (B' := B') ⟨A1, n1, c1, rfl, h1.below agentRd_ok ((hb _ _).mono hB), r1⟩ ⟨A1', n1', c1', rfl, h1'.below agentRd_ok ((hb _ _).mono hB'), r1'⟩ (Nat.le_trans hB (hb _ _).size) (Nat.le_trans hB' (hb _ _).size)).mono ?_
    rintro e w1 ⟨rfl, q1⟩
    have T := (hb _ _).trans (q1.mono (hb _ _).size)
    have B1 := blk2_0.below q1 (by simp <;> omega)
    have B2 := blk2_1.below q1 (by simp <;> omega)
    have z1 : w.heap.size + 1 + 1 ≤ w1.heap.size := by have := q1.size; simpa using this
    clear q1
    go_wp2_with fail
    go_ret
    exact ⟨by rw [He.out]; rfl, T⟩
end
end Go.Proofs.Ytampijkiidjcmaa
