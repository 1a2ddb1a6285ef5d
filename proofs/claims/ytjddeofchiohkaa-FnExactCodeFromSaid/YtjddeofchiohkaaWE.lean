/- Models and contracts of functions, printed by wg.py. -/
import Derived.Test.YtjddeofchiohkaaWD
import Derived.Test.YtjddeofchiohkaaWkM
import Derived.Test.YtjddeofchiohkaaRows
namespace Go.Proofs.Ytjddeofchiohkaa
open Go.RowKit
set_option linter.unusedVariables false
set_option linter.unusedSimpArgs false
set_option maxRecDepth 100000

def m_spec_l17Walk_A1 (xs32 : List Int) (z33 : DPair) : Option ((List Int) × DPair × Int) :=
  some (xs32, (⟨0, 0⟩ : DPair), 5)
def m_spec_l17Walk_B1 (d0 : DNet) (rec1 : List Int → DPair → DPort → Option ((List Int) × DPair × Int)) (K1 : List Int → DPair → Option ((List Int) × DPair × Int)) (xs38 : List Int) (z39 : DPair) (z40 : DPort) : Option ((List Int) × DPair × Int) :=
  (bif (z40.slot != 0) then (bif (decide ((xs38.length : Int) < (d0.agents.length : Int))) then ((mustP (xs38.length + ([z40.agent]).length ≤ 4294967296)).bind fun _ => ((m_spec_l13Port z40.agent 0).bind fun y61 => ((m_spec_l11Peer d0 y61).bind fun y65 => (bif (y65.slot == 0) then (bif (y65.agent != 0) then ((m_spec_l00Min z40.agent y65.agent).bind fun y76 => ((m_spec_l00Max z40.agent y65.agent).bind fun y80 => some ((xs38 ++ [z40.agent]), (⟨y76, y80⟩ : DPair), 0))) else (rec1 (xs38 ++ [z40.agent]) z39 y65)) else (rec1 (xs38 ++ [z40.agent]) z39 y65))))) else (K1 xs38 z39)) else (K1 xs38 z39))
def m_spec_l17Walk_L1 (d0 : DNet) (K1 : List Int → DPair → Option ((List Int) × DPair × Int)) : Nat → List Int → DPair → DPort → Option ((List Int) × DPair × Int)
  | 0, _, _, _ => none
  | g + 1, xs38, z39, z40 => m_spec_l17Walk_B1 d0 (m_spec_l17Walk_L1 d0 K1 g) K1 xs38 z39 z40
def m_spec_l17Walk (d0 : DNet) (d1 : DPort) : Option ((List Int) × DPair × Int) :=
  ((m_spec_l17Value d0 d1).bind fun y16 => (bif y16 then some (([] : List Int), (⟨0, 0⟩ : DPair), 3) else ((m_spec_l11Peer d0 d1).bind fun y21 => (m_spec_l17Walk_L1 d0 m_spec_l17Walk_A1 (d0.agents.length + 2) ([] : List Int) (⟨0, 0⟩ : DPair) y21))))
set_option maxHeartbeats 2000000 in
theorem c_m_spec_l17Walk (d0 : DNet) (d1 : DPort) (r : (List Int) × DPair × Int) (hm : m_spec_l17Walk d0 d1 = some r) (v0 : Value) (w : World) (hv0 : Pt netRd w v0 d0) :
    Calls Try.prog 93 #[v0, .agg #[.int .i64 d1.agent, .int .i64 d1.slot]] w fun e w' => (∃ v, e = .returned (.tuple #[v, .agg #[.int .i64 r.2.1.a, .int .i64 r.2.1.b], .int .i64 r.2.2]) ∧ OwF 2 encI 1 w' w.heap.size v r.1) ∧ Below w.heap.size w w' := by
  obtain ⟨ba0, oa0, csa0, rfl, hba0, hRa0, hca0⟩ := hv0
  have hSa0 := hRa0
  obtain ⟨A1, n1, c1, rfl, ⟨h1, r1⟩⟩ := hRa0
  have e1 := h1.len; subst e1
  have q1 := len_le r1
  have T := Below.refl w.heap.size w
  unfold m_spec_l17Walk at hm
  refine enter 62 Try.func93 rfl rfl rfl ?_
  intro f hf
  have s0 : f 0 = .pointer (some ⟨ba0, oa0, none⟩) := hf 0 _ rfl
  have s1 : f 1 = .agg #[.int .i64 d1.agent, .int .i64 d1.slot] := hf 1 _ rfl
  refine wp_seq ?_
  refine wp_rl rfl ?_
  refine RL.box rfl s1 (fun w2 B3 hb4 szw2 => ?_)
  replace B3 : Blk w2 w.heap.size 35 #[.int .i64 d1.agent, .int .i64 d1.slot] := B3
  have GB3 : w.heap.size ≤ w.heap.size := T.size
  have T := Tt T hb4
  refine RL.y rfl (Y.assign (v := .slice none 0 0) rfl) ?_
  refine RL.alloc (z := .agg #[.int .i64 0, .int .i64 0]) rfl (by kernel_rfl) (fun w6 B7 hb8 szw6 => ?_)
  replace B7 : Blk w6 w2.heap.size 91 #[.int .i64 0, .int .i64 0] := B7
  have GB7 : w.heap.size ≤ w2.heap.size := T.size
  have Eob9_ob5 := Nat.ne_of_lt B3.lt
  have B3 := blkT B3 hb8
  have T := Tt T hb8
  refine RL.y rfl (Y.assign (v := .int .i64 0) rfl) ?_
  refine RL.nil ?_
  refine then_n ?_
  refine wp_seq ?_
  refine wp_rl rfl ?_
  refine RL.bslice (e := 2) (cells := #[]) rfl pm0 (by kernel_rfl) (fun w10 B11 hb12 szw10 => ?_)
  have ZB11 : w.heap.size ≤ w6.heap.size := T.size
  have No13_ob5 := litNe (n := 0) (c := 0) B3.lt
  have No13_ob9 := litNe (n := 0) (c := 0) B7.lt
  have B3 := blkT B3 hb12
  have B7 := blkT B7 hb12
  have T := Tt T hb12
  have G14 := OwF.lit (enc := encI) (sz := 1) (xs := ([] : List Int)) B11 ZB11 rfl rfl rfl rfl
  refine RL.y rfl (Y.assign (v := .slice (some ⟨w6.heap.size, 0, none⟩) 0 0) rfl) ?_
  refine RL.nil ?_
  refine then_n ?_
  refine wp_seq ?_
  refine wp_seq ?_
  refine wp_rb rfl ?_
  refine RQ.y rfl (Y.move (v := .pointer (some ⟨ba0, oa0, none⟩)) s0) ?_
  refine RQ.y rfl (Y.loadN (cs := [.int .i64 d1.agent, .int .i64 d1.slot]) rfl (by kernel_rfl) (cells2 (beC (blkCell B3 (i := 0) rfl)) (beC (blkCell B3 (i := 1) rfl)))) ?_
  obtain ⟨y16, e17, hm⟩ := bnd hm
  refine RQ.call rfl (am2 rfl rfl) (by kernel_rfl) (v := .bool y16) (bel (K := fun _ => True) fun w' hb' => (c_m_spec_l17Value d0 d1 _ e17 _ w' (ptArg netRd_ok hba0 hSa0 hca0 (Tt T hb')))) ?_
  refine RQ.nil ?_
  intro w18 hb19
  have szw18 := hb19.size
  have B3 := blkT B3 hb19
  have B7 := blkT B7 hb19
  have G14 := OwF.below G14 hb19
  have T := Tt T hb19
  refine then_n ?_
  rcases bcases y16 with c20 | c20
  · replace hm := cF c20 hm
    refine cond_f rfl (vb rfl c20) ?_
    refine wp_skip ?_
    refine then_n ?_
    refine wp_seq ?_
    refine wp_rl rfl ?_
    refine RL.y rfl (Y.move (v := .pointer (some ⟨ba0, oa0, none⟩)) s0) ?_
    refine RL.y rfl (Y.loadN (cs := [.int .i64 d1.agent, .int .i64 d1.slot]) rfl (by kernel_rfl) (cells2 (eqC (blkCell B3 (i := 0) rfl)) (eqC (blkCell B3 (i := 1) rfl)))) ?_
    obtain ⟨y21, e22, hm⟩ := bnd hm
    refine RL.call rfl (am2 rfl rfl) (by kernel_rfl) ((c_m_spec_l11Peer d0 d1 _ e22 _ _ (ptArg netRd_ok hba0 hSa0 hca0 T)).mono ?_)
    rintro _ w23 ⟨rfl, hb24⟩
    refine ⟨_, rfl, ?_⟩
    have szw23 := hb24.size
    have B3 := blkT B3 hb24
    have B7 := blkT B7 hb24
    have G14 := OwF.below G14 hb24
    have T := Tt T hb24
    refine RL.alloc (z := .agg #[.int .i64 0, .int .i64 0]) rfl (by kernel_rfl) (fun w25 B26 hb27 szw25 => ?_)
    replace B26 : Blk w25 w23.heap.size 35 #[.int .i64 0, .int .i64 0] := B26
    have GB26 : w.heap.size ≤ w23.heap.size := T.size
    have Eob28_ob5 := Nat.ne_of_lt B3.lt
    have Eob28_ob9 := Nat.ne_of_lt B7.lt
    have No13_ob28 := OwF.far G14 (Nat.le_refl _)
    have B3 := blkT B3 hb27
    have B7 := blkT B7 hb27
    have G14 := OwF.below G14 hb27
    have T := Tt T hb27
    refine RL.store (v := .agg #[.int .i64 y21.agent, .int .i64 y21.slot]) (cs' := #[.int .i64 y21.agent, .int .i64 y21.slot]) rfl rfl rfl B26 (by kernel_rfl) (by rfl) (by rfl) (by rfl) (fun w29 B30 ho31 => ?_)
    have szw29 := ho31.size
    have B3 := B3.only_ ho31 (by intro hin; simp at hin; exact Eob28_ob5 hin)
    have B7 := B7.only_ ho31 (by intro hin; simp at hin; exact Eob28_ob9 hin)
    have G14 := OwF.only G14 ho31 No13_ob28
    have T := T.trans (ho31.below (by first | (simp; done) | (simp; omega)))
    refine RL.nil ?_
    refine then_n ?_
    refine wp_seq ?_
    refine wp_block ?_
    obtain ⟨K1, hK1, hm⟩ : ∃ K, K = m_spec_l17Walk_A1 ∧ m_spec_l17Walk_L1 d0 K (d0.agents.length + 2) ([] : List Int) (⟨0, 0⟩ : DPair) y21 = some r := ⟨_, rfl, hm⟩
    refine wp_loopX (fun g f w' => ∃ (xs38 : List Int) (z39 : DPair) (z40 : DPort) (uxs38 : Value), f 0 = .pointer (some ⟨ba0, oa0, none⟩) ∧ f 5 = .pointer (some ⟨w2.heap.size, 0, none⟩) ∧ f 8 = .pointer (some ⟨w23.heap.size, 0, none⟩) ∧ f 7 = uxs38 ∧ OwF 2 encI 1 w' w.heap.size uxs38 xs38 ∧ Blk w' w2.heap.size 91 #[.int .i64 z39.a, .int .i64 z39.b] ∧ Blk w' w23.heap.size 35 #[.int .i64 z40.agent, .int .i64 z40.slot] ∧ Value.ownBlock uxs38 ≠ some w2.heap.size ∧ Value.ownBlock uxs38 ≠ some w23.heap.size ∧ Below w.heap.size w w' ∧ m_spec_l17Walk_L1 d0 K1 g xs38 z39 z40 = some r) 0 (fun f w' => ∃ (xs32 : List Int) (z33 : DPair) (uxs32 : Value), f 5 = .pointer (some ⟨w2.heap.size, 0, none⟩) ∧ f 7 = uxs32 ∧ OwF 2 encI 1 w' w.heap.size uxs32 xs32 ∧ Blk w' w2.heap.size 91 #[.int .i64 z33.a, .int .i64 z33.b] ∧ Value.ownBlock uxs32 ≠ some w2.heap.size ∧ Value.ownBlock uxs32 ≠ some w23.heap.size ∧ Below w.heap.size w w' ∧ m_spec_l17Walk_A1 xs32 z33 = some r) (d0.agents.length + 2) ⟨([] : List Int), (⟨0, 0⟩ : DPair), y21, (.slice (some ⟨w6.heap.size, 0, none⟩) 0 0), s0, rfl, rfl, rfl, G14, B7, B30, No13_ob9, No13_ob28, T, hm⟩ ?_ ?_
    · rintro f w34 ⟨xs32, z33, uxs32, s5_1x, s7_1x, Gxs32, Bz33, Noxs32_ob9, Noxs32_ob28, T, hm⟩
      unfold m_spec_l17Walk_A1 at hm
      refine blk_hit (then_n ?_)
      refine wp_seq ?_
      refine wp_rl rfl ?_
      refine RL.y rfl (Y.move (v := uxs32) s7_1x) ?_
      refine RL.y rfl (Y.build0 (cells := #[.int .i64 0, .int .i64 0])  (by kernel_rfl) (by kernel_rfl)) ?_
      refine RL.y rfl (Y.assign (v := uxs32) rfl) ?_
      refine RL.store (v := .agg #[.int .i64 0, .int .i64 0]) (cs' := #[.int .i64 0, .int .i64 0]) rfl s5_1x rfl Bz33 (by kernel_rfl) (by rfl) (by rfl) (by rfl) (fun w35 B36 ho37 => ?_)
      have szw35 := ho37.size
      have Gxs32 := OwF.only Gxs32 ho37 Noxs32_ob9
      have T := T.trans (ho37.below (by first | (simp; done) | (simp; omega)))
      refine RL.y rfl (Y.assign (v := .int .i64 5) rfl) ?_
      refine RL.nil ?_
      refine then_n ?_
      refine wp_ret ?_
      obtain rfl := Option.some.inj hm
      exact (rettct (cs := [.int .i64 0, .int .i64 0]) rfl rfl rfl s5_1x rfl (by kernel_rfl) (blkCells B36) ⟨⟨_, rfl, Gxs32⟩, T⟩)
    · rintro g f w41 ⟨xs38, z39, z40, uxs38, s0_1, s5_1, s8_1, s7_1, Gxs38, Bz39, Bz40, Noxs38_ob9, Noxs38_ob28, T, hm⟩
      rcases g with _ | g
      · simp only [m_spec_l17Walk_L1] at hm; cases hm
      obtain ⟨rec1, hrec1, hm⟩ : ∃ z, z = m_spec_l17Walk_L1 d0 K1 g ∧ m_spec_l17Walk_B1 d0 z K1 xs38 z39 z40 = some r := ⟨_, rfl, hm⟩
      unfold m_spec_l17Walk_B1 at hm
      refine wp_seq ?_
      refine wp_seq ?_
      refine wp_rs rfl ?_
      refine RQ.y rfl (Y.fieldAddr (off := 1) s8_1 (by kernel_rfl)) ?_
      refine RQ.y rfl (Y.load (v := .int .i64 z40.slot) rfl (by kernel_rfl) (eqC (blkCell Bz40 (i := 1) rfl))) ?_
      refine RQ.y rfl (Y.binI (v := .bool (z40.slot != 0)) rfl rfl rfl) ?_
      refine RQ.y rfl (Y.move (v := .bool (z40.slot != 0)) rfl) ?_
      rcases bcases (z40.slot != 0) with c42 | c42
      · replace hm := cF c42 hm
        refine RQ.skip (wantN (dj := 22) rfl (vb rfl c42) rfl) ?_
        refine RQ.skip (wantN (dj := 22) rfl (vb rfl c42) rfl) ?_
        refine RQ.skip (wantN (dj := 22) rfl (vb rfl c42) rfl) ?_
        refine RQ.skip (wantN (dj := 22) rfl (vb rfl c42) rfl) ?_
        refine RQ.skip (wantN (dj := 22) rfl (vb rfl c42) rfl) ?_
        refine RQ.skip (wantN (dj := 22) rfl (vb rfl c42) rfl) ?_
        refine RQ.skip (wantN (dj := 22) rfl (vb rfl c42) rfl) ?_
        refine RQ.skip (wantN (dj := 22) rfl (vb rfl c42) rfl) ?_
        refine RQ.y rfl (Y.pick (b := false) (v := .bool false) (vb rfl c42) rfl) ?_
        refine RQ.nil ?_
        refine then_n ?_
        refine cond_f rfl rfl ?_
        refine wp_exit ?_
        exact (then_x (then_x (hit_x ⟨_, rfl, ⟨xs38, z39, (uxs38), s5_1, s7_1, Gxs38, Bz39, Noxs38_ob9, Noxs38_ob28, T, (by rw [hK1] at hm; exact hm)⟩⟩)))
      · replace hm := cT c42 hm
        refine RQ.y (wantT (dj := 22) rfl (vb rfl c42)) (Y.move (v := uxs38) s7_1) ?_
        obtain ⟨A43, c44, rfl⟩ := OwF.form Gxs38
        have qbA43 := OwF.bound Gxs38
        refine RQ.y (wantT (dj := 22) rfl (vb rfl c42)) (Y.len (by kernel_rfl) rfl) ?_
        refine RQ.y (wantT (dj := 22) rfl (vb rfl c42)) (Y.move (v := .pointer (some ⟨ba0, oa0, none⟩)) s0_1) ?_
        refine RQ.y (wantT (dj := 22) rfl (vb rfl c42)) (Y.nilCheck rfl) ?_
        refine RQ.y (wantT (dj := 22) rfl (vb rfl c42)) (Y.fieldAddr (off := 0) rfl (by kernel_rfl)) ?_
        refine RQ.y (wantT (dj := 22) rfl (vb rfl c42)) (Y.load (v := .slice A1 d0.agents.length c1) rfl (by kernel_rfl) (eqC (cellT T (hca0 0 _ rfl)))) ?_
        refine RQ.y (wantT (dj := 22) rfl (vb rfl c42)) (Y.len (by kernel_rfl) rfl) ?_
        refine RQ.y (wantT (dj := 22) rfl (vb rfl c42)) (Y.binI (v := .bool (decide ((xs38.length : Int) < (d0.agents.length : Int)))) rfl rfl rfl) ?_
        refine RQ.y rfl (Y.pick (b := true) (v := .bool (decide ((xs38.length : Int) < (d0.agents.length : Int)))) (vb rfl c42) rfl) ?_
        refine RQ.nil ?_
        refine then_n ?_
        rcases bcases (decide ((xs38.length : Int) < (d0.agents.length : Int))) with c45 | c45
        · replace hm := cF c45 hm
          have pc45 := of_decide_eq_false c45
          refine cond_f rfl (vb rfl c45) ?_
          refine wp_exit ?_
          exact (then_x (then_x (hit_x ⟨_, rfl, ⟨xs38, z39, (.slice A43 xs38.length c44), s5_1, s7_1, Gxs38, Bz39, Noxs38_ob9, Noxs38_ob28, T, (by rw [hK1] at hm; exact hm)⟩⟩)))
        · replace hm := cT c45 hm
          have pc45 := of_decide_eq_true c45
          refine cond_t rfl (vb rfl c45) ?_
          refine wp_skip ?_
          refine then_n ?_
          refine wp_block ?_
          refine wp_seq ?_
          refine wp_rs rfl ?_
          refine RQ.y rfl (Y.fieldAddr (off := 0) s8_1 (by kernel_rfl)) ?_
          refine RQ.y rfl (Y.load (v := .int .i64 z40.agent) rfl (by kernel_rfl) (eqC (blkCell Bz40 (i := 0) rfl))) ?_
          refine RQ.y rfl (Y.assign (v := .int .i64 z40.agent) rfl) ?_
          refine RQ.nil ?_
          refine then_n ?_
          refine wp_seq ?_
          refine wp_rl rfl ?_
          refine RL.y rfl (Y.move (v := .slice A43 xs38.length c44) s7_1) ?_
          refine RL.y rfl (Y.move (v := .int .i64 z40.agent) rfl) ?_
          refine RL.bslice (e := 2) (cells := #[.int .i64 z40.agent]) rfl (pm1 rfl) (by kernel_rfl) (fun w46 B47 hb48 szw46 => ?_)
          have ZB47 : w.heap.size ≤ w41.heap.size := T.size
          have No49_ob9 := litNe (n := 1) (c := 1) Bz39.lt
          have No49_ob28 := litNe (n := 1) (c := 1) Bz40.lt
          have Do49_oxs38 := Dj.new (v := .slice (some ⟨w41.heap.size, 0, none⟩) 1 1) litGe (OwF.hi Gxs38)
          have Bz39 := blkT Bz39 hb48
          have Bz40 := blkT Bz40 hb48
          have Gxs38 := OwF.below Gxs38 hb48
          have T := Tt T hb48
          have G50 := OwF.lit (enc := encI) (sz := 1) (xs := [z40.agent]) B47 ZB47 rfl rfl rfl rfl
          obtain ⟨_, m52, hm⟩ := bnd hm
          have hk53 := mustP_some m52
          refine RL.append fI app_int64 rfl rfl rfl Gxs38 (OwF.arg fI G50) T.size hk53 (fun v54 w55 G56 hgr57 hbl58 hnb59 => ?_)
          have szw55 := hbl58.size
          have No60_ob9 := ne_app hnb59 Noxs38_ob9 Bz39.lt
          have No60_ob28 := ne_app hnb59 Noxs38_ob28 Bz40.lt
          have Bz39 := Blk.kept Bz39 hgr57 Noxs38_ob9
          have Bz40 := Blk.kept Bz40 hgr57 Noxs38_ob28
          have T := T.trans hbl58
          refine RL.y rfl (Y.assign (v := v54) rfl) ?_
          refine RL.nil ?_
          refine then_n ?_
          refine wp_seq ?_
          refine wp_rl rfl ?_
          refine RL.y rfl (Y.move (v := .pointer (some ⟨ba0, oa0, none⟩)) s0_1) ?_
          refine RL.y rfl (Y.move (v := .int .i64 z40.agent) rfl) ?_
          obtain ⟨y61, e62, hm⟩ := bnd hm
          refine RL.call rfl (am2 rfl rfl) (by kernel_rfl) ((c_m_spec_l13Port z40.agent 0 _ e62  _ ).mono ?_)
          rintro _ w63 ⟨rfl, hb64⟩
          refine ⟨_, rfl, ?_⟩
          have szw63 := hb64.size
          have Bz39 := blkT Bz39 hb64
          have Bz40 := blkT Bz40 hb64
          have G56 := OwF.below G56 hb64
          have T := Tt T hb64
          obtain ⟨y65, e66, hm⟩ := bnd hm
          refine RL.call rfl (am2 rfl rfl) (by kernel_rfl) ((c_m_spec_l11Peer d0 y61 _ e66 _ _ (ptArg netRd_ok hba0 hSa0 hca0 T)).mono ?_)
          rintro _ w67 ⟨rfl, hb68⟩
          refine ⟨_, rfl, ?_⟩
          have szw67 := hb68.size
          have Bz39 := blkT Bz39 hb68
          have Bz40 := blkT Bz40 hb68
          have G56 := OwF.below G56 hb68
          have T := Tt T hb68
          refine RL.store (v := .agg #[.int .i64 y65.agent, .int .i64 y65.slot]) (cs' := #[.int .i64 y65.agent, .int .i64 y65.slot]) rfl s8_1 rfl Bz40 (by kernel_rfl) (by rfl) (by rfl) (by rfl) (fun w69 B70 ho71 => ?_)
          have szw69 := ho71.size
          have Bz39 := Bz39.only_ ho71 (by intro hin; simp at hin; exact Eob28_ob9 hin)
          have G56 := OwF.only G56 ho71 No60_ob28
          have T := T.trans (ho71.below (by first | (simp; done) | (simp; omega)))
          refine RL.nil ?_
          refine then_n ?_
          refine wp_seq ?_
          refine wp_rs rfl ?_
          refine RQ.y rfl (Y.fieldAddr (off := 1) s8_1 (by kernel_rfl)) ?_
          refine RQ.y rfl (Y.load (v := .int .i64 y65.slot) rfl (by kernel_rfl) (eqC (blkCell B70 (i := 1) rfl))) ?_
          refine RQ.y rfl (Y.binI (v := .bool (y65.slot == 0)) rfl rfl rfl) ?_
          refine RQ.y rfl (Y.move (v := .bool (y65.slot == 0)) rfl) ?_
          rcases bcases (y65.slot == 0) with c72 | c72
          · replace hm := cF c72 hm
            refine RQ.skip (wantN (dj := 45) rfl (vb rfl c72) rfl) ?_
            refine RQ.skip (wantN (dj := 45) rfl (vb rfl c72) rfl) ?_
            refine RQ.skip (wantN (dj := 45) rfl (vb rfl c72) rfl) ?_
            refine RQ.y rfl (Y.pick (b := false) (v := .bool false) (vb rfl c72) rfl) ?_
            refine RQ.nil ?_
            refine then_n ?_
            refine cond_f rfl rfl ?_
            refine wp_skip ?_
            exact (blk_n (then_n ⟨g, _, Nat.lt_succ_self _, rfl, ⟨(xs38 ++ [z40.agent]), z39, y65, (v54), s0_1, s5_1, s8_1, rfl, G56, Bz39, B70, No60_ob9, No60_ob28, T, (by rw [← hrec1]; exact hm)⟩⟩))
          · replace hm := cT c72 hm
            refine RQ.y (wantT (dj := 45) rfl (vb rfl c72)) (Y.fieldAddr (off := 0) s8_1 (by kernel_rfl)) ?_
            refine RQ.y (wantT (dj := 45) rfl (vb rfl c72)) (Y.load (v := .int .i64 y65.agent) rfl (by kernel_rfl) (eqC (blkCell B70 (i := 0) rfl))) ?_
            refine RQ.y (wantT (dj := 45) rfl (vb rfl c72)) (Y.binI (v := .bool (y65.agent != 0)) rfl rfl rfl) ?_
            refine RQ.y rfl (Y.pick (b := true) (v := .bool (y65.agent != 0)) (vb rfl c72) rfl) ?_
            refine RQ.nil ?_
            refine then_n ?_
            rcases bcases (y65.agent != 0) with c73 | c73
            · replace hm := cF c73 hm
              refine cond_f rfl (vb rfl c73) ?_
              refine wp_skip ?_
              exact (blk_n (then_n ⟨g, _, Nat.lt_succ_self _, rfl, ⟨(xs38 ++ [z40.agent]), z39, y65, (v54), s0_1, s5_1, s8_1, rfl, G56, Bz39, B70, No60_ob9, No60_ob28, T, (by rw [← hrec1]; exact hm)⟩⟩))
            · replace hm := cT c73 hm
              refine cond_t rfl (vb rfl c73) ?_
              refine wp_seq ?_
              refine wp_rg (fun w' => Below w.heap.size w w' ∧ Blk w' w23.heap.size 35 #[.int .i64 y65.agent, .int .i64 y65.slot]) [(0, true), (1, true), (2, true), (3, true), (5, true), (6, true), (7, true), (4, false), (8, false), (9, true), (10, true), (11, false), (12, true)] (by kernel_rfl) (by kernel_rfl) (fun w74 hb75 szw74 => ?_)
              have Bz39 := blkT Bz39 hb75
              have B70 := blkT B70 hb75
              have G56 := OwF.below G56 hb75
              have T := Tt T hb75
              refine ⟨⟨T, B70⟩, ?_⟩
              refine RG.y rfl rfl (Y.move (v := v54) rfl) ?_
              refine RG.y rfl rfl (Y.move (v := .int .i64 z40.agent) rfl) ?_
              refine RG.y rfl rfl (Y.fieldAddr (off := 0) s8_1 (by kernel_rfl)) ?_
              refine RG.y rfl rfl (Y.load (v := .int .i64 y65.agent) rfl (by kernel_rfl) (fun w' hS => (blkCell hS.2 (i := 0) rfl))) ?_
              refine RG.y rfl rfl (Y.move (v := .int .i64 z40.agent) rfl) ?_
              refine RG.y rfl rfl (Y.fieldAddr (off := 0) s8_1 (by kernel_rfl)) ?_
              refine RG.y rfl rfl (Y.load (v := .int .i64 y65.agent) rfl (by kernel_rfl) (fun w' hS => (blkCell hS.2 (i := 0) rfl))) ?_
              refine RG.act rfl ?_
              obtain ⟨y76, e77, hm⟩ := bnd hm
              refine RL.call rfl (am2 rfl rfl) (by kernel_rfl) ((c_m_spec_l00Min z40.agent y65.agent _ e77  _ ).mono ?_)
              rintro _ w78 ⟨rfl, hb79⟩
              refine ⟨_, rfl, ?_⟩
              have szw78 := hb79.size
              have Bz39 := blkT Bz39 hb79
              have B70 := blkT B70 hb79
              have G56 := OwF.below G56 hb79
              have T := Tt T hb79
              refine RL.nil ⟨⟨T, B70⟩, ?_⟩
              refine RG.act rfl ?_
              obtain ⟨y80, e81, hm⟩ := bnd hm
              refine RL.call rfl (am2 rfl rfl) (by kernel_rfl) ((c_m_spec_l00Max z40.agent y65.agent _ e81  _ ).mono ?_)
              rintro _ w82 ⟨rfl, hb83⟩
              refine ⟨_, rfl, ?_⟩
              have szw82 := hb83.size
              have Bz39 := blkT Bz39 hb83
              have B70 := blkT B70 hb83
              have G56 := OwF.below G56 hb83
              have T := Tt T hb83
              refine RL.nil ⟨⟨T, B70⟩, ?_⟩
              refine RG.y rfl rfl (Y.build2 (cells := #[.int .i64 y76, .int .i64 y80]) rfl rfl (by kernel_rfl) (by kernel_rfl)) ?_
              refine RG.y rfl rfl (Y.assign (v := v54) rfl) ?_
              refine RG.act rfl ?_
              refine RL.store (v := .agg #[.int .i64 y76, .int .i64 y80]) (cs' := #[.int .i64 y76, .int .i64 y80]) rfl s5_1 rfl Bz39 (by kernel_rfl) (by rfl) (by rfl) (by rfl) (fun w84 B85 ho86 => ?_)
              have szw84 := ho86.size
              have B70 := B70.only_ ho86 (by intro hin; simp at hin; exact Eob28_ob9.symm hin)
              have G56 := OwF.only G56 ho86 No60_ob9
              have T := T.trans (ho86.below (by first | (simp; done) | (simp; omega)))
              refine RL.nil ⟨⟨T, B70⟩, ?_⟩
              refine RG.y rfl rfl (Y.assign (v := .int .i64 0) rfl) ?_
              refine RG.nil ?_
              refine then_n ?_
              refine wp_ret ?_
              obtain rfl := Option.some.inj hm
              exact (blk_r (then_r (hit_r (blk_r (then_r (rettct (cs := [.int .i64 y76, .int .i64 y80]) rfl rfl rfl s5_1 rfl (by kernel_rfl) (blkCells B85) ⟨⟨_, rfl, G56⟩, T⟩))))))
  · replace hm := cT c20 hm
    refine cond_t rfl (vb rfl c20) ?_
    refine wp_seq ?_
    refine wp_rl rfl ?_
    refine RL.y rfl (Y.move (v := .slice (some ⟨w6.heap.size, 0, none⟩) 0 0) rfl) ?_
    refine RL.y rfl (Y.build0 (cells := #[.int .i64 0, .int .i64 0])  (by kernel_rfl) (by kernel_rfl)) ?_
    refine RL.y rfl (Y.assign (v := .slice (some ⟨w6.heap.size, 0, none⟩) 0 0) rfl) ?_
    refine RL.store (v := .agg #[.int .i64 0, .int .i64 0]) (cs' := #[.int .i64 0, .int .i64 0]) rfl rfl rfl B7 (by kernel_rfl) (by rfl) (by rfl) (by rfl) (fun w88 B89 ho90 => ?_)
    have szw88 := ho90.size
    have B3 := B3.only_ ho90 (by intro hin; simp at hin; exact Eob9_ob5 hin)
    have G14 := OwF.only G14 ho90 No13_ob9
    have T := T.trans (ho90.below (by first | (simp; done) | (simp; omega)))
    refine RL.y rfl (Y.assign (v := .int .i64 3) rfl) ?_
    refine RL.nil ?_
    refine then_n ?_
    refine wp_ret ?_
    obtain rfl := Option.some.inj hm
    exact (then_r (rettct (cs := [.int .i64 0, .int .i64 0]) rfl rfl rfl rfl rfl (by kernel_rfl) (blkCells B89) ⟨⟨_, rfl, G14⟩, T⟩))

def m_spec_NeededPair (d0 : DNet) (d1 : DPort) : Option (Int × Int) :=
  ((m_spec_l17Asked d0 d1).bind fun y10 => (bif (y10 != 0) then some (0, y10) else ((m_spec_l17Walk d0 d1).bind fun y15 => (bif (y15.2.2 != 0) then some (0, y15.2.2) else ((m_spec_l17Index d0 y15.2.1).bind fun y30 => some (y30, 0))))))
set_option maxHeartbeats 2000000 in
theorem c_m_spec_NeededPair (d0 : DNet) (d1 : DPort) (r : Int × Int) (hm : m_spec_NeededPair d0 d1 = some r) (v0 : Value) (w : World) (hv0 : St netRd w v0 d0) :
    Calls Try.prog 52 #[v0, .agg #[.int .i64 d1.agent, .int .i64 d1.slot]] w fun e w' => e = .returned (.tuple #[.int .i64 r.1, .int .i64 r.2]) ∧ Below w.heap.size w w' := by
  obtain ⟨csa0, rfl, ⟨A1, n1, c1, rfl, ⟨h1, r1⟩⟩⟩ := hv0
  have e1 := h1.len; subst e1
  have q1 := len_le r1
  have T := Below.refl w.heap.size w
  unfold m_spec_NeededPair at hm
  refine enter 25 Try.func52 rfl rfl rfl ?_
  intro f hf
  have s0 : f 0 = .agg #[.slice A1 d0.agents.length c1] := hf 0 _ rfl
  have s1 : f 1 = .agg #[.int .i64 d1.agent, .int .i64 d1.slot] := hf 1 _ rfl
  refine wp_seq ?_
  refine wp_rl rfl ?_
  refine RL.box rfl s0 (fun w2 B3 hb4 szw2 => ?_)
  replace B3 : Blk w2 w.heap.size 29 #[.slice A1 d0.agents.length c1] := B3
  have GB3 : w.heap.size ≤ w.heap.size := T.size
  have T := Tt T hb4
  refine RL.box rfl s1 (fun w6 B7 hb8 szw6 => ?_)
  replace B7 : Blk w6 w2.heap.size 35 #[.int .i64 d1.agent, .int .i64 d1.slot] := B7
  have GB7 : w.heap.size ≤ w2.heap.size := T.size
  have Eob9_ob5 := Nat.ne_of_lt B3.lt
  have B3 := blkT B3 hb8
  have T := Tt T hb8
  refine RL.y rfl (Y.assign (v := .int .i64 0) rfl) ?_
  refine RL.y rfl (Y.assign (v := .int .i64 0) rfl) ?_
  refine RL.nil ?_
  refine then_n ?_
  refine wp_seq ?_
  refine wp_rb rfl ?_
  refine RQ.y rfl (Y.loadN (cs := [.int .i64 d1.agent, .int .i64 d1.slot]) rfl (by kernel_rfl) (cells2 (beC (blkCell B7 (i := 0) rfl)) (beC (blkCell B7 (i := 1) rfl)))) ?_
  obtain ⟨y10, e11, hm⟩ := bnd hm
  refine RQ.call rfl (am2 rfl rfl) (by kernel_rfl) (v := .int .i64 y10) (bel (K := fun _ => True) fun w' hb' => (c_m_spec_l17Asked d0 d1 _ e11 _ w' (ptBox (R := netRd) (blkT B3 hb') ⟨_, _, _, rfl, ⟨SlAt.now agentRd_ok h1 (Nat.le_refl _) (Tt T hb'), r1⟩⟩))) ?_
  refine RQ.y rfl (Y.assign (v := .int .i64 y10) rfl) ?_
  refine RQ.nil ?_
  intro w12 hb13
  have szw12 := hb13.size
  have B3 := blkT B3 hb13
  have B7 := blkT B7 hb13
  have T := Tt T hb13
  refine then_n ?_
  refine wp_seq ?_
  refine wp_seq ?_
  refine wp_rs rfl ?_
  refine RQ.y rfl (Y.move (v := .int .i64 y10) rfl) ?_
  refine RQ.y rfl (Y.binI (v := .bool (y10 != 0)) rfl rfl rfl) ?_
  refine RQ.nil ?_
  refine then_n ?_
  rcases bcases (y10 != 0) with c14 | c14
  · replace hm := cF c14 hm
    refine cond_f rfl (vb rfl c14) ?_
    refine wp_skip ?_
    refine then_n ?_
    refine wp_seq ?_
    refine wp_rl rfl ?_
    refine RL.y rfl (Y.loadN (cs := [.int .i64 d1.agent, .int .i64 d1.slot]) rfl (by kernel_rfl) (cells2 (eqC (blkCell B7 (i := 0) rfl)) (eqC (blkCell B7 (i := 1) rfl)))) ?_
    obtain ⟨y15, e16, hm⟩ := bnd hm
    refine RL.call rfl (am2 rfl rfl) (by kernel_rfl) ((c_m_spec_l17Walk d0 d1 _ e16 _ _ (ptBox (R := netRd) B3 ⟨_, _, _, rfl, ⟨SlAt.now agentRd_ok h1 (Nat.le_refl _) T, r1⟩⟩)).mono ?_)
    rintro _ w20 ⟨⟨v17, rfl, G18⟩, hb21⟩
    refine ⟨_, rfl, ?_⟩
    have szw20 := hb21.size
    have T0w20 := T.size
    have No19_ob5 := OwF.ne G18 B3.lt
    have No19_ob9 := OwF.ne G18 B7.lt
    have B3 := blkT B3 hb21
    have B7 := blkT B7 hb21
    have T := Tt T hb21
    replace G18 := OwF.mono G18 T0w20
    refine RL.y rfl (Y.move (v := .tuple #[v17, .agg #[.int .i64 y15.2.1.a, .int .i64 y15.2.1.b], .int .i64 y15.2.2]) rfl) ?_
    refine RL.y rfl (Y.extract (i := 0) rfl rfl) ?_
    refine RL.y rfl (Y.extract (i := 1) rfl rfl) ?_
    refine RL.y rfl (Y.extract (i := 2) rfl rfl) ?_
    refine RL.alloc (z := .agg #[.int .i64 0, .int .i64 0]) rfl (by kernel_rfl) (fun w22 B23 hb24 szw22 => ?_)
    replace B23 : Blk w22 w20.heap.size 91 #[.int .i64 0, .int .i64 0] := B23
    have GB23 : w.heap.size ≤ w20.heap.size := T.size
    have Eob25_ob5 := Nat.ne_of_lt B3.lt
    have Eob25_ob9 := Nat.ne_of_lt B7.lt
    have No19_ob25 := OwF.far G18 (Nat.le_refl _)
    have B3 := blkT B3 hb24
    have B7 := blkT B7 hb24
    have G18 := OwF.below G18 hb24
    have T := Tt T hb24
    refine RL.y rfl (Y.assign (v := v17) rfl) ?_
    refine RL.store (v := .agg #[.int .i64 y15.2.1.a, .int .i64 y15.2.1.b]) (cs' := #[.int .i64 y15.2.1.a, .int .i64 y15.2.1.b]) rfl rfl rfl B23 (by kernel_rfl) (by rfl) (by rfl) (by rfl) (fun w26 B27 ho28 => ?_)
    have szw26 := ho28.size
    have B3 := B3.only_ ho28 (by intro hin; simp at hin; exact Eob25_ob5 hin)
    have B7 := B7.only_ ho28 (by intro hin; simp at hin; exact Eob25_ob9 hin)
    have G18 := OwF.only G18 ho28 No19_ob25
    have T := T.trans (ho28.below (by first | (simp; done) | (simp; omega)))
    refine RL.y rfl (Y.assign (v := .int .i64 y15.2.2) rfl) ?_
    refine RL.nil ?_
    refine then_n ?_
    refine wp_seq ?_
    refine wp_seq ?_
    refine wp_rs rfl ?_
    refine RQ.y rfl (Y.move (v := .int .i64 y15.2.2) rfl) ?_
    refine RQ.y rfl (Y.binI (v := .bool (y15.2.2 != 0)) rfl rfl rfl) ?_
    refine RQ.nil ?_
    refine then_n ?_
    rcases bcases (y15.2.2 != 0) with c29 | c29
    · replace hm := cF c29 hm
      refine cond_f rfl (vb rfl c29) ?_
      refine wp_skip ?_
      refine then_n ?_
      refine wp_seq ?_
      refine wp_rb rfl ?_
      refine RQ.y rfl (Y.loadN (cs := [.int .i64 y15.2.1.a, .int .i64 y15.2.1.b]) rfl (by kernel_rfl) (cells2 (beC (blkCell B27 (i := 0) rfl)) (beC (blkCell B27 (i := 1) rfl)))) ?_
      obtain ⟨y30, e31, hm⟩ := bnd hm
      refine RQ.call rfl (am2 rfl rfl) (by kernel_rfl) (v := .int .i64 y30) (bel (K := fun _ => True) fun w' hb' => (c_m_spec_l17Index d0 y15.2.1 _ e31 _ w' (ptBox (R := netRd) (blkT B3 hb') ⟨_, _, _, rfl, ⟨SlAt.now agentRd_ok h1 (Nat.le_refl _) (Tt T hb'), r1⟩⟩))) ?_
      refine RQ.y rfl (Y.assign (v := .int .i64 y30) rfl) ?_
      refine RQ.y rfl (Y.assign (v := .int .i64 0) rfl) ?_
      refine RQ.nil ?_
      intro w32 hb33
      have szw32 := hb33.size
      have T := Tt T hb33
      refine then_n ?_
      refine wp_ret ?_
      obtain rfl := Option.some.inj hm
      exact (ret2 rfl rfl rfl rfl ⟨rfl, T⟩)
    · replace hm := cT c29 hm
      refine cond_t rfl (vb rfl c29) ?_
      refine wp_seq ?_
      refine wp_rs rfl ?_
      refine RQ.y rfl (Y.move (v := .int .i64 y15.2.2) rfl) ?_
      refine RQ.y rfl (Y.assign (v := .int .i64 0) rfl) ?_
      refine RQ.y rfl (Y.assign (v := .int .i64 y15.2.2) rfl) ?_
      refine RQ.nil ?_
      refine then_n ?_
      refine wp_ret ?_
      obtain rfl := Option.some.inj hm
      exact (then_r (ret2 rfl rfl rfl rfl ⟨rfl, T⟩))
  · replace hm := cT c14 hm
    refine cond_t rfl (vb rfl c14) ?_
    refine wp_seq ?_
    refine wp_rs rfl ?_
    refine RQ.y rfl (Y.move (v := .int .i64 y10) rfl) ?_
    refine RQ.y rfl (Y.assign (v := .int .i64 0) rfl) ?_
    refine RQ.y rfl (Y.assign (v := .int .i64 y10) rfl) ?_
    refine RQ.nil ?_
    refine then_n ?_
    refine wp_ret ?_
    obtain rfl := Option.some.inj hm
    exact (then_r (ret2 rfl rfl rfl rfl ⟨rfl, T⟩))

def m_spec_NeededPath (d0 : DNet) (d1 : DPort) : Option ((List Int) × Int) :=
  ((m_spec_l17Asked d0 d1).bind fun y10 => (bif (y10 != 0) then some ([], y10) else ((m_spec_l17Walk d0 d1).bind fun y15 => (bif (y15.2.2 != 0) then some ([], y15.2.2) else some (y15.1, 0)))))
set_option maxHeartbeats 2000000 in
theorem c_m_spec_NeededPath (d0 : DNet) (d1 : DPort) (r : (List Int) × Int) (hm : m_spec_NeededPath d0 d1 = some r) (v0 : Value) (w : World) (hv0 : St netRd w v0 d0) :
    Calls Try.prog 50 #[v0, .agg #[.int .i64 d1.agent, .int .i64 d1.slot]] w fun e w' => (∃ v, e = .returned (.tuple #[v, .int .i64 r.2]) ∧ OwF 2 encI 1 w' w.heap.size v r.1) ∧ Below w.heap.size w w' := by
  obtain ⟨csa0, rfl, ⟨A1, n1, c1, rfl, ⟨h1, r1⟩⟩⟩ := hv0
  have e1 := h1.len; subst e1
  have q1 := len_le r1
  have T := Below.refl w.heap.size w
  unfold m_spec_NeededPath at hm
  refine enter 24 Try.func50 rfl rfl rfl ?_
  intro f hf
  have s0 : f 0 = .agg #[.slice A1 d0.agents.length c1] := hf 0 _ rfl
  have s1 : f 1 = .agg #[.int .i64 d1.agent, .int .i64 d1.slot] := hf 1 _ rfl
  refine wp_seq ?_
  refine wp_rl rfl ?_
  refine RL.box rfl s0 (fun w2 B3 hb4 szw2 => ?_)
  replace B3 : Blk w2 w.heap.size 29 #[.slice A1 d0.agents.length c1] := B3
  have GB3 : w.heap.size ≤ w.heap.size := T.size
  have T := Tt T hb4
  refine RL.box rfl s1 (fun w6 B7 hb8 szw6 => ?_)
  replace B7 : Blk w6 w2.heap.size 35 #[.int .i64 d1.agent, .int .i64 d1.slot] := B7
  have GB7 : w.heap.size ≤ w2.heap.size := T.size
  have Eob9_ob5 := Nat.ne_of_lt B3.lt
  have B3 := blkT B3 hb8
  have T := Tt T hb8
  refine RL.y rfl (Y.assign (v := .slice none 0 0) rfl) ?_
  refine RL.y rfl (Y.assign (v := .int .i64 0) rfl) ?_
  refine RL.nil ?_
  refine then_n ?_
  refine wp_seq ?_
  refine wp_rb rfl ?_
  refine RQ.y rfl (Y.loadN (cs := [.int .i64 d1.agent, .int .i64 d1.slot]) rfl (by kernel_rfl) (cells2 (beC (blkCell B7 (i := 0) rfl)) (beC (blkCell B7 (i := 1) rfl)))) ?_
  obtain ⟨y10, e11, hm⟩ := bnd hm
  refine RQ.call rfl (am2 rfl rfl) (by kernel_rfl) (v := .int .i64 y10) (bel (K := fun _ => True) fun w' hb' => (c_m_spec_l17Asked d0 d1 _ e11 _ w' (ptBox (R := netRd) (blkT B3 hb') ⟨_, _, _, rfl, ⟨SlAt.now agentRd_ok h1 (Nat.le_refl _) (Tt T hb'), r1⟩⟩))) ?_
  refine RQ.y rfl (Y.assign (v := .int .i64 y10) rfl) ?_
  refine RQ.nil ?_
  intro w12 hb13
  have szw12 := hb13.size
  have B3 := blkT B3 hb13
  have B7 := blkT B7 hb13
  have T := Tt T hb13
  refine then_n ?_
  refine wp_seq ?_
  refine wp_seq ?_
  refine wp_rs rfl ?_
  refine RQ.y rfl (Y.move (v := .int .i64 y10) rfl) ?_
  refine RQ.y rfl (Y.binI (v := .bool (y10 != 0)) rfl rfl rfl) ?_
  refine RQ.nil ?_
  refine then_n ?_
  rcases bcases (y10 != 0) with c14 | c14
  · replace hm := cF c14 hm
    refine cond_f rfl (vb rfl c14) ?_
    refine wp_skip ?_
    refine then_n ?_
    refine wp_seq ?_
    refine wp_rl rfl ?_
    refine RL.y rfl (Y.loadN (cs := [.int .i64 d1.agent, .int .i64 d1.slot]) rfl (by kernel_rfl) (cells2 (eqC (blkCell B7 (i := 0) rfl)) (eqC (blkCell B7 (i := 1) rfl)))) ?_
    obtain ⟨y15, e16, hm⟩ := bnd hm
    refine RL.call rfl (am2 rfl rfl) (by kernel_rfl) ((c_m_spec_l17Walk d0 d1 _ e16 _ _ (ptBox (R := netRd) B3 ⟨_, _, _, rfl, ⟨SlAt.now agentRd_ok h1 (Nat.le_refl _) T, r1⟩⟩)).mono ?_)
    rintro _ w20 ⟨⟨v17, rfl, G18⟩, hb21⟩
    refine ⟨_, rfl, ?_⟩
    have szw20 := hb21.size
    have T0w20 := T.size
    have No19_ob5 := OwF.ne G18 B3.lt
    have No19_ob9 := OwF.ne G18 B7.lt
    have B3 := blkT B3 hb21
    have B7 := blkT B7 hb21
    have T := Tt T hb21
    replace G18 := OwF.mono G18 T0w20
    refine RL.y rfl (Y.move (v := .tuple #[v17, .agg #[.int .i64 y15.2.1.a, .int .i64 y15.2.1.b], .int .i64 y15.2.2]) rfl) ?_
    refine RL.y rfl (Y.extract (i := 0) rfl rfl) ?_
    refine RL.y rfl (Y.extract (i := 1) rfl rfl) ?_
    refine RL.y rfl (Y.extract (i := 2) rfl rfl) ?_
    refine RL.alloc (z := .agg #[.int .i64 0, .int .i64 0]) rfl (by kernel_rfl) (fun w22 B23 hb24 szw22 => ?_)
    replace B23 : Blk w22 w20.heap.size 91 #[.int .i64 0, .int .i64 0] := B23
    have GB23 : w.heap.size ≤ w20.heap.size := T.size
    have Eob25_ob5 := Nat.ne_of_lt B3.lt
    have Eob25_ob9 := Nat.ne_of_lt B7.lt
    have No19_ob25 := OwF.far G18 (Nat.le_refl _)
    have B3 := blkT B3 hb24
    have B7 := blkT B7 hb24
    have G18 := OwF.below G18 hb24
    have T := Tt T hb24
    refine RL.y rfl (Y.assign (v := v17) rfl) ?_
    refine RL.store (v := .agg #[.int .i64 y15.2.1.a, .int .i64 y15.2.1.b]) (cs' := #[.int .i64 y15.2.1.a, .int .i64 y15.2.1.b]) rfl rfl rfl B23 (by kernel_rfl) (by rfl) (by rfl) (by rfl) (fun w26 B27 ho28 => ?_)
    have szw26 := ho28.size
    have B3 := B3.only_ ho28 (by intro hin; simp at hin; exact Eob25_ob5 hin)
    have B7 := B7.only_ ho28 (by intro hin; simp at hin; exact Eob25_ob9 hin)
    have G18 := OwF.only G18 ho28 No19_ob25
    have T := T.trans (ho28.below (by first | (simp; done) | (simp; omega)))
    refine RL.y rfl (Y.assign (v := .int .i64 y15.2.2) rfl) ?_
    refine RL.nil ?_
    refine then_n ?_
    refine wp_seq ?_
    refine wp_seq ?_
    refine wp_rs rfl ?_
    refine RQ.y rfl (Y.move (v := .int .i64 y15.2.2) rfl) ?_
    refine RQ.y rfl (Y.binI (v := .bool (y15.2.2 != 0)) rfl rfl rfl) ?_
    refine RQ.nil ?_
    refine then_n ?_
    rcases bcases (y15.2.2 != 0) with c29 | c29
    · replace hm := cF c29 hm
      refine cond_f rfl (vb rfl c29) ?_
      refine wp_skip ?_
      refine then_n ?_
      refine wp_seq ?_
      refine wp_rs rfl ?_
      refine RQ.y rfl (Y.move (v := v17) rfl) ?_
      refine RQ.y rfl (Y.assign (v := v17) rfl) ?_
      refine RQ.y rfl (Y.assign (v := .int .i64 0) rfl) ?_
      refine RQ.nil ?_
      refine then_n ?_
      refine wp_ret ?_
      obtain rfl := Option.some.inj hm
      exact (ret2 rfl rfl rfl rfl ⟨⟨_, rfl, G18⟩, T⟩)
    · replace hm := cT c29 hm
      refine cond_t rfl (vb rfl c29) ?_
      refine wp_seq ?_
      refine wp_rs rfl ?_
      refine RQ.y rfl (Y.move (v := .int .i64 y15.2.2) rfl) ?_
      refine RQ.y rfl (Y.assign (v := .slice none 0 0) rfl) ?_
      refine RQ.y rfl (Y.assign (v := .int .i64 y15.2.2) rfl) ?_
      refine RQ.nil ?_
      refine then_n ?_
      refine wp_ret ?_
      obtain rfl := Option.some.inj hm
      exact (then_r (ret2 rfl rfl rfl rfl ⟨⟨_, rfl, OwF.nil⟩, T⟩))
  · replace hm := cT c14 hm
    refine cond_t rfl (vb rfl c14) ?_
    refine wp_seq ?_
    refine wp_rs rfl ?_
    refine RQ.y rfl (Y.move (v := .int .i64 y10) rfl) ?_
    refine RQ.y rfl (Y.assign (v := .slice none 0 0) rfl) ?_
    refine RQ.y rfl (Y.assign (v := .int .i64 y10) rfl) ?_
    refine RQ.nil ?_
    refine then_n ?_
    refine wp_ret ?_
    obtain rfl := Option.some.inj hm
    exact (then_r (ret2 rfl rfl rfl rfl ⟨⟨_, rfl, OwF.nil⟩, T⟩))

def m_impl_Net_needed_A1 (d0 : DNet) (xs25 : List Int) (z26 : DPort) : Option ((List Int) × DPair × Bool) :=
  (bif (z26.slot != 0) then some ([], (⟨0, 0⟩ : DPair), false) else (bif ((xs25.length : Int) == 0) then some ([], (⟨0, 0⟩ : DPair), false) else ((getI d0.agents z26.agent).bind fun x32 => (bif (x32.kind == 1) then some ([], (⟨0, 0⟩ : DPair), false) else ((ck ((xs25.length : Int) - 1)).bind fun s46 => ((getI xs25 s46).bind fun x47 => some (xs25, (⟨(if z26.agent < x47 then z26.agent else x47), (if z26.agent > x47 then z26.agent else x47)⟩ : DPair), true)))))))
def m_impl_Net_needed_B1 (d0 : DNet) (rec1 : List Int → DPort → MapM Int Bool → Option ((List Int) × DPair × Bool)) (K1 : List Int → DPort → Option ((List Int) × DPair × Bool)) (xs71 : List Int) (z72 : DPort) (z73 : MapM Int Bool) : Option ((List Int) × DPair × Bool) :=
  (bif (z72.slot != 0) then ((ck z72.agent).bind fun _ => (bif (z73.look z72.agent false) then (K1 xs71 z72) else ((ck z72.agent).bind fun _ => ((mustP (z73.n ≤ 4294967296)).bind fun _ => ((mustP (xs71.length + ([z72.agent]).length ≤ 4294967296)).bind fun _ => ((m_impl_Net_peer d0 (⟨z72.agent, 0⟩ : DPort)).bind fun y99 => (rec1 (xs71 ++ [z72.agent]) y99 (z73.put z72.agent true)))))))) else (K1 xs71 z72))
def m_impl_Net_needed_L1 (d0 : DNet) (K1 : List Int → DPort → Option ((List Int) × DPair × Bool)) : Nat → List Int → DPort → MapM Int Bool → Option ((List Int) × DPair × Bool)
  | 0, _, _, _ => none
  | g + 1, xs71, z72, z73 => m_impl_Net_needed_B1 d0 (m_impl_Net_needed_L1 d0 K1 g) K1 xs71 z72 z73
def m_impl_Net_needed (d0 : DNet) (d1 : DPort) : Option ((List Int) × DPair × Bool) :=
  ((m_impl_Net_peer d0 d1).bind fun y10 => (m_impl_Net_needed_L1 d0 (m_impl_Net_needed_A1 d0) (d0.agents.length + 2) ([] : List Int) y10 (MapM.empty : MapM Int Bool)))
set_option maxHeartbeats 2000000 in
theorem c_m_impl_Net_needed (d0 : DNet) (d1 : DPort) (r : (List Int) × DPair × Bool) (hm : m_impl_Net_needed d0 d1 = some r) (v0 : Value) (w : World) (hv0 : Pt netRd w v0 d0) :
    Calls Try.prog 121 #[v0, .agg #[.int .i64 d1.agent, .int .i64 d1.slot]] w fun e w' => (∃ v, e = .returned (.tuple #[v, .agg #[.int .i64 r.2.1.a, .int .i64 r.2.1.b], .bool r.2.2]) ∧ OwF 2 encI 1 w' w.heap.size v r.1) ∧ Below w.heap.size w w' := by
  obtain ⟨ba0, oa0, csa0, rfl, hba0, hRa0, hca0⟩ := hv0
  have hSa0 := hRa0
  obtain ⟨A1, n1, c1, rfl, ⟨h1, r1⟩⟩ := hRa0
  have e1 := h1.len; subst e1
  have q1 := len_le r1
  have T := Below.refl w.heap.size w
  unfold m_impl_Net_needed at hm
  refine enter 75 Try.func121 rfl rfl rfl ?_
  intro f hf
  have s0 : f 0 = .pointer (some ⟨ba0, oa0, none⟩) := hf 0 _ rfl
  have s1 : f 1 = .agg #[.int .i64 d1.agent, .int .i64 d1.slot] := hf 1 _ rfl
  refine wp_seq ?_
  refine wp_rl rfl ?_
  refine RL.box rfl s1 (fun w2 B3 hb4 szw2 => ?_)
  replace B3 : Blk w2 w.heap.size 35 #[.int .i64 d1.agent, .int .i64 d1.slot] := B3
  have GB3 : w.heap.size ≤ w.heap.size := T.size
  have T := Tt T hb4
  refine RL.y rfl (Y.assign (v := .slice none 0 0) rfl) ?_
  refine RL.alloc (z := .agg #[.int .i64 0, .int .i64 0]) rfl (by kernel_rfl) (fun w6 B7 hb8 szw6 => ?_)
  replace B7 : Blk w6 w2.heap.size 91 #[.int .i64 0, .int .i64 0] := B7
  have GB7 : w.heap.size ≤ w2.heap.size := T.size
  have Eob9_ob5 := Nat.ne_of_lt B3.lt
  have B3 := blkT B3 hb8
  have T := Tt T hb8
  refine RL.y rfl (Y.assign (v := .bool false) rfl) ?_
  refine RL.nil ?_
  refine then_n ?_
  refine wp_seq ?_
  refine wp_rs rfl ?_
  refine RQ.y rfl (Y.assign (v := .slice none 0 0) rfl) ?_
  refine RQ.nil ?_
  refine then_n ?_
  refine wp_seq ?_
  refine wp_rl rfl ?_
  refine RL.y rfl (Y.move (v := .pointer (some ⟨ba0, oa0, none⟩)) s0) ?_
  refine RL.y rfl (Y.loadN (cs := [.int .i64 d1.agent, .int .i64 d1.slot]) rfl (by kernel_rfl) (cells2 (eqC (blkCell B3 (i := 0) rfl)) (eqC (blkCell B3 (i := 1) rfl)))) ?_
  obtain ⟨y10, e11, hm⟩ := bnd hm
  refine RL.call rfl (am2 rfl rfl) (by kernel_rfl) ((c_m_impl_Net_peer d0 d1 _ e11 _ _ (ptArg netRd_ok hba0 hSa0 hca0 T)).mono ?_)
  rintro _ w12 ⟨rfl, hb13⟩
  refine ⟨_, rfl, ?_⟩
  have szw12 := hb13.size
  have B3 := blkT B3 hb13
  have B7 := blkT B7 hb13
  have T := Tt T hb13
  refine RL.alloc (z := .agg #[.int .i64 0, .int .i64 0]) rfl (by kernel_rfl) (fun w14 B15 hb16 szw14 => ?_)
  replace B15 : Blk w14 w12.heap.size 35 #[.int .i64 0, .int .i64 0] := B15
  have GB15 : w.heap.size ≤ w12.heap.size := T.size
  have Eob17_ob5 := Nat.ne_of_lt B3.lt
  have Eob17_ob9 := Nat.ne_of_lt B7.lt
  have B3 := blkT B3 hb16
  have B7 := blkT B7 hb16
  have T := Tt T hb16
  refine RL.store (v := .agg #[.int .i64 y10.agent, .int .i64 y10.slot]) (cs' := #[.int .i64 y10.agent, .int .i64 y10.slot]) rfl rfl rfl B15 (by kernel_rfl) (by rfl) (by rfl) (by rfl) (fun w18 B19 ho20 => ?_)
  have szw18 := ho20.size
  have B3 := B3.only_ ho20 (by intro hin; simp at hin; exact Eob17_ob5 hin)
  have B7 := B7.only_ ho20 (by intro hin; simp at hin; exact Eob17_ob9 hin)
  have T := T.trans (ho20.below (by first | (simp; done) | (simp; omega)))
  refine RL.nil ?_
  refine then_n ?_
  refine wp_seq ?_
  refine wp_rl rfl ?_
  refine RL.makeMap (κ := Int) (β := Bool) 2 litI encVB rfl (fun w21 B22 hb23 szw21 => ?_)
  replace B22 := OwM.lower B22 T.size
  have Eob24_ob9 := Nat.ne_of_lt B7.lt
  have Eob24_ob17 := Nat.ne_of_lt B19.lt
  have B7 := blkT B7 hb23
  have B19 := blkT B19 hb23
  have T := Tt T hb23
  refine RL.y rfl (Y.assign (v := .map (some w18.heap.size)) rfl) ?_
  refine RL.nil ?_
  refine then_n ?_
  refine wp_seq ?_
  refine wp_block ?_
  have G107 : OwF 2 encI 1 w21 w.heap.size (.slice none 0 0) ([] : List Int) := OwF.nil
  have No106_ob9 := nilNe (b := w2.heap.size)
  have No106_ob17 := nilNe (b := w12.heap.size)
  have No106_ob24 := nilNe (b := w18.heap.size)
  obtain ⟨K1, hK1, hm⟩ : ∃ K, K = (m_impl_Net_needed_A1 d0) ∧ m_impl_Net_needed_L1 d0 K (d0.agents.length + 2) ([] : List Int) y10 (MapM.empty : MapM Int Bool) = some r := ⟨_, rfl, hm⟩
  refine wp_loopX (fun g f w' => ∃ (xs71 : List Int) (z72 : DPort) (z73 : MapM Int Bool) (uxs71 : Value), f 0 = .pointer (some ⟨ba0, oa0, none⟩) ∧ f 5 = .pointer (some ⟨w2.heap.size, 0, none⟩) ∧ f 8 = .pointer (some ⟨w12.heap.size, 0, none⟩) ∧ f 9 = .map (some w18.heap.size) ∧ f 7 = uxs71 ∧ OwF 2 encI 1 w' w.heap.size uxs71 xs71 ∧ Blk w' w12.heap.size 35 #[.int .i64 z72.agent, .int .i64 z72.slot] ∧ OwM Try.prog 2 litI encVB w' w.heap.size w18.heap.size z73 ∧ Value.ownBlock uxs71 ≠ some w2.heap.size ∧ Value.ownBlock uxs71 ≠ some w12.heap.size ∧ Value.ownBlock uxs71 ≠ some w18.heap.size ∧ Blk w' w2.heap.size 91 #[.int .i64 0, .int .i64 0] ∧ Below w.heap.size w w' ∧ m_impl_Net_needed_L1 d0 K1 g xs71 z72 z73 = some r) 0 (fun f w' => ∃ (xs25 : List Int) (z26 : DPort) (uxs25 : Value), f 0 = .pointer (some ⟨ba0, oa0, none⟩) ∧ f 5 = .pointer (some ⟨w2.heap.size, 0, none⟩) ∧ f 8 = .pointer (some ⟨w12.heap.size, 0, none⟩) ∧ f 7 = uxs25 ∧ OwF 2 encI 1 w' w.heap.size uxs25 xs25 ∧ Blk w' w12.heap.size 35 #[.int .i64 z26.agent, .int .i64 z26.slot] ∧ Value.ownBlock uxs25 ≠ some w2.heap.size ∧ Value.ownBlock uxs25 ≠ some w12.heap.size ∧ Value.ownBlock uxs25 ≠ some w18.heap.size ∧ Blk w' w2.heap.size 91 #[.int .i64 0, .int .i64 0] ∧ Below w.heap.size w w' ∧ m_impl_Net_needed_A1 d0 xs25 z26 = some r) (d0.agents.length + 2) ⟨([] : List Int), y10, (MapM.empty : MapM Int Bool), ((.slice none 0 0)), s0, rfl, rfl, rfl, rfl, G107, B19, B22, No106_ob9, No106_ob17, No106_ob24, B7, T, hm⟩ ?_ ?_
  · rintro f w27 ⟨xs25, z26, uxs25, s0_1x, s5_1x, s8_1x, s7_1x, Gxs25, Bz26, Noxs25_ob9, Noxs25_ob17, Noxs25_ob24, B7, T, hm⟩
    unfold m_impl_Net_needed_A1 at hm
    refine blk_hit (then_n ?_)
    refine wp_seq ?_
    refine wp_seq ?_
    refine wp_rbd (by kernel_rfl) (by kernel_rfl) ?_
    refine RQ.y rfl (Y.fieldAddr (off := 1) s8_1x (by kernel_rfl)) ?_
    refine RQ.y rfl (Y.load (v := .int .i64 z26.slot) rfl (by kernel_rfl) (beC (blkCell Bz26 (i := 1) rfl))) ?_
    refine RQ.y rfl (Y.binI (v := .bool (z26.slot != 0)) rfl rfl rfl) ?_
    refine RQ.y rfl (Y.move (v := .bool (z26.slot != 0)) rfl) ?_
    rcases bcases (z26.slot != 0) with c28 | c28
    · replace hm := cF c28 hm
      refine RQ.y (wantT (dj := 41) rfl (vb rfl c28)) (Y.move (v := uxs25) s7_1x) ?_
      obtain ⟨A29, c30, rfl⟩ := OwF.form Gxs25
      have qbA29 := OwF.bound Gxs25
      refine RQ.y (wantT (dj := 41) rfl (vb rfl c28)) (Y.len (by kernel_rfl) rfl) ?_
      refine RQ.y (wantT (dj := 41) rfl (vb rfl c28)) (Y.binI (v := .bool ((xs25.length : Int) == 0)) rfl rfl rfl) ?_
      refine RQ.y rfl (Y.pick (b := false) (v := .bool ((xs25.length : Int) == 0)) (vb rfl c28) rfl) ?_
      refine RQ.y rfl (Y.move (v := .bool ((xs25.length : Int) == 0)) rfl) ?_
      rcases bcases ((xs25.length : Int) == 0) with c31 | c31
      · replace hm := cF c31 hm
        refine RQ.y (wantT (dj := 46) rfl (vb rfl c31)) (Y.move (v := .pointer (some ⟨ba0, oa0, none⟩)) s0_1x) ?_
        refine RQ.y (wantT (dj := 46) rfl (vb rfl c31)) (Y.nilCheck rfl) ?_
        refine RQ.y (wantT (dj := 46) rfl (vb rfl c31)) (Y.fieldAddr (off := 0) rfl (by kernel_rfl)) ?_
        refine RQ.y (wantT (dj := 46) rfl (vb rfl c31)) (Y.load (v := .slice A1 d0.agents.length c1) rfl (by kernel_rfl) (beC (cellT T (hca0 0 _ rfl)))) ?_
        refine RQ.y (wantT (dj := 46) rfl (vb rfl c31)) (Y.fieldAddr (off := 0) s8_1x (by kernel_rfl)) ?_
        refine RQ.y (wantT (dj := 46) rfl (vb rfl c31)) (Y.load (v := .int .i64 z26.agent) rfl (by kernel_rfl) (beC (blkCell Bz26 (i := 0) rfl))) ?_
        obtain ⟨x32, hx35, hm⟩ := bnd hm
        obtain ⟨k33, hk36, hl37, hx35⟩ := getI_some hx35
        obtain ⟨b39, o40, rfl, hbb39⟩ := h1.addr (by omega)
        obtain ⟨cs34, hRcs34, hc38⟩ := h1.el hx35
        have hScs34 := hRcs34
        obtain ⟨A41, n41, c41, A42, n42, c42, rfl, ⟨h41, r41⟩, ⟨h42, r42⟩⟩ := hRcs34
        have e41 := h41.len; subst e41
        have q41 := len_le r41
        have e42 := h42.len; subst e42
        have q42 := len_le r42
        refine RQ.y (wantT (dj := 46) rfl (vb rfl c31)) (Y.indexAddr (m := k33) (sz := 5) rfl rfl hk36 hl37 (by kernel_rfl)) ?_
        refine RQ.y (wantT (dj := 46) rfl (vb rfl c31)) (Y.fieldAddr (off := 0) rfl (by kernel_rfl)) ?_
        refine RQ.y (wantT (dj := 46) rfl (vb rfl c31)) (Y.load (v := .int .i64 x32.kind) rfl (by kernel_rfl) (beC (cellT T (hc38 0 _ rfl)))) ?_
        refine RQ.y (wantT (dj := 46) rfl (vb rfl c31)) (Y.binI (v := .bool (x32.kind == 1)) rfl rfl rfl) ?_
        refine RQ.y rfl (Y.pick (b := false) (v := .bool (x32.kind == 1)) (vb rfl c31) rfl) ?_
        refine RQ.nil ?_
        intro w43 hb44
        have szw43 := hb44.size
        have B7 := blkT B7 hb44
        have Bz26 := blkT Bz26 hb44
        have Gxs25 := OwF.below Gxs25 hb44
        have T := Tt T hb44
        refine then_n ?_
        rcases bcases (x32.kind == 1) with c45 | c45
        · replace hm := cF c45 hm
          refine cond_f rfl (vb rfl c45) ?_
          refine wp_skip ?_
          refine then_n ?_
          refine wp_seq ?_
          refine wp_rs rfl ?_
          refine RQ.y rfl (Y.move (v := .slice A29 xs25.length c30) s7_1x) ?_
          refine RQ.y rfl (Y.move (v := .slice A29 xs25.length c30) s7_1x) ?_
          refine RQ.y rfl (Y.len (by kernel_rfl) rfl) ?_
          obtain ⟨s46, ks46, hm⟩ := bnd hm
          replace ks46 := ck_some ks46
          refine RQ.y rfl (Y.binI (v := .int .i64 s46) rfl rfl (by rw [binI_sub ks46.2, ks46.1])) ?_
          obtain ⟨x47, hx49, hm⟩ := bnd hm
          obtain ⟨k48, hk50, hl51, hx49⟩ := getI_some hx49
          obtain ⟨b52, rfl⟩ := OwF.addr0 Gxs25 (by omega)
          refine RQ.y rfl (Y.indexAddr (m := k48) (sz := 1) rfl rfl hk50 hl51 (by kernel_rfl)) ?_
          refine RQ.y rfl (Y.load (v := .int .i64 x47) rfl (by kernel_rfl) (eqC (OwF.cell fI Gxs25 hx49 (j := 0) rfl))) ?_
          refine RQ.y rfl (Y.assign (v := .int .i64 x47) rfl) ?_
          refine RQ.nil ?_
          refine then_n ?_
          refine wp_seq ?_
          refine wp_rg (fun w' => Below w.heap.size w w' ∧ Blk w' w12.heap.size 35 #[.int .i64 z26.agent, .int .i64 z26.slot]) [(0, true), (1, true), (2, true), (3, true), (4, true), (5, true), (6, true), (7, true), (8, true), (9, true), (10, true), (11, false), (12, true)] (by kernel_rfl) (by kernel_rfl) (fun w53 hb54 szw53 => ?_)
          have B7 := blkT B7 hb54
          have Bz26 := blkT Bz26 hb54
          have Gxs25 := OwF.below Gxs25 hb54
          have T := Tt T hb54
          refine ⟨⟨T, Bz26⟩, ?_⟩
          refine RG.y rfl rfl (Y.move (v := .slice (some ⟨b52, 0, none⟩) xs25.length c30) s7_1x) ?_
          refine RG.y rfl rfl (Y.move (v := .int .i64 x47) rfl) ?_
          refine RG.y rfl rfl (Y.fieldAddr (off := 0) s8_1x (by kernel_rfl)) ?_
          refine RG.y rfl rfl (Y.load (v := .int .i64 z26.agent) rfl (by kernel_rfl) (fun w' hS => (blkCell hS.2 (i := 0) rfl))) ?_
          refine RG.y rfl rfl (Y.min rfl rfl) ?_
          refine RG.y rfl rfl (Y.move (v := .int .i64 x47) rfl) ?_
          refine RG.y rfl rfl (Y.fieldAddr (off := 0) s8_1x (by kernel_rfl)) ?_
          refine RG.y rfl rfl (Y.load (v := .int .i64 z26.agent) rfl (by kernel_rfl) (fun w' hS => (blkCell hS.2 (i := 0) rfl))) ?_
          refine RG.y rfl rfl (Y.max rfl rfl) ?_
          refine RG.y rfl rfl (Y.build2 (cells := #[.int .i64 (if z26.agent < x47 then z26.agent else x47), .int .i64 (if z26.agent > x47 then z26.agent else x47)]) rfl rfl (by kernel_rfl) (by kernel_rfl)) ?_
          refine RG.y rfl rfl (Y.assign (v := .slice (some ⟨b52, 0, none⟩) xs25.length c30) rfl) ?_
          refine RG.act rfl ?_
          refine RL.store (v := .agg #[.int .i64 (if z26.agent < x47 then z26.agent else x47), .int .i64 (if z26.agent > x47 then z26.agent else x47)]) (cs' := #[.int .i64 (if z26.agent < x47 then z26.agent else x47), .int .i64 (if z26.agent > x47 then z26.agent else x47)]) rfl s5_1x rfl B7 (by kernel_rfl) (by rfl) (by rfl) (by rfl) (fun w55 B56 ho57 => ?_)
          have szw55 := ho57.size
          have Bz26 := Bz26.only_ ho57 (by intro hin; simp at hin; exact Eob17_ob9.symm hin)
          have Gxs25 := OwF.only Gxs25 ho57 Noxs25_ob9
          have T := T.trans (ho57.below (by first | (simp; done) | (simp; omega)))
          refine RL.nil ⟨⟨T, Bz26⟩, ?_⟩
          refine RG.y rfl rfl (Y.assign (v := .bool true) rfl) ?_
          refine RG.nil ?_
          refine then_n ?_
          refine wp_ret ?_
          obtain rfl := Option.some.inj hm
          exact (rettct (cs := [.int .i64 (if z26.agent < x47 then z26.agent else x47), .int .i64 (if z26.agent > x47 then z26.agent else x47)]) rfl rfl rfl s5_1x rfl (by kernel_rfl) (blkCells B56) ⟨⟨_, rfl, Gxs25⟩, T⟩)
        · replace hm := cT c45 hm
          refine cond_t rfl (vb rfl c45) ?_
          refine wp_seq ?_
          refine wp_rl rfl ?_
          refine RL.y rfl (Y.build0 (cells := #[.int .i64 0, .int .i64 0])  (by kernel_rfl) (by kernel_rfl)) ?_
          refine RL.y rfl (Y.assign (v := .slice none 0 0) rfl) ?_
          refine RL.store (v := .agg #[.int .i64 0, .int .i64 0]) (cs' := #[.int .i64 0, .int .i64 0]) rfl s5_1x rfl B7 (by kernel_rfl) (by rfl) (by rfl) (by rfl) (fun w58 B59 ho60 => ?_)
          have szw58 := ho60.size
          have Bz26 := Bz26.only_ ho60 (by intro hin; simp at hin; exact Eob17_ob9.symm hin)
          have Gxs25 := OwF.only Gxs25 ho60 Noxs25_ob9
          have T := T.trans (ho60.below (by first | (simp; done) | (simp; omega)))
          refine RL.y rfl (Y.assign (v := .bool false) rfl) ?_
          refine RL.nil ?_
          refine then_n ?_
          refine wp_ret ?_
          obtain rfl := Option.some.inj hm
          exact (then_r (rettct (cs := [.int .i64 0, .int .i64 0]) rfl rfl rfl s5_1x rfl (by kernel_rfl) (blkCells B59) ⟨⟨_, rfl, OwF.nil⟩, T⟩))
      · replace hm := cT c31 hm
        refine RQ.skip (wantN (dj := 46) rfl (vb rfl c31) rfl) ?_
        refine RQ.skip (wantN (dj := 46) rfl (vb rfl c31) rfl) ?_
        refine RQ.skip (wantN (dj := 46) rfl (vb rfl c31) rfl) ?_
        refine RQ.skip (wantN (dj := 46) rfl (vb rfl c31) rfl) ?_
        refine RQ.skip (wantN (dj := 46) rfl (vb rfl c31) rfl) ?_
        refine RQ.skip (wantN (dj := 46) rfl (vb rfl c31) rfl) ?_
        refine RQ.skip (wantN (dj := 46) rfl (vb rfl c31) rfl) ?_
        refine RQ.skip (wantN (dj := 46) rfl (vb rfl c31) rfl) ?_
        refine RQ.skip (wantN (dj := 46) rfl (vb rfl c31) rfl) ?_
        refine RQ.skip (wantN (dj := 46) rfl (vb rfl c31) rfl) ?_
        refine RQ.y rfl (Y.pick (b := true) (v := .bool true) (vb rfl c31) rfl) ?_
        refine RQ.nil ?_
        intro w61 hb62
        have szw61 := hb62.size
        have B7 := blkT B7 hb62
        have Bz26 := blkT Bz26 hb62
        have Gxs25 := OwF.below Gxs25 hb62
        have T := Tt T hb62
        refine then_n ?_
        refine cond_t rfl rfl ?_
        refine wp_seq ?_
        refine wp_rl rfl ?_
        refine RL.y rfl (Y.build0 (cells := #[.int .i64 0, .int .i64 0])  (by kernel_rfl) (by kernel_rfl)) ?_
        refine RL.y rfl (Y.assign (v := .slice none 0 0) rfl) ?_
        refine RL.store (v := .agg #[.int .i64 0, .int .i64 0]) (cs' := #[.int .i64 0, .int .i64 0]) rfl s5_1x rfl B7 (by kernel_rfl) (by rfl) (by rfl) (by rfl) (fun w63 B64 ho65 => ?_)
        have szw63 := ho65.size
        have Bz26 := Bz26.only_ ho65 (by intro hin; simp at hin; exact Eob17_ob9.symm hin)
        have Gxs25 := OwF.only Gxs25 ho65 Noxs25_ob9
        have T := T.trans (ho65.below (by first | (simp; done) | (simp; omega)))
        refine RL.y rfl (Y.assign (v := .bool false) rfl) ?_
        refine RL.nil ?_
        refine then_n ?_
        refine wp_ret ?_
        obtain rfl := Option.some.inj hm
        exact (then_r (rettct (cs := [.int .i64 0, .int .i64 0]) rfl rfl rfl s5_1x rfl (by kernel_rfl) (blkCells B64) ⟨⟨_, rfl, OwF.nil⟩, T⟩))
    · replace hm := cT c28 hm
      refine RQ.skip (wantN (dj := 41) rfl (vb rfl c28) rfl) ?_
      refine RQ.skip (wantN (dj := 41) rfl (vb rfl c28) rfl) ?_
      refine RQ.skip (wantN (dj := 41) rfl (vb rfl c28) rfl) ?_
      refine RQ.y rfl (Y.pick (b := true) (v := .bool true) (vb rfl c28) rfl) ?_
      refine RQ.y rfl (Y.move (v := .bool true) rfl) ?_
      refine RQ.skip (wantN (dj := 46) rfl rfl rfl) ?_
      refine RQ.skip (wantN (dj := 46) rfl rfl rfl) ?_
      refine RQ.skip (wantN (dj := 46) rfl rfl rfl) ?_
      refine RQ.skip (wantN (dj := 46) rfl rfl rfl) ?_
      refine RQ.skip (wantN (dj := 46) rfl rfl rfl) ?_
      refine RQ.skip (wantN (dj := 46) rfl rfl rfl) ?_
      refine RQ.skip (wantN (dj := 46) rfl rfl rfl) ?_
      refine RQ.skip (wantN (dj := 46) rfl rfl rfl) ?_
      refine RQ.skip (wantN (dj := 46) rfl rfl rfl) ?_
      refine RQ.skip (wantN (dj := 46) rfl rfl rfl) ?_
      refine RQ.y rfl (Y.pick (b := true) (v := .bool true) rfl rfl) ?_
      refine RQ.nil ?_
      intro w66 hb67
      have szw66 := hb67.size
      have B7 := blkT B7 hb67
      have Bz26 := blkT Bz26 hb67
      have Gxs25 := OwF.below Gxs25 hb67
      have T := Tt T hb67
      refine then_n ?_
      refine cond_t rfl rfl ?_
      refine wp_seq ?_
      refine wp_rl rfl ?_
      refine RL.y rfl (Y.build0 (cells := #[.int .i64 0, .int .i64 0])  (by kernel_rfl) (by kernel_rfl)) ?_
      refine RL.y rfl (Y.assign (v := .slice none 0 0) rfl) ?_
      refine RL.store (v := .agg #[.int .i64 0, .int .i64 0]) (cs' := #[.int .i64 0, .int .i64 0]) rfl s5_1x rfl B7 (by kernel_rfl) (by rfl) (by rfl) (by rfl) (fun w68 B69 ho70 => ?_)
      have szw68 := ho70.size
      have Bz26 := Bz26.only_ ho70 (by intro hin; simp at hin; exact Eob17_ob9.symm hin)
      have Gxs25 := OwF.only Gxs25 ho70 Noxs25_ob9
      have T := T.trans (ho70.below (by first | (simp; done) | (simp; omega)))
      refine RL.y rfl (Y.assign (v := .bool false) rfl) ?_
      refine RL.nil ?_
      refine then_n ?_
      refine wp_ret ?_
      obtain rfl := Option.some.inj hm
      exact (then_r (rettct (cs := [.int .i64 0, .int .i64 0]) rfl rfl rfl s5_1x rfl (by kernel_rfl) (blkCells B69) ⟨⟨_, rfl, OwF.nil⟩, T⟩))
  · rintro g f w74 ⟨xs71, z72, z73, uxs71, s0_1, s5_1, s8_1, s9_1, s7_1, Gxs71, Bz72, Bz73, Noxs71_ob9, Noxs71_ob17, Noxs71_ob24, B7, T, hm⟩
    rcases g with _ | g
    · simp only [m_impl_Net_needed_L1] at hm; cases hm
    obtain ⟨rec1, hrec1, hm⟩ : ∃ z, z = m_impl_Net_needed_L1 d0 K1 g ∧ m_impl_Net_needed_B1 d0 z K1 xs71 z72 z73 = some r := ⟨_, rfl, hm⟩
    unfold m_impl_Net_needed_B1 at hm
    refine wp_seq ?_
    refine wp_seq ?_
    refine wp_rs rfl ?_
    refine RQ.y rfl (Y.fieldAddr (off := 1) s8_1 (by kernel_rfl)) ?_
    refine RQ.y rfl (Y.load (v := .int .i64 z72.slot) rfl (by kernel_rfl) (eqC (blkCell Bz72 (i := 1) rfl))) ?_
    refine RQ.y rfl (Y.binI (v := .bool (z72.slot != 0)) rfl rfl rfl) ?_
    refine RQ.y rfl (Y.move (v := .bool (z72.slot != 0)) rfl) ?_
    rcases bcases (z72.slot != 0) with c75 | c75
    · replace hm := cF c75 hm
      refine RQ.skip (wantN (dj := 18) rfl (vb rfl c75) rfl) ?_
      refine RQ.skip (wantN (dj := 18) rfl (vb rfl c75) rfl) ?_
      refine RQ.skip (wantN (dj := 18) rfl (vb rfl c75) rfl) ?_
      refine RQ.skip (wantN (dj := 18) rfl (vb rfl c75) rfl) ?_
      refine RQ.skip (wantN (dj := 18) rfl (vb rfl c75) rfl) ?_
      refine RQ.y rfl (Y.pick (b := false) (v := .bool false) (vb rfl c75) rfl) ?_
      refine RQ.nil ?_
      refine then_n ?_
      refine cond_f rfl rfl ?_
      refine wp_exit ?_
      exact (then_x (then_x (hit_x ⟨_, rfl, ⟨xs71, z72, (uxs71), s0_1, s5_1, s8_1, s7_1, Gxs71, Bz72, Noxs71_ob9, Noxs71_ob17, Noxs71_ob24, B7, T, (by rw [hK1] at hm; exact hm)⟩⟩)))
    · replace hm := cT c75 hm
      refine RQ.y (wantT (dj := 18) rfl (vb rfl c75)) (Y.move (v := .map (some w18.heap.size)) s9_1) ?_
      refine RQ.y (wantT (dj := 18) rfl (vb rfl c75)) (Y.fieldAddr (off := 0) s8_1 (by kernel_rfl)) ?_
      refine RQ.y (wantT (dj := 18) rfl (vb rfl c75)) (Y.load (v := .int .i64 z72.agent) rfl (by kernel_rfl) (eqC (blkCell Bz72 (i := 0) rfl))) ?_
      obtain ⟨_, kc76, hm⟩ := bnd hm
      replace kc76 := (ck_some kc76).2
      refine RQ.y (wantT (dj := 18) rfl (vb rfl c75)) (Y.look (zb := false) (a := z72.agent) mt_int64_bool rfl rfl kc76 (fun w' e => by rw [e]; exact Bz73)) ?_
      refine RQ.y (wantT (dj := 18) rfl (vb rfl c75)) (Y.not (b' := (!(z73.look z72.agent false))) rfl rfl) ?_
      refine RQ.y rfl (Y.pick (b := true) (v := .bool (!(z73.look z72.agent false))) (vb rfl c75) rfl) ?_
      refine RQ.nil ?_
      refine then_n ?_
      rcases bcases (z73.look z72.agent false) with c77 | c77
      · replace hm := cF c77 hm
        refine cond_t rfl (vbn rfl c77 rfl) ?_
        refine wp_skip ?_
        refine then_n ?_
        refine wp_block ?_
        refine wp_seq ?_
        refine wp_rl rfl ?_
        refine RL.y rfl (Y.move (v := .map (some w18.heap.size)) s9_1) ?_
        refine RL.y rfl (Y.fieldAddr (off := 0) s8_1 (by kernel_rfl)) ?_
        refine RL.y rfl (Y.load (v := .int .i64 z72.agent) rfl (by kernel_rfl) (eqC (blkCell Bz72 (i := 0) rfl))) ?_
        obtain ⟨_, kc78, hm⟩ := bnd hm
        replace kc78 := (ck_some kc78).2
        obtain ⟨_, m79, hm⟩ := bnd hm
        have hk80 := mustP_some m79
        refine RL.mapSet (a := z72.agent) (v := true) (enc := encVB) mt_int64_bool rfl rfl rfl rfl kc78 Bz73 hk80 (fun w81 B82 ho83 => ?_)
        have szw81 := ho83.size
        have B7 := B7.only_ ho83 (by intro hin; simp at hin; exact Eob24_ob9 hin)
        have Bz72 := Bz72.only_ ho83 (by intro hin; simp at hin; exact Eob24_ob17 hin)
        have Gxs71 := OwF.only Gxs71 ho83 Noxs71_ob24
        have T := T.trans (ho83.below (by intro b hb; simp at hb; subst hb; exact Bz73.1))
        refine RL.nil ?_
        refine then_n ?_
        refine wp_seq ?_
        refine wp_rl rfl ?_
        refine RL.y rfl (Y.move (v := uxs71) s7_1) ?_
        refine RL.y rfl (Y.fieldAddr (off := 0) s8_1 (by kernel_rfl)) ?_
        refine RL.y rfl (Y.load (v := .int .i64 z72.agent) rfl (by kernel_rfl) (eqC (blkCell Bz72 (i := 0) rfl))) ?_
        refine RL.bslice (e := 2) (cells := #[.int .i64 z72.agent]) rfl (pm1 rfl) (by kernel_rfl) (fun w84 B85 hb86 szw84 => ?_)
        have ZB85 : w.heap.size ≤ w81.heap.size := T.size
        have No87_ob9 := litNe (n := 1) (c := 1) B7.lt
        have No87_ob17 := litNe (n := 1) (c := 1) Bz72.lt
        have No87_ob24 := litNe (n := 1) (c := 1) B82.lt
        have Do87_oxs71 := Dj.new (v := .slice (some ⟨w81.heap.size, 0, none⟩) 1 1) litGe (OwF.hi Gxs71)
        have B7 := blkT B7 hb86
        have Bz72 := blkT Bz72 hb86
        have B82 := OwM.below B82 hb86
        have Gxs71 := OwF.below Gxs71 hb86
        have T := Tt T hb86
        have G88 := OwF.lit (enc := encI) (sz := 1) (xs := [z72.agent]) B85 ZB85 rfl rfl rfl rfl
        obtain ⟨_, m90, hm⟩ := bnd hm
        have hk91 := mustP_some m90
        refine RL.append fI app_int64 rfl rfl rfl Gxs71 (OwF.arg fI G88) T.size hk91 (fun v92 w93 G94 hgr95 hbl96 hnb97 => ?_)
        have szw93 := hbl96.size
        have No98_ob9 := ne_app hnb97 Noxs71_ob9 B7.lt
        have No98_ob17 := ne_app hnb97 Noxs71_ob17 Bz72.lt
        have No98_ob24 := ne_app hnb97 Noxs71_ob24 B82.lt
        have B7 := Blk.kept B7 hgr95 Noxs71_ob9
        have Bz72 := Blk.kept Bz72 hgr95 Noxs71_ob17
        have B82 := OwM.grown B82 hgr95 Noxs71_ob24
        have T := T.trans hbl96
        refine RL.y rfl (Y.assign (v := v92) rfl) ?_
        refine RL.nil ?_
        refine then_n ?_
        refine wp_rl rfl ?_
        refine RL.y rfl (Y.move (v := .pointer (some ⟨ba0, oa0, none⟩)) s0_1) ?_
        refine RL.y rfl (Y.fieldAddr (off := 0) s8_1 (by kernel_rfl)) ?_
        refine RL.y rfl (Y.load (v := .int .i64 z72.agent) rfl (by kernel_rfl) (eqC (blkCell Bz72 (i := 0) rfl))) ?_
        refine RL.y rfl (Y.build2 (cells := #[.int .i64 z72.agent, .int .i64 0]) rfl rfl (by kernel_rfl) (by kernel_rfl)) ?_
        obtain ⟨y99, e100, hm⟩ := bnd hm
        refine RL.call rfl (am2 rfl rfl) (by kernel_rfl) ((c_m_impl_Net_peer d0 (⟨z72.agent, 0⟩ : DPort) _ e100 _ _ (ptArg netRd_ok hba0 hSa0 hca0 T)).mono ?_)
        rintro _ w101 ⟨rfl, hb102⟩
        refine ⟨_, rfl, ?_⟩
        have szw101 := hb102.size
        have B7 := blkT B7 hb102
        have Bz72 := blkT Bz72 hb102
        have B82 := OwM.below B82 hb102
        have G94 := OwF.below G94 hb102
        have T := Tt T hb102
        refine RL.store (v := .agg #[.int .i64 y99.agent, .int .i64 y99.slot]) (cs' := #[.int .i64 y99.agent, .int .i64 y99.slot]) rfl s8_1 rfl Bz72 (by kernel_rfl) (by rfl) (by rfl) (by rfl) (fun w103 B104 ho105 => ?_)
        have szw103 := ho105.size
        have B7 := B7.only_ ho105 (by intro hin; simp at hin; exact Eob17_ob9 hin)
        have B82 := B82.only ho105 (by intro hin; simp at hin; exact Eob24_ob17.symm hin)
        have G94 := OwF.only G94 ho105 No98_ob17
        have T := T.trans (ho105.below (by first | (simp; done) | (simp; omega)))
        refine RL.nil ?_
        exact (blk_n (then_n ⟨g, _, Nat.lt_succ_self _, rfl, ⟨(xs71 ++ [z72.agent]), y99, (z73.put z72.agent true), (v92), s0_1, s5_1, s8_1, s9_1, rfl, G94, B104, B82, No98_ob9, No98_ob17, No98_ob24, B7, T, (by rw [← hrec1]; exact hm)⟩⟩))
      · replace hm := cT c77 hm
        refine cond_f rfl (vbn rfl c77 rfl) ?_
        refine wp_exit ?_
        exact (then_x (then_x (hit_x ⟨_, rfl, ⟨xs71, z72, (uxs71), s0_1, s5_1, s8_1, s7_1, Gxs71, Bz72, Noxs71_ob9, Noxs71_ob17, Noxs71_ob24, B7, T, (by rw [hK1] at hm; exact hm)⟩⟩)))

def m_impl_neededAt (d0 : DNet) (d1 : DPort) : Option ((List Int) × DPair × Int) :=
  ((m_impl_ValidNet d0).bind fun y14 => (bif y14 then ((m_impl_hasPort d0.agents d1).bind fun y22 => (bif y22 then ((m_impl_Net_isKnown d0 d1).bind fun y30 => (bif y30 then some ([], (⟨0, 0⟩ : DPair), 3) else ((m_impl_Net_needed d0 d1).bind fun y35 => (bif y35.2.2 then some (y35.1, y35.2.1, 0) else some ([], (⟨0, 0⟩ : DPair), 5))))) else some ([], (⟨0, 0⟩ : DPair), 2))) else some ([], (⟨0, 0⟩ : DPair), 1)))
set_option maxHeartbeats 2000000 in
theorem c_m_impl_neededAt (d0 : DNet) (d1 : DPort) (r : (List Int) × DPair × Int) (hm : m_impl_neededAt d0 d1 = some r) (v0 : Value) (w : World) (hv0 : St netRd w v0 d0) :
    Calls Try.prog 94 #[v0, .agg #[.int .i64 d1.agent, .int .i64 d1.slot]] w fun e w' => (∃ v, e = .returned (.tuple #[v, .agg #[.int .i64 r.2.1.a, .int .i64 r.2.1.b], .int .i64 r.2.2]) ∧ OwF 2 encI 1 w' w.heap.size v r.1) ∧ Below w.heap.size w w' := by
  obtain ⟨csa0, rfl, ⟨A1, n1, c1, rfl, ⟨h1, r1⟩⟩⟩ := hv0
  have e1 := h1.len; subst e1
  have q1 := len_le r1
  have T := Below.refl w.heap.size w
  unfold m_impl_neededAt at hm
  refine enter 37 Try.func94 rfl rfl rfl ?_
  intro f hf
  have s0 : f 0 = .agg #[.slice A1 d0.agents.length c1] := hf 0 _ rfl
  have s1 : f 1 = .agg #[.int .i64 d1.agent, .int .i64 d1.slot] := hf 1 _ rfl
  refine wp_seq ?_
  refine wp_rl rfl ?_
  refine RL.box rfl s0 (fun w2 B3 hb4 szw2 => ?_)
  replace B3 : Blk w2 w.heap.size 29 #[.slice A1 d0.agents.length c1] := B3
  have GB3 : w.heap.size ≤ w.heap.size := T.size
  have T := Tt T hb4
  refine RL.box rfl s1 (fun w6 B7 hb8 szw6 => ?_)
  replace B7 : Blk w6 w2.heap.size 35 #[.int .i64 d1.agent, .int .i64 d1.slot] := B7
  have GB7 : w.heap.size ≤ w2.heap.size := T.size
  have Eob9_ob5 := Nat.ne_of_lt B3.lt
  have B3 := blkT B3 hb8
  have T := Tt T hb8
  refine RL.y rfl (Y.assign (v := .slice none 0 0) rfl) ?_
  refine RL.alloc (z := .agg #[.int .i64 0, .int .i64 0]) rfl (by kernel_rfl) (fun w10 B11 hb12 szw10 => ?_)
  replace B11 : Blk w10 w6.heap.size 91 #[.int .i64 0, .int .i64 0] := B11
  have GB11 : w.heap.size ≤ w6.heap.size := T.size
  have Eob13_ob5 := Nat.ne_of_lt B3.lt
  have Eob13_ob9 := Nat.ne_of_lt B7.lt
  have B3 := blkT B3 hb12
  have B7 := blkT B7 hb12
  have T := Tt T hb12
  refine RL.y rfl (Y.assign (v := .int .i64 0) rfl) ?_
  refine RL.nil ?_
  refine then_n ?_
  refine wp_seq ?_
  refine wp_block ?_
  refine wp_seq ?_
  refine wp_rb rfl ?_
  refine RQ.y rfl (Y.loadN (cs := [.slice A1 d0.agents.length c1]) rfl (by kernel_rfl) (cells1 (beC (blkCell B3 (i := 0) rfl)))) ?_
  obtain ⟨y14, e15, hm⟩ := bnd hm
  refine RQ.call rfl (am1 rfl) (by kernel_rfl) (v := .bool y14) (bel (K := fun _ => True) fun w' hb' => (c_m_impl_ValidNet d0 _ e15 _ w' (stArg (R := netRd) ⟨_, _, _, rfl, ⟨SlAt.now agentRd_ok h1 (Nat.le_refl _) (Tt T hb'), r1⟩⟩))) ?_
  refine RQ.y rfl (Y.not (b' := (!y14)) rfl rfl) ?_
  refine RQ.y rfl (Y.assign (v := .bool (!y14)) rfl) ?_
  refine RQ.nil ?_
  intro w16 hb17
  have szw16 := hb17.size
  have B3 := blkT B3 hb17
  have B7 := blkT B7 hb17
  have B11 := blkT B11 hb17
  have T := Tt T hb17
  refine then_n ?_
  rcases bcases y14 with c18 | c18
  · replace hm := cF c18 hm
    refine cond_t rfl (vbn rfl c18 rfl) ?_
    refine wp_seq ?_
    refine wp_rl rfl ?_
    refine RL.y rfl (Y.build0 (cells := #[.int .i64 0, .int .i64 0])  (by kernel_rfl) (by kernel_rfl)) ?_
    refine RL.y rfl (Y.assign (v := .slice none 0 0) rfl) ?_
    refine RL.store (v := .agg #[.int .i64 0, .int .i64 0]) (cs' := #[.int .i64 0, .int .i64 0]) rfl rfl rfl B11 (by kernel_rfl) (by rfl) (by rfl) (by rfl) (fun w19 B20 ho21 => ?_)
    have szw19 := ho21.size
    have B3 := B3.only_ ho21 (by intro hin; simp at hin; exact Eob13_ob5 hin)
    have B7 := B7.only_ ho21 (by intro hin; simp at hin; exact Eob13_ob9 hin)
    have T := T.trans (ho21.below (by first | (simp; done) | (simp; omega)))
    refine RL.y rfl (Y.assign (v := .int .i64 1) rfl) ?_
    refine RL.nil ?_
    refine then_n ?_
    refine wp_ret ?_
    obtain rfl := Option.some.inj hm
    exact (blk_r (then_r (rettct (cs := [.int .i64 0, .int .i64 0]) rfl rfl rfl rfl rfl (by kernel_rfl) (blkCells B20) ⟨⟨_, rfl, OwF.nil⟩, T⟩)))
  · replace hm := cT c18 hm
    refine cond_f rfl (vbn rfl c18 rfl) ?_
    refine wp_seq ?_
    refine wp_rb rfl ?_
    refine RQ.y rfl (Y.fieldAddr (off := 0) rfl (by kernel_rfl)) ?_
    refine RQ.y rfl (Y.load (v := .slice A1 d0.agents.length c1) rfl (by kernel_rfl) (beC (blkCell B3 (i := 0) rfl))) ?_
    refine RQ.y rfl (Y.loadN (cs := [.int .i64 d1.agent, .int .i64 d1.slot]) rfl (by kernel_rfl) (cells2 (beC (blkCell B7 (i := 0) rfl)) (beC (blkCell B7 (i := 1) rfl)))) ?_
    obtain ⟨y22, e23, hm⟩ := bnd hm
    refine RQ.call rfl (am2 rfl rfl) (by kernel_rfl) (v := .bool y22) (bel (K := fun _ => True) fun w' hb' => (c_m_impl_hasPort d0.agents d1 _ e23 _ w' (slArg agentRd_ok h1 r1 (Tt T hb')))) ?_
    refine RQ.y rfl (Y.not (b' := (!y22)) rfl rfl) ?_
    refine RQ.y rfl (Y.assign (v := .bool (!y22)) rfl) ?_
    refine RQ.nil ?_
    intro w24 hb25
    have szw24 := hb25.size
    have B3 := blkT B3 hb25
    have B7 := blkT B7 hb25
    have B11 := blkT B11 hb25
    have T := Tt T hb25
    refine then_n ?_
    rcases bcases y22 with c26 | c26
    · replace hm := cF c26 hm
      refine cond_t rfl (vbn rfl c26 rfl) ?_
      refine wp_seq ?_
      refine wp_rl rfl ?_
      refine RL.y rfl (Y.build0 (cells := #[.int .i64 0, .int .i64 0])  (by kernel_rfl) (by kernel_rfl)) ?_
      refine RL.y rfl (Y.assign (v := .slice none 0 0) rfl) ?_
      refine RL.store (v := .agg #[.int .i64 0, .int .i64 0]) (cs' := #[.int .i64 0, .int .i64 0]) rfl rfl rfl B11 (by kernel_rfl) (by rfl) (by rfl) (by rfl) (fun w27 B28 ho29 => ?_)
      have szw27 := ho29.size
      have B3 := B3.only_ ho29 (by intro hin; simp at hin; exact Eob13_ob5 hin)
      have B7 := B7.only_ ho29 (by intro hin; simp at hin; exact Eob13_ob9 hin)
      have T := T.trans (ho29.below (by first | (simp; done) | (simp; omega)))
      refine RL.y rfl (Y.assign (v := .int .i64 2) rfl) ?_
      refine RL.nil ?_
      refine then_n ?_
      refine wp_ret ?_
      obtain rfl := Option.some.inj hm
      exact (blk_r (then_r (rettct (cs := [.int .i64 0, .int .i64 0]) rfl rfl rfl rfl rfl (by kernel_rfl) (blkCells B28) ⟨⟨_, rfl, OwF.nil⟩, T⟩)))
    · replace hm := cT c26 hm
      refine cond_f rfl (vbn rfl c26 rfl) ?_
      refine wp_seq ?_
      refine wp_rb rfl ?_
      refine RQ.y rfl (Y.loadN (cs := [.int .i64 d1.agent, .int .i64 d1.slot]) rfl (by kernel_rfl) (cells2 (beC (blkCell B7 (i := 0) rfl)) (beC (blkCell B7 (i := 1) rfl)))) ?_
      obtain ⟨y30, e31, hm⟩ := bnd hm
      refine RQ.call rfl (am2 rfl rfl) (by kernel_rfl) (v := .bool y30) (bel (K := fun _ => True) fun w' hb' => (c_m_impl_Net_isKnown d0 d1 _ e31 _ w' (ptBox (R := netRd) (blkT B3 hb') ⟨_, _, _, rfl, ⟨SlAt.now agentRd_ok h1 (Nat.le_refl _) (Tt T hb'), r1⟩⟩))) ?_
      refine RQ.y rfl (Y.assign (v := .bool y30) rfl) ?_
      refine RQ.nil ?_
      intro w32 hb33
      have szw32 := hb33.size
      have B3 := blkT B3 hb33
      have B7 := blkT B7 hb33
      have B11 := blkT B11 hb33
      have T := Tt T hb33
      refine then_n ?_
      rcases bcases y30 with c34 | c34
      · replace hm := cF c34 hm
        refine cond_f rfl (vb rfl c34) ?_
        refine wp_skip ?_
        refine blk_n (then_n ?_)
        refine wp_seq ?_
        refine wp_rl rfl ?_
        refine RL.y rfl (Y.loadN (cs := [.int .i64 d1.agent, .int .i64 d1.slot]) rfl (by kernel_rfl) (cells2 (eqC (blkCell B7 (i := 0) rfl)) (eqC (blkCell B7 (i := 1) rfl)))) ?_
        obtain ⟨y35, e36, hm⟩ := bnd hm
        refine RL.call rfl (am2 rfl rfl) (by kernel_rfl) ((c_m_impl_Net_needed d0 d1 _ e36 _ _ (ptBox (R := netRd) B3 ⟨_, _, _, rfl, ⟨SlAt.now agentRd_ok h1 (Nat.le_refl _) T, r1⟩⟩)).mono ?_)
        rintro _ w40 ⟨⟨v37, rfl, G38⟩, hb41⟩
        refine ⟨_, rfl, ?_⟩
        have szw40 := hb41.size
        have T0w40 := T.size
        have No39_ob5 := OwF.ne G38 B3.lt
        have No39_ob9 := OwF.ne G38 B7.lt
        have No39_ob13 := OwF.ne G38 B11.lt
        have B3 := blkT B3 hb41
        have B7 := blkT B7 hb41
        have B11 := blkT B11 hb41
        have T := Tt T hb41
        replace G38 := OwF.mono G38 T0w40
        refine RL.y rfl (Y.move (v := .tuple #[v37, .agg #[.int .i64 y35.2.1.a, .int .i64 y35.2.1.b], .bool y35.2.2]) rfl) ?_
        refine RL.y rfl (Y.extract (i := 0) rfl rfl) ?_
        refine RL.y rfl (Y.extract (i := 1) rfl rfl) ?_
        refine RL.y rfl (Y.extract (i := 2) rfl rfl) ?_
        refine RL.alloc (z := .agg #[.int .i64 0, .int .i64 0]) rfl (by kernel_rfl) (fun w42 B43 hb44 szw42 => ?_)
        replace B43 : Blk w42 w40.heap.size 91 #[.int .i64 0, .int .i64 0] := B43
        have GB43 : w.heap.size ≤ w40.heap.size := T.size
        have Eob45_ob5 := Nat.ne_of_lt B3.lt
        have Eob45_ob9 := Nat.ne_of_lt B7.lt
        have Eob45_ob13 := Nat.ne_of_lt B11.lt
        have No39_ob45 := OwF.far G38 (Nat.le_refl _)
        have B3 := blkT B3 hb44
        have B7 := blkT B7 hb44
        have B11 := blkT B11 hb44
        have G38 := OwF.below G38 hb44
        have T := Tt T hb44
        refine RL.y rfl (Y.assign (v := v37) rfl) ?_
        refine RL.store (v := .agg #[.int .i64 y35.2.1.a, .int .i64 y35.2.1.b]) (cs' := #[.int .i64 y35.2.1.a, .int .i64 y35.2.1.b]) rfl rfl rfl B43 (by kernel_rfl) (by rfl) (by rfl) (by rfl) (fun w46 B47 ho48 => ?_)
        have szw46 := ho48.size
        have B3 := B3.only_ ho48 (by intro hin; simp at hin; exact Eob45_ob5 hin)
        have B7 := B7.only_ ho48 (by intro hin; simp at hin; exact Eob45_ob9 hin)
        have B11 := B11.only_ ho48 (by intro hin; simp at hin; exact Eob45_ob13 hin)
        have G38 := OwF.only G38 ho48 No39_ob45
        have T := T.trans (ho48.below (by first | (simp; done) | (simp; omega)))
        refine RL.y rfl (Y.assign (v := .bool y35.2.2) rfl) ?_
        refine RL.nil ?_
        refine then_n ?_
        refine wp_seq ?_
        refine wp_seq ?_
        refine wp_rs rfl ?_
        refine RQ.y rfl (Y.move (v := .bool y35.2.2) rfl) ?_
        refine RQ.y rfl (Y.not (b' := (!y35.2.2)) rfl rfl) ?_
        refine RQ.nil ?_
        refine then_n ?_
        rcases bcases y35.2.2 with c49 | c49
        · replace hm := cF c49 hm
          refine cond_t rfl (vbn rfl c49 rfl) ?_
          refine wp_seq ?_
          refine wp_rl rfl ?_
          refine RL.y rfl (Y.build0 (cells := #[.int .i64 0, .int .i64 0])  (by kernel_rfl) (by kernel_rfl)) ?_
          refine RL.y rfl (Y.assign (v := .slice none 0 0) rfl) ?_
          refine RL.store (v := .agg #[.int .i64 0, .int .i64 0]) (cs' := #[.int .i64 0, .int .i64 0]) rfl rfl rfl B11 (by kernel_rfl) (by rfl) (by rfl) (by rfl) (fun w50 B51 ho52 => ?_)
          have szw50 := ho52.size
          have B47 := B47.only_ ho52 (by intro hin; simp at hin; exact Eob45_ob13.symm hin)
          have G38 := OwF.only G38 ho52 No39_ob13
          have T := T.trans (ho52.below (by first | (simp; done) | (simp; omega)))
          refine RL.y rfl (Y.assign (v := .int .i64 5) rfl) ?_
          refine RL.nil ?_
          refine then_n ?_
          refine wp_ret ?_
          obtain rfl := Option.some.inj hm
          exact (then_r (rettct (cs := [.int .i64 0, .int .i64 0]) rfl rfl rfl rfl rfl (by kernel_rfl) (blkCells B51) ⟨⟨_, rfl, OwF.nil⟩, T⟩))
        · replace hm := cT c49 hm
          refine cond_f rfl (vbn rfl c49 rfl) ?_
          refine wp_skip ?_
          refine then_n ?_
          refine wp_seq ?_
          refine wp_rg (fun w' => Below w.heap.size w w' ∧ Blk w' w40.heap.size 91 #[.int .i64 y35.2.1.a, .int .i64 y35.2.1.b]) [(0, true), (1, true), (2, true), (3, false), (4, true)] (by kernel_rfl) (by kernel_rfl) (fun w53 hb54 szw53 => ?_)
          have B11 := blkT B11 hb54
          have B47 := blkT B47 hb54
          have G38 := OwF.below G38 hb54
          have T := Tt T hb54
          refine ⟨⟨T, B47⟩, ?_⟩
          refine RG.y rfl rfl (Y.move (v := v37) rfl) ?_
          refine RG.y rfl rfl (Y.loadN (cs := [.int .i64 y35.2.1.a, .int .i64 y35.2.1.b]) rfl (by kernel_rfl) (cells2 (fun w' hS => (blkCell hS.2 (i := 0) rfl)) (fun w' hS => (blkCell hS.2 (i := 1) rfl)))) ?_
          refine RG.y rfl rfl (Y.assign (v := v37) rfl) ?_
          refine RG.act rfl ?_
          refine RL.store (v := .agg #[.int .i64 y35.2.1.a, .int .i64 y35.2.1.b]) (cs' := #[.int .i64 y35.2.1.a, .int .i64 y35.2.1.b]) rfl rfl rfl B11 (by kernel_rfl) (by rfl) (by rfl) (by rfl) (fun w55 B56 ho57 => ?_)
          have szw55 := ho57.size
          have B47 := B47.only_ ho57 (by intro hin; simp at hin; exact Eob45_ob13.symm hin)
          have G38 := OwF.only G38 ho57 No39_ob13
          have T := T.trans (ho57.below (by first | (simp; done) | (simp; omega)))
          refine RL.nil ⟨⟨T, B47⟩, ?_⟩
          refine RG.y rfl rfl (Y.assign (v := .int .i64 0) rfl) ?_
          refine RG.nil ?_
          refine then_n ?_
          refine wp_ret ?_
          obtain rfl := Option.some.inj hm
          exact (rettct (cs := [.int .i64 y35.2.1.a, .int .i64 y35.2.1.b]) rfl rfl rfl rfl rfl (by kernel_rfl) (blkCells B56) ⟨⟨_, rfl, G38⟩, T⟩)
      · replace hm := cT c34 hm
        refine cond_t rfl (vb rfl c34) ?_
        refine wp_seq ?_
        refine wp_rl rfl ?_
        refine RL.y rfl (Y.build0 (cells := #[.int .i64 0, .int .i64 0])  (by kernel_rfl) (by kernel_rfl)) ?_
        refine RL.y rfl (Y.assign (v := .slice none 0 0) rfl) ?_
        refine RL.store (v := .agg #[.int .i64 0, .int .i64 0]) (cs' := #[.int .i64 0, .int .i64 0]) rfl rfl rfl B11 (by kernel_rfl) (by rfl) (by rfl) (by rfl) (fun w58 B59 ho60 => ?_)
        have szw58 := ho60.size
        have B3 := B3.only_ ho60 (by intro hin; simp at hin; exact Eob13_ob5 hin)
        have B7 := B7.only_ ho60 (by intro hin; simp at hin; exact Eob13_ob9 hin)
        have T := T.trans (ho60.below (by first | (simp; done) | (simp; omega)))
        refine RL.y rfl (Y.assign (v := .int .i64 3) rfl) ?_
        refine RL.nil ?_
        refine then_n ?_
        refine wp_ret ?_
        obtain rfl := Option.some.inj hm
        exact (blk_r (then_r (rettct (cs := [.int .i64 0, .int .i64 0]) rfl rfl rfl rfl rfl (by kernel_rfl) (blkCells B59) ⟨⟨_, rfl, OwF.nil⟩, T⟩)))

def m_impl_NeededPath (d0 : DNet) (d1 : DPort) : Option ((List Int) × Int) :=
  ((m_impl_neededAt d0 d1).bind fun y10 => some (y10.1, y10.2.2))
set_option maxHeartbeats 2000000 in
theorem c_m_impl_NeededPath (d0 : DNet) (d1 : DPort) (r : (List Int) × Int) (hm : m_impl_NeededPath d0 d1 = some r) (v0 : Value) (w : World) (hv0 : St netRd w v0 d0) :
    Calls Try.prog 51 #[v0, .agg #[.int .i64 d1.agent, .int .i64 d1.slot]] w fun e w' => (∃ v, e = .returned (.tuple #[v, .int .i64 r.2]) ∧ OwF 2 encI 1 w' w.heap.size v r.1) ∧ Below w.heap.size w w' := by
  obtain ⟨csa0, rfl, ⟨A1, n1, c1, rfl, ⟨h1, r1⟩⟩⟩ := hv0
  have e1 := h1.len; subst e1
  have q1 := len_le r1
  have T := Below.refl w.heap.size w
  unfold m_impl_NeededPath at hm
  refine enter 18 Try.func51 rfl rfl rfl ?_
  intro f hf
  have s0 : f 0 = .agg #[.slice A1 d0.agents.length c1] := hf 0 _ rfl
  have s1 : f 1 = .agg #[.int .i64 d1.agent, .int .i64 d1.slot] := hf 1 _ rfl
  refine wp_seq ?_
  refine wp_rl rfl ?_
  refine RL.box rfl s0 (fun w2 B3 hb4 szw2 => ?_)
  replace B3 : Blk w2 w.heap.size 29 #[.slice A1 d0.agents.length c1] := B3
  have GB3 : w.heap.size ≤ w.heap.size := T.size
  have T := Tt T hb4
  refine RL.box rfl s1 (fun w6 B7 hb8 szw6 => ?_)
  replace B7 : Blk w6 w2.heap.size 35 #[.int .i64 d1.agent, .int .i64 d1.slot] := B7
  have GB7 : w.heap.size ≤ w2.heap.size := T.size
  have Eob9_ob5 := Nat.ne_of_lt B3.lt
  have B3 := blkT B3 hb8
  have T := Tt T hb8
  refine RL.y rfl (Y.assign (v := .slice none 0 0) rfl) ?_
  refine RL.y rfl (Y.assign (v := .int .i64 0) rfl) ?_
  refine RL.nil ?_
  refine then_n ?_
  refine wp_seq ?_
  refine wp_rl rfl ?_
  refine RL.y rfl (Y.loadN (cs := [.slice A1 d0.agents.length c1]) rfl (by kernel_rfl) (cells1 (eqC (blkCell B3 (i := 0) rfl)))) ?_
  refine RL.y rfl (Y.loadN (cs := [.int .i64 d1.agent, .int .i64 d1.slot]) rfl (by kernel_rfl) (cells2 (eqC (blkCell B7 (i := 0) rfl)) (eqC (blkCell B7 (i := 1) rfl)))) ?_
  obtain ⟨y10, e11, hm⟩ := bnd hm
  refine RL.call rfl (am2 rfl rfl) (by kernel_rfl) ((c_m_impl_neededAt d0 d1 _ e11 _ _ (stArg (R := netRd) ⟨_, _, _, rfl, ⟨SlAt.now agentRd_ok h1 (Nat.le_refl _) T, r1⟩⟩)).mono ?_)
  rintro _ w15 ⟨⟨v12, rfl, G13⟩, hb16⟩
  refine ⟨_, rfl, ?_⟩
  have szw15 := hb16.size
  have T0w15 := T.size
  have No14_ob5 := OwF.ne G13 B3.lt
  have No14_ob9 := OwF.ne G13 B7.lt
  have B3 := blkT B3 hb16
  have B7 := blkT B7 hb16
  have T := Tt T hb16
  replace G13 := OwF.mono G13 T0w15
  refine RL.y rfl (Y.move (v := .tuple #[v12, .agg #[.int .i64 y10.2.1.a, .int .i64 y10.2.1.b], .int .i64 y10.2.2]) rfl) ?_
  refine RL.y rfl (Y.extract (i := 0) rfl rfl) ?_
  refine RL.y rfl (Y.extract (i := 1) rfl rfl) ?_
  refine RL.y rfl (Y.extract (i := 2) rfl rfl) ?_
  refine RL.alloc (z := .agg #[.int .i64 0, .int .i64 0]) rfl (by kernel_rfl) (fun w17 B18 hb19 szw17 => ?_)
  replace B18 : Blk w17 w15.heap.size 91 #[.int .i64 0, .int .i64 0] := B18
  have GB18 : w.heap.size ≤ w15.heap.size := T.size
  have Eob20_ob5 := Nat.ne_of_lt B3.lt
  have Eob20_ob9 := Nat.ne_of_lt B7.lt
  have No14_ob20 := OwF.far G13 (Nat.le_refl _)
  have B3 := blkT B3 hb19
  have B7 := blkT B7 hb19
  have G13 := OwF.below G13 hb19
  have T := Tt T hb19
  refine RL.y rfl (Y.assign (v := v12) rfl) ?_
  refine RL.store (v := .agg #[.int .i64 y10.2.1.a, .int .i64 y10.2.1.b]) (cs' := #[.int .i64 y10.2.1.a, .int .i64 y10.2.1.b]) rfl rfl rfl B18 (by kernel_rfl) (by rfl) (by rfl) (by rfl) (fun w21 B22 ho23 => ?_)
  have szw21 := ho23.size
  have B3 := B3.only_ ho23 (by intro hin; simp at hin; exact Eob20_ob5 hin)
  have B7 := B7.only_ ho23 (by intro hin; simp at hin; exact Eob20_ob9 hin)
  have G13 := OwF.only G13 ho23 No14_ob20
  have T := T.trans (ho23.below (by first | (simp; done) | (simp; omega)))
  refine RL.y rfl (Y.assign (v := .int .i64 y10.2.2) rfl) ?_
  refine RL.nil ?_
  refine then_n ?_
  refine wp_seq ?_
  refine wp_rs rfl ?_
  refine RQ.y rfl (Y.move (v := v12) rfl) ?_
  refine RQ.y rfl (Y.move (v := .int .i64 y10.2.2) rfl) ?_
  refine RQ.y rfl (Y.assign (v := v12) rfl) ?_
  refine RQ.y rfl (Y.assign (v := .int .i64 y10.2.2) rfl) ?_
  refine RQ.nil ?_
  refine then_n ?_
  refine wp_ret ?_
  obtain rfl := Option.some.inj hm
  exact (ret2 rfl rfl rfl rfl ⟨⟨_, rfl, G13⟩, T⟩)

def m_impl_NeededPair (d0 : DNet) (d1 : DPort) : Option (Int × Int) :=
  ((m_impl_neededAt d0 d1).bind fun y10 => (bif (y10.2.2 != 0) then some (0, y10.2.2) else ((m_impl_Net_pairs d0).bind fun y27 => ((m_slices_Index_impl_Pair_impl_Pair y27 y10.2.1).bind fun y34 => some (y34, 0)))))
set_option maxHeartbeats 2000000 in
theorem c_m_impl_NeededPair (d0 : DNet) (d1 : DPort) (r : Int × Int) (hm : m_impl_NeededPair d0 d1 = some r) (v0 : Value) (w : World) (hv0 : St netRd w v0 d0) :
    Calls Try.prog 53 #[v0, .agg #[.int .i64 d1.agent, .int .i64 d1.slot]] w fun e w' => e = .returned (.tuple #[.int .i64 r.1, .int .i64 r.2]) ∧ Below w.heap.size w w' := by
  obtain ⟨csa0, rfl, ⟨A1, n1, c1, rfl, ⟨h1, r1⟩⟩⟩ := hv0
  have e1 := h1.len; subst e1
  have q1 := len_le r1
  have T := Below.refl w.heap.size w
  unfold m_impl_NeededPair at hm
  refine enter 22 Try.func53 rfl rfl rfl ?_
  intro f hf
  have s0 : f 0 = .agg #[.slice A1 d0.agents.length c1] := hf 0 _ rfl
  have s1 : f 1 = .agg #[.int .i64 d1.agent, .int .i64 d1.slot] := hf 1 _ rfl
  refine wp_seq ?_
  refine wp_rl rfl ?_
  refine RL.box rfl s0 (fun w2 B3 hb4 szw2 => ?_)
  replace B3 : Blk w2 w.heap.size 29 #[.slice A1 d0.agents.length c1] := B3
  have GB3 : w.heap.size ≤ w.heap.size := T.size
  have T := Tt T hb4
  refine RL.box rfl s1 (fun w6 B7 hb8 szw6 => ?_)
  replace B7 : Blk w6 w2.heap.size 35 #[.int .i64 d1.agent, .int .i64 d1.slot] := B7
  have GB7 : w.heap.size ≤ w2.heap.size := T.size
  have Eob9_ob5 := Nat.ne_of_lt B3.lt
  have B3 := blkT B3 hb8
  have T := Tt T hb8
  refine RL.y rfl (Y.assign (v := .int .i64 0) rfl) ?_
  refine RL.y rfl (Y.assign (v := .int .i64 0) rfl) ?_
  refine RL.nil ?_
  refine then_n ?_
  refine wp_seq ?_
  refine wp_rl rfl ?_
  refine RL.y rfl (Y.loadN (cs := [.slice A1 d0.agents.length c1]) rfl (by kernel_rfl) (cells1 (eqC (blkCell B3 (i := 0) rfl)))) ?_
  refine RL.y rfl (Y.loadN (cs := [.int .i64 d1.agent, .int .i64 d1.slot]) rfl (by kernel_rfl) (cells2 (eqC (blkCell B7 (i := 0) rfl)) (eqC (blkCell B7 (i := 1) rfl)))) ?_
  obtain ⟨y10, e11, hm⟩ := bnd hm
  refine RL.call rfl (am2 rfl rfl) (by kernel_rfl) ((c_m_impl_neededAt d0 d1 _ e11 _ _ (stArg (R := netRd) ⟨_, _, _, rfl, ⟨SlAt.now agentRd_ok h1 (Nat.le_refl _) T, r1⟩⟩)).mono ?_)
  rintro _ w15 ⟨⟨v12, rfl, G13⟩, hb16⟩
  refine ⟨_, rfl, ?_⟩
  have szw15 := hb16.size
  have T0w15 := T.size
  have No14_ob5 := OwF.ne G13 B3.lt
  have No14_ob9 := OwF.ne G13 B7.lt
  have B3 := blkT B3 hb16
  have B7 := blkT B7 hb16
  have T := Tt T hb16
  replace G13 := OwF.mono G13 T0w15
  refine RL.y rfl (Y.move (v := .tuple #[v12, .agg #[.int .i64 y10.2.1.a, .int .i64 y10.2.1.b], .int .i64 y10.2.2]) rfl) ?_
  refine RL.y rfl (Y.extract (i := 0) rfl rfl) ?_
  refine RL.y rfl (Y.extract (i := 1) rfl rfl) ?_
  refine RL.y rfl (Y.extract (i := 2) rfl rfl) ?_
  refine RL.alloc (z := .agg #[.int .i64 0, .int .i64 0]) rfl (by kernel_rfl) (fun w17 B18 hb19 szw17 => ?_)
  replace B18 : Blk w17 w15.heap.size 91 #[.int .i64 0, .int .i64 0] := B18
  have GB18 : w.heap.size ≤ w15.heap.size := T.size
  have Eob20_ob5 := Nat.ne_of_lt B3.lt
  have Eob20_ob9 := Nat.ne_of_lt B7.lt
  have No14_ob20 := OwF.far G13 (Nat.le_refl _)
  have B3 := blkT B3 hb19
  have B7 := blkT B7 hb19
  have G13 := OwF.below G13 hb19
  have T := Tt T hb19
  refine RL.y rfl (Y.assign (v := v12) rfl) ?_
  refine RL.store (v := .agg #[.int .i64 y10.2.1.a, .int .i64 y10.2.1.b]) (cs' := #[.int .i64 y10.2.1.a, .int .i64 y10.2.1.b]) rfl rfl rfl B18 (by kernel_rfl) (by rfl) (by rfl) (by rfl) (fun w21 B22 ho23 => ?_)
  have szw21 := ho23.size
  have B3 := B3.only_ ho23 (by intro hin; simp at hin; exact Eob20_ob5 hin)
  have B7 := B7.only_ ho23 (by intro hin; simp at hin; exact Eob20_ob9 hin)
  have G13 := OwF.only G13 ho23 No14_ob20
  have T := T.trans (ho23.below (by first | (simp; done) | (simp; omega)))
  refine RL.y rfl (Y.assign (v := .int .i64 y10.2.2) rfl) ?_
  refine RL.nil ?_
  refine then_n ?_
  refine wp_seq ?_
  refine wp_seq ?_
  refine wp_rs rfl ?_
  refine RQ.y rfl (Y.move (v := .int .i64 y10.2.2) rfl) ?_
  refine RQ.y rfl (Y.binI (v := .bool (y10.2.2 != 0)) rfl rfl rfl) ?_
  refine RQ.nil ?_
  refine then_n ?_
  rcases bcases (y10.2.2 != 0) with c24 | c24
  · replace hm := cF c24 hm
    refine cond_f rfl (vb rfl c24) ?_
    refine wp_skip ?_
    refine then_n ?_
    refine wp_seq ?_
    refine wp_rg (fun w' => Below w.heap.size w w' ∧ Blk w' w15.heap.size 91 #[.int .i64 y10.2.1.a, .int .i64 y10.2.1.b]) [(1, true), (0, false), (2, false), (3, true), (4, true)] (by kernel_rfl) (by kernel_rfl) (fun w25 hb26 szw25 => ?_)
    have B3 := blkT B3 hb26
    have B22 := blkT B22 hb26
    have T := Tt T hb26
    refine ⟨⟨T, B22⟩, ?_⟩
    refine RG.y rfl rfl (Y.loadN (cs := [.int .i64 y10.2.1.a, .int .i64 y10.2.1.b]) rfl (by kernel_rfl) (cells2 (fun w' hS => (blkCell hS.2 (i := 0) rfl)) (fun w' hS => (blkCell hS.2 (i := 1) rfl)))) ?_
    refine RG.act rfl ?_
    obtain ⟨y27, e28, hm⟩ := bnd hm
    refine RL.call rfl (am1 rfl) (by kernel_rfl) ((c_m_impl_Net_pairs d0 _ e28 _ _ (ptBox (R := netRd) B3 ⟨_, _, _, rfl, ⟨SlAt.now agentRd_ok h1 (Nat.le_refl _) T, r1⟩⟩)).mono ?_)
    rintro _ w32 ⟨⟨v29, rfl, G30⟩, hb33⟩
    refine ⟨_, rfl, ?_⟩
    have szw32 := hb33.size
    have T0w32 := T.size
    have No31_ob5 := OwF.ne G30 B3.lt
    have No31_ob20 := OwF.ne G30 B22.lt
    have B3 := blkT B3 hb33
    have B22 := blkT B22 hb33
    have T := Tt T hb33
    replace G30 := OwF.mono G30 T0w32
    refine RL.nil ⟨⟨T, B22⟩, ?_⟩
    refine RG.act rfl ?_
    obtain ⟨y34, e35, hm⟩ := bnd hm
    refine RL.call rfl (am2 rfl rfl) (by kernel_rfl) ((c_m_slices_Index_impl_Pair_impl_Pair y27 y10.2.1 _ e35 _ _ (OwF.arg fPair G30)).mono ?_)
    rintro _ w36 ⟨rfl, hb37⟩
    refine ⟨_, rfl, ?_⟩
    have szw36 := hb37.size
    have B3 := blkT B3 hb37
    have B22 := blkT B22 hb37
    have G30 := OwF.below G30 hb37
    have T := Tt T hb37
    refine RL.nil ⟨⟨T, B22⟩, ?_⟩
    refine RG.y rfl rfl (Y.assign (v := .int .i64 y34) rfl) ?_
    refine RG.y rfl rfl (Y.assign (v := .int .i64 0) rfl) ?_
    refine RG.nil ?_
    refine then_n ?_
    refine wp_ret ?_
    obtain rfl := Option.some.inj hm
    exact (ret2 rfl rfl rfl rfl ⟨rfl, T⟩)
  · replace hm := cT c24 hm
    refine cond_t rfl (vb rfl c24) ?_
    refine wp_seq ?_
    refine wp_rs rfl ?_
    refine RQ.y rfl (Y.move (v := .int .i64 y10.2.2) rfl) ?_
    refine RQ.y rfl (Y.assign (v := .int .i64 0) rfl) ?_
    refine RQ.y rfl (Y.assign (v := .int .i64 y10.2.2) rfl) ?_
    refine RQ.nil ?_
    refine then_n ?_
    refine wp_ret ?_
    obtain rfl := Option.some.inj hm
    exact (then_r (ret2 rfl rfl rfl rfl ⟨rfl, T⟩))

end Go.Proofs.Ytjddeofchiohkaa
