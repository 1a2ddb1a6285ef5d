/- Models and contracts of functions, printed by wg.py. -/
import Derived.Test.YtampijkiidjcmaaWD
import Derived.Test.YtampijkiidjcmaaWkM
import Derived.Test.YtampijkiidjcmaaRows
namespace Go.Proofs.Ytampijkiidjcmaa
open Go.RowKit
set_option linter.unusedVariables false
set_option linter.unusedSimpArgs false
set_option maxRecDepth 100000

def m_spec_l13Pair (d0 : DNet) (d1 : Int) : Option (DPair × Int) :=
  ((m_spec_l11Ok d0).bind fun y6 => (bif y6 then ((m_spec_l11Pairs d0).bind fun y14 => ((ck ((y14.length : Int) - 1)).bind fun s23 => (bif (inR d1 0 s23) then ((getI y14 d1).bind fun x30 => some (x30, 0)) else some ((⟨0, 0⟩ : DPair), 2)))) else some ((⟨0, 0⟩ : DPair), 1)))
set_option maxHeartbeats 2000000 in
theorem c_m_spec_l13Pair (d0 : DNet) (d1 : Int) (r : DPair × Int) (hm : m_spec_l13Pair d0 d1 = some r) (v0 : Value) (w : World) (hv0 : Pt netRd w v0 d0) :
    Calls Try.prog 60 #[v0, .int .i64 d1] w fun e w' => e = .returned (.tuple #[.agg #[.int .i64 r.1.a, .int .i64 r.1.b], .int .i64 r.2]) ∧ Below w.heap.size w w' := by
  obtain ⟨ba0, oa0, csa0, rfl, hba0, hRa0, hca0⟩ := hv0
  have hSa0 := hRa0
  obtain ⟨A1, n1, c1, rfl, ⟨h1, r1⟩⟩ := hRa0
  have e1 := h1.len; subst e1
  have q1 := len_le r1
  have T := Below.refl w.heap.size w
  unfold m_spec_l13Pair at hm
  refine enter 24 Try.func60 rfl rfl rfl ?_
  intro f hf
  have s0 : f 0 = .pointer (some ⟨ba0, oa0, none⟩) := hf 0 _ rfl
  have s1 : f 1 = .int .i64 d1 := hf 1 _ rfl
  refine wp_seq ?_
  refine wp_rl rfl ?_
  refine RL.alloc (z := .agg #[.int .i64 0, .int .i64 0]) rfl (by kernel_rfl) (fun w2 B3 hb4 szw2 => ?_)
  replace B3 : Blk w2 w.heap.size 81 #[.int .i64 0, .int .i64 0] := B3
  have GB3 : w.heap.size ≤ w.heap.size := T.size
  have T := Tt T hb4
  refine RL.y rfl (Y.assign (v := .int .i64 0) rfl) ?_
  refine RL.nil ?_
  refine then_n ?_
  refine wp_seq ?_
  refine wp_seq ?_
  refine wp_rb rfl ?_
  refine RQ.y rfl (Y.move (v := .pointer (some ⟨ba0, oa0, none⟩)) s0) ?_
  obtain ⟨y6, e7, hm⟩ := bnd hm
  refine RQ.call rfl (am1 rfl) (by kernel_rfl) (v := .bool y6) (bel (K := fun _ => True) fun w' hb' => (c_m_spec_l11Ok d0 _ e7 _ w' (ptArg netRd_ok hba0 hSa0 hca0 (Tt T hb')))) ?_
  refine RQ.y rfl (Y.not (b' := (!y6)) rfl rfl) ?_
  refine RQ.nil ?_
  intro w8 hb9
  have szw8 := hb9.size
  have B3 := blkT B3 hb9
  have T := Tt T hb9
  refine then_n ?_
  rcases bcases y6 with c10 | c10
  · replace hm := cF c10 hm
    refine cond_t rfl (vbn rfl c10 rfl) ?_
    refine wp_seq ?_
    refine wp_rl rfl ?_
    refine RL.y rfl (Y.build0 (cells := #[.int .i64 0, .int .i64 0])  (by kernel_rfl) (by kernel_rfl)) ?_
    refine RL.store (v := .agg #[.int .i64 0, .int .i64 0]) (cs' := #[.int .i64 0, .int .i64 0]) rfl rfl rfl B3 (by kernel_rfl) (by rfl) (by rfl) (by rfl) (fun w11 B12 ho13 => ?_)
    have szw11 := ho13.size
    have T := T.trans (ho13.below (by first | (simp; done) | (simp; omega)))
    refine RL.y rfl (Y.assign (v := .int .i64 1) rfl) ?_
    refine RL.nil ?_
    refine then_n ?_
    refine wp_ret ?_
    obtain rfl := Option.some.inj hm
    exact (then_r (retct (cs := [.int .i64 0, .int .i64 0]) rfl rfl rfl rfl (by kernel_rfl) (blkCells B12) ⟨rfl, T⟩))
  · replace hm := cT c10 hm
    refine cond_f rfl (vbn rfl c10 rfl) ?_
    refine wp_skip ?_
    refine then_n ?_
    refine wp_seq ?_
    refine wp_rl rfl ?_
    refine RL.y rfl (Y.move (v := .pointer (some ⟨ba0, oa0, none⟩)) s0) ?_
    obtain ⟨y14, e15, hm⟩ := bnd hm
    refine RL.call rfl (am1 rfl) (by kernel_rfl) ((c_m_spec_l11Pairs d0 _ e15 _ _ (ptArg netRd_ok hba0 hSa0 hca0 T)).mono ?_)
    rintro _ w19 ⟨⟨v16, rfl, G17⟩, hb20⟩
    refine ⟨_, rfl, ?_⟩
    have szw19 := hb20.size
    have T0w19 := T.size
    have No18_ob5 := OwF.ne G17 B3.lt
    have B3 := blkT B3 hb20
    have T := Tt T hb20
    replace G17 := OwF.mono G17 T0w19
    refine RL.y rfl (Y.assign (v := v16) rfl) ?_
    refine RL.nil ?_
    refine then_n ?_
    refine wp_seq ?_
    refine wp_seq ?_
    refine wp_rb rfl ?_
    refine RQ.y rfl (Y.move (v := .int .i64 d1) s1) ?_
    refine RQ.y rfl (Y.move (v := v16) rfl) ?_
    obtain ⟨A21, c22, rfl⟩ := OwF.form G17
    have qbA21 := OwF.bound G17
    refine RQ.y rfl (Y.len (by kernel_rfl) rfl) ?_
    obtain ⟨s23, ks23, hm⟩ := bnd hm
    replace ks23 := ck_some ks23
    refine RQ.y rfl (Y.binI (v := .int .i64 s23) rfl rfl (by rw [binI_sub ks23.2, ks23.1])) ?_
    refine RQ.call rfl (am3 rfl rfl rfl) (by kernel_rfl) (v := .bool (inR d1 0 s23)) (bel (K := fun _ => True) fun w' hb' => (callB (spec_l00In d1 0 s23 w'))) ?_
    refine RQ.y rfl (Y.not (b' := (!(inR d1 0 s23))) rfl rfl) ?_
    refine RQ.nil ?_
    intro w24 hb25
    have szw24 := hb25.size
    have B3 := blkT B3 hb25
    have G17 := OwF.below G17 hb25
    have T := Tt T hb25
    refine then_n ?_
    rcases bcases (inR d1 0 s23) with c26 | c26
    · replace hm := cF c26 hm
      refine cond_t rfl (vbn rfl c26 rfl) ?_
      refine wp_seq ?_
      refine wp_rl rfl ?_
      refine RL.y rfl (Y.build0 (cells := #[.int .i64 0, .int .i64 0])  (by kernel_rfl) (by kernel_rfl)) ?_
      refine RL.store (v := .agg #[.int .i64 0, .int .i64 0]) (cs' := #[.int .i64 0, .int .i64 0]) rfl rfl rfl B3 (by kernel_rfl) (by rfl) (by rfl) (by rfl) (fun w27 B28 ho29 => ?_)
      have szw27 := ho29.size
      have G17 := OwF.only G17 ho29 No18_ob5
      have T := T.trans (ho29.below (by first | (simp; done) | (simp; omega)))
      refine RL.y rfl (Y.assign (v := .int .i64 2) rfl) ?_
      refine RL.nil ?_
      refine then_n ?_
      refine wp_ret ?_
      obtain rfl := Option.some.inj hm
      exact (then_r (retct (cs := [.int .i64 0, .int .i64 0]) rfl rfl rfl rfl (by kernel_rfl) (blkCells B28) ⟨rfl, T⟩))
    · replace hm := cT c26 hm
      refine cond_f rfl (vbn rfl c26 rfl) ?_
      refine wp_skip ?_
      refine then_n ?_
      refine wp_seq ?_
      refine wp_rl rfl ?_
      refine RL.y rfl (Y.move (v := .slice A21 y14.length c22) rfl) ?_
      refine RL.y rfl (Y.move (v := .int .i64 d1) s1) ?_
      obtain ⟨x30, hx32, hm⟩ := bnd hm
      obtain ⟨k31, hk33, hl34, hx32⟩ := getI_some hx32
      obtain ⟨b35, rfl⟩ := OwF.addr0 G17 (by omega)
      refine RL.y rfl (Y.indexAddr (m := k31) (sz := 2) rfl rfl hk33 hl34 (by kernel_rfl)) ?_
      refine RL.y rfl (Y.loadN (cs := [.int .i64 x30.a, .int .i64 x30.b]) rfl (by kernel_rfl) (cells2 (eqC (OwF.cell fPair G17 hx32 (j := 0) rfl)) (eqC (OwF.cell fPair G17 hx32 (j := 1) rfl)))) ?_
      refine RL.store (v := .agg #[.int .i64 x30.a, .int .i64 x30.b]) (cs' := #[.int .i64 x30.a, .int .i64 x30.b]) rfl rfl rfl B3 (by kernel_rfl) (by rfl) (by rfl) (by rfl) (fun w36 B37 ho38 => ?_)
      have szw36 := ho38.size
      have G17 := OwF.only G17 ho38 No18_ob5
      have T := T.trans (ho38.below (by first | (simp; done) | (simp; omega)))
      refine RL.y rfl (Y.assign (v := .int .i64 0) rfl) ?_
      refine RL.nil ?_
      refine then_n ?_
      refine wp_ret ?_
      obtain rfl := Option.some.inj hm
      exact (retct (cs := [.int .i64 x30.a, .int .i64 x30.b]) rfl rfl rfl rfl (by kernel_rfl) (blkCells B37) ⟨rfl, T⟩)

def m_spec_ClassOfPair (d0 : DNet) (d1 : Int) : Option (Int × Int) :=
  ((m_spec_l13Pair d0 d1).bind fun y6 => (bif (y6.2 != 0) then some (0, y6.2) else ((getI d0.agents y6.1.a).bind fun x18 => ((getI d0.agents y6.1.b).bind fun x29 => ((m_spec_l13Class x18 x29).bind fun y38 => some (y38, 0))))))
set_option maxHeartbeats 2000000 in
theorem c_m_spec_ClassOfPair (d0 : DNet) (d1 : Int) (r : Int × Int) (hm : m_spec_ClassOfPair d0 d1 = some r) (v0 : Value) (w : World) (hv0 : St netRd w v0 d0) :
    Calls Try.prog 16 #[v0, .int .i64 d1] w fun e w' => e = .returned (.tuple #[.int .i64 r.1, .int .i64 r.2]) ∧ Below w.heap.size w w' := by
  obtain ⟨csa0, rfl, ⟨A1, n1, c1, rfl, ⟨h1, r1⟩⟩⟩ := hv0
  have e1 := h1.len; subst e1
  have q1 := len_le r1
  have T := Below.refl w.heap.size w
  unfold m_spec_ClassOfPair at hm
  refine enter 27 Try.func16 rfl rfl rfl ?_
  intro f hf
  have s0 : f 0 = .agg #[.slice A1 d0.agents.length c1] := hf 0 _ rfl
  have s1 : f 1 = .int .i64 d1 := hf 1 _ rfl
  refine wp_seq ?_
  refine wp_rl rfl ?_
  refine RL.box rfl s0 (fun w2 B3 hb4 szw2 => ?_)
  replace B3 : Blk w2 w.heap.size 30 #[.slice A1 d0.agents.length c1] := B3
  have GB3 : w.heap.size ≤ w.heap.size := T.size
  have T := Tt T hb4
  refine RL.y rfl (Y.assign (v := .int .i64 0) rfl) ?_
  refine RL.y rfl (Y.assign (v := .int .i64 0) rfl) ?_
  refine RL.nil ?_
  refine then_n ?_
  refine wp_seq ?_
  refine wp_rl rfl ?_
  refine RL.y rfl (Y.move (v := .int .i64 d1) s1) ?_
  obtain ⟨y6, e7, hm⟩ := bnd hm
  refine RL.call rfl (am2 rfl rfl) (by kernel_rfl) ((c_m_spec_l13Pair d0 d1 _ e7 _ _ (ptBox (R := netRd) B3 ⟨_, _, _, rfl, ⟨SlAt.now agentRd_ok h1 (Nat.le_refl _) T, r1⟩⟩)).mono ?_)
  rintro _ w8 ⟨rfl, hb9⟩
  refine ⟨_, rfl, ?_⟩
  have szw8 := hb9.size
  have B3 := blkT B3 hb9
  have T := Tt T hb9
  refine RL.y rfl (Y.move (v := .tuple #[.agg #[.int .i64 y6.1.a, .int .i64 y6.1.b], .int .i64 y6.2]) rfl) ?_
  refine RL.y rfl (Y.extract (i := 0) rfl rfl) ?_
  refine RL.y rfl (Y.extract (i := 1) rfl rfl) ?_
  refine RL.alloc (z := .agg #[.int .i64 0, .int .i64 0]) rfl (by kernel_rfl) (fun w10 B11 hb12 szw10 => ?_)
  replace B11 : Blk w10 w8.heap.size 81 #[.int .i64 0, .int .i64 0] := B11
  have GB11 : w.heap.size ≤ w8.heap.size := T.size
  have Eob13_ob5 := Nat.ne_of_lt B3.lt
  have B3 := blkT B3 hb12
  have T := Tt T hb12
  refine RL.store (v := .agg #[.int .i64 y6.1.a, .int .i64 y6.1.b]) (cs' := #[.int .i64 y6.1.a, .int .i64 y6.1.b]) rfl rfl rfl B11 (by kernel_rfl) (by rfl) (by rfl) (by rfl) (fun w14 B15 ho16 => ?_)
  have szw14 := ho16.size
  have B3 := B3.only_ ho16 (by intro hin; simp at hin; exact Eob13_ob5 hin)
  have T := T.trans (ho16.below (by first | (simp; done) | (simp; omega)))
  refine RL.y rfl (Y.assign (v := .int .i64 y6.2) rfl) ?_
  refine RL.nil ?_
  refine then_n ?_
  refine wp_seq ?_
  refine wp_seq ?_
  refine wp_rs rfl ?_
  refine RQ.y rfl (Y.move (v := .int .i64 y6.2) rfl) ?_
  refine RQ.y rfl (Y.binI (v := .bool (y6.2 != 0)) rfl rfl rfl) ?_
  refine RQ.nil ?_
  refine then_n ?_
  rcases bcases (y6.2 != 0) with c17 | c17
  · replace hm := cF c17 hm
    refine cond_f rfl (vb rfl c17) ?_
    refine wp_skip ?_
    refine then_n ?_
    refine wp_seq ?_
    refine wp_rbd (by kernel_rfl) (by kernel_rfl) ?_
    refine RQ.y rfl (Y.fieldAddr (off := 0) rfl (by kernel_rfl)) ?_
    refine RQ.y rfl (Y.load (v := .slice A1 d0.agents.length c1) rfl (by kernel_rfl) (beC (blkCell B3 (i := 0) rfl))) ?_
    refine RQ.y rfl (Y.fieldAddr (off := 0) rfl (by kernel_rfl)) ?_
    refine RQ.y rfl (Y.load (v := .int .i64 y6.1.a) rfl (by kernel_rfl) (beC (blkCell B15 (i := 0) rfl))) ?_
    obtain ⟨x18, hx21, hm⟩ := bnd hm
    obtain ⟨k19, hk22, hl23, hx21⟩ := getI_some hx21
    obtain ⟨b25, o26, rfl, hbb25⟩ := h1.addr (by omega)
    obtain ⟨cs20, hRcs20, hc24⟩ := h1.el hx21
    have hScs20 := hRcs20
    obtain ⟨A27, n27, c27, A28, n28, c28, rfl, ⟨h27, r27⟩, ⟨h28, r28⟩⟩ := hRcs20
    have e27 := h27.len; subst e27
    have q27 := len_le r27
    have e28 := h28.len; subst e28
    have q28 := len_le r28
    refine RQ.y rfl (Y.indexAddr (m := k19) (sz := 5) rfl rfl hk22 hl23 (by kernel_rfl)) ?_
    refine RQ.y rfl (Y.fieldAddr (off := 0) rfl (by kernel_rfl)) ?_
    refine RQ.y rfl (Y.load (v := .slice (some ⟨b25, o26, none⟩) d0.agents.length c1) rfl (by kernel_rfl) (beC (blkCell B3 (i := 0) rfl))) ?_
    refine RQ.y rfl (Y.fieldAddr (off := 1) rfl (by kernel_rfl)) ?_
    refine RQ.y rfl (Y.load (v := .int .i64 y6.1.b) rfl (by kernel_rfl) (beC (blkCell B15 (i := 1) rfl))) ?_
    obtain ⟨x29, hx32, hm⟩ := bnd hm
    obtain ⟨k30, hk33, hl34, hx32⟩ := getI_some hx32
    obtain ⟨cs31, hRcs31, hc35⟩ := h1.el hx32
    have hScs31 := hRcs31
    obtain ⟨A36, n36, c36, A37, n37, c37, rfl, ⟨h36, r36⟩, ⟨h37, r37⟩⟩ := hRcs31
    have e36 := h36.len; subst e36
    have q36 := len_le r36
    have e37 := h37.len; subst e37
    have q37 := len_le r37
    refine RQ.y rfl (Y.indexAddr (m := k30) (sz := 5) rfl rfl hk33 hl34 (by kernel_rfl)) ?_
    obtain ⟨y38, e39, hm⟩ := bnd hm
    refine RQ.call rfl (am2 rfl rfl) (by kernel_rfl) (v := .int .i64 y38) (bel (K := fun _ => True) fun w' hb' => (c_m_spec_l13Class x18 x29 _ e39 _ _ w' (ptArg agentRd_ok hbb25 hScs20 hc24 (Tt T hb')) (ptArg agentRd_ok hbb25 hScs31 hc35 (Tt T hb')))) ?_
    refine RQ.y rfl (Y.assign (v := .int .i64 y38) rfl) ?_
    refine RQ.y rfl (Y.assign (v := .int .i64 0) rfl) ?_
    refine RQ.nil ?_
    intro w40 hb41
    have szw40 := hb41.size
    have T := Tt T hb41
    refine then_n ?_
    refine wp_ret ?_
    obtain rfl := Option.some.inj hm
    exact (ret2 rfl rfl rfl rfl ⟨rfl, T⟩)
  · replace hm := cT c17 hm
    refine cond_t rfl (vb rfl c17) ?_
    refine wp_seq ?_
    refine wp_rs rfl ?_
    refine RQ.y rfl (Y.move (v := .int .i64 y6.2) rfl) ?_
    refine RQ.y rfl (Y.assign (v := .int .i64 0) rfl) ?_
    refine RQ.y rfl (Y.assign (v := .int .i64 y6.2) rfl) ?_
    refine RQ.nil ?_
    refine then_n ?_
    refine wp_ret ?_
    obtain rfl := Option.some.inj hm
    exact (then_r (ret2 rfl rfl rfl rfl ⟨rfl, T⟩))

def m_impl_pairAt (d0 : DNet) (d1 : Int) : Option (DPair × Int) :=
  ((m_impl_ValidNet d0).bind fun y10 => (bif y10 then ((m_impl_Net_pairs d0).bind fun y18 => (bif (decide (d1 < 0)) then some ((⟨0, 0⟩ : DPair), 2) else (bif (decide (d1 ≥ (y18.length : Int))) then some ((⟨0, 0⟩ : DPair), 2) else ((getI y18 d1).bind fun x29 => some (x29, 0))))) else some ((⟨0, 0⟩ : DPair), 1)))
set_option maxHeartbeats 2000000 in
theorem c_m_impl_pairAt (d0 : DNet) (d1 : Int) (r : DPair × Int) (hm : m_impl_pairAt d0 d1 = some r) (v0 : Value) (w : World) (hv0 : St netRd w v0 d0) :
    Calls Try.prog 63 #[v0, .int .i64 d1] w fun e w' => e = .returned (.tuple #[.agg #[.int .i64 r.1.a, .int .i64 r.1.b], .int .i64 r.2]) ∧ Below w.heap.size w w' := by
  obtain ⟨csa0, rfl, ⟨A1, n1, c1, rfl, ⟨h1, r1⟩⟩⟩ := hv0
  have e1 := h1.len; subst e1
  have q1 := len_le r1
  have T := Below.refl w.heap.size w
  unfold m_impl_pairAt at hm
  refine enter 25 Try.func63 rfl rfl rfl ?_
  intro f hf
  have s0 : f 0 = .agg #[.slice A1 d0.agents.length c1] := hf 0 _ rfl
  have s1 : f 1 = .int .i64 d1 := hf 1 _ rfl
  refine wp_seq ?_
  refine wp_rl rfl ?_
  refine RL.box rfl s0 (fun w2 B3 hb4 szw2 => ?_)
  replace B3 : Blk w2 w.heap.size 30 #[.slice A1 d0.agents.length c1] := B3
  have GB3 : w.heap.size ≤ w.heap.size := T.size
  have T := Tt T hb4
  refine RL.alloc (z := .agg #[.int .i64 0, .int .i64 0]) rfl (by kernel_rfl) (fun w6 B7 hb8 szw6 => ?_)
  replace B7 : Blk w6 w2.heap.size 81 #[.int .i64 0, .int .i64 0] := B7
  have GB7 : w.heap.size ≤ w2.heap.size := T.size
  have Eob9_ob5 := Nat.ne_of_lt B3.lt
  have B3 := blkT B3 hb8
  have T := Tt T hb8
  refine RL.y rfl (Y.assign (v := .int .i64 0) rfl) ?_
  refine RL.nil ?_
  refine then_n ?_
  refine wp_seq ?_
  refine wp_seq ?_
  refine wp_rb rfl ?_
  refine RQ.y rfl (Y.loadN (cs := [.slice A1 d0.agents.length c1]) rfl (by kernel_rfl) (cells1 (beC (blkCell B3 (i := 0) rfl)))) ?_
  obtain ⟨y10, e11, hm⟩ := bnd hm
  refine RQ.call rfl (am1 rfl) (by kernel_rfl) (v := .bool y10) (bel (K := fun _ => True) fun w' hb' => (c_m_impl_ValidNet d0 _ e11 _ w' (stArg (R := netRd) ⟨_, _, _, rfl, ⟨SlAt.now agentRd_ok h1 (Nat.le_refl _) (Tt T hb'), r1⟩⟩))) ?_
  refine RQ.y rfl (Y.not (b' := (!y10)) rfl rfl) ?_
  refine RQ.nil ?_
  intro w12 hb13
  have szw12 := hb13.size
  have B3 := blkT B3 hb13
  have B7 := blkT B7 hb13
  have T := Tt T hb13
  refine then_n ?_
  rcases bcases y10 with c14 | c14
  · replace hm := cF c14 hm
    refine cond_t rfl (vbn rfl c14 rfl) ?_
    refine wp_seq ?_
    refine wp_rl rfl ?_
    refine RL.y rfl (Y.build0 (cells := #[.int .i64 0, .int .i64 0])  (by kernel_rfl) (by kernel_rfl)) ?_
    refine RL.store (v := .agg #[.int .i64 0, .int .i64 0]) (cs' := #[.int .i64 0, .int .i64 0]) rfl rfl rfl B7 (by kernel_rfl) (by rfl) (by rfl) (by rfl) (fun w15 B16 ho17 => ?_)
    have szw15 := ho17.size
    have B3 := B3.only_ ho17 (by intro hin; simp at hin; exact Eob9_ob5 hin)
    have T := T.trans (ho17.below (by first | (simp; done) | (simp; omega)))
    refine RL.y rfl (Y.assign (v := .int .i64 1) rfl) ?_
    refine RL.nil ?_
    refine then_n ?_
    refine wp_ret ?_
    obtain rfl := Option.some.inj hm
    exact (then_r (retct (cs := [.int .i64 0, .int .i64 0]) rfl rfl rfl rfl (by kernel_rfl) (blkCells B16) ⟨rfl, T⟩))
  · replace hm := cT c14 hm
    refine cond_f rfl (vbn rfl c14 rfl) ?_
    refine wp_skip ?_
    refine then_n ?_
    refine wp_seq ?_
    refine wp_rl rfl ?_
    obtain ⟨y18, e19, hm⟩ := bnd hm
    refine RL.call rfl (am1 rfl) (by kernel_rfl) ((c_m_impl_Net_pairs d0 _ e19 _ _ (ptBox (R := netRd) B3 ⟨_, _, _, rfl, ⟨SlAt.now agentRd_ok h1 (Nat.le_refl _) T, r1⟩⟩)).mono ?_)
    rintro _ w23 ⟨⟨v20, rfl, G21⟩, hb24⟩
    refine ⟨_, rfl, ?_⟩
    have szw23 := hb24.size
    have T0w23 := T.size
    have No22_ob5 := OwF.ne G21 B3.lt
    have No22_ob9 := OwF.ne G21 B7.lt
    have B3 := blkT B3 hb24
    have B7 := blkT B7 hb24
    have T := Tt T hb24
    replace G21 := OwF.mono G21 T0w23
    refine RL.y rfl (Y.assign (v := v20) rfl) ?_
    refine RL.nil ?_
    refine then_n ?_
    refine wp_seq ?_
    refine wp_seq ?_
    refine wp_rs rfl ?_
    refine RQ.y rfl (Y.move (v := .int .i64 d1) s1) ?_
    refine RQ.y rfl (Y.binI (v := .bool (decide (d1 < 0))) rfl rfl rfl) ?_
    refine RQ.y rfl (Y.move (v := .bool (decide (d1 < 0))) rfl) ?_
    rcases bcases (decide (d1 < 0)) with c25 | c25
    · replace hm := cF c25 hm
      have pc25 := of_decide_eq_false c25
      refine RQ.y (wantT (dj := 14) rfl (vb rfl c25)) (Y.move (v := .int .i64 d1) s1) ?_
      refine RQ.y (wantT (dj := 14) rfl (vb rfl c25)) (Y.move (v := v20) rfl) ?_
      obtain ⟨A26, c27, rfl⟩ := OwF.form G21
      have qbA26 := OwF.bound G21
      refine RQ.y (wantT (dj := 14) rfl (vb rfl c25)) (Y.len (by kernel_rfl) rfl) ?_
      refine RQ.y (wantT (dj := 14) rfl (vb rfl c25)) (Y.binI (v := .bool (decide (d1 ≥ (y18.length : Int)))) rfl rfl rfl) ?_
      refine RQ.y rfl (Y.pick (b := false) (v := .bool (decide (d1 ≥ (y18.length : Int)))) (vb rfl c25) rfl) ?_
      refine RQ.nil ?_
      refine then_n ?_
      rcases bcases (decide (d1 ≥ (y18.length : Int))) with c28 | c28
      · replace hm := cF c28 hm
        have pc28 := of_decide_eq_false c28
        refine cond_f rfl (vb rfl c28) ?_
        refine wp_skip ?_
        refine then_n ?_
        refine wp_seq ?_
        refine wp_rl rfl ?_
        refine RL.y rfl (Y.move (v := .slice A26 y18.length c27) rfl) ?_
        refine RL.y rfl (Y.move (v := .int .i64 d1) s1) ?_
        obtain ⟨x29, hx31, hm⟩ := bnd hm
        obtain ⟨k30, hk32, hl33, hx31⟩ := getI_some hx31
        obtain ⟨b34, rfl⟩ := OwF.addr0 G21 (by omega)
        refine RL.y rfl (Y.indexAddr (m := k30) (sz := 2) rfl rfl hk32 hl33 (by kernel_rfl)) ?_
        refine RL.y rfl (Y.loadN (cs := [.int .i64 x29.a, .int .i64 x29.b]) rfl (by kernel_rfl) (cells2 (eqC (OwF.cell fPair G21 hx31 (j := 0) rfl)) (eqC (OwF.cell fPair G21 hx31 (j := 1) rfl)))) ?_
        refine RL.store (v := .agg #[.int .i64 x29.a, .int .i64 x29.b]) (cs' := #[.int .i64 x29.a, .int .i64 x29.b]) rfl rfl rfl B7 (by kernel_rfl) (by rfl) (by rfl) (by rfl) (fun w35 B36 ho37 => ?_)
        have szw35 := ho37.size
        have G21 := OwF.only G21 ho37 No22_ob9
        have T := T.trans (ho37.below (by first | (simp; done) | (simp; omega)))
        refine RL.y rfl (Y.assign (v := .int .i64 0) rfl) ?_
        refine RL.nil ?_
        refine then_n ?_
        refine wp_ret ?_
        obtain rfl := Option.some.inj hm
        exact (retct (cs := [.int .i64 x29.a, .int .i64 x29.b]) rfl rfl rfl rfl (by kernel_rfl) (blkCells B36) ⟨rfl, T⟩)
      · replace hm := cT c28 hm
        have pc28 := of_decide_eq_true c28
        refine cond_t rfl (vb rfl c28) ?_
        refine wp_seq ?_
        refine wp_rl rfl ?_
        refine RL.y rfl (Y.build0 (cells := #[.int .i64 0, .int .i64 0])  (by kernel_rfl) (by kernel_rfl)) ?_
        refine RL.store (v := .agg #[.int .i64 0, .int .i64 0]) (cs' := #[.int .i64 0, .int .i64 0]) rfl rfl rfl B7 (by kernel_rfl) (by rfl) (by rfl) (by rfl) (fun w38 B39 ho40 => ?_)
        have szw38 := ho40.size
        have G21 := OwF.only G21 ho40 No22_ob9
        have T := T.trans (ho40.below (by first | (simp; done) | (simp; omega)))
        refine RL.y rfl (Y.assign (v := .int .i64 2) rfl) ?_
        refine RL.nil ?_
        refine then_n ?_
        refine wp_ret ?_
        obtain rfl := Option.some.inj hm
        exact (then_r (retct (cs := [.int .i64 0, .int .i64 0]) rfl rfl rfl rfl (by kernel_rfl) (blkCells B39) ⟨rfl, T⟩))
    · replace hm := cT c25 hm
      have pc25 := of_decide_eq_true c25
      refine RQ.skip (wantN (dj := 14) rfl (vb rfl c25) rfl) ?_
      refine RQ.skip (wantN (dj := 14) rfl (vb rfl c25) rfl) ?_
      refine RQ.skip (wantN (dj := 14) rfl (vb rfl c25) rfl) ?_
      refine RQ.skip (wantN (dj := 14) rfl (vb rfl c25) rfl) ?_
      refine RQ.y rfl (Y.pick (b := true) (v := .bool true) (vb rfl c25) rfl) ?_
      refine RQ.nil ?_
      refine then_n ?_
      refine cond_t rfl rfl ?_
      refine wp_seq ?_
      refine wp_rl rfl ?_
      refine RL.y rfl (Y.build0 (cells := #[.int .i64 0, .int .i64 0])  (by kernel_rfl) (by kernel_rfl)) ?_
      refine RL.store (v := .agg #[.int .i64 0, .int .i64 0]) (cs' := #[.int .i64 0, .int .i64 0]) rfl rfl rfl B7 (by kernel_rfl) (by rfl) (by rfl) (by rfl) (fun w41 B42 ho43 => ?_)
      have szw41 := ho43.size
      have G21 := OwF.only G21 ho43 No22_ob9
      have T := T.trans (ho43.below (by first | (simp; done) | (simp; omega)))
      refine RL.y rfl (Y.assign (v := .int .i64 2) rfl) ?_
      refine RL.nil ?_
      refine then_n ?_
      refine wp_ret ?_
      obtain rfl := Option.some.inj hm
      exact (then_r (retct (cs := [.int .i64 0, .int .i64 0]) rfl rfl rfl rfl (by kernel_rfl) (blkCells B42) ⟨rfl, T⟩))

def m_impl_ClassOfPair (d0 : DNet) (d1 : Int) : Option (Int × Int) :=
  ((m_impl_pairAt d0 d1).bind fun y6 => (bif (y6.2 != 0) then some (0, y6.2) else ((m_impl_Net_classOf d0 y6.1).bind fun y18 => some (y18.1, 0))))
set_option maxHeartbeats 2000000 in
theorem c_m_impl_ClassOfPair (d0 : DNet) (d1 : Int) (r : Int × Int) (hm : m_impl_ClassOfPair d0 d1 = some r) (v0 : Value) (w : World) (hv0 : St netRd w v0 d0) :
    Calls Try.prog 18 #[v0, .int .i64 d1] w fun e w' => e = .returned (.tuple #[.int .i64 r.1, .int .i64 r.2]) ∧ Below w.heap.size w w' := by
  obtain ⟨csa0, rfl, ⟨A1, n1, c1, rfl, ⟨h1, r1⟩⟩⟩ := hv0
  have e1 := h1.len; subst e1
  have q1 := len_le r1
  have T := Below.refl w.heap.size w
  unfold m_impl_ClassOfPair at hm
  refine enter 25 Try.func18 rfl rfl rfl ?_
  intro f hf
  have s0 : f 0 = .agg #[.slice A1 d0.agents.length c1] := hf 0 _ rfl
  have s1 : f 1 = .int .i64 d1 := hf 1 _ rfl
  refine wp_seq ?_
  refine wp_rl rfl ?_
  refine RL.box rfl s0 (fun w2 B3 hb4 szw2 => ?_)
  replace B3 : Blk w2 w.heap.size 30 #[.slice A1 d0.agents.length c1] := B3
  have GB3 : w.heap.size ≤ w.heap.size := T.size
  have T := Tt T hb4
  refine RL.y rfl (Y.assign (v := .int .i64 0) rfl) ?_
  refine RL.y rfl (Y.assign (v := .int .i64 0) rfl) ?_
  refine RL.nil ?_
  refine then_n ?_
  refine wp_seq ?_
  refine wp_rl rfl ?_
  refine RL.y rfl (Y.loadN (cs := [.slice A1 d0.agents.length c1]) rfl (by kernel_rfl) (cells1 (eqC (blkCell B3 (i := 0) rfl)))) ?_
  refine RL.y rfl (Y.move (v := .int .i64 d1) s1) ?_
  obtain ⟨y6, e7, hm⟩ := bnd hm
  refine RL.call rfl (am2 rfl rfl) (by kernel_rfl) ((c_m_impl_pairAt d0 d1 _ e7 _ _ (stArg (R := netRd) ⟨_, _, _, rfl, ⟨SlAt.now agentRd_ok h1 (Nat.le_refl _) T, r1⟩⟩)).mono ?_)
  rintro _ w8 ⟨rfl, hb9⟩
  refine ⟨_, rfl, ?_⟩
  have szw8 := hb9.size
  have B3 := blkT B3 hb9
  have T := Tt T hb9
  refine RL.y rfl (Y.move (v := .tuple #[.agg #[.int .i64 y6.1.a, .int .i64 y6.1.b], .int .i64 y6.2]) rfl) ?_
  refine RL.y rfl (Y.extract (i := 0) rfl rfl) ?_
  refine RL.y rfl (Y.extract (i := 1) rfl rfl) ?_
  refine RL.alloc (z := .agg #[.int .i64 0, .int .i64 0]) rfl (by kernel_rfl) (fun w10 B11 hb12 szw10 => ?_)
  replace B11 : Blk w10 w8.heap.size 81 #[.int .i64 0, .int .i64 0] := B11
  have GB11 : w.heap.size ≤ w8.heap.size := T.size
  have Eob13_ob5 := Nat.ne_of_lt B3.lt
  have B3 := blkT B3 hb12
  have T := Tt T hb12
  refine RL.store (v := .agg #[.int .i64 y6.1.a, .int .i64 y6.1.b]) (cs' := #[.int .i64 y6.1.a, .int .i64 y6.1.b]) rfl rfl rfl B11 (by kernel_rfl) (by rfl) (by rfl) (by rfl) (fun w14 B15 ho16 => ?_)
  have szw14 := ho16.size
  have B3 := B3.only_ ho16 (by intro hin; simp at hin; exact Eob13_ob5 hin)
  have T := T.trans (ho16.below (by first | (simp; done) | (simp; omega)))
  refine RL.y rfl (Y.assign (v := .int .i64 y6.2) rfl) ?_
  refine RL.nil ?_
  refine then_n ?_
  refine wp_seq ?_
  refine wp_seq ?_
  refine wp_rs rfl ?_
  refine RQ.y rfl (Y.move (v := .int .i64 y6.2) rfl) ?_
  refine RQ.y rfl (Y.binI (v := .bool (y6.2 != 0)) rfl rfl rfl) ?_
  refine RQ.nil ?_
  refine then_n ?_
  rcases bcases (y6.2 != 0) with c17 | c17
  · replace hm := cF c17 hm
    refine cond_f rfl (vb rfl c17) ?_
    refine wp_skip ?_
    refine then_n ?_
    refine wp_seq ?_
    refine wp_rb rfl ?_
    refine RQ.y rfl (Y.loadN (cs := [.int .i64 y6.1.a, .int .i64 y6.1.b]) rfl (by kernel_rfl) (cells2 (beC (blkCell B15 (i := 0) rfl)) (beC (blkCell B15 (i := 1) rfl)))) ?_
    obtain ⟨y18, e19, hm⟩ := bnd hm
    refine RQ.call rfl (am2 rfl rfl) (by kernel_rfl) (v := .tuple #[.int .i64 y18.1, .bool y18.2]) (bel (K := fun _ => True) fun w' hb' => (c_m_impl_Net_classOf d0 y6.1 _ e19 _ w' (ptBox (R := netRd) (blkT B3 hb') ⟨_, _, _, rfl, ⟨SlAt.now agentRd_ok h1 (Nat.le_refl _) (Tt T hb'), r1⟩⟩))) ?_
    refine RQ.y rfl (Y.move (v := .tuple #[.int .i64 y18.1, .bool y18.2]) rfl) ?_
    refine RQ.y rfl (Y.extract (i := 0) rfl rfl) ?_
    refine RQ.y rfl (Y.extract (i := 1) rfl rfl) ?_
    refine RQ.y rfl (Y.assign (v := .int .i64 y18.1) rfl) ?_
    refine RQ.y rfl (Y.assign (v := .bool y18.2) rfl) ?_
    refine RQ.nil ?_
    intro w20 hb21
    have szw20 := hb21.size
    have T := Tt T hb21
    refine then_n ?_
    refine wp_seq ?_
    refine wp_rs rfl ?_
    refine RQ.y rfl (Y.move (v := .int .i64 y18.1) rfl) ?_
    refine RQ.y rfl (Y.assign (v := .int .i64 y18.1) rfl) ?_
    refine RQ.y rfl (Y.assign (v := .int .i64 0) rfl) ?_
    refine RQ.nil ?_
    refine then_n ?_
    refine wp_ret ?_
    obtain rfl := Option.some.inj hm
    exact (ret2 rfl rfl rfl rfl ⟨rfl, T⟩)
  · replace hm := cT c17 hm
    refine cond_t rfl (vb rfl c17) ?_
    refine wp_seq ?_
    refine wp_rs rfl ?_
    refine RQ.y rfl (Y.move (v := .int .i64 y6.2) rfl) ?_
    refine RQ.y rfl (Y.assign (v := .int .i64 0) rfl) ?_
    refine RQ.y rfl (Y.assign (v := .int .i64 y6.2) rfl) ?_
    refine RQ.nil ?_
    refine then_n ?_
    refine wp_ret ?_
    obtain rfl := Option.some.inj hm
    exact (then_r (ret2 rfl rfl rfl rfl ⟨rfl, T⟩))

def m_spec_l19Bad_A1 : Option Int :=
  some (-1)
def m_spec_l19Bad_B1 (d0 : DNet) (d1 : List Bool) (d2 : List DWire) (rec1 : Int → Option Int) (K1 : Option Int) (i3 : Int) : Option Int :=
  (bif (decide (i3 < (d2.length : Int))) then ((getI d2 i3).bind fun x6 => ((m_spec_l19At d0 d1 x6.a).bind fun y15 => ((getI d2 i3).bind fun x17 => ((m_spec_l19At d0 d1 x17.b).bind fun y24 => (bif (y15 == y24) then some i3 else (rec1 (i3 + 1))))))) else (K1))
def m_spec_l19Bad_L1 (d0 : DNet) (d1 : List Bool) (d2 : List DWire) (K1 : Option Int) : Nat → Int → Option Int
  | 0, _ => none
  | g + 1, i3 => m_spec_l19Bad_B1 d0 d1 d2 (m_spec_l19Bad_L1 d0 d1 d2 K1 g) K1 i3
def m_spec_l19Bad (d0 : DNet) (d1 : List Bool) (d2 : List DWire) : Option Int :=
  (m_spec_l19Bad_L1 d0 d1 d2 m_spec_l19Bad_A1 (d2.length + 1) 0)
set_option maxHeartbeats 2000000 in
theorem c_m_spec_l19Bad (d0 : DNet) (d1 : List Bool) (d2 : List DWire) (r : Int) (hm : m_spec_l19Bad d0 d1 d2 = some r) (v0 : Value) (v1 : Value) (v2 : Value) (w : World) (hv0 : Pt netRd w v0 d0) (hv1 : Sl boolRd 1 w v1 d1) (hv2 : Sl wireRd 4 w v2 d2) :
    Calls Try.prog 90 #[v0, v1, v2] w fun e w' => e = .returned (.int .i64 r) ∧ Below w.heap.size w w' := by
  obtain ⟨ba0, oa0, csa0, rfl, hba0, hRa0, hca0⟩ := hv0
  have hSa0 := hRa0
  obtain ⟨A1, n1, c1, rfl, ⟨h1, r1⟩⟩ := hRa0
  have e1 := h1.len; subst e1
  have q1 := len_le r1
  obtain ⟨Aa1, na1, ca1, rfl, ha1, ra1⟩ := hv1
  have ea1 := ha1.len; subst ea1
  have qa1 := len_le ra1
  obtain ⟨Aa2, na2, ca2, rfl, ha2, ra2⟩ := hv2
  have ea2 := ha2.len; subst ea2
  have qa2 := len_le ra2
  have T := Below.refl w.heap.size w
  unfold m_spec_l19Bad at hm
  refine enter 32 Try.func90 rfl rfl rfl ?_
  intro f hf
  have s0 : f 0 = .pointer (some ⟨ba0, oa0, none⟩) := hf 0 _ rfl
  have s1 : f 1 = .slice Aa1 d1.length ca1 := hf 1 _ rfl
  have s2 : f 2 = .slice Aa2 d2.length ca2 := hf 2 _ rfl
  refine wp_seq ?_
  refine wp_rs rfl ?_
  refine RQ.y rfl (Y.assign (v := .int .i64 0) rfl) ?_
  refine RQ.nil ?_
  refine then_n ?_
  refine wp_seq ?_
  refine wp_seq ?_
  refine wp_rs rfl ?_
  refine RQ.y rfl (Y.assign (v := .int .i64 0) rfl) ?_
  refine RQ.nil ?_
  refine then_n ?_
  refine wp_block ?_
  obtain ⟨K1, hK1, hm⟩ : ∃ K, K = m_spec_l19Bad_A1 ∧ m_spec_l19Bad_L1 d0 d1 d2 K (d2.length + 1) 0 = some r := ⟨_, rfl, hm⟩
  refine wp_loopX (fun g f w' => ∃ (i3 : Int), f 0 = .pointer (some ⟨ba0, oa0, none⟩) ∧ f 1 = .slice Aa1 d1.length ca1 ∧ f 2 = .slice Aa2 d2.length ca2 ∧ f 7 = .int .i64 i3 ∧ 0 ≤ i3 ∧ Below w.heap.size w w' ∧ m_spec_l19Bad_L1 d0 d1 d2 K1 g i3 = some r) 0 (fun f w' => Below w.heap.size w w' ∧ m_spec_l19Bad_A1  = some r) (d2.length + 1) ⟨0, s0, s1, s2, rfl, (by omega), T, hm⟩ ?_ ?_
  · rintro f w2 ⟨T, hm⟩
    unfold m_spec_l19Bad_A1 at hm
    refine blk_hit (then_n ?_)
    refine wp_seq ?_
    refine wp_rs rfl ?_
    refine RQ.y rfl (Y.assign (v := .int .i64 (-1)) rfl) ?_
    refine RQ.nil ?_
    refine then_n ?_
    refine wp_ret ?_
    obtain rfl := Option.some.inj hm
    exact (ret1 rfl rfl rfl ⟨rfl, T⟩)
  · rintro g f w4 ⟨i3, s0_1, s1_1, s2_1, s7_1, nn7_1, T, hm⟩
    rcases g with _ | g
    · simp only [m_spec_l19Bad_L1] at hm; cases hm
    obtain ⟨rec1, hrec1, hm⟩ : ∃ z, z = m_spec_l19Bad_L1 d0 d1 d2 K1 g ∧ m_spec_l19Bad_B1 d0 d1 d2 z K1 i3 = some r := ⟨_, rfl, hm⟩
    unfold m_spec_l19Bad_B1 at hm
    refine wp_seq ?_
    refine wp_seq ?_
    refine wp_rs rfl ?_
    refine RQ.y rfl (Y.move (v := .int .i64 i3) s7_1) ?_
    refine RQ.y rfl (Y.move (v := .slice Aa2 d2.length ca2) s2_1) ?_
    refine RQ.y rfl (Y.len (by kernel_rfl) rfl) ?_
    refine RQ.y rfl (Y.binI (v := .bool (decide (i3 < (d2.length : Int)))) rfl rfl rfl) ?_
    refine RQ.nil ?_
    refine then_n ?_
    rcases bcases (decide (i3 < (d2.length : Int))) with c5 | c5
    · replace hm := cF c5 hm
      have pc5 := of_decide_eq_false c5
      refine cond_f rfl (vb rfl c5) ?_
      refine wp_exit ?_
      exact (then_x (then_x (hit_x ⟨_, rfl, ⟨T, (by rw [hK1] at hm; exact hm)⟩⟩)))
    · replace hm := cT c5 hm
      have pc5 := of_decide_eq_true c5
      refine cond_t rfl (vb rfl c5) ?_
      refine wp_skip ?_
      refine then_n ?_
      refine wp_seq ?_
      refine wp_block ?_
      refine wp_seq ?_
      refine wp_rbd (by kernel_rfl) (by kernel_rfl) ?_
      refine RQ.y rfl (Y.move (v := .pointer (some ⟨ba0, oa0, none⟩)) s0_1) ?_
      refine RQ.y rfl (Y.move (v := .slice Aa1 d1.length ca1) s1_1) ?_
      refine RQ.y rfl (Y.move (v := .slice Aa2 d2.length ca2) s2_1) ?_
      refine RQ.y rfl (Y.move (v := .int .i64 i3) s7_1) ?_
      obtain ⟨x6, hx9, hm⟩ := bnd hm
      obtain ⟨k7, hk10, hl11, hx9⟩ := getI_some hx9
      obtain ⟨b13, o14, rfl, hbb13⟩ := ha2.addr (by omega)
      obtain ⟨cs8, hRcs8, hc12⟩ := ha2.el hx9
      have hScs8 := hRcs8
      obtain rfl := hRcs8
      refine RQ.y rfl (Y.indexAddr (m := k7) (sz := 4) rfl rfl hk10 hl11 (by kernel_rfl)) ?_
      refine RQ.y rfl (Y.fieldAddr (off := 0) rfl (by kernel_rfl)) ?_
      refine RQ.y rfl (Y.loadN (cs := [.int .i64 x6.a.agent, .int .i64 x6.a.slot]) rfl (by kernel_rfl) (cells2 (beC (cellT T (hc12 0 _ rfl))) (beC (cellT T (hc12 1 _ rfl))))) ?_
      obtain ⟨y15, e16, hm⟩ := bnd hm
      refine RQ.call rfl (am3 rfl rfl rfl) (by kernel_rfl) (v := .int .i64 y15) (bel (K := fun _ => True) fun w' hb' => (c_m_spec_l19At d0 d1 x6.a _ e16 _ _ w' (ptArg netRd_ok hba0 hSa0 hca0 (Tt T hb')) (slArg boolRd_ok ha1 ra1 (Tt T hb')))) ?_
      refine RQ.y rfl (Y.move (v := .pointer (some ⟨ba0, oa0, none⟩)) s0_1) ?_
      refine RQ.y rfl (Y.move (v := .slice Aa1 d1.length ca1) s1_1) ?_
      refine RQ.y rfl (Y.move (v := .slice (some ⟨b13, o14, none⟩) d2.length ca2) s2_1) ?_
      refine RQ.y rfl (Y.move (v := .int .i64 i3) s7_1) ?_
      obtain ⟨x17, hx20, hm⟩ := bnd hm
      obtain ⟨k18, hk21, hl22, hx20⟩ := getI_some hx20
      obtain ⟨cs19, hRcs19, hc23⟩ := ha2.el hx20
      have hScs19 := hRcs19
      obtain rfl := hRcs19
      refine RQ.y rfl (Y.indexAddr (m := k18) (sz := 4) rfl rfl hk21 hl22 (by kernel_rfl)) ?_
      refine RQ.y rfl (Y.fieldAddr (off := 2) rfl (by kernel_rfl)) ?_
      refine RQ.y rfl (Y.loadN (cs := [.int .i64 x17.b.agent, .int .i64 x17.b.slot]) rfl (by kernel_rfl) (cells2 (beC (cellT T (hc23 2 _ rfl))) (beC (cellT T (hc23 3 _ rfl))))) ?_
      obtain ⟨y24, e25, hm⟩ := bnd hm
      refine RQ.call rfl (am3 rfl rfl rfl) (by kernel_rfl) (v := .int .i64 y24) (bel (K := fun _ => True) fun w' hb' => (c_m_spec_l19At d0 d1 x17.b _ e25 _ _ w' (ptArg netRd_ok hba0 hSa0 hca0 (Tt T hb')) (slArg boolRd_ok ha1 ra1 (Tt T hb')))) ?_
      refine RQ.y rfl (Y.binI (v := .bool (y15 == y24)) rfl rfl rfl) ?_
      refine RQ.nil ?_
      intro w26 hb27
      have szw26 := hb27.size
      have T := Tt T hb27
      refine then_n ?_
      rcases bcases (y15 == y24) with c28 | c28
      · replace hm := cF c28 hm
        refine cond_f rfl (vb rfl c28) ?_
        refine wp_skip ?_
        refine blk_n (then_n ?_)
        refine wp_rs rfl ?_
        refine RQ.y rfl (Y.move (v := .int .i64 i3) s7_1) ?_
        refine RQ.y rfl (Y.binI rfl rfl (binI_add (m := i3) (by omega))) ?_
        refine RQ.y rfl (Y.assign (v := .int .i64 (i3 + 1)) rfl) ?_
        refine RQ.nil ?_
        exact (then_n ⟨g, _, Nat.lt_succ_self _, rfl, ⟨(i3 + 1), s0_1, s1_1, s2_1, rfl, (by omega), T, (by rw [← hrec1]; exact hm)⟩⟩)
      · replace hm := cT c28 hm
        refine cond_t rfl (vb rfl c28) ?_
        refine wp_seq ?_
        refine wp_rs rfl ?_
        refine RQ.y rfl (Y.move (v := .int .i64 i3) s7_1) ?_
        refine RQ.y rfl (Y.assign (v := .int .i64 i3) rfl) ?_
        refine RQ.nil ?_
        refine then_n ?_
        refine wp_ret ?_
        obtain rfl := Option.some.inj hm
        exact (blk_r (then_r (then_r (hit_r (blk_r (then_r (ret1 rfl rfl rfl ⟨rfl, T⟩)))))))

def m_spec_l19Ok (d0 : DNet) (d1 : List Bool) : Option Bool :=
  ((m_spec_l19Fits d0 d1).bind fun y2 => (bif y2 then ((m_spec_l11Wires d0).bind fun y7 => ((m_spec_l19Bad d0 d1 y7).bind fun y14 => some (decide (y14 < 0)))) else some false))
set_option maxHeartbeats 2000000 in
theorem c_m_spec_l19Ok (d0 : DNet) (d1 : List Bool) (r : Bool) (hm : m_spec_l19Ok d0 d1 = some r) (v0 : Value) (v1 : Value) (w : World) (hv0 : Pt netRd w v0 d0) (hv1 : Sl boolRd 1 w v1 d1) :
    Calls Try.prog 86 #[v0, v1] w fun e w' => e = .returned (.bool r) ∧ Below w.heap.size w w' := by
  obtain ⟨ba0, oa0, csa0, rfl, hba0, hRa0, hca0⟩ := hv0
  have hSa0 := hRa0
  obtain ⟨A1, n1, c1, rfl, ⟨h1, r1⟩⟩ := hRa0
  have e1 := h1.len; subst e1
  have q1 := len_le r1
  obtain ⟨Aa1, na1, ca1, rfl, ha1, ra1⟩ := hv1
  have ea1 := ha1.len; subst ea1
  have qa1 := len_le ra1
  have T := Below.refl w.heap.size w
  unfold m_spec_l19Ok at hm
  refine enter 16 Try.func86 rfl rfl rfl ?_
  intro f hf
  have s0 : f 0 = .pointer (some ⟨ba0, oa0, none⟩) := hf 0 _ rfl
  have s1 : f 1 = .slice Aa1 d1.length ca1 := hf 1 _ rfl
  refine wp_seq ?_
  refine wp_rs rfl ?_
  refine RQ.y rfl (Y.assign (v := .bool false) rfl) ?_
  refine RQ.nil ?_
  refine then_n ?_
  refine wp_seq ?_
  refine wp_rl rfl ?_
  refine RL.y rfl (Y.move (v := .pointer (some ⟨ba0, oa0, none⟩)) s0) ?_
  refine RL.y rfl (Y.move (v := .slice Aa1 d1.length ca1) s1) ?_
  obtain ⟨y2, e3, hm⟩ := bnd hm
  refine RL.call rfl (am2 rfl rfl) (by kernel_rfl) ((c_m_spec_l19Fits d0 d1 _ e3 _ _ _ (ptArg netRd_ok hba0 hSa0 hca0 T) (slArg boolRd_ok ha1 ra1 T)).mono ?_)
  rintro _ w4 ⟨rfl, hb5⟩
  refine ⟨_, rfl, ?_⟩
  have szw4 := hb5.size
  have T := Tt T hb5
  refine RL.y rfl (Y.move (v := .bool y2) rfl) ?_
  rcases bcases y2 with c6 | c6
  · replace hm := cF c6 hm
    refine RL.skip (wantN (dj := 8) rfl (vb rfl c6) rfl) ?_
    refine RL.skip (wantN (dj := 8) rfl (vb rfl c6) rfl) ?_
    refine RL.skip (wantN (dj := 8) rfl (vb rfl c6) rfl) ?_
    refine RL.skip (wantN (dj := 8) rfl (vb rfl c6) rfl) ?_
    refine RL.skip (wantN (dj := 8) rfl (vb rfl c6) rfl) ?_
    refine RL.skip (wantN (dj := 8) rfl (vb rfl c6) rfl) ?_
    refine RL.y rfl (Y.pick (b := false) (v := .bool false) (vb rfl c6) rfl) ?_
    refine RL.y rfl (Y.assign (v := .bool false) rfl) ?_
    refine RL.nil ?_
    refine then_n ?_
    refine wp_ret ?_
    obtain rfl := Option.some.inj hm
    exact (ret1 rfl rfl rfl ⟨rfl, T⟩)
  · replace hm := cT c6 hm
    refine RL.y (wantT (dj := 8) rfl (vb rfl c6)) (Y.move (v := .pointer (some ⟨ba0, oa0, none⟩)) s0) ?_
    refine RL.y (wantT (dj := 8) rfl (vb rfl c6)) (Y.move (v := .slice Aa1 d1.length ca1) s1) ?_
    refine RL.y (wantT (dj := 8) rfl (vb rfl c6)) (Y.move (v := .pointer (some ⟨ba0, oa0, none⟩)) s0) ?_
    obtain ⟨y7, e8, hm⟩ := bnd hm
    refine RL.call (wantT (dj := 8) rfl (vb rfl c6)) (am1 rfl) (by kernel_rfl) ((c_m_spec_l11Wires d0 _ e8 _ _ (ptArg netRd_ok hba0 hSa0 hca0 T)).mono ?_)
    rintro _ w12 ⟨⟨v9, rfl, G10⟩, hb13⟩
    refine ⟨_, rfl, ?_⟩
    have szw12 := hb13.size
    have T0w12 := T.size
    have T := Tt T hb13
    replace G10 := OwF.mono G10 T0w12
    obtain ⟨y14, e15, hm⟩ := bnd hm
    refine RL.call (wantT (dj := 8) rfl (vb rfl c6)) (am3 rfl rfl rfl) (by kernel_rfl) ((c_m_spec_l19Bad d0 d1 y7 _ e15 _ _ _ _ (ptArg netRd_ok hba0 hSa0 hca0 T) (slArg boolRd_ok ha1 ra1 T) (OwF.arg fWire G10)).mono ?_)
    rintro _ w16 ⟨rfl, hb17⟩
    refine ⟨_, rfl, ?_⟩
    have szw16 := hb17.size
    have G10 := OwF.below G10 hb17
    have T := Tt T hb17
    refine RL.y (wantT (dj := 8) rfl (vb rfl c6)) (Y.binI (v := .bool (decide (y14 < 0))) rfl rfl rfl) ?_
    refine RL.y rfl (Y.pick (b := true) (v := .bool (decide (y14 < 0))) (vb rfl c6) rfl) ?_
    refine RL.y rfl (Y.assign (v := .bool (decide (y14 < 0))) rfl) ?_
    refine RL.nil ?_
    refine then_n ?_
    refine wp_ret ?_
    obtain rfl := Option.some.inj hm
    exact (ret1 rfl rfl rfl ⟨rfl, T⟩)

def m_spec_IsOriented (d0 : DNet) (d1 : List Bool) : Option Bool :=
  ((m_spec_l11Ok d0).bind fun y6 => (bif y6 then ((m_spec_l19Ok d0 d1).bind fun y11 => some y11) else some false))
set_option maxHeartbeats 2000000 in
theorem c_m_spec_IsOriented (d0 : DNet) (d1 : List Bool) (r : Bool) (hm : m_spec_IsOriented d0 d1 = some r) (v0 : Value) (v1 : Value) (w : World) (hv0 : St netRd w v0 d0) (hv1 : Sl boolRd 1 w v1 d1) :
    Calls Try.prog 34 #[v0, v1] w fun e w' => e = .returned (.bool r) ∧ Below w.heap.size w w' := by
  obtain ⟨csa0, rfl, ⟨A1, n1, c1, rfl, ⟨h1, r1⟩⟩⟩ := hv0
  have e1 := h1.len; subst e1
  have q1 := len_le r1
  obtain ⟨Aa1, na1, ca1, rfl, ha1, ra1⟩ := hv1
  have ea1 := ha1.len; subst ea1
  have qa1 := len_le ra1
  have T := Below.refl w.heap.size w
  unfold m_spec_IsOriented at hm
  refine enter 10 Try.func34 rfl rfl rfl ?_
  intro f hf
  have s0 : f 0 = .agg #[.slice A1 d0.agents.length c1] := hf 0 _ rfl
  have s1 : f 1 = .slice Aa1 d1.length ca1 := hf 1 _ rfl
  refine wp_seq ?_
  refine wp_rl rfl ?_
  refine RL.box rfl s0 (fun w2 B3 hb4 szw2 => ?_)
  replace B3 : Blk w2 w.heap.size 30 #[.slice A1 d0.agents.length c1] := B3
  have GB3 : w.heap.size ≤ w.heap.size := T.size
  have T := Tt T hb4
  refine RL.y rfl (Y.assign (v := .bool false) rfl) ?_
  refine RL.nil ?_
  refine then_n ?_
  refine wp_seq ?_
  refine wp_rb rfl ?_
  obtain ⟨y6, e7, hm⟩ := bnd hm
  refine RQ.call rfl (am1 rfl) (by kernel_rfl) (v := .bool y6) (bel (K := fun _ => True) fun w' hb' => (c_m_spec_l11Ok d0 _ e7 _ w' (ptBox (R := netRd) (blkT B3 hb') ⟨_, _, _, rfl, ⟨SlAt.now agentRd_ok h1 (Nat.le_refl _) (Tt T hb'), r1⟩⟩))) ?_
  refine RQ.y rfl (Y.move (v := .bool y6) rfl) ?_
  rcases bcases y6 with c8 | c8
  · replace hm := cF c8 hm
    refine RQ.skip (wantN (dj := 6) rfl (vb rfl c8) rfl) ?_
    refine RQ.skip (wantN (dj := 6) rfl (vb rfl c8) rfl) ?_
    refine RQ.y rfl (Y.pick (b := false) (v := .bool false) (vb rfl c8) rfl) ?_
    refine RQ.y rfl (Y.assign (v := .bool false) rfl) ?_
    refine RQ.nil ?_
    intro w9 hb10
    have szw9 := hb10.size
    have T := Tt T hb10
    refine then_n ?_
    refine wp_ret ?_
    obtain rfl := Option.some.inj hm
    exact (ret1 rfl rfl rfl ⟨rfl, T⟩)
  · replace hm := cT c8 hm
    refine RQ.y (wantT (dj := 6) rfl (vb rfl c8)) (Y.move (v := .slice Aa1 d1.length ca1) s1) ?_
    obtain ⟨y11, e12, hm⟩ := bnd hm
    refine RQ.call (wantT (dj := 6) rfl (vb rfl c8)) (am2 rfl rfl) (by kernel_rfl) (v := .bool y11) (bel (K := fun _ => True) fun w' hb' => (c_m_spec_l19Ok d0 d1 _ e12 _ _ w' (ptBox (R := netRd) (blkT B3 hb') ⟨_, _, _, rfl, ⟨SlAt.now agentRd_ok h1 (Nat.le_refl _) (Tt T hb'), r1⟩⟩) (slArg boolRd_ok ha1 ra1 (Tt T hb')))) ?_
    refine RQ.y rfl (Y.pick (b := true) (v := .bool y11) (vb rfl c8) rfl) ?_
    refine RQ.y rfl (Y.assign (v := .bool y11) rfl) ?_
    refine RQ.nil ?_
    intro w13 hb14
    have szw13 := hb14.size
    have T := Tt T hb14
    refine then_n ?_
    refine wp_ret ?_
    obtain rfl := Option.some.inj hm
    exact (ret1 rfl rfl rfl ⟨rfl, T⟩)

def m_spec_PairsByClass_A1 (xs24 : List Int) : Option ((List Int) × Int) :=
  some (xs24, 0)
def m_spec_PairsByClass_B1 (d0 : DNet) (y17 : List DPair) (rec1 : List Int → Int → Option ((List Int) × Int)) (K1 : List Int → Option ((List Int) × Int)) (xs26 : List Int) (i27 : Int) : Option ((List Int) × Int) :=
  (bif (decide (i27 < (y17.length : Int))) then ((getI y17 i27).bind fun x34 => ((getI d0.agents x34.a).bind fun x40 => ((getI y17 i27).bind fun x51 => ((getI d0.agents x51.b).bind fun x56 => ((m_spec_l13Class x40 x56).bind fun y65 => ((ck (y65 - 1)).bind fun s69 => ((getI xs26 s69).bind fun x72 => ((ck (x72 + 1)).bind fun s78 => ((getI xs26 s69).bind fun x79 => (rec1 (setI xs26 s69 s78) (i27 + 1))))))))))) else (K1 xs26))
def m_spec_PairsByClass_L1 (d0 : DNet) (y17 : List DPair) (K1 : List Int → Option ((List Int) × Int)) : Nat → List Int → Int → Option ((List Int) × Int)
  | 0, _, _ => none
  | g + 1, xs26, i27 => m_spec_PairsByClass_B1 d0 y17 (m_spec_PairsByClass_L1 d0 y17 K1 g) K1 xs26 i27
def m_spec_PairsByClass (d0 : DNet) : Option ((List Int) × Int) :=
  ((m_spec_l11Ok d0).bind fun y6 => (bif y6 then ((m_spec_l11Pairs d0).bind fun y17 => (m_spec_PairsByClass_L1 d0 y17 m_spec_PairsByClass_A1 (y17.length + 1) ([0, 0, 0, 0, 0, 0, 0, 0]) 0)) else some ([], 1)))
set_option maxHeartbeats 2000000 in
theorem c_m_spec_PairsByClass (d0 : DNet) (r : (List Int) × Int) (hm : m_spec_PairsByClass d0 = some r) (v0 : Value) (w : World) (hv0 : St netRd w v0 d0) :
    Calls Try.prog 20 #[v0] w fun e w' => (∃ v, e = .returned (.tuple #[v, .int .i64 r.2]) ∧ OwF 2 encI 1 w' w.heap.size v r.1) ∧ Below w.heap.size w w' := by
  obtain ⟨csa0, rfl, ⟨A1, n1, c1, rfl, ⟨h1, r1⟩⟩⟩ := hv0
  have e1 := h1.len; subst e1
  have q1 := len_le r1
  have T := Below.refl w.heap.size w
  unfold m_spec_PairsByClass at hm
  refine enter 41 Try.func20 rfl rfl rfl ?_
  intro f hf
  have s0 : f 0 = .agg #[.slice A1 d0.agents.length c1] := hf 0 _ rfl
  refine wp_seq ?_
  refine wp_rl rfl ?_
  refine RL.box rfl s0 (fun w2 B3 hb4 szw2 => ?_)
  replace B3 : Blk w2 w.heap.size 30 #[.slice A1 d0.agents.length c1] := B3
  have GB3 : w.heap.size ≤ w.heap.size := T.size
  have T := Tt T hb4
  refine RL.y rfl (Y.assign (v := .slice none 0 0) rfl) ?_
  refine RL.y rfl (Y.assign (v := .int .i64 0) rfl) ?_
  refine RL.nil ?_
  refine then_n ?_
  refine wp_seq ?_
  refine wp_seq ?_
  refine wp_rb rfl ?_
  obtain ⟨y6, e7, hm⟩ := bnd hm
  refine RQ.call rfl (am1 rfl) (by kernel_rfl) (v := .bool y6) (bel (K := fun _ => True) fun w' hb' => (c_m_spec_l11Ok d0 _ e7 _ w' (ptBox (R := netRd) (blkT B3 hb') ⟨_, _, _, rfl, ⟨SlAt.now agentRd_ok h1 (Nat.le_refl _) (Tt T hb'), r1⟩⟩))) ?_
  refine RQ.y rfl (Y.not (b' := (!y6)) rfl rfl) ?_
  refine RQ.nil ?_
  intro w8 hb9
  have szw8 := hb9.size
  have B3 := blkT B3 hb9
  have T := Tt T hb9
  refine then_n ?_
  rcases bcases y6 with c10 | c10
  · replace hm := cF c10 hm
    refine cond_t rfl (vbn rfl c10 rfl) ?_
    refine wp_seq ?_
    refine wp_rs rfl ?_
    refine RQ.y rfl (Y.assign (v := .slice none 0 0) rfl) ?_
    refine RQ.y rfl (Y.assign (v := .int .i64 1) rfl) ?_
    refine RQ.nil ?_
    refine then_n ?_
    refine wp_ret ?_
    obtain rfl := Option.some.inj hm
    exact (then_r (ret2 rfl rfl rfl rfl ⟨⟨_, rfl, OwF.nil⟩, T⟩))
  · replace hm := cT c10 hm
    refine cond_f rfl (vbn rfl c10 rfl) ?_
    refine wp_skip ?_
    refine then_n ?_
    refine wp_seq ?_
    refine wp_rl rfl ?_
    refine RL.bslice (e := 2) (cells := #[.int .i64 0, .int .i64 0, .int .i64 0, .int .i64 0, .int .i64 0, .int .i64 0, .int .i64 0, .int .i64 0]) rfl (pm8 rfl rfl rfl rfl rfl rfl rfl rfl) (by kernel_rfl) (fun w11 B12 hb13 szw11 => ?_)
    have ZB12 : w.heap.size ≤ w8.heap.size := T.size
    have No14_ob5 := litNe (n := 8) (c := 8) B3.lt
    have B3 := blkT B3 hb13
    have T := Tt T hb13
    have G15 := OwF.lit (enc := encI) (sz := 1) (xs := [0, 0, 0, 0, 0, 0, 0, 0]) B12 ZB12 rfl rfl rfl rfl
    refine RL.y rfl (Y.assign (v := .slice (some ⟨w8.heap.size, 0, none⟩) 8 8) rfl) ?_
    refine RL.nil ?_
    refine then_n ?_
    refine wp_seq ?_
    refine wp_rl rfl ?_
    obtain ⟨y17, e18, hm⟩ := bnd hm
    refine RL.call rfl (am1 rfl) (by kernel_rfl) ((c_m_spec_l11Pairs d0 _ e18 _ _ (ptBox (R := netRd) B3 ⟨_, _, _, rfl, ⟨SlAt.now agentRd_ok h1 (Nat.le_refl _) T, r1⟩⟩)).mono ?_)
    rintro _ w22 ⟨⟨v19, rfl, G20⟩, hb23⟩
    refine ⟨_, rfl, ?_⟩
    have szw22 := hb23.size
    have T0w22 := T.size
    have Do21_o14 := Dj.new (OwF.lo_ G20) (OwF.hi G15)
    have No21_ob5 := OwF.ne G20 B3.lt
    have B3 := blkT B3 hb23
    have G15 := OwF.below G15 hb23
    have T := Tt T hb23
    replace G20 := OwF.mono G20 T0w22
    refine RL.y rfl (Y.assign (v := v19) rfl) ?_
    refine RL.nil ?_
    refine then_n ?_
    refine wp_seq ?_
    refine wp_seq ?_
    refine wp_rs rfl ?_
    refine RQ.y rfl (Y.assign (v := .int .i64 0) rfl) ?_
    refine RQ.nil ?_
    refine then_n ?_
    refine wp_block ?_
    obtain ⟨K1, hK1, hm⟩ : ∃ K, K = m_spec_PairsByClass_A1 ∧ m_spec_PairsByClass_L1 d0 y17 K (y17.length + 1) ([0, 0, 0, 0, 0, 0, 0, 0]) 0 = some r := ⟨_, rfl, hm⟩
    refine wp_loopX (fun g f w' => ∃ (xs26 : List Int) (i27 : Int) (uxs26 : Value), f 1 = .pointer (some ⟨w.heap.size, 0, none⟩) ∧ f 5 = v19 ∧ f 4 = uxs26 ∧ OwF 2 encI 1 w' w.heap.size uxs26 xs26 ∧ f 6 = .int .i64 i27 ∧ 0 ≤ i27 ∧ Dj uxs26 v19 ∧ Value.ownBlock uxs26 ≠ some w.heap.size ∧ Blk w' w.heap.size 30 #[.slice A1 d0.agents.length c1] ∧ OwF 81 encPair 2 w' w.heap.size v19 y17 ∧ Below w.heap.size w w' ∧ m_spec_PairsByClass_L1 d0 y17 K1 g xs26 i27 = some r) 0 (fun f w' => ∃ (xs24 : List Int) (uxs24 : Value), f 4 = uxs24 ∧ OwF 2 encI 1 w' w.heap.size uxs24 xs24 ∧ Value.ownBlock uxs24 ≠ some w.heap.size ∧ Blk w' w.heap.size 30 #[.slice A1 d0.agents.length c1] ∧ Below w.heap.size w w' ∧ m_spec_PairsByClass_A1 xs24 = some r) (y17.length + 1) ⟨([0, 0, 0, 0, 0, 0, 0, 0]), 0, (.slice (some ⟨w8.heap.size, 0, none⟩) 8 8), rfl, rfl, rfl, G15, rfl, (by omega), (Dj.symm Do21_o14), No14_ob5, B3, G20, T, hm⟩ ?_ ?_
    · rintro f w25 ⟨xs24, uxs24, s4_1x, Gxs24, Noxs24_ob5, B3, T, hm⟩
      unfold m_spec_PairsByClass_A1 at hm
      refine blk_hit (then_n ?_)
      refine wp_seq ?_
      refine wp_rs rfl ?_
      refine RQ.y rfl (Y.move (v := uxs24) s4_1x) ?_
      refine RQ.y rfl (Y.assign (v := uxs24) rfl) ?_
      refine RQ.y rfl (Y.assign (v := .int .i64 0) rfl) ?_
      refine RQ.nil ?_
      refine then_n ?_
      refine wp_ret ?_
      obtain rfl := Option.some.inj hm
      exact (ret2 rfl rfl rfl rfl ⟨⟨_, rfl, Gxs24⟩, T⟩)
    · rintro g f w28 ⟨xs26, i27, uxs26, s1_1, s5_1, s4_1, Gxs26, s6_1, nn6_1, Doxs26_o21, Noxs26_ob5, B3, G20, T, hm⟩
      rcases g with _ | g
      · simp only [m_spec_PairsByClass_L1] at hm; cases hm
      obtain ⟨rec1, hrec1, hm⟩ : ∃ z, z = m_spec_PairsByClass_L1 d0 y17 K1 g ∧ m_spec_PairsByClass_B1 d0 y17 z K1 xs26 i27 = some r := ⟨_, rfl, hm⟩
      unfold m_spec_PairsByClass_B1 at hm
      refine wp_seq ?_
      refine wp_seq ?_
      refine wp_rs rfl ?_
      refine RQ.y rfl (Y.move (v := .int .i64 i27) s6_1) ?_
      refine RQ.y rfl (Y.move (v := v19) s5_1) ?_
      obtain ⟨A29, c30, rfl⟩ := OwF.form G20
      have qbA29 := OwF.bound G20
      refine RQ.y rfl (Y.len (by kernel_rfl) rfl) ?_
      refine RQ.y rfl (Y.binI (v := .bool (decide (i27 < (y17.length : Int)))) rfl rfl rfl) ?_
      refine RQ.nil ?_
      refine then_n ?_
      rcases bcases (decide (i27 < (y17.length : Int))) with c31 | c31
      · replace hm := cF c31 hm
        have pc31 := of_decide_eq_false c31
        refine cond_f rfl (vb rfl c31) ?_
        refine wp_exit ?_
        exact (then_x (then_x (hit_x ⟨_, rfl, ⟨xs26, (uxs26), s4_1, Gxs26, Noxs26_ob5, B3, T, (by rw [hK1] at hm; exact hm)⟩⟩)))
      · replace hm := cT c31 hm
        have pc31 := of_decide_eq_true c31
        refine cond_t rfl (vb rfl c31) ?_
        refine wp_skip ?_
        refine then_n ?_
        refine wp_seq ?_
        refine wp_block ?_
        refine wp_rg (fun w' => Below w.heap.size w w' ∧ Blk w' w.heap.size 30 #[.slice A1 d0.agents.length c1] ∧ OwF 81 encPair 2 w' w.heap.size (.slice A29 y17.length c30) y17) [(0, true), (1, true), (2, true), (3, true), (4, true), (5, true), (6, true), (7, true), (8, true), (9, true), (10, true), (11, true), (12, true), (13, true), (14, true), (15, true), (16, true), (17, false), (18, true), (19, true), (20, false), (21, true), (22, true), (23, false)] (by kernel_rfl) (by kernel_rfl) (fun w32 hb33 szw32 => ?_)
        have B3 := blkT B3 hb33
        have G20 := OwF.below G20 hb33
        have Gxs26 := OwF.below Gxs26 hb33
        have T := Tt T hb33
        refine ⟨⟨T, B3, G20⟩, ?_⟩
        refine RG.y rfl rfl (Y.move (v := uxs26) s4_1) ?_
        refine RG.y rfl rfl (Y.fieldAddr (off := 0) s1_1 (by kernel_rfl)) ?_
        refine RG.y rfl rfl (Y.load (v := .slice A1 d0.agents.length c1) rfl (by kernel_rfl) (fun w' hS => (blkCell hS.2.1 (i := 0) rfl))) ?_
        refine RG.y rfl rfl (Y.move (v := .slice A29 y17.length c30) s5_1) ?_
        refine RG.y rfl rfl (Y.move (v := .int .i64 i27) s6_1) ?_
        obtain ⟨x34, hx36, hm⟩ := bnd hm
        obtain ⟨k35, hk37, hl38, hx36⟩ := getI_some hx36
        obtain ⟨b39, rfl⟩ := OwF.addr0 G20 (by omega)
        refine RG.y rfl rfl (Y.indexAddr (m := k35) (sz := 2) rfl rfl hk37 hl38 (by kernel_rfl)) ?_
        refine RG.y rfl rfl (Y.fieldAddr (off := 0) rfl (by kernel_rfl)) ?_
        refine RG.y rfl rfl (Y.load (v := .int .i64 x34.a) rfl (by kernel_rfl) (fun w' hS => (OwF.cell fPair hS.2.2 hx36 (j := 0) rfl))) ?_
        obtain ⟨x40, hx43, hm⟩ := bnd hm
        obtain ⟨k41, hk44, hl45, hx43⟩ := getI_some hx43
        obtain ⟨b47, o48, rfl, hbb47⟩ := h1.addr (by omega)
        obtain ⟨cs42, hRcs42, hc46⟩ := h1.el hx43
        have hScs42 := hRcs42
        obtain ⟨A49, n49, c49, A50, n50, c50, rfl, ⟨h49, r49⟩, ⟨h50, r50⟩⟩ := hRcs42
        have e49 := h49.len; subst e49
        have q49 := len_le r49
        have e50 := h50.len; subst e50
        have q50 := len_le r50
        refine RG.y rfl rfl (Y.indexAddr (m := k41) (sz := 5) rfl rfl hk44 hl45 (by kernel_rfl)) ?_
        refine RG.y rfl rfl (Y.fieldAddr (off := 0) s1_1 (by kernel_rfl)) ?_
        refine RG.y rfl rfl (Y.load (v := .slice (some ⟨b47, o48, none⟩) d0.agents.length c1) rfl (by kernel_rfl) (fun w' hS => (blkCell hS.2.1 (i := 0) rfl))) ?_
        refine RG.y rfl rfl (Y.move (v := .slice (some ⟨b39, 0, none⟩) y17.length c30) s5_1) ?_
        refine RG.y rfl rfl (Y.move (v := .int .i64 i27) s6_1) ?_
        obtain ⟨x51, hx53, hm⟩ := bnd hm
        obtain ⟨k52, hk54, hl55, hx53⟩ := getI_some hx53
        refine RG.y rfl rfl (Y.indexAddr (m := k52) (sz := 2) rfl rfl hk54 hl55 (by kernel_rfl)) ?_
        refine RG.y rfl rfl (Y.fieldAddr (off := 1) rfl (by kernel_rfl)) ?_
        refine RG.y rfl rfl (Y.load (v := .int .i64 x51.b) rfl (by kernel_rfl) (fun w' hS => (OwF.cell fPair hS.2.2 hx53 (j := 1) rfl))) ?_
        obtain ⟨x56, hx59, hm⟩ := bnd hm
        obtain ⟨k57, hk60, hl61, hx59⟩ := getI_some hx59
        obtain ⟨cs58, hRcs58, hc62⟩ := h1.el hx59
        have hScs58 := hRcs58
        obtain ⟨A63, n63, c63, A64, n64, c64, rfl, ⟨h63, r63⟩, ⟨h64, r64⟩⟩ := hRcs58
        have e63 := h63.len; subst e63
        have q63 := len_le r63
        have e64 := h64.len; subst e64
        have q64 := len_le r64
        refine RG.y rfl rfl (Y.indexAddr (m := k57) (sz := 5) rfl rfl hk60 hl61 (by kernel_rfl)) ?_
        refine RG.act rfl ?_
        obtain ⟨y65, e66, hm⟩ := bnd hm
        refine RL.call rfl (am2 rfl rfl) (by kernel_rfl) ((c_m_spec_l13Class x40 x56 _ e66 _ _ _ (ptArg agentRd_ok hbb47 hScs42 hc46 T) (ptArg agentRd_ok hbb47 hScs58 hc62 T)).mono ?_)
        rintro _ w67 ⟨rfl, hb68⟩
        refine ⟨_, rfl, ?_⟩
        have szw67 := hb68.size
        have B3 := blkT B3 hb68
        have G20 := OwF.below G20 hb68
        have Gxs26 := OwF.below Gxs26 hb68
        have T := Tt T hb68
        refine RL.nil ⟨⟨T, B3, G20⟩, ?_⟩
        obtain ⟨s69, ks69, hm⟩ := bnd hm
        replace ks69 := ck_some ks69
        refine RG.y rfl rfl (Y.binI (v := .int .i64 s69) rfl rfl (by rw [binI_sub ks69.2, ks69.1])) ?_
        obtain ⟨A70, c71, rfl⟩ := OwF.form Gxs26
        have qbA70 := OwF.bound Gxs26
        obtain ⟨x72, hx74, hm⟩ := bnd hm
        obtain ⟨k73, hk75, hl76, hx74⟩ := getI_some hx74
        obtain ⟨b77, rfl⟩ := OwF.addr0 Gxs26 (by omega)
        refine RG.y rfl rfl (Y.indexAddr (m := k73) (sz := 1) rfl rfl hk75 hl76 (by kernel_rfl)) ?_
        refine RG.act rfl ?_
        refine RL.y rfl (Y.load (v := .int .i64 x72) rfl (by kernel_rfl) (eqC (OwF.cell fI Gxs26 hx74 (j := 0) rfl))) ?_
        refine RL.nil ⟨⟨T, B3, G20⟩, ?_⟩
        obtain ⟨s78, ks78, hm⟩ := bnd hm
        replace ks78 := ck_some ks78
        refine RG.y rfl rfl (Y.binI (v := .int .i64 s78) rfl rfl (by rw [binI_add ks78.2, ks78.1])) ?_
        obtain ⟨x79, hx81, hm⟩ := bnd hm
        obtain ⟨k80, hk82, hl83, hx81⟩ := getI_some hx81
        refine RG.y rfl rfl (Y.indexAddr (m := k80) (sz := 1) rfl rfl hk82 hl83 (by kernel_rfl)) ?_
        refine RG.act rfl ?_
        refine RL.storeF (k := k80) (a := s78) fI rfl rfl rfl Gxs26 hl83 rfl (by kernel_rfl) (fun w84 G85 ho86 => ?_)
        have szw84 := ho86.size
        have B3 := Blk.only_ B3 ho86 (fun e => Noxs26_ob5 (by simp at e; rw [e]; rfl))
        have G20 := OwF.only G20 ho86 (fun e => (Dj.symm Doxs26_o21) _ e rfl)
        have T := T.trans (ho86.below (by intro b hb; simp at hb; subst hb; exact OwF.lo_ Gxs26 _ rfl))
        have G85 : OwF 2 encI 1 w84 w.heap.size (.slice (some ⟨b77, 0, none⟩) xs26.length c71) (setI xs26 s69 s78) := by rw [hk82, setI_nat]; exact G85
        refine RL.nil ⟨⟨T, B3, G20⟩, ?_⟩
        refine RG.nil ?_
        refine blk_n (then_n ?_)
        refine wp_rs rfl ?_
        refine RQ.y rfl (Y.move (v := .int .i64 i27) s6_1) ?_
        refine RQ.y rfl (Y.binI rfl rfl (binI_add (m := i27) (by omega))) ?_
        refine RQ.y rfl (Y.assign (v := .int .i64 (i27 + 1)) rfl) ?_
        refine RQ.nil ?_
        exact (then_n ⟨g, _, Nat.lt_succ_self _, rfl, ⟨(setI xs26 s69 s78), (i27 + 1), (.slice (some ⟨b77, 0, none⟩) xs26.length c71), s1_1, s5_1, s4_1, G85, rfl, (by omega), Doxs26_o21, Noxs26_ob5, B3, G20, T, (by rw [← hrec1]; exact hm)⟩⟩)

def m_impl_PairsByClass_A1 (xs27 : List Int) : Option ((List Int) × Int) :=
  some (xs27, 0)
def m_impl_PairsByClass_B1 (d0 : DNet) (y18 : List DPair) (rec1 : List Int → Int → Option ((List Int) × Int)) (K1 : List Int → Option ((List Int) × Int)) (xs29 : List Int) (i30 : Int) : Option ((List Int) × Int) :=
  (bif (decide (i30 < (y18.length : Int))) then ((getI y18 i30).bind fun x33 => ((m_impl_Net_classOf d0 x33).bind fun y46 => ((ck (y46.1 - 1)).bind fun s50 => ((getI xs29 s50).bind fun x53 => ((ck (x53 + 1)).bind fun s59 => ((getI xs29 s50).bind fun x60 => (rec1 (setI xs29 s50 s59) (i30 + 1)))))))) else (K1 xs29))
def m_impl_PairsByClass_L1 (d0 : DNet) (y18 : List DPair) (K1 : List Int → Option ((List Int) × Int)) : Nat → List Int → Int → Option ((List Int) × Int)
  | 0, _, _ => none
  | g + 1, xs29, i30 => m_impl_PairsByClass_B1 d0 y18 (m_impl_PairsByClass_L1 d0 y18 K1 g) K1 xs29 i30
def m_impl_PairsByClass (d0 : DNet) : Option ((List Int) × Int) :=
  ((m_impl_ValidNet d0).bind fun y6 => (bif y6 then ((mustP (8 ≤ 4294967296)).bind fun _ => ((m_impl_Net_pairs d0).bind fun y18 => (m_impl_PairsByClass_L1 d0 y18 m_impl_PairsByClass_A1 (y18.length + 1) (List.replicate 8 0) 0))) else some ([], 1)))
set_option maxHeartbeats 2000000 in
theorem c_m_impl_PairsByClass (d0 : DNet) (r : (List Int) × Int) (hm : m_impl_PairsByClass d0 = some r) (v0 : Value) (w : World) (hv0 : St netRd w v0 d0) :
    Calls Try.prog 21 #[v0] w fun e w' => (∃ v, e = .returned (.tuple #[v, .int .i64 r.2]) ∧ OwF 2 encI 1 w' w.heap.size v r.1) ∧ Below w.heap.size w w' := by
  obtain ⟨csa0, rfl, ⟨A1, n1, c1, rfl, ⟨h1, r1⟩⟩⟩ := hv0
  have e1 := h1.len; subst e1
  have q1 := len_le r1
  have T := Below.refl w.heap.size w
  unfold m_impl_PairsByClass at hm
  refine enter 33 Try.func21 rfl rfl rfl ?_
  intro f hf
  have s0 : f 0 = .agg #[.slice A1 d0.agents.length c1] := hf 0 _ rfl
  refine wp_seq ?_
  refine wp_rl rfl ?_
  refine RL.box rfl s0 (fun w2 B3 hb4 szw2 => ?_)
  replace B3 : Blk w2 w.heap.size 30 #[.slice A1 d0.agents.length c1] := B3
  have GB3 : w.heap.size ≤ w.heap.size := T.size
  have T := Tt T hb4
  refine RL.y rfl (Y.assign (v := .slice none 0 0) rfl) ?_
  refine RL.y rfl (Y.assign (v := .int .i64 0) rfl) ?_
  refine RL.nil ?_
  refine then_n ?_
  refine wp_seq ?_
  refine wp_seq ?_
  refine wp_rb rfl ?_
  refine RQ.y rfl (Y.loadN (cs := [.slice A1 d0.agents.length c1]) rfl (by kernel_rfl) (cells1 (beC (blkCell B3 (i := 0) rfl)))) ?_
  obtain ⟨y6, e7, hm⟩ := bnd hm
  refine RQ.call rfl (am1 rfl) (by kernel_rfl) (v := .bool y6) (bel (K := fun _ => True) fun w' hb' => (c_m_impl_ValidNet d0 _ e7 _ w' (stArg (R := netRd) ⟨_, _, _, rfl, ⟨SlAt.now agentRd_ok h1 (Nat.le_refl _) (Tt T hb'), r1⟩⟩))) ?_
  refine RQ.y rfl (Y.not (b' := (!y6)) rfl rfl) ?_
  refine RQ.nil ?_
  intro w8 hb9
  have szw8 := hb9.size
  have B3 := blkT B3 hb9
  have T := Tt T hb9
  refine then_n ?_
  rcases bcases y6 with c10 | c10
  · replace hm := cF c10 hm
    refine cond_t rfl (vbn rfl c10 rfl) ?_
    refine wp_seq ?_
    refine wp_rs rfl ?_
    refine RQ.y rfl (Y.assign (v := .slice none 0 0) rfl) ?_
    refine RQ.y rfl (Y.assign (v := .int .i64 1) rfl) ?_
    refine RQ.nil ?_
    refine then_n ?_
    refine wp_ret ?_
    obtain rfl := Option.some.inj hm
    exact (then_r (ret2 rfl rfl rfl rfl ⟨⟨_, rfl, OwF.nil⟩, T⟩))
  · replace hm := cT c10 hm
    refine cond_f rfl (vbn rfl c10 rfl) ?_
    refine wp_skip ?_
    refine then_n ?_
    refine wp_seq ?_
    refine wp_rl rfl ?_
    obtain ⟨_, m11, hm⟩ := bnd hm
    have hk12 := mustP_some m11
    refine RL.make (enc := encI) (z0 := 0) (n := 8) app_int64 (by decide) rfl rfl rfl rfl hk12 (fun w13 G14 hb15 szw13 => ?_)
    replace G14 := OwF.mono G14 T.size
    have No16_ob5 := litNe (n := 8) (c := 8) B3.lt
    have B3 := blkT B3 hb15
    have T := Tt T hb15
    refine RL.y rfl (Y.assign (v := .slice (some ⟨w8.heap.size, 0, none⟩) 8 8) rfl) ?_
    refine RL.nil ?_
    refine then_n ?_
    refine wp_seq ?_
    refine wp_seq ?_
    refine wp_rl rfl ?_
    obtain ⟨y18, e19, hm⟩ := bnd hm
    refine RL.call rfl (am1 rfl) (by kernel_rfl) ((c_m_impl_Net_pairs d0 _ e19 _ _ (ptBox (R := netRd) B3 ⟨_, _, _, rfl, ⟨SlAt.now agentRd_ok h1 (Nat.le_refl _) T, r1⟩⟩)).mono ?_)
    rintro _ w23 ⟨⟨v20, rfl, G21⟩, hb24⟩
    refine ⟨_, rfl, ?_⟩
    have szw23 := hb24.size
    have T0w23 := T.size
    have Do22_o16 := Dj.new (OwF.lo_ G21) (OwF.hi G14)
    have No22_ob5 := OwF.ne G21 B3.lt
    have B3 := blkT B3 hb24
    have G14 := OwF.below G14 hb24
    have T := Tt T hb24
    replace G21 := OwF.mono G21 T0w23
    obtain ⟨A25, c26, rfl⟩ := OwF.form G21
    have qbA25 := OwF.bound G21
    refine RL.y rfl (Y.len (by kernel_rfl) rfl) ?_
    refine RL.y rfl (Y.move (v := .int .i64 0) rfl) ?_
    refine RL.nil ?_
    refine then_n ?_
    refine wp_block ?_
    obtain ⟨K1, hK1, hm⟩ : ∃ K, K = m_impl_PairsByClass_A1 ∧ m_impl_PairsByClass_L1 d0 y18 K (y18.length + 1) (List.replicate 8 0) 0 = some r := ⟨_, rfl, hm⟩
    refine wp_loopX (fun g f w' => ∃ (xs29 : List Int) (i30 : Int) (uxs29 : Value), f 1 = .pointer (some ⟨w.heap.size, 0, none⟩) ∧ f 13 = .slice A25 y18.length c26 ∧ f 14 = .int .i64 (y18.length : Int) ∧ f 4 = uxs29 ∧ OwF 2 encI 1 w' w.heap.size uxs29 xs29 ∧ f 15 = .int .i64 i30 ∧ 0 ≤ i30 ∧ Dj uxs29 (.slice A25 y18.length c26) ∧ Value.ownBlock uxs29 ≠ some w.heap.size ∧ Blk w' w.heap.size 30 #[.slice A1 d0.agents.length c1] ∧ OwF 81 encPair 2 w' w.heap.size (.slice A25 y18.length c26) y18 ∧ Below w.heap.size w w' ∧ m_impl_PairsByClass_L1 d0 y18 K1 g xs29 i30 = some r) 0 (fun f w' => ∃ (xs27 : List Int) (uxs27 : Value), f 4 = uxs27 ∧ OwF 2 encI 1 w' w.heap.size uxs27 xs27 ∧ Value.ownBlock uxs27 ≠ some w.heap.size ∧ Blk w' w.heap.size 30 #[.slice A1 d0.agents.length c1] ∧ Below w.heap.size w w' ∧ m_impl_PairsByClass_A1 xs27 = some r) (y18.length + 1) ⟨(List.replicate 8 0), 0, (.slice (some ⟨w8.heap.size, 0, none⟩) 8 8), rfl, rfl, rfl, rfl, G14, rfl, (by omega), (Dj.symm Do22_o16), No16_ob5, B3, G21, T, hm⟩ ?_ ?_
    · rintro f w28 ⟨xs27, uxs27, s4_1x, Gxs27, Noxs27_ob5, B3, T, hm⟩
      unfold m_impl_PairsByClass_A1 at hm
      refine blk_hit (then_n ?_)
      refine wp_seq ?_
      refine wp_rs rfl ?_
      refine RQ.y rfl (Y.move (v := uxs27) s4_1x) ?_
      refine RQ.y rfl (Y.assign (v := uxs27) rfl) ?_
      refine RQ.y rfl (Y.assign (v := .int .i64 0) rfl) ?_
      refine RQ.nil ?_
      refine then_n ?_
      refine wp_ret ?_
      obtain rfl := Option.some.inj hm
      exact (ret2 rfl rfl rfl rfl ⟨⟨_, rfl, Gxs27⟩, T⟩)
    · rintro g f w31 ⟨xs29, i30, uxs29, s1_1, s13_1, s14_1, s4_1, Gxs29, s15_1, nn15_1, Doxs29_o22, Noxs29_ob5, B3, G21, T, hm⟩
      rcases g with _ | g
      · simp only [m_impl_PairsByClass_L1] at hm; cases hm
      obtain ⟨rec1, hrec1, hm⟩ : ∃ z, z = m_impl_PairsByClass_L1 d0 y18 K1 g ∧ m_impl_PairsByClass_B1 d0 y18 z K1 xs29 i30 = some r := ⟨_, rfl, hm⟩
      unfold m_impl_PairsByClass_B1 at hm
      refine wp_seq ?_
      refine wp_rs rfl ?_
      refine RQ.y rfl (Y.binI (v := .bool (decide (i30 < (y18.length : Int)))) s15_1 s14_1 rfl) ?_
      refine RQ.nil ?_
      refine then_n ?_
      refine wp_seq ?_
      rcases bcases (decide (i30 < (y18.length : Int))) with c32 | c32
      · replace hm := cF c32 hm
        have pc32 := of_decide_eq_false c32
        refine cond_f rfl (vb rfl c32) ?_
        refine wp_exit ?_
        exact (then_x (then_x (hit_x ⟨_, rfl, ⟨xs29, (uxs29), s4_1, Gxs29, Noxs29_ob5, B3, T, (by rw [hK1] at hm; exact hm)⟩⟩)))
      · replace hm := cT c32 hm
        have pc32 := of_decide_eq_true c32
        refine cond_t rfl (vb rfl c32) ?_
        refine wp_skip ?_
        refine then_n ?_
        refine wp_seq ?_
        refine wp_block ?_
        refine wp_seq ?_
        refine wp_rl rfl ?_
        obtain ⟨x33, hx35, hm⟩ := bnd hm
        obtain ⟨k34, hk36, hl37, hx35⟩ := getI_some hx35
        obtain ⟨b38, rfl⟩ := OwF.addr0 G21 (by omega)
        refine RL.y rfl (Y.indexAddr (m := k34) (sz := 2) s13_1 s15_1 hk36 hl37 (by kernel_rfl)) ?_
        refine RL.y rfl (Y.loadN (cs := [.int .i64 x33.a, .int .i64 x33.b]) rfl (by kernel_rfl) (cells2 (eqC (OwF.cell fPair G21 hx35 (j := 0) rfl)) (eqC (OwF.cell fPair G21 hx35 (j := 1) rfl)))) ?_
        refine RL.alloc (z := .agg #[.int .i64 0, .int .i64 0]) rfl (by kernel_rfl) (fun w39 B40 hb41 szw39 => ?_)
        replace B40 : Blk w39 w31.heap.size 81 #[.int .i64 0, .int .i64 0] := B40
        have GB40 : w.heap.size ≤ w31.heap.size := T.size
        have Eob42_ob5 := Nat.ne_of_lt B3.lt
        have No22_ob42 := OwF.far G21 (Nat.le_refl _)
        have Noxs29_ob42 := OwF.far Gxs29 (Nat.le_refl _)
        have B3 := blkT B3 hb41
        have G21 := OwF.below G21 hb41
        have Gxs29 := OwF.below Gxs29 hb41
        have T := Tt T hb41
        refine RL.store (v := .agg #[.int .i64 x33.a, .int .i64 x33.b]) (cs' := #[.int .i64 x33.a, .int .i64 x33.b]) rfl rfl rfl B40 (by kernel_rfl) (by rfl) (by rfl) (by rfl) (fun w43 B44 ho45 => ?_)
        have szw43 := ho45.size
        have B3 := B3.only_ ho45 (by intro hin; simp at hin; exact Eob42_ob5 hin)
        have G21 := OwF.only G21 ho45 No22_ob42
        have Gxs29 := OwF.only Gxs29 ho45 Noxs29_ob42
        have T := T.trans (ho45.below (by first | (simp; done) | (simp; omega)))
        refine RL.nil ?_
        refine then_n ?_
        refine wp_seq ?_
        refine wp_rb rfl ?_
        refine RQ.y rfl (Y.loadN (cs := [.int .i64 x33.a, .int .i64 x33.b]) rfl (by kernel_rfl) (cells2 (beC (blkCell B44 (i := 0) rfl)) (beC (blkCell B44 (i := 1) rfl)))) ?_
        obtain ⟨y46, e47, hm⟩ := bnd hm
        refine RQ.call rfl (am2 s1_1 rfl) (by kernel_rfl) (v := .tuple #[.int .i64 y46.1, .bool y46.2]) (bel (K := fun _ => True) fun w' hb' => (c_m_impl_Net_classOf d0 x33 _ e47 _ w' (ptBox (R := netRd) (blkT B3 hb') ⟨_, _, _, rfl, ⟨SlAt.now agentRd_ok h1 (Nat.le_refl _) (Tt T hb'), r1⟩⟩))) ?_
        refine RQ.y rfl (Y.move (v := .tuple #[.int .i64 y46.1, .bool y46.2]) rfl) ?_
        refine RQ.y rfl (Y.extract (i := 0) rfl rfl) ?_
        refine RQ.y rfl (Y.extract (i := 1) rfl rfl) ?_
        refine RQ.y rfl (Y.assign (v := .int .i64 y46.1) rfl) ?_
        refine RQ.y rfl (Y.assign (v := .bool y46.2) rfl) ?_
        refine RQ.nil ?_
        intro w48 hb49
        have szw48 := hb49.size
        have B3 := blkT B3 hb49
        have G21 := OwF.below G21 hb49
        have Gxs29 := OwF.below Gxs29 hb49
        have T := Tt T hb49
        refine then_n ?_
        refine wp_rl rfl ?_
        refine RL.y rfl (Y.move (v := uxs29) s4_1) ?_
        refine RL.y rfl (Y.move (v := .int .i64 y46.1) rfl) ?_
        obtain ⟨s50, ks50, hm⟩ := bnd hm
        replace ks50 := ck_some ks50
        refine RL.y rfl (Y.binI (v := .int .i64 s50) rfl rfl (by rw [binI_sub ks50.2, ks50.1])) ?_
        obtain ⟨A51, c52, rfl⟩ := OwF.form Gxs29
        have qbA51 := OwF.bound Gxs29
        obtain ⟨x53, hx55, hm⟩ := bnd hm
        obtain ⟨k54, hk56, hl57, hx55⟩ := getI_some hx55
        obtain ⟨b58, rfl⟩ := OwF.addr0 Gxs29 (by omega)
        refine RL.y rfl (Y.indexAddr (m := k54) (sz := 1) rfl rfl hk56 hl57 (by kernel_rfl)) ?_
        refine RL.y rfl (Y.load (v := .int .i64 x53) rfl (by kernel_rfl) (eqC (OwF.cell fI Gxs29 hx55 (j := 0) rfl))) ?_
        obtain ⟨s59, ks59, hm⟩ := bnd hm
        replace ks59 := ck_some ks59
        refine RL.y rfl (Y.binI (v := .int .i64 s59) rfl rfl (by rw [binI_add ks59.2, ks59.1])) ?_
        obtain ⟨x60, hx62, hm⟩ := bnd hm
        obtain ⟨k61, hk63, hl64, hx62⟩ := getI_some hx62
        refine RL.y rfl (Y.indexAddr (m := k61) (sz := 1) rfl rfl hk63 hl64 (by kernel_rfl)) ?_
        refine RL.storeF (k := k61) (a := s59) fI rfl rfl rfl Gxs29 hl64 rfl (by kernel_rfl) (fun w65 G66 ho67 => ?_)
        have szw65 := ho67.size
        have B3 := Blk.only_ B3 ho67 (fun e => Noxs29_ob5 (by simp at e; rw [e]; rfl))
        have G21 := OwF.only G21 ho67 (fun e => (Dj.symm Doxs29_o22) _ e rfl)
        have T := T.trans (ho67.below (by intro b hb; simp at hb; subst hb; exact OwF.lo_ Gxs29 _ rfl))
        have G66 : OwF 2 encI 1 w65 w.heap.size (.slice (some ⟨b58, 0, none⟩) xs29.length c52) (setI xs29 s50 s59) := by rw [hk63, setI_nat]; exact G66
        refine RL.nil ?_
        refine blk_n (then_n ?_)
        refine wp_rs rfl ?_
        refine RQ.y rfl (Y.binI s15_1 rfl (binI_add (m := i30) (by omega))) ?_
        refine RQ.y rfl (Y.move (v := .int .i64 (i30 + 1)) rfl) ?_
        refine RQ.nil ?_
        exact (then_n ⟨g, _, Nat.lt_succ_self _, rfl, ⟨(setI xs29 s50 s59), (i30 + 1), (.slice (some ⟨b58, 0, none⟩) xs29.length c52), s1_1, s13_1, s14_1, s4_1, G66, rfl, (by omega), Doxs29_o22, Noxs29_ob5, B3, G21, T, (by rw [← hrec1]; exact hm)⟩⟩)

def m_impl_Net_badWire_A1 (z15 : DWire) : Option (DWire × Bool) :=
  some ((⟨(⟨0, 0⟩ : DPort), (⟨0, 0⟩ : DPort)⟩ : DWire), false)
def m_impl_Net_badWire_B1 (d0 : DNet) (d1 : List Bool) (y6 : List DPort) (rec1 : Int → DWire → Option (DWire × Bool)) (K1 : DWire → Option (DWire × Bool)) (i20 : Int) (z21 : DWire) : Option (DWire × Bool) :=
  (bif (decide (i20 < (y6.length : Int))) then ((getI y6 i20).bind fun x24 => ((m_impl_Net_peer d0 x24).bind fun y37 => ((m_impl_Port_before x24 y37).bind fun y48 => (bif y48 then ((m_impl_Net_role d0 x24 d1).bind fun y53 => ((m_impl_Net_role d0 y37 d1).bind fun y55 => (bif (y53 == y55) then some ((⟨x24, y37⟩ : DWire), true) else (rec1 (i20 + 1) z21)))) else (rec1 (i20 + 1) z21))))) else (K1 z21))
def m_impl_Net_badWire_L1 (d0 : DNet) (d1 : List Bool) (y6 : List DPort) (K1 : DWire → Option (DWire × Bool)) : Nat → Int → DWire → Option (DWire × Bool)
  | 0, _, _ => none
  | g + 1, i20, z21 => m_impl_Net_badWire_B1 d0 d1 y6 (m_impl_Net_badWire_L1 d0 d1 y6 K1 g) K1 i20 z21
def m_impl_Net_badWire (d0 : DNet) (d1 : List Bool) : Option (DWire × Bool) :=
  ((m_impl_Net_ports d0).bind fun y6 => (m_impl_Net_badWire_L1 d0 d1 y6 m_impl_Net_badWire_A1 (y6.length + 1) 0 (⟨(⟨0, 0⟩ : DPort), (⟨0, 0⟩ : DPort)⟩ : DWire)))
set_option maxHeartbeats 2000000 in
theorem c_m_impl_Net_badWire (d0 : DNet) (d1 : List Bool) (r : DWire × Bool) (hm : m_impl_Net_badWire d0 d1 = some r) (v0 : Value) (v1 : Value) (w : World) (hv0 : Pt netRd w v0 d0) (hv1 : Sl boolRd 1 w v1 d1) :
    Calls Try.prog 92 #[v0, v1] w fun e w' => e = .returned (.tuple #[.agg #[.int .i64 r.1.a.agent, .int .i64 r.1.a.slot, .int .i64 r.1.b.agent, .int .i64 r.1.b.slot], .bool r.2]) ∧ Below w.heap.size w w' := by
  obtain ⟨ba0, oa0, csa0, rfl, hba0, hRa0, hca0⟩ := hv0
  have hSa0 := hRa0
  obtain ⟨A1, n1, c1, rfl, ⟨h1, r1⟩⟩ := hRa0
  have e1 := h1.len; subst e1
  have q1 := len_le r1
  obtain ⟨Aa1, na1, ca1, rfl, ha1, ra1⟩ := hv1
  have ea1 := ha1.len; subst ea1
  have qa1 := len_le ra1
  have T := Below.refl w.heap.size w
  unfold m_impl_Net_badWire at hm
  refine enter 38 Try.func92 rfl rfl rfl ?_
  intro f hf
  have s0 : f 0 = .pointer (some ⟨ba0, oa0, none⟩) := hf 0 _ rfl
  have s1 : f 1 = .slice Aa1 d1.length ca1 := hf 1 _ rfl
  refine wp_seq ?_
  refine wp_rl rfl ?_
  refine RL.alloc (z := .agg #[.int .i64 0, .int .i64 0, .int .i64 0, .int .i64 0]) rfl (by kernel_rfl) (fun w2 B3 hb4 szw2 => ?_)
  replace B3 : Blk w2 w.heap.size 55 #[.int .i64 0, .int .i64 0, .int .i64 0, .int .i64 0] := B3
  have GB3 : w.heap.size ≤ w.heap.size := T.size
  have T := Tt T hb4
  refine RL.y rfl (Y.assign (v := .bool false) rfl) ?_
  refine RL.nil ?_
  refine then_n ?_
  refine wp_seq ?_
  refine wp_seq ?_
  refine wp_rl rfl ?_
  refine RL.y rfl (Y.move (v := .pointer (some ⟨ba0, oa0, none⟩)) s0) ?_
  obtain ⟨y6, e7, hm⟩ := bnd hm
  refine RL.call rfl (am1 rfl) (by kernel_rfl) ((c_m_impl_Net_ports d0 _ e7 _ _ (ptArg netRd_ok hba0 hSa0 hca0 T)).mono ?_)
  rintro _ w11 ⟨⟨v8, rfl, G9⟩, hb12⟩
  refine ⟨_, rfl, ?_⟩
  have szw11 := hb12.size
  have T0w11 := T.size
  have No10_ob5 := OwF.ne G9 B3.lt
  have B3 := blkT B3 hb12
  have T := Tt T hb12
  replace G9 := OwF.mono G9 T0w11
  obtain ⟨A13, c14, rfl⟩ := OwF.form G9
  have qbA13 := OwF.bound G9
  refine RL.y rfl (Y.len (by kernel_rfl) rfl) ?_
  refine RL.y rfl (Y.move (v := .int .i64 0) rfl) ?_
  refine RL.nil ?_
  refine then_n ?_
  refine wp_block ?_
  obtain ⟨K1, hK1, hm⟩ : ∃ K, K = m_impl_Net_badWire_A1 ∧ m_impl_Net_badWire_L1 d0 d1 y6 K (y6.length + 1) 0 (⟨(⟨0, 0⟩ : DPort), (⟨0, 0⟩ : DPort)⟩ : DWire) = some r := ⟨_, rfl, hm⟩
  refine wp_loopX (fun g f w' => ∃ (i20 : Int) (z21 : DWire), f 0 = .pointer (some ⟨ba0, oa0, none⟩) ∧ f 1 = .slice Aa1 d1.length ca1 ∧ f 4 = .pointer (some ⟨w.heap.size, 0, none⟩) ∧ f 10 = .slice A13 y6.length c14 ∧ f 11 = .int .i64 (y6.length : Int) ∧ f 12 = .int .i64 i20 ∧ 0 ≤ i20 ∧ Blk w' w.heap.size 55 #[.int .i64 z21.a.agent, .int .i64 z21.a.slot, .int .i64 z21.b.agent, .int .i64 z21.b.slot] ∧ OwF 53 encPort 2 w' w.heap.size (.slice A13 y6.length c14) y6 ∧ Below w.heap.size w w' ∧ m_impl_Net_badWire_L1 d0 d1 y6 K1 g i20 z21 = some r) 0 (fun f w' => ∃ (z15 : DWire), f 4 = .pointer (some ⟨w.heap.size, 0, none⟩) ∧ Blk w' w.heap.size 55 #[.int .i64 z15.a.agent, .int .i64 z15.a.slot, .int .i64 z15.b.agent, .int .i64 z15.b.slot] ∧ Below w.heap.size w w' ∧ m_impl_Net_badWire_A1 z15 = some r) (y6.length + 1) ⟨0, (⟨(⟨0, 0⟩ : DPort), (⟨0, 0⟩ : DPort)⟩ : DWire), s0, s1, rfl, rfl, rfl, rfl, (by omega), B3, G9, T, hm⟩ ?_ ?_
  · rintro f w16 ⟨z15, s4_1x, Bz15, T, hm⟩
    unfold m_impl_Net_badWire_A1 at hm
    refine blk_hit (then_n ?_)
    refine wp_seq ?_
    refine wp_rl rfl ?_
    refine RL.y rfl (Y.build0 (cells := #[.int .i64 0, .int .i64 0, .int .i64 0, .int .i64 0])  (by kernel_rfl) (by kernel_rfl)) ?_
    refine RL.store (v := .agg #[.int .i64 0, .int .i64 0, .int .i64 0, .int .i64 0]) (cs' := #[.int .i64 0, .int .i64 0, .int .i64 0, .int .i64 0]) rfl s4_1x rfl Bz15 (by kernel_rfl) (by rfl) (by rfl) (by rfl) (fun w17 B18 ho19 => ?_)
    have szw17 := ho19.size
    have T := T.trans (ho19.below (by first | (simp; done) | (simp; omega)))
    refine RL.y rfl (Y.assign (v := .bool false) rfl) ?_
    refine RL.nil ?_
    refine then_n ?_
    refine wp_ret ?_
    obtain rfl := Option.some.inj hm
    exact (retct (cs := [.int .i64 0, .int .i64 0, .int .i64 0, .int .i64 0]) rfl rfl s4_1x rfl (by kernel_rfl) (blkCells B18) ⟨rfl, T⟩)
  · rintro g f w22 ⟨i20, z21, s0_1, s1_1, s4_1, s10_1, s11_1, s12_1, nn12_1, Bz21, G9, T, hm⟩
    rcases g with _ | g
    · simp only [m_impl_Net_badWire_L1] at hm; cases hm
    obtain ⟨rec1, hrec1, hm⟩ : ∃ z, z = m_impl_Net_badWire_L1 d0 d1 y6 K1 g ∧ m_impl_Net_badWire_B1 d0 d1 y6 z K1 i20 z21 = some r := ⟨_, rfl, hm⟩
    unfold m_impl_Net_badWire_B1 at hm
    refine wp_seq ?_
    refine wp_rs rfl ?_
    refine RQ.y rfl (Y.binI (v := .bool (decide (i20 < (y6.length : Int)))) s12_1 s11_1 rfl) ?_
    refine RQ.nil ?_
    refine then_n ?_
    refine wp_seq ?_
    rcases bcases (decide (i20 < (y6.length : Int))) with c23 | c23
    · replace hm := cF c23 hm
      have pc23 := of_decide_eq_false c23
      refine cond_f rfl (vb rfl c23) ?_
      refine wp_exit ?_
      exact (then_x (then_x (hit_x ⟨_, rfl, ⟨z21, s4_1, Bz21, T, (by rw [hK1] at hm; exact hm)⟩⟩)))
    · replace hm := cT c23 hm
      have pc23 := of_decide_eq_true c23
      refine cond_t rfl (vb rfl c23) ?_
      refine wp_skip ?_
      refine then_n ?_
      refine wp_seq ?_
      refine wp_block ?_
      refine wp_seq ?_
      refine wp_rl rfl ?_
      obtain ⟨x24, hx26, hm⟩ := bnd hm
      obtain ⟨k25, hk27, hl28, hx26⟩ := getI_some hx26
      obtain ⟨b29, rfl⟩ := OwF.addr0 G9 (by omega)
      refine RL.y rfl (Y.indexAddr (m := k25) (sz := 2) s10_1 s12_1 hk27 hl28 (by kernel_rfl)) ?_
      refine RL.y rfl (Y.loadN (cs := [.int .i64 x24.agent, .int .i64 x24.slot]) rfl (by kernel_rfl) (cells2 (eqC (OwF.cell fPort G9 hx26 (j := 0) rfl)) (eqC (OwF.cell fPort G9 hx26 (j := 1) rfl)))) ?_
      refine RL.alloc (z := .agg #[.int .i64 0, .int .i64 0]) rfl (by kernel_rfl) (fun w30 B31 hb32 szw30 => ?_)
      replace B31 : Blk w30 w22.heap.size 53 #[.int .i64 0, .int .i64 0] := B31
      have GB31 : w.heap.size ≤ w22.heap.size := T.size
      have Eob33_ob5 := Nat.ne_of_lt Bz21.lt
      have No10_ob33 := OwF.far G9 (Nat.le_refl _)
      have Bz21 := blkT Bz21 hb32
      have G9 := OwF.below G9 hb32
      have T := Tt T hb32
      refine RL.store (v := .agg #[.int .i64 x24.agent, .int .i64 x24.slot]) (cs' := #[.int .i64 x24.agent, .int .i64 x24.slot]) rfl rfl rfl B31 (by kernel_rfl) (by rfl) (by rfl) (by rfl) (fun w34 B35 ho36 => ?_)
      have szw34 := ho36.size
      have Bz21 := Bz21.only_ ho36 (by intro hin; simp at hin; exact Eob33_ob5 hin)
      have G9 := OwF.only G9 ho36 No10_ob33
      have T := T.trans (ho36.below (by first | (simp; done) | (simp; omega)))
      refine RL.nil ?_
      refine then_n ?_
      refine wp_seq ?_
      refine wp_rl rfl ?_
      refine RL.y rfl (Y.move (v := .pointer (some ⟨ba0, oa0, none⟩)) s0_1) ?_
      refine RL.y rfl (Y.loadN (cs := [.int .i64 x24.agent, .int .i64 x24.slot]) rfl (by kernel_rfl) (cells2 (eqC (blkCell B35 (i := 0) rfl)) (eqC (blkCell B35 (i := 1) rfl)))) ?_
      obtain ⟨y37, e38, hm⟩ := bnd hm
      refine RL.call rfl (am2 rfl rfl) (by kernel_rfl) ((c_m_impl_Net_peer d0 x24 _ e38 _ _ (ptArg netRd_ok hba0 hSa0 hca0 T)).mono ?_)
      rintro _ w39 ⟨rfl, hb40⟩
      refine ⟨_, rfl, ?_⟩
      have szw39 := hb40.size
      have Bz21 := blkT Bz21 hb40
      have B35 := blkT B35 hb40
      have G9 := OwF.below G9 hb40
      have T := Tt T hb40
      refine RL.alloc (z := .agg #[.int .i64 0, .int .i64 0]) rfl (by kernel_rfl) (fun w41 B42 hb43 szw41 => ?_)
      replace B42 : Blk w41 w39.heap.size 53 #[.int .i64 0, .int .i64 0] := B42
      have GB42 : w.heap.size ≤ w39.heap.size := T.size
      have Eob44_ob5 := Nat.ne_of_lt Bz21.lt
      have Eob44_ob33 := Nat.ne_of_lt B35.lt
      have No10_ob44 := OwF.far G9 (Nat.le_refl _)
      have Bz21 := blkT Bz21 hb43
      have B35 := blkT B35 hb43
      have G9 := OwF.below G9 hb43
      have T := Tt T hb43
      refine RL.store (v := .agg #[.int .i64 y37.agent, .int .i64 y37.slot]) (cs' := #[.int .i64 y37.agent, .int .i64 y37.slot]) rfl rfl rfl B42 (by kernel_rfl) (by rfl) (by rfl) (by rfl) (fun w45 B46 ho47 => ?_)
      have szw45 := ho47.size
      have Bz21 := Bz21.only_ ho47 (by intro hin; simp at hin; exact Eob44_ob5 hin)
      have B35 := B35.only_ ho47 (by intro hin; simp at hin; exact Eob44_ob33 hin)
      have G9 := OwF.only G9 ho47 No10_ob44
      have T := T.trans (ho47.below (by first | (simp; done) | (simp; omega)))
      refine RL.nil ?_
      refine then_n ?_
      refine wp_seq ?_
      refine wp_rbd (by kernel_rfl) (by kernel_rfl) ?_
      refine RQ.y rfl (Y.loadN (cs := [.int .i64 x24.agent, .int .i64 x24.slot]) rfl (by kernel_rfl) (cells2 (beC (blkCell B35 (i := 0) rfl)) (beC (blkCell B35 (i := 1) rfl)))) ?_
      refine RQ.y rfl (Y.loadN (cs := [.int .i64 y37.agent, .int .i64 y37.slot]) rfl (by kernel_rfl) (cells2 (beC (blkCell B46 (i := 0) rfl)) (beC (blkCell B46 (i := 1) rfl)))) ?_
      obtain ⟨y48, e49, hm⟩ := bnd hm
      refine RQ.call rfl (am2 rfl rfl) (by kernel_rfl) (v := .bool y48) (bel (K := fun _ => True) fun w' hb' => (c_m_impl_Port_before x24 y37 _ e49  w' )) ?_
      refine RQ.y rfl (Y.move (v := .bool y48) rfl) ?_
      rcases bcases y48 with c50 | c50
      · replace hm := cF c50 hm
        refine RQ.skip (wantN (dj := 22) rfl (vb rfl c50) rfl) ?_
        refine RQ.skip (wantN (dj := 22) rfl (vb rfl c50) rfl) ?_
        refine RQ.skip (wantN (dj := 22) rfl (vb rfl c50) rfl) ?_
        refine RQ.skip (wantN (dj := 22) rfl (vb rfl c50) rfl) ?_
        refine RQ.skip (wantN (dj := 22) rfl (vb rfl c50) rfl) ?_
        refine RQ.skip (wantN (dj := 22) rfl (vb rfl c50) rfl) ?_
        refine RQ.skip (wantN (dj := 22) rfl (vb rfl c50) rfl) ?_
        refine RQ.skip (wantN (dj := 22) rfl (vb rfl c50) rfl) ?_
        refine RQ.skip (wantN (dj := 22) rfl (vb rfl c50) rfl) ?_
        refine RQ.y rfl (Y.pick (b := false) (v := .bool false) (vb rfl c50) rfl) ?_
        refine RQ.nil ?_
        intro w51 hb52
        have szw51 := hb52.size
        have Bz21 := blkT Bz21 hb52
        have B35 := blkT B35 hb52
        have B46 := blkT B46 hb52
        have G9 := OwF.below G9 hb52
        have T := Tt T hb52
        refine then_n ?_
        refine cond_f rfl rfl ?_
        refine wp_skip ?_
        refine blk_n (then_n ?_)
        refine wp_rs rfl ?_
        refine RQ.y rfl (Y.binI s12_1 rfl (binI_add (m := i20) (by omega))) ?_
        refine RQ.y rfl (Y.move (v := .int .i64 (i20 + 1)) rfl) ?_
        refine RQ.nil ?_
        exact (then_n ⟨g, _, Nat.lt_succ_self _, rfl, ⟨(i20 + 1), z21, s0_1, s1_1, s4_1, s10_1, s11_1, rfl, (by omega), Bz21, G9, T, (by rw [← hrec1]; exact hm)⟩⟩)
      · replace hm := cT c50 hm
        refine RQ.y (wantT (dj := 22) rfl (vb rfl c50)) (Y.move (v := .pointer (some ⟨ba0, oa0, none⟩)) s0_1) ?_
        refine RQ.y (wantT (dj := 22) rfl (vb rfl c50)) (Y.loadN (cs := [.int .i64 x24.agent, .int .i64 x24.slot]) rfl (by kernel_rfl) (cells2 (beC (blkCell B35 (i := 0) rfl)) (beC (blkCell B35 (i := 1) rfl)))) ?_
        refine RQ.y (wantT (dj := 22) rfl (vb rfl c50)) (Y.move (v := .slice Aa1 d1.length ca1) s1_1) ?_
        obtain ⟨y53, e54, hm⟩ := bnd hm
        refine RQ.call (wantT (dj := 22) rfl (vb rfl c50)) (am3 rfl rfl rfl) (by kernel_rfl) (v := .int .i64 y53) (bel (K := fun _ => True) fun w' hb' => (c_m_impl_Net_role d0 x24 d1 _ e54 _ _ w' (ptArg netRd_ok hba0 hSa0 hca0 (Tt T hb')) (slArg boolRd_ok ha1 ra1 (Tt T hb')))) ?_
        refine RQ.y (wantT (dj := 22) rfl (vb rfl c50)) (Y.move (v := .pointer (some ⟨ba0, oa0, none⟩)) s0_1) ?_
        refine RQ.y (wantT (dj := 22) rfl (vb rfl c50)) (Y.loadN (cs := [.int .i64 y37.agent, .int .i64 y37.slot]) rfl (by kernel_rfl) (cells2 (beC (blkCell B46 (i := 0) rfl)) (beC (blkCell B46 (i := 1) rfl)))) ?_
        refine RQ.y (wantT (dj := 22) rfl (vb rfl c50)) (Y.move (v := .slice Aa1 d1.length ca1) s1_1) ?_
        obtain ⟨y55, e56, hm⟩ := bnd hm
        refine RQ.call (wantT (dj := 22) rfl (vb rfl c50)) (am3 rfl rfl rfl) (by kernel_rfl) (v := .int .i64 y55) (bel (K := fun _ => True) fun w' hb' => (c_m_impl_Net_role d0 y37 d1 _ e56 _ _ w' (ptArg netRd_ok hba0 hSa0 hca0 (Tt T hb')) (slArg boolRd_ok ha1 ra1 (Tt T hb')))) ?_
        refine RQ.y (wantT (dj := 22) rfl (vb rfl c50)) (Y.binI (v := .bool (y53 == y55)) rfl rfl rfl) ?_
        refine RQ.y rfl (Y.pick (b := true) (v := .bool (y53 == y55)) (vb rfl c50) rfl) ?_
        refine RQ.nil ?_
        intro w57 hb58
        have szw57 := hb58.size
        have Bz21 := blkT Bz21 hb58
        have B35 := blkT B35 hb58
        have B46 := blkT B46 hb58
        have G9 := OwF.below G9 hb58
        have T := Tt T hb58
        refine then_n ?_
        rcases bcases (y53 == y55) with c59 | c59
        · replace hm := cF c59 hm
          refine cond_f rfl (vb rfl c59) ?_
          refine wp_skip ?_
          refine blk_n (then_n ?_)
          refine wp_rs rfl ?_
          refine RQ.y rfl (Y.binI s12_1 rfl (binI_add (m := i20) (by omega))) ?_
          refine RQ.y rfl (Y.move (v := .int .i64 (i20 + 1)) rfl) ?_
          refine RQ.nil ?_
          exact (then_n ⟨g, _, Nat.lt_succ_self _, rfl, ⟨(i20 + 1), z21, s0_1, s1_1, s4_1, s10_1, s11_1, rfl, (by omega), Bz21, G9, T, (by rw [← hrec1]; exact hm)⟩⟩)
        · replace hm := cT c59 hm
          refine cond_t rfl (vb rfl c59) ?_
          refine wp_seq ?_
          refine wp_rl rfl ?_
          refine RL.y rfl (Y.loadN (cs := [.int .i64 x24.agent, .int .i64 x24.slot]) rfl (by kernel_rfl) (cells2 (eqC (blkCell B35 (i := 0) rfl)) (eqC (blkCell B35 (i := 1) rfl)))) ?_
          refine RL.y rfl (Y.loadN (cs := [.int .i64 y37.agent, .int .i64 y37.slot]) rfl (by kernel_rfl) (cells2 (eqC (blkCell B46 (i := 0) rfl)) (eqC (blkCell B46 (i := 1) rfl)))) ?_
          refine RL.y rfl (Y.build2 (cells := #[.int .i64 x24.agent, .int .i64 x24.slot, .int .i64 y37.agent, .int .i64 y37.slot]) rfl rfl (by kernel_rfl) (by kernel_rfl)) ?_
          refine RL.store (v := .agg #[.int .i64 x24.agent, .int .i64 x24.slot, .int .i64 y37.agent, .int .i64 y37.slot]) (cs' := #[.int .i64 x24.agent, .int .i64 x24.slot, .int .i64 y37.agent, .int .i64 y37.slot]) rfl s4_1 rfl Bz21 (by kernel_rfl) (by rfl) (by rfl) (by rfl) (fun w60 B61 ho62 => ?_)
          have szw60 := ho62.size
          have B35 := B35.only_ ho62 (by intro hin; simp at hin; exact Eob33_ob5.symm hin)
          have B46 := B46.only_ ho62 (by intro hin; simp at hin; exact Eob44_ob5.symm hin)
          have G9 := OwF.only G9 ho62 No10_ob5
          have T := T.trans (ho62.below (by first | (simp; done) | (simp; omega)))
          refine RL.y rfl (Y.assign (v := .bool true) rfl) ?_
          refine RL.nil ?_
          refine then_n ?_
          refine wp_ret ?_
          obtain rfl := Option.some.inj hm
          exact (blk_r (then_r (then_r (hit_r (blk_r (then_r (retct (cs := [.int .i64 x24.agent, .int .i64 x24.slot, .int .i64 y37.agent, .int .i64 y37.slot]) rfl rfl s4_1 rfl (by kernel_rfl) (blkCells B61) ⟨rfl, T⟩)))))))

def m_impl_Net_isOriented (d0 : DNet) (d1 : List Bool) : Option Bool :=
  ((m_impl_Net_fits d0 d1).bind fun y2 => (bif y2 then ((m_impl_Net_badWire d0 d1).bind fun y7 => some (!y7.2)) else some false))
set_option maxHeartbeats 2000000 in
theorem c_m_impl_Net_isOriented (d0 : DNet) (d1 : List Bool) (r : Bool) (hm : m_impl_Net_isOriented d0 d1 = some r) (v0 : Value) (v1 : Value) (w : World) (hv0 : Pt netRd w v0 d0) (hv1 : Sl boolRd 1 w v1 d1) :
    Calls Try.prog 87 #[v0, v1] w fun e w' => e = .returned (.bool r) ∧ Below w.heap.size w w' := by
  obtain ⟨ba0, oa0, csa0, rfl, hba0, hRa0, hca0⟩ := hv0
  have hSa0 := hRa0
  obtain ⟨A1, n1, c1, rfl, ⟨h1, r1⟩⟩ := hRa0
  have e1 := h1.len; subst e1
  have q1 := len_le r1
  obtain ⟨Aa1, na1, ca1, rfl, ha1, ra1⟩ := hv1
  have ea1 := ha1.len; subst ea1
  have qa1 := len_le ra1
  have T := Below.refl w.heap.size w
  unfold m_impl_Net_isOriented at hm
  refine enter 19 Try.func87 rfl rfl rfl ?_
  intro f hf
  have s0 : f 0 = .pointer (some ⟨ba0, oa0, none⟩) := hf 0 _ rfl
  have s1 : f 1 = .slice Aa1 d1.length ca1 := hf 1 _ rfl
  refine wp_seq ?_
  refine wp_rs rfl ?_
  refine RQ.y rfl (Y.assign (v := .bool false) rfl) ?_
  refine RQ.nil ?_
  refine then_n ?_
  refine wp_seq ?_
  refine wp_seq ?_
  refine wp_rb rfl ?_
  refine RQ.y rfl (Y.move (v := .pointer (some ⟨ba0, oa0, none⟩)) s0) ?_
  refine RQ.y rfl (Y.move (v := .slice Aa1 d1.length ca1) s1) ?_
  obtain ⟨y2, e3, hm⟩ := bnd hm
  refine RQ.call rfl (am2 rfl rfl) (by kernel_rfl) (v := .bool y2) (bel (K := fun _ => True) fun w' hb' => (c_m_impl_Net_fits d0 d1 _ e3 _ _ w' (ptArg netRd_ok hba0 hSa0 hca0 (Tt T hb')) (slArg boolRd_ok ha1 ra1 (Tt T hb')))) ?_
  refine RQ.y rfl (Y.not (b' := (!y2)) rfl rfl) ?_
  refine RQ.nil ?_
  intro w4 hb5
  have szw4 := hb5.size
  have T := Tt T hb5
  refine then_n ?_
  rcases bcases y2 with c6 | c6
  · replace hm := cF c6 hm
    refine cond_t rfl (vbn rfl c6 rfl) ?_
    refine wp_seq ?_
    refine wp_rs rfl ?_
    refine RQ.y rfl (Y.assign (v := .bool false) rfl) ?_
    refine RQ.nil ?_
    refine then_n ?_
    refine wp_ret ?_
    obtain rfl := Option.some.inj hm
    exact (then_r (ret1 rfl rfl rfl ⟨rfl, T⟩))
  · replace hm := cT c6 hm
    refine cond_f rfl (vbn rfl c6 rfl) ?_
    refine wp_skip ?_
    refine then_n ?_
    refine wp_seq ?_
    refine wp_rl rfl ?_
    refine RL.y rfl (Y.move (v := .pointer (some ⟨ba0, oa0, none⟩)) s0) ?_
    refine RL.y rfl (Y.move (v := .slice Aa1 d1.length ca1) s1) ?_
    obtain ⟨y7, e8, hm⟩ := bnd hm
    refine RL.call rfl (am2 rfl rfl) (by kernel_rfl) ((c_m_impl_Net_badWire d0 d1 _ e8 _ _ _ (ptArg netRd_ok hba0 hSa0 hca0 T) (slArg boolRd_ok ha1 ra1 T)).mono ?_)
    rintro _ w9 ⟨rfl, hb10⟩
    refine ⟨_, rfl, ?_⟩
    have szw9 := hb10.size
    have T := Tt T hb10
    refine RL.y rfl (Y.move (v := .tuple #[.agg #[.int .i64 y7.1.a.agent, .int .i64 y7.1.a.slot, .int .i64 y7.1.b.agent, .int .i64 y7.1.b.slot], .bool y7.2]) rfl) ?_
    refine RL.y rfl (Y.extract (i := 0) rfl rfl) ?_
    refine RL.y rfl (Y.extract (i := 1) rfl rfl) ?_
    refine RL.alloc (z := .agg #[.int .i64 0, .int .i64 0, .int .i64 0, .int .i64 0]) rfl (by kernel_rfl) (fun w11 B12 hb13 szw11 => ?_)
    replace B12 : Blk w11 w9.heap.size 55 #[.int .i64 0, .int .i64 0, .int .i64 0, .int .i64 0] := B12
    have GB12 : w.heap.size ≤ w9.heap.size := T.size
    have T := Tt T hb13
    refine RL.store (v := .agg #[.int .i64 y7.1.a.agent, .int .i64 y7.1.a.slot, .int .i64 y7.1.b.agent, .int .i64 y7.1.b.slot]) (cs' := #[.int .i64 y7.1.a.agent, .int .i64 y7.1.a.slot, .int .i64 y7.1.b.agent, .int .i64 y7.1.b.slot]) rfl rfl rfl B12 (by kernel_rfl) (by rfl) (by rfl) (by rfl) (fun w15 B16 ho17 => ?_)
    have szw15 := ho17.size
    have T := T.trans (ho17.below (by first | (simp; done) | (simp; omega)))
    refine RL.y rfl (Y.assign (v := .bool y7.2) rfl) ?_
    refine RL.nil ?_
    refine then_n ?_
    refine wp_seq ?_
    refine wp_rs rfl ?_
    refine RQ.y rfl (Y.move (v := .bool y7.2) rfl) ?_
    refine RQ.y rfl (Y.not (b' := (!y7.2)) rfl rfl) ?_
    refine RQ.y rfl (Y.assign (v := .bool (!y7.2)) rfl) ?_
    refine RQ.nil ?_
    refine then_n ?_
    refine wp_ret ?_
    obtain rfl := Option.some.inj hm
    exact (ret1 rfl rfl rfl ⟨rfl, T⟩)

def m_impl_IsOriented (d0 : DNet) (d1 : List Bool) : Option Bool :=
  ((m_impl_ValidNet d0).bind fun y6 => (bif y6 then ((m_impl_Net_isOriented d0 d1).bind fun y11 => some y11) else some false))
set_option maxHeartbeats 2000000 in
theorem c_m_impl_IsOriented (d0 : DNet) (d1 : List Bool) (r : Bool) (hm : m_impl_IsOriented d0 d1 = some r) (v0 : Value) (v1 : Value) (w : World) (hv0 : St netRd w v0 d0) (hv1 : Sl boolRd 1 w v1 d1) :
    Calls Try.prog 36 #[v0, v1] w fun e w' => e = .returned (.bool r) ∧ Below w.heap.size w w' := by
  obtain ⟨csa0, rfl, ⟨A1, n1, c1, rfl, ⟨h1, r1⟩⟩⟩ := hv0
  have e1 := h1.len; subst e1
  have q1 := len_le r1
  obtain ⟨Aa1, na1, ca1, rfl, ha1, ra1⟩ := hv1
  have ea1 := ha1.len; subst ea1
  have qa1 := len_le ra1
  have T := Below.refl w.heap.size w
  unfold m_impl_IsOriented at hm
  refine enter 11 Try.func36 rfl rfl rfl ?_
  intro f hf
  have s0 : f 0 = .agg #[.slice A1 d0.agents.length c1] := hf 0 _ rfl
  have s1 : f 1 = .slice Aa1 d1.length ca1 := hf 1 _ rfl
  refine wp_seq ?_
  refine wp_rl rfl ?_
  refine RL.box rfl s0 (fun w2 B3 hb4 szw2 => ?_)
  replace B3 : Blk w2 w.heap.size 30 #[.slice A1 d0.agents.length c1] := B3
  have GB3 : w.heap.size ≤ w.heap.size := T.size
  have T := Tt T hb4
  refine RL.y rfl (Y.assign (v := .bool false) rfl) ?_
  refine RL.nil ?_
  refine then_n ?_
  refine wp_seq ?_
  refine wp_rb rfl ?_
  refine RQ.y rfl (Y.loadN (cs := [.slice A1 d0.agents.length c1]) rfl (by kernel_rfl) (cells1 (beC (blkCell B3 (i := 0) rfl)))) ?_
  obtain ⟨y6, e7, hm⟩ := bnd hm
  refine RQ.call rfl (am1 rfl) (by kernel_rfl) (v := .bool y6) (bel (K := fun _ => True) fun w' hb' => (c_m_impl_ValidNet d0 _ e7 _ w' (stArg (R := netRd) ⟨_, _, _, rfl, ⟨SlAt.now agentRd_ok h1 (Nat.le_refl _) (Tt T hb'), r1⟩⟩))) ?_
  refine RQ.y rfl (Y.move (v := .bool y6) rfl) ?_
  rcases bcases y6 with c8 | c8
  · replace hm := cF c8 hm
    refine RQ.skip (wantN (dj := 7) rfl (vb rfl c8) rfl) ?_
    refine RQ.skip (wantN (dj := 7) rfl (vb rfl c8) rfl) ?_
    refine RQ.y rfl (Y.pick (b := false) (v := .bool false) (vb rfl c8) rfl) ?_
    refine RQ.y rfl (Y.assign (v := .bool false) rfl) ?_
    refine RQ.nil ?_
    intro w9 hb10
    have szw9 := hb10.size
    have T := Tt T hb10
    refine then_n ?_
    refine wp_ret ?_
    obtain rfl := Option.some.inj hm
    exact (ret1 rfl rfl rfl ⟨rfl, T⟩)
  · replace hm := cT c8 hm
    refine RQ.y (wantT (dj := 7) rfl (vb rfl c8)) (Y.move (v := .slice Aa1 d1.length ca1) s1) ?_
    obtain ⟨y11, e12, hm⟩ := bnd hm
    refine RQ.call (wantT (dj := 7) rfl (vb rfl c8)) (am2 rfl rfl) (by kernel_rfl) (v := .bool y11) (bel (K := fun _ => True) fun w' hb' => (c_m_impl_Net_isOriented d0 d1 _ e12 _ _ w' (ptBox (R := netRd) (blkT B3 hb') ⟨_, _, _, rfl, ⟨SlAt.now agentRd_ok h1 (Nat.le_refl _) (Tt T hb'), r1⟩⟩) (slArg boolRd_ok ha1 ra1 (Tt T hb')))) ?_
    refine RQ.y rfl (Y.pick (b := true) (v := .bool y11) (vb rfl c8) rfl) ?_
    refine RQ.y rfl (Y.assign (v := .bool y11) rfl) ?_
    refine RQ.nil ?_
    intro w13 hb14
    have szw13 := hb14.size
    have T := Tt T hb14
    refine then_n ?_
    refine wp_ret ?_
    obtain rfl := Option.some.inj hm
    exact (ret1 rfl rfl rfl ⟨rfl, T⟩)

def m_spec_BadWire (d0 : DNet) (d1 : List Bool) : Option (DWire × Int) :=
  ((m_spec_l11Ok d0).bind fun y10 => (bif y10 then ((m_spec_l19Fits d0 d1).bind fun y18 => (bif y18 then ((m_spec_l11Wires d0).bind fun y26 => ((m_spec_l19Bad d0 d1 y26).bind fun y33 => (bif (decide (y33 < 0)) then some ((⟨(⟨0, 0⟩ : DPort), (⟨0, 0⟩ : DPort)⟩ : DWire), 3) else ((getI y26 y33).bind fun x40 => some (x40, 0))))) else some ((⟨(⟨0, 0⟩ : DPort), (⟨0, 0⟩ : DPort)⟩ : DWire), 1))) else some ((⟨(⟨0, 0⟩ : DPort), (⟨0, 0⟩ : DPort)⟩ : DWire), 1)))
set_option maxHeartbeats 2000000 in
theorem c_m_spec_BadWire (d0 : DNet) (d1 : List Bool) (r : DWire × Int) (hm : m_spec_BadWire d0 d1 = some r) (v0 : Value) (v1 : Value) (w : World) (hv0 : St netRd w v0 d0) (hv1 : Sl boolRd 1 w v1 d1) :
    Calls Try.prog 38 #[v0, v1] w fun e w' => e = .returned (.tuple #[.agg #[.int .i64 r.1.a.agent, .int .i64 r.1.a.slot, .int .i64 r.1.b.agent, .int .i64 r.1.b.slot], .int .i64 r.2]) ∧ Below w.heap.size w w' := by
  obtain ⟨csa0, rfl, ⟨A1, n1, c1, rfl, ⟨h1, r1⟩⟩⟩ := hv0
  have e1 := h1.len; subst e1
  have q1 := len_le r1
  obtain ⟨Aa1, na1, ca1, rfl, ha1, ra1⟩ := hv1
  have ea1 := ha1.len; subst ea1
  have qa1 := len_le ra1
  have T := Below.refl w.heap.size w
  unfold m_spec_BadWire at hm
  refine enter 27 Try.func38 rfl rfl rfl ?_
  intro f hf
  have s0 : f 0 = .agg #[.slice A1 d0.agents.length c1] := hf 0 _ rfl
  have s1 : f 1 = .slice Aa1 d1.length ca1 := hf 1 _ rfl
  refine wp_seq ?_
  refine wp_rl rfl ?_
  refine RL.box rfl s0 (fun w2 B3 hb4 szw2 => ?_)
  replace B3 : Blk w2 w.heap.size 30 #[.slice A1 d0.agents.length c1] := B3
  have GB3 : w.heap.size ≤ w.heap.size := T.size
  have T := Tt T hb4
  refine RL.alloc (z := .agg #[.int .i64 0, .int .i64 0, .int .i64 0, .int .i64 0]) rfl (by kernel_rfl) (fun w6 B7 hb8 szw6 => ?_)
  replace B7 : Blk w6 w2.heap.size 55 #[.int .i64 0, .int .i64 0, .int .i64 0, .int .i64 0] := B7
  have GB7 : w.heap.size ≤ w2.heap.size := T.size
  have Eob9_ob5 := Nat.ne_of_lt B3.lt
  have B3 := blkT B3 hb8
  have T := Tt T hb8
  refine RL.y rfl (Y.assign (v := .int .i64 0) rfl) ?_
  refine RL.nil ?_
  refine then_n ?_
  refine wp_seq ?_
  refine wp_seq ?_
  refine wp_rb rfl ?_
  obtain ⟨y10, e11, hm⟩ := bnd hm
  refine RQ.call rfl (am1 rfl) (by kernel_rfl) (v := .bool y10) (bel (K := fun _ => True) fun w' hb' => (c_m_spec_l11Ok d0 _ e11 _ w' (ptBox (R := netRd) (blkT B3 hb') ⟨_, _, _, rfl, ⟨SlAt.now agentRd_ok h1 (Nat.le_refl _) (Tt T hb'), r1⟩⟩))) ?_
  refine RQ.y rfl (Y.not (b' := (!y10)) rfl rfl) ?_
  refine RQ.y rfl (Y.move (v := .bool (!y10)) rfl) ?_
  rcases bcases y10 with c12 | c12
  · replace hm := cF c12 hm
    refine RQ.skip (wantN (dj := 10) rfl (vbn rfl c12 rfl) rfl) ?_
    refine RQ.skip (wantN (dj := 10) rfl (vbn rfl c12 rfl) rfl) ?_
    refine RQ.skip (wantN (dj := 10) rfl (vbn rfl c12 rfl) rfl) ?_
    refine RQ.y rfl (Y.pick (b := true) (v := .bool true) (vbn rfl c12 rfl) rfl) ?_
    refine RQ.nil ?_
    intro w13 hb14
    have szw13 := hb14.size
    have B3 := blkT B3 hb14
    have B7 := blkT B7 hb14
    have T := Tt T hb14
    refine then_n ?_
    refine cond_t rfl rfl ?_
    refine wp_seq ?_
    refine wp_rl rfl ?_
    refine RL.y rfl (Y.build0 (cells := #[.int .i64 0, .int .i64 0, .int .i64 0, .int .i64 0])  (by kernel_rfl) (by kernel_rfl)) ?_
    refine RL.store (v := .agg #[.int .i64 0, .int .i64 0, .int .i64 0, .int .i64 0]) (cs' := #[.int .i64 0, .int .i64 0, .int .i64 0, .int .i64 0]) rfl rfl rfl B7 (by kernel_rfl) (by rfl) (by rfl) (by rfl) (fun w15 B16 ho17 => ?_)
    have szw15 := ho17.size
    have B3 := B3.only_ ho17 (by intro hin; simp at hin; exact Eob9_ob5 hin)
    have T := T.trans (ho17.below (by first | (simp; done) | (simp; omega)))
    refine RL.y rfl (Y.assign (v := .int .i64 1) rfl) ?_
    refine RL.nil ?_
    refine then_n ?_
    refine wp_ret ?_
    obtain rfl := Option.some.inj hm
    exact (then_r (retct (cs := [.int .i64 0, .int .i64 0, .int .i64 0, .int .i64 0]) rfl rfl rfl rfl (by kernel_rfl) (blkCells B16) ⟨rfl, T⟩))
  · replace hm := cT c12 hm
    refine RQ.y (wantT (dj := 10) rfl (vbn rfl c12 rfl)) (Y.move (v := .slice Aa1 d1.length ca1) s1) ?_
    obtain ⟨y18, e19, hm⟩ := bnd hm
    refine RQ.call (wantT (dj := 10) rfl (vbn rfl c12 rfl)) (am2 rfl rfl) (by kernel_rfl) (v := .bool y18) (bel (K := fun _ => True) fun w' hb' => (c_m_spec_l19Fits d0 d1 _ e19 _ _ w' (ptBox (R := netRd) (blkT B3 hb') ⟨_, _, _, rfl, ⟨SlAt.now agentRd_ok h1 (Nat.le_refl _) (Tt T hb'), r1⟩⟩) (slArg boolRd_ok ha1 ra1 (Tt T hb')))) ?_
    refine RQ.y (wantT (dj := 10) rfl (vbn rfl c12 rfl)) (Y.not (b' := (!y18)) rfl rfl) ?_
    refine RQ.y rfl (Y.pick (b := false) (v := .bool (!y18)) (vbn rfl c12 rfl) rfl) ?_
    refine RQ.nil ?_
    intro w20 hb21
    have szw20 := hb21.size
    have B3 := blkT B3 hb21
    have B7 := blkT B7 hb21
    have T := Tt T hb21
    refine then_n ?_
    rcases bcases y18 with c22 | c22
    · replace hm := cF c22 hm
      refine cond_t rfl (vbn rfl c22 rfl) ?_
      refine wp_seq ?_
      refine wp_rl rfl ?_
      refine RL.y rfl (Y.build0 (cells := #[.int .i64 0, .int .i64 0, .int .i64 0, .int .i64 0])  (by kernel_rfl) (by kernel_rfl)) ?_
      refine RL.store (v := .agg #[.int .i64 0, .int .i64 0, .int .i64 0, .int .i64 0]) (cs' := #[.int .i64 0, .int .i64 0, .int .i64 0, .int .i64 0]) rfl rfl rfl B7 (by kernel_rfl) (by rfl) (by rfl) (by rfl) (fun w23 B24 ho25 => ?_)
      have szw23 := ho25.size
      have B3 := B3.only_ ho25 (by intro hin; simp at hin; exact Eob9_ob5 hin)
      have T := T.trans (ho25.below (by first | (simp; done) | (simp; omega)))
      refine RL.y rfl (Y.assign (v := .int .i64 1) rfl) ?_
      refine RL.nil ?_
      refine then_n ?_
      refine wp_ret ?_
      obtain rfl := Option.some.inj hm
      exact (then_r (retct (cs := [.int .i64 0, .int .i64 0, .int .i64 0, .int .i64 0]) rfl rfl rfl rfl (by kernel_rfl) (blkCells B24) ⟨rfl, T⟩))
    · replace hm := cT c22 hm
      refine cond_f rfl (vbn rfl c22 rfl) ?_
      refine wp_skip ?_
      refine then_n ?_
      refine wp_seq ?_
      refine wp_rl rfl ?_
      obtain ⟨y26, e27, hm⟩ := bnd hm
      refine RL.call rfl (am1 rfl) (by kernel_rfl) ((c_m_spec_l11Wires d0 _ e27 _ _ (ptBox (R := netRd) B3 ⟨_, _, _, rfl, ⟨SlAt.now agentRd_ok h1 (Nat.le_refl _) T, r1⟩⟩)).mono ?_)
      rintro _ w31 ⟨⟨v28, rfl, G29⟩, hb32⟩
      refine ⟨_, rfl, ?_⟩
      have szw31 := hb32.size
      have T0w31 := T.size
      have No30_ob5 := OwF.ne G29 B3.lt
      have No30_ob9 := OwF.ne G29 B7.lt
      have B3 := blkT B3 hb32
      have B7 := blkT B7 hb32
      have T := Tt T hb32
      replace G29 := OwF.mono G29 T0w31
      refine RL.y rfl (Y.assign (v := v28) rfl) ?_
      refine RL.nil ?_
      refine then_n ?_
      refine wp_seq ?_
      refine wp_rb rfl ?_
      refine RQ.y rfl (Y.move (v := .slice Aa1 d1.length ca1) s1) ?_
      refine RQ.y rfl (Y.move (v := v28) rfl) ?_
      obtain ⟨y33, e34, hm⟩ := bnd hm
      refine RQ.call rfl (am3 rfl rfl rfl) (by kernel_rfl) (v := .int .i64 y33) (bel (K := fun _ => True) fun w' hb' => (c_m_spec_l19Bad d0 d1 y26 _ e34 _ _ _ w' (ptBox (R := netRd) (blkT B3 hb') ⟨_, _, _, rfl, ⟨SlAt.now agentRd_ok h1 (Nat.le_refl _) (Tt T hb'), r1⟩⟩) (slArg boolRd_ok ha1 ra1 (Tt T hb')) (OwF.arg fWire (OwF.below G29 hb')))) ?_
      refine RQ.y rfl (Y.assign (v := .int .i64 y33) rfl) ?_
      refine RQ.nil ?_
      intro w35 hb36
      have szw35 := hb36.size
      have B7 := blkT B7 hb36
      have G29 := OwF.below G29 hb36
      have T := Tt T hb36
      refine then_n ?_
      refine wp_seq ?_
      refine wp_seq ?_
      refine wp_rs rfl ?_
      refine RQ.y rfl (Y.move (v := .int .i64 y33) rfl) ?_
      refine RQ.y rfl (Y.binI (v := .bool (decide (y33 < 0))) rfl rfl rfl) ?_
      refine RQ.nil ?_
      refine then_n ?_
      rcases bcases (decide (y33 < 0)) with c37 | c37
      · replace hm := cF c37 hm
        have pc37 := of_decide_eq_false c37
        refine cond_f rfl (vb rfl c37) ?_
        refine wp_skip ?_
        refine then_n ?_
        refine wp_seq ?_
        refine wp_rl rfl ?_
        refine RL.y rfl (Y.move (v := v28) rfl) ?_
        refine RL.y rfl (Y.move (v := .int .i64 y33) rfl) ?_
        obtain ⟨A38, c39, rfl⟩ := OwF.form G29
        have qbA38 := OwF.bound G29
        obtain ⟨x40, hx42, hm⟩ := bnd hm
        obtain ⟨k41, hk43, hl44, hx42⟩ := getI_some hx42
        obtain ⟨b45, rfl⟩ := OwF.addr0 G29 (by omega)
        refine RL.y rfl (Y.indexAddr (m := k41) (sz := 4) rfl rfl hk43 hl44 (by kernel_rfl)) ?_
        refine RL.y rfl (Y.loadN (cs := [.int .i64 x40.a.agent, .int .i64 x40.a.slot, .int .i64 x40.b.agent, .int .i64 x40.b.slot]) rfl (by kernel_rfl) (cells4 (eqC (OwF.cell fWire G29 hx42 (j := 0) rfl)) (eqC (OwF.cell fWire G29 hx42 (j := 1) rfl)) (eqC (OwF.cell fWire G29 hx42 (j := 2) rfl)) (eqC (OwF.cell fWire G29 hx42 (j := 3) rfl)))) ?_
        refine RL.store (v := .agg #[.int .i64 x40.a.agent, .int .i64 x40.a.slot, .int .i64 x40.b.agent, .int .i64 x40.b.slot]) (cs' := #[.int .i64 x40.a.agent, .int .i64 x40.a.slot, .int .i64 x40.b.agent, .int .i64 x40.b.slot]) rfl rfl rfl B7 (by kernel_rfl) (by rfl) (by rfl) (by rfl) (fun w46 B47 ho48 => ?_)
        have szw46 := ho48.size
        have G29 := OwF.only G29 ho48 No30_ob9
        have T := T.trans (ho48.below (by first | (simp; done) | (simp; omega)))
        refine RL.y rfl (Y.assign (v := .int .i64 0) rfl) ?_
        refine RL.nil ?_
        refine then_n ?_
        refine wp_ret ?_
        obtain rfl := Option.some.inj hm
        exact (retct (cs := [.int .i64 x40.a.agent, .int .i64 x40.a.slot, .int .i64 x40.b.agent, .int .i64 x40.b.slot]) rfl rfl rfl rfl (by kernel_rfl) (blkCells B47) ⟨rfl, T⟩)
      · replace hm := cT c37 hm
        have pc37 := of_decide_eq_true c37
        refine cond_t rfl (vb rfl c37) ?_
        refine wp_seq ?_
        refine wp_rl rfl ?_
        refine RL.y rfl (Y.build0 (cells := #[.int .i64 0, .int .i64 0, .int .i64 0, .int .i64 0])  (by kernel_rfl) (by kernel_rfl)) ?_
        refine RL.store (v := .agg #[.int .i64 0, .int .i64 0, .int .i64 0, .int .i64 0]) (cs' := #[.int .i64 0, .int .i64 0, .int .i64 0, .int .i64 0]) rfl rfl rfl B7 (by kernel_rfl) (by rfl) (by rfl) (by rfl) (fun w49 B50 ho51 => ?_)
        have szw49 := ho51.size
        have G29 := OwF.only G29 ho51 No30_ob9
        have T := T.trans (ho51.below (by first | (simp; done) | (simp; omega)))
        refine RL.y rfl (Y.assign (v := .int .i64 3) rfl) ?_
        refine RL.nil ?_
        refine then_n ?_
        refine wp_ret ?_
        obtain rfl := Option.some.inj hm
        exact (then_r (retct (cs := [.int .i64 0, .int .i64 0, .int .i64 0, .int .i64 0]) rfl rfl rfl rfl (by kernel_rfl) (blkCells B50) ⟨rfl, T⟩))

def m_impl_BadWire (d0 : DNet) (d1 : List Bool) : Option (DWire × Int) :=
  ((m_impl_ValidNet d0).bind fun y10 => (bif y10 then ((m_impl_Net_fits d0 d1).bind fun y18 => (bif y18 then ((m_impl_Net_badWire d0 d1).bind fun y26 => (bif y26.2 then some (y26.1, 0) else some ((⟨(⟨0, 0⟩ : DPort), (⟨0, 0⟩ : DPort)⟩ : DWire), 3))) else some ((⟨(⟨0, 0⟩ : DPort), (⟨0, 0⟩ : DPort)⟩ : DWire), 1))) else some ((⟨(⟨0, 0⟩ : DPort), (⟨0, 0⟩ : DPort)⟩ : DWire), 1)))
set_option maxHeartbeats 2000000 in
theorem c_m_impl_BadWire (d0 : DNet) (d1 : List Bool) (r : DWire × Int) (hm : m_impl_BadWire d0 d1 = some r) (v0 : Value) (v1 : Value) (w : World) (hv0 : St netRd w v0 d0) (hv1 : Sl boolRd 1 w v1 d1) :
    Calls Try.prog 39 #[v0, v1] w fun e w' => e = .returned (.tuple #[.agg #[.int .i64 r.1.a.agent, .int .i64 r.1.a.slot, .int .i64 r.1.b.agent, .int .i64 r.1.b.slot], .int .i64 r.2]) ∧ Below w.heap.size w w' := by
  obtain ⟨csa0, rfl, ⟨A1, n1, c1, rfl, ⟨h1, r1⟩⟩⟩ := hv0
  have e1 := h1.len; subst e1
  have q1 := len_le r1
  obtain ⟨Aa1, na1, ca1, rfl, ha1, ra1⟩ := hv1
  have ea1 := ha1.len; subst ea1
  have qa1 := len_le ra1
  have T := Below.refl w.heap.size w
  unfold m_impl_BadWire at hm
  refine enter 26 Try.func39 rfl rfl rfl ?_
  intro f hf
  have s0 : f 0 = .agg #[.slice A1 d0.agents.length c1] := hf 0 _ rfl
  have s1 : f 1 = .slice Aa1 d1.length ca1 := hf 1 _ rfl
  refine wp_seq ?_
  refine wp_rl rfl ?_
  refine RL.box rfl s0 (fun w2 B3 hb4 szw2 => ?_)
  replace B3 : Blk w2 w.heap.size 30 #[.slice A1 d0.agents.length c1] := B3
  have GB3 : w.heap.size ≤ w.heap.size := T.size
  have T := Tt T hb4
  refine RL.alloc (z := .agg #[.int .i64 0, .int .i64 0, .int .i64 0, .int .i64 0]) rfl (by kernel_rfl) (fun w6 B7 hb8 szw6 => ?_)
  replace B7 : Blk w6 w2.heap.size 55 #[.int .i64 0, .int .i64 0, .int .i64 0, .int .i64 0] := B7
  have GB7 : w.heap.size ≤ w2.heap.size := T.size
  have Eob9_ob5 := Nat.ne_of_lt B3.lt
  have B3 := blkT B3 hb8
  have T := Tt T hb8
  refine RL.y rfl (Y.assign (v := .int .i64 0) rfl) ?_
  refine RL.nil ?_
  refine then_n ?_
  refine wp_seq ?_
  refine wp_seq ?_
  refine wp_rb rfl ?_
  refine RQ.y rfl (Y.loadN (cs := [.slice A1 d0.agents.length c1]) rfl (by kernel_rfl) (cells1 (beC (blkCell B3 (i := 0) rfl)))) ?_
  obtain ⟨y10, e11, hm⟩ := bnd hm
  refine RQ.call rfl (am1 rfl) (by kernel_rfl) (v := .bool y10) (bel (K := fun _ => True) fun w' hb' => (c_m_impl_ValidNet d0 _ e11 _ w' (stArg (R := netRd) ⟨_, _, _, rfl, ⟨SlAt.now agentRd_ok h1 (Nat.le_refl _) (Tt T hb'), r1⟩⟩))) ?_
  refine RQ.y rfl (Y.not (b' := (!y10)) rfl rfl) ?_
  refine RQ.y rfl (Y.move (v := .bool (!y10)) rfl) ?_
  rcases bcases y10 with c12 | c12
  · replace hm := cF c12 hm
    refine RQ.skip (wantN (dj := 11) rfl (vbn rfl c12 rfl) rfl) ?_
    refine RQ.skip (wantN (dj := 11) rfl (vbn rfl c12 rfl) rfl) ?_
    refine RQ.skip (wantN (dj := 11) rfl (vbn rfl c12 rfl) rfl) ?_
    refine RQ.y rfl (Y.pick (b := true) (v := .bool true) (vbn rfl c12 rfl) rfl) ?_
    refine RQ.nil ?_
    intro w13 hb14
    have szw13 := hb14.size
    have B3 := blkT B3 hb14
    have B7 := blkT B7 hb14
    have T := Tt T hb14
    refine then_n ?_
    refine cond_t rfl rfl ?_
    refine wp_seq ?_
    refine wp_rl rfl ?_
    refine RL.y rfl (Y.build0 (cells := #[.int .i64 0, .int .i64 0, .int .i64 0, .int .i64 0])  (by kernel_rfl) (by kernel_rfl)) ?_
    refine RL.store (v := .agg #[.int .i64 0, .int .i64 0, .int .i64 0, .int .i64 0]) (cs' := #[.int .i64 0, .int .i64 0, .int .i64 0, .int .i64 0]) rfl rfl rfl B7 (by kernel_rfl) (by rfl) (by rfl) (by rfl) (fun w15 B16 ho17 => ?_)
    have szw15 := ho17.size
    have B3 := B3.only_ ho17 (by intro hin; simp at hin; exact Eob9_ob5 hin)
    have T := T.trans (ho17.below (by first | (simp; done) | (simp; omega)))
    refine RL.y rfl (Y.assign (v := .int .i64 1) rfl) ?_
    refine RL.nil ?_
    refine then_n ?_
    refine wp_ret ?_
    obtain rfl := Option.some.inj hm
    exact (then_r (retct (cs := [.int .i64 0, .int .i64 0, .int .i64 0, .int .i64 0]) rfl rfl rfl rfl (by kernel_rfl) (blkCells B16) ⟨rfl, T⟩))
  · replace hm := cT c12 hm
    refine RQ.y (wantT (dj := 11) rfl (vbn rfl c12 rfl)) (Y.move (v := .slice Aa1 d1.length ca1) s1) ?_
    obtain ⟨y18, e19, hm⟩ := bnd hm
    refine RQ.call (wantT (dj := 11) rfl (vbn rfl c12 rfl)) (am2 rfl rfl) (by kernel_rfl) (v := .bool y18) (bel (K := fun _ => True) fun w' hb' => (c_m_impl_Net_fits d0 d1 _ e19 _ _ w' (ptBox (R := netRd) (blkT B3 hb') ⟨_, _, _, rfl, ⟨SlAt.now agentRd_ok h1 (Nat.le_refl _) (Tt T hb'), r1⟩⟩) (slArg boolRd_ok ha1 ra1 (Tt T hb')))) ?_
    refine RQ.y (wantT (dj := 11) rfl (vbn rfl c12 rfl)) (Y.not (b' := (!y18)) rfl rfl) ?_
    refine RQ.y rfl (Y.pick (b := false) (v := .bool (!y18)) (vbn rfl c12 rfl) rfl) ?_
    refine RQ.nil ?_
    intro w20 hb21
    have szw20 := hb21.size
    have B3 := blkT B3 hb21
    have B7 := blkT B7 hb21
    have T := Tt T hb21
    refine then_n ?_
    rcases bcases y18 with c22 | c22
    · replace hm := cF c22 hm
      refine cond_t rfl (vbn rfl c22 rfl) ?_
      refine wp_seq ?_
      refine wp_rl rfl ?_
      refine RL.y rfl (Y.build0 (cells := #[.int .i64 0, .int .i64 0, .int .i64 0, .int .i64 0])  (by kernel_rfl) (by kernel_rfl)) ?_
      refine RL.store (v := .agg #[.int .i64 0, .int .i64 0, .int .i64 0, .int .i64 0]) (cs' := #[.int .i64 0, .int .i64 0, .int .i64 0, .int .i64 0]) rfl rfl rfl B7 (by kernel_rfl) (by rfl) (by rfl) (by rfl) (fun w23 B24 ho25 => ?_)
      have szw23 := ho25.size
      have B3 := B3.only_ ho25 (by intro hin; simp at hin; exact Eob9_ob5 hin)
      have T := T.trans (ho25.below (by first | (simp; done) | (simp; omega)))
      refine RL.y rfl (Y.assign (v := .int .i64 1) rfl) ?_
      refine RL.nil ?_
      refine then_n ?_
      refine wp_ret ?_
      obtain rfl := Option.some.inj hm
      exact (then_r (retct (cs := [.int .i64 0, .int .i64 0, .int .i64 0, .int .i64 0]) rfl rfl rfl rfl (by kernel_rfl) (blkCells B24) ⟨rfl, T⟩))
    · replace hm := cT c22 hm
      refine cond_f rfl (vbn rfl c22 rfl) ?_
      refine wp_skip ?_
      refine then_n ?_
      refine wp_seq ?_
      refine wp_rl rfl ?_
      refine RL.y rfl (Y.move (v := .slice Aa1 d1.length ca1) s1) ?_
      obtain ⟨y26, e27, hm⟩ := bnd hm
      refine RL.call rfl (am2 rfl rfl) (by kernel_rfl) ((c_m_impl_Net_badWire d0 d1 _ e27 _ _ _ (ptBox (R := netRd) B3 ⟨_, _, _, rfl, ⟨SlAt.now agentRd_ok h1 (Nat.le_refl _) T, r1⟩⟩) (slArg boolRd_ok ha1 ra1 T)).mono ?_)
      rintro _ w28 ⟨rfl, hb29⟩
      refine ⟨_, rfl, ?_⟩
      have szw28 := hb29.size
      have B3 := blkT B3 hb29
      have B7 := blkT B7 hb29
      have T := Tt T hb29
      refine RL.y rfl (Y.move (v := .tuple #[.agg #[.int .i64 y26.1.a.agent, .int .i64 y26.1.a.slot, .int .i64 y26.1.b.agent, .int .i64 y26.1.b.slot], .bool y26.2]) rfl) ?_
      refine RL.y rfl (Y.extract (i := 0) rfl rfl) ?_
      refine RL.y rfl (Y.extract (i := 1) rfl rfl) ?_
      refine RL.alloc (z := .agg #[.int .i64 0, .int .i64 0, .int .i64 0, .int .i64 0]) rfl (by kernel_rfl) (fun w30 B31 hb32 szw30 => ?_)
      replace B31 : Blk w30 w28.heap.size 55 #[.int .i64 0, .int .i64 0, .int .i64 0, .int .i64 0] := B31
      have GB31 : w.heap.size ≤ w28.heap.size := T.size
      have Eob33_ob5 := Nat.ne_of_lt B3.lt
      have Eob33_ob9 := Nat.ne_of_lt B7.lt
      have B3 := blkT B3 hb32
      have B7 := blkT B7 hb32
      have T := Tt T hb32
      refine RL.store (v := .agg #[.int .i64 y26.1.a.agent, .int .i64 y26.1.a.slot, .int .i64 y26.1.b.agent, .int .i64 y26.1.b.slot]) (cs' := #[.int .i64 y26.1.a.agent, .int .i64 y26.1.a.slot, .int .i64 y26.1.b.agent, .int .i64 y26.1.b.slot]) rfl rfl rfl B31 (by kernel_rfl) (by rfl) (by rfl) (by rfl) (fun w34 B35 ho36 => ?_)
      have szw34 := ho36.size
      have B3 := B3.only_ ho36 (by intro hin; simp at hin; exact Eob33_ob5 hin)
      have B7 := B7.only_ ho36 (by intro hin; simp at hin; exact Eob33_ob9 hin)
      have T := T.trans (ho36.below (by first | (simp; done) | (simp; omega)))
      refine RL.y rfl (Y.assign (v := .bool y26.2) rfl) ?_
      refine RL.nil ?_
      refine then_n ?_
      refine wp_seq ?_
      refine wp_seq ?_
      refine wp_rs rfl ?_
      refine RQ.y rfl (Y.move (v := .bool y26.2) rfl) ?_
      refine RQ.y rfl (Y.not (b' := (!y26.2)) rfl rfl) ?_
      refine RQ.nil ?_
      refine then_n ?_
      rcases bcases y26.2 with c37 | c37
      · replace hm := cF c37 hm
        refine cond_t rfl (vbn rfl c37 rfl) ?_
        refine wp_seq ?_
        refine wp_rl rfl ?_
        refine RL.y rfl (Y.build0 (cells := #[.int .i64 0, .int .i64 0, .int .i64 0, .int .i64 0])  (by kernel_rfl) (by kernel_rfl)) ?_
        refine RL.store (v := .agg #[.int .i64 0, .int .i64 0, .int .i64 0, .int .i64 0]) (cs' := #[.int .i64 0, .int .i64 0, .int .i64 0, .int .i64 0]) rfl rfl rfl B7 (by kernel_rfl) (by rfl) (by rfl) (by rfl) (fun w38 B39 ho40 => ?_)
        have szw38 := ho40.size
        have B35 := B35.only_ ho40 (by intro hin; simp at hin; exact Eob33_ob9.symm hin)
        have T := T.trans (ho40.below (by first | (simp; done) | (simp; omega)))
        refine RL.y rfl (Y.assign (v := .int .i64 3) rfl) ?_
        refine RL.nil ?_
        refine then_n ?_
        refine wp_ret ?_
        obtain rfl := Option.some.inj hm
        exact (then_r (retct (cs := [.int .i64 0, .int .i64 0, .int .i64 0, .int .i64 0]) rfl rfl rfl rfl (by kernel_rfl) (blkCells B39) ⟨rfl, T⟩))
      · replace hm := cT c37 hm
        refine cond_f rfl (vbn rfl c37 rfl) ?_
        refine wp_skip ?_
        refine then_n ?_
        refine wp_seq ?_
        refine wp_rl rfl ?_
        refine RL.y rfl (Y.loadN (cs := [.int .i64 y26.1.a.agent, .int .i64 y26.1.a.slot, .int .i64 y26.1.b.agent, .int .i64 y26.1.b.slot]) rfl (by kernel_rfl) (cells4 (eqC (blkCell B35 (i := 0) rfl)) (eqC (blkCell B35 (i := 1) rfl)) (eqC (blkCell B35 (i := 2) rfl)) (eqC (blkCell B35 (i := 3) rfl)))) ?_
        refine RL.store (v := .agg #[.int .i64 y26.1.a.agent, .int .i64 y26.1.a.slot, .int .i64 y26.1.b.agent, .int .i64 y26.1.b.slot]) (cs' := #[.int .i64 y26.1.a.agent, .int .i64 y26.1.a.slot, .int .i64 y26.1.b.agent, .int .i64 y26.1.b.slot]) rfl rfl rfl B7 (by kernel_rfl) (by rfl) (by rfl) (by rfl) (fun w41 B42 ho43 => ?_)
        have szw41 := ho43.size
        have B35 := B35.only_ ho43 (by intro hin; simp at hin; exact Eob33_ob9.symm hin)
        have T := T.trans (ho43.below (by first | (simp; done) | (simp; omega)))
        refine RL.y rfl (Y.assign (v := .int .i64 0) rfl) ?_
        refine RL.nil ?_
        refine then_n ?_
        refine wp_ret ?_
        obtain rfl := Option.some.inj hm
        exact (retct (cs := [.int .i64 y26.1.a.agent, .int .i64 y26.1.a.slot, .int .i64 y26.1.b.agent, .int .i64 y26.1.b.slot]) rfl rfl rfl rfl (by kernel_rfl) (blkCells B42) ⟨rfl, T⟩)

end Go.Proofs.Ytampijkiidjcmaa
