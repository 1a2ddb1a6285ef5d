/- Models and contracts of functions, printed by wg.py. -/
import Derived.Test.YtampijkiidjcmaaWA
import Derived.Test.YtampijkiidjcmaaWkT
import Derived.Test.YtampijkiidjcmaaRows
namespace Go.Proofs.Ytampijkiidjcmaa
open Go.RowKit
set_option linter.unusedVariables false
set_option linter.unusedSimpArgs false
set_option maxRecDepth 100000

def m_impl_Net_ports_A1 (xs2 : List DPort) : Option (List DPort) :=
  some xs2
def m_impl_Net_ports_A2 (rec1 : List DPort → Int → Option (List DPort)) (i5 : Int) (xs26 : List DPort) : Option (List DPort) :=
  ((ck (i5 + 1)).bind fun s28 => (rec1 xs26 s28))
def m_impl_Net_ports_B2 (i5 : Int) (x8 : DAgent) (rec2 : List DPort → Int → Option (List DPort)) (K2 : List DPort → Option (List DPort)) (xs29 : List DPort) (i30 : Int) : Option (List DPort) :=
  (bif (decide (i30 < (x8.ports.length : Int))) then ((mustP (xs29.length + ([(⟨i5, i30⟩ : DPort)]).length ≤ 4294967296)).bind fun _ => (rec2 (xs29 ++ [(⟨i5, i30⟩ : DPort)]) (i30 + 1))) else (K2 xs29))
def m_impl_Net_ports_L2 (i5 : Int) (x8 : DAgent) (K2 : List DPort → Option (List DPort)) : Nat → List DPort → Int → Option (List DPort)
  | 0, _, _ => none
  | g + 1, xs29, i30 => m_impl_Net_ports_B2 i5 x8 (m_impl_Net_ports_L2 i5 x8 K2 g) K2 xs29 i30
def m_impl_Net_ports_B1 (d0 : DNet) (rec1 : List DPort → Int → Option (List DPort)) (K1 : List DPort → Option (List DPort)) (xs4 : List DPort) (i5 : Int) : Option (List DPort) :=
  (bif (decide (i5 < (d0.agents.length : Int))) then ((getI d0.agents i5).bind fun x8 => (m_impl_Net_ports_L2 i5 x8 (m_impl_Net_ports_A2 rec1 i5) (x8.ports.length + 1) xs4 0)) else (K1 xs4))
def m_impl_Net_ports_L1 (d0 : DNet) (K1 : List DPort → Option (List DPort)) : Nat → List DPort → Int → Option (List DPort)
  | 0, _, _ => none
  | g + 1, xs4, i5 => m_impl_Net_ports_B1 d0 (m_impl_Net_ports_L1 d0 K1 g) K1 xs4 i5
def m_impl_Net_ports (d0 : DNet) : Option (List DPort) :=
  (m_impl_Net_ports_L1 d0 m_impl_Net_ports_A1 (d0.agents.length + 1) ([] : List DPort) 0)
set_option maxHeartbeats 2000000 in
theorem c_m_impl_Net_ports (d0 : DNet) (r : List DPort) (hm : m_impl_Net_ports d0 = some r) (v0 : Value) (w : World) (hv0 : Pt netRd w v0 d0) :
    Calls Try.prog 117 #[v0] w fun e w' => (∃ v, e = .returned v ∧ OwF 53 encPort 2 w' w.heap.size v r) ∧ Below w.heap.size w w' := by
  obtain ⟨ba0, oa0, csa0, rfl, hba0, hRa0, hca0⟩ := hv0
  have hSa0 := hRa0
  obtain ⟨A1, n1, c1, rfl, ⟨h1, r1⟩⟩ := hRa0
  have e1 := h1.len; subst e1
  have q1 := len_le r1
  have T := Below.refl w.heap.size w
  unfold m_impl_Net_ports at hm
  refine enter 32 Try.func117 rfl rfl rfl ?_
  intro f hf
  have s0 : f 0 = .pointer (some ⟨ba0, oa0, none⟩) := hf 0 _ rfl
  refine wp_seq ?_
  refine wp_rs rfl ?_
  refine RQ.y rfl (Y.assign (v := .slice none 0 0) rfl) ?_
  refine RQ.nil ?_
  refine then_n ?_
  refine wp_seq ?_
  refine wp_rs rfl ?_
  refine RQ.y rfl (Y.assign (v := .slice none 0 0) rfl) ?_
  refine RQ.nil ?_
  refine then_n ?_
  refine wp_seq ?_
  refine wp_seq ?_
  refine wp_rs rfl ?_
  refine RQ.y rfl (Y.move (v := .pointer (some ⟨ba0, oa0, none⟩)) s0) ?_
  refine RQ.y rfl (Y.nilCheck rfl) ?_
  refine RQ.y rfl (Y.fieldAddr (off := 0) rfl (by kernel_rfl)) ?_
  refine RQ.y rfl (Y.load (v := .slice A1 d0.agents.length c1) rfl (by kernel_rfl) (eqC (cellT T (hca0 0 _ rfl)))) ?_
  refine RQ.y rfl (Y.len (by kernel_rfl) rfl) ?_
  refine RQ.y rfl (Y.move (v := .int .i64 0) rfl) ?_
  refine RQ.nil ?_
  refine then_n ?_
  refine wp_block ?_
  have G50 : OwF 53 encPort 2 w w.heap.size (.slice none 0 0) ([] : List DPort) := OwF.nil
  obtain ⟨K1, hK1, hm⟩ : ∃ K, K = m_impl_Net_ports_A1 ∧ m_impl_Net_ports_L1 d0 K (d0.agents.length + 1) ([] : List DPort) 0 = some r := ⟨_, rfl, hm⟩
  refine wp_loopX (fun g f w' => ∃ (xs4 : List DPort) (i5 : Int) (uxs4 : Value), f 10 = .slice A1 d0.agents.length c1 ∧ f 11 = .int .i64 (d0.agents.length : Int) ∧ f 3 = uxs4 ∧ OwF 53 encPort 2 w' w.heap.size uxs4 xs4 ∧ f 12 = .int .i64 i5 ∧ 0 ≤ i5 ∧ Below w.heap.size w w' ∧ m_impl_Net_ports_L1 d0 K1 g xs4 i5 = some r) 0 (fun f w' => ∃ (xs2 : List DPort) (uxs2 : Value), f 3 = uxs2 ∧ OwF 53 encPort 2 w' w.heap.size uxs2 xs2 ∧ Below w.heap.size w w' ∧ m_impl_Net_ports_A1 xs2 = some r) (d0.agents.length + 1) ⟨([] : List DPort), 0, ((.slice none 0 0)), rfl, rfl, rfl, G50, rfl, (by omega), T, hm⟩ ?_ ?_
  · rintro f w3 ⟨xs2, uxs2, s3_1x, Gxs2, T, hm⟩
    unfold m_impl_Net_ports_A1 at hm
    refine blk_hit (then_n ?_)
    refine wp_seq ?_
    refine wp_rs rfl ?_
    refine RQ.y rfl (Y.move (v := uxs2) s3_1x) ?_
    refine RQ.y rfl (Y.assign (v := uxs2) rfl) ?_
    refine RQ.nil ?_
    refine then_n ?_
    refine wp_ret ?_
    obtain rfl := Option.some.inj hm
    exact (ret1 rfl rfl rfl ⟨⟨_, rfl, Gxs2⟩, T⟩)
  · rintro g f w6 ⟨xs4, i5, uxs4, s10_1, s11_1, s3_1, Gxs4, s12_1, nn12_1, T, hm⟩
    rcases g with _ | g
    · simp only [m_impl_Net_ports_L1] at hm; cases hm
    obtain ⟨rec1, hrec1, hm⟩ : ∃ z, z = m_impl_Net_ports_L1 d0 K1 g ∧ m_impl_Net_ports_B1 d0 z K1 xs4 i5 = some r := ⟨_, rfl, hm⟩
    unfold m_impl_Net_ports_B1 at hm
    refine wp_seq ?_
    refine wp_rs rfl ?_
    refine RQ.y rfl (Y.binI (v := .bool (decide (i5 < (d0.agents.length : Int)))) s12_1 s11_1 rfl) ?_
    refine RQ.nil ?_
    refine then_n ?_
    refine wp_seq ?_
    rcases bcases (decide (i5 < (d0.agents.length : Int))) with c7 | c7
    · replace hm := cF c7 hm
      have pc7 := of_decide_eq_false c7
      refine cond_f rfl (vb rfl c7) ?_
      refine wp_exit ?_
      exact (then_x (then_x (hit_x ⟨_, rfl, ⟨xs4, (uxs4), s3_1, Gxs4, T, (by rw [hK1] at hm; exact hm)⟩⟩)))
    · replace hm := cT c7 hm
      have pc7 := of_decide_eq_true c7
      refine cond_t rfl (vb rfl c7) ?_
      refine wp_skip ?_
      refine then_n ?_
      refine wp_seq ?_
      refine wp_block ?_
      refine wp_seq ?_
      refine wp_rl rfl ?_
      refine RL.y rfl (Y.move (v := .int .i64 i5) s12_1) ?_
      obtain ⟨x8, hx11, hm⟩ := bnd hm
      obtain ⟨k9, hk12, hl13, hx11⟩ := getI_some hx11
      obtain ⟨b15, o16, rfl, hbb15⟩ := h1.addr (by omega)
      obtain ⟨cs10, hRcs10, hc14⟩ := h1.el hx11
      have hScs10 := hRcs10
      obtain ⟨A17, n17, c17, A18, n18, c18, rfl, ⟨h17, r17⟩, ⟨h18, r18⟩⟩ := hRcs10
      have e17 := h17.len; subst e17
      have q17 := len_le r17
      have e18 := h18.len; subst e18
      have q18 := len_le r18
      refine RL.y rfl (Y.indexAddr (m := k9) (sz := 5) s10_1 s12_1 hk12 hl13 (by kernel_rfl)) ?_
      refine RL.y rfl (Y.loadN (cs := [.int .i64 x8.kind, .int .i64 x8.level, .int .i64 x8.value, .slice A17 x8.data.length c17, .slice A18 x8.ports.length c18]) rfl (by kernel_rfl) (cells5 (eqC (cellT T (hc14 0 _ rfl))) (eqC (cellT T (hc14 1 _ rfl))) (eqC (cellT T (hc14 2 _ rfl))) (eqC (cellT T (hc14 3 _ rfl))) (eqC (cellT T (hc14 4 _ rfl))))) ?_
      refine RL.alloc (z := .agg #[.int .i64 0, .int .i64 0, .int .i64 0, .slice none 0 0, .slice none 0 0]) rfl (by kernel_rfl) (fun w19 B20 hb21 szw19 => ?_)
      replace B20 : Blk w19 w6.heap.size 89 #[.int .i64 0, .int .i64 0, .int .i64 0, .slice none 0 0, .slice none 0 0] := B20
      have GB20 : w.heap.size ≤ w6.heap.size := T.size
      have Noxs4_ob22 := OwF.far Gxs4 (Nat.le_refl _)
      have Gxs4 := OwF.below Gxs4 hb21
      have T := Tt T hb21
      refine RL.y rfl (Y.assign (v := .int .i64 i5) rfl) ?_
      refine RL.store (v := .agg #[.int .i64 x8.kind, .int .i64 x8.level, .int .i64 x8.value, .slice A17 x8.data.length c17, .slice A18 x8.ports.length c18]) (cs' := #[.int .i64 x8.kind, .int .i64 x8.level, .int .i64 x8.value, .slice A17 x8.data.length c17, .slice A18 x8.ports.length c18]) rfl rfl rfl B20 (by kernel_rfl) (by rfl) (by rfl) (by rfl) (fun w23 B24 ho25 => ?_)
      have szw23 := ho25.size
      have Gxs4 := OwF.only Gxs4 ho25 Noxs4_ob22
      have T := T.trans (ho25.below (by simp; omega))
      refine RL.nil ?_
      refine then_n ?_
      refine wp_seq ?_
      refine wp_rs rfl ?_
      refine RQ.y rfl (Y.fieldAddr (off := 4) rfl (by kernel_rfl)) ?_
      refine RQ.y rfl (Y.load (v := .slice A18 x8.ports.length c18) rfl (by kernel_rfl) (eqC (blkCell B24 (i := 4) rfl))) ?_
      refine RQ.y rfl (Y.len (by kernel_rfl) rfl) ?_
      refine RQ.y rfl (Y.move (v := .int .i64 0) rfl) ?_
      refine RQ.nil ?_
      refine then_n ?_
      refine wp_block ?_
      obtain ⟨K2, hK2, hm⟩ : ∃ K, K = (m_impl_Net_ports_A2 rec1 i5) ∧ m_impl_Net_ports_L2 i5 x8 K (x8.ports.length + 1) xs4 0 = some r := ⟨_, rfl, hm⟩
      refine wp_loopX (fun g f w' => ∃ (xs29 : List DPort) (i30 : Int) (uxs29 : Value), f 4 = .int .i64 i5 ∧ f 10 = .slice (some ⟨b15, o16, none⟩) d0.agents.length c1 ∧ f 11 = .int .i64 (d0.agents.length : Int) ∧ f 12 = .int .i64 i5 ∧ f 19 = .int .i64 (x8.ports.length : Int) ∧ f 3 = uxs29 ∧ OwF 53 encPort 2 w' w.heap.size uxs29 xs29 ∧ f 20 = .int .i64 i30 ∧ 0 ≤ i30 ∧ Below w.heap.size w w' ∧ m_impl_Net_ports_L2 i5 x8 K2 g xs29 i30 = some r) 2 (fun f w' => ∃ (xs26 : List DPort) (uxs26 : Value), f 10 = .slice (some ⟨b15, o16, none⟩) d0.agents.length c1 ∧ f 11 = .int .i64 (d0.agents.length : Int) ∧ f 12 = .int .i64 i5 ∧ f 3 = uxs26 ∧ OwF 53 encPort 2 w' w.heap.size uxs26 xs26 ∧ Below w.heap.size w w' ∧ m_impl_Net_ports_A2 rec1 i5 xs26 = some r) (x8.ports.length + 1) ⟨xs4, 0, (uxs4), rfl, s10_1, s11_1, s12_1, rfl, s3_1, Gxs4, rfl, (by omega), T, hm⟩ ?_ ?_
      · rintro f w27 ⟨xs26, uxs26, s10_2x, s11_2x, s12_2x, s3_2x, Gxs26, T, hm⟩
        unfold m_impl_Net_ports_A2 at hm
        refine blk_hit (blk_n (then_n ?_))
        refine wp_rs rfl ?_
        obtain ⟨s28, ks28, hm⟩ := bnd hm
        replace ks28 := ck_some ks28
        refine RQ.y rfl (Y.binI (v := .int .i64 s28) s12_2x rfl (by rw [binI_add ks28.2, ks28.1])) ?_
        refine RQ.y rfl (Y.move (v := .int .i64 s28) rfl) ?_
        refine RQ.nil ?_
        exact (then_n ⟨g, _, Nat.lt_succ_self _, rfl, ⟨xs26, s28, (uxs26), s10_2x, s11_2x, s3_2x, Gxs26, rfl, (by omega), T, (by rw [← hrec1]; exact hm)⟩⟩)
      · rintro g f w31 ⟨xs29, i30, uxs29, s4_2, s10_2, s11_2, s12_2, s19_2, s3_2, Gxs29, s20_2, nn20_2, T, hm⟩
        rcases g with _ | g
        · simp only [m_impl_Net_ports_L2] at hm; cases hm
        obtain ⟨rec2, hrec2, hm⟩ : ∃ z, z = m_impl_Net_ports_L2 i5 x8 K2 g ∧ m_impl_Net_ports_B2 i5 x8 z K2 xs29 i30 = some r := ⟨_, rfl, hm⟩
        unfold m_impl_Net_ports_B2 at hm
        refine wp_seq ?_
        refine wp_rs rfl ?_
        refine RQ.y rfl (Y.binI (v := .bool (decide (i30 < (x8.ports.length : Int)))) s20_2 s19_2 rfl) ?_
        refine RQ.nil ?_
        refine then_n ?_
        refine wp_seq ?_
        rcases bcases (decide (i30 < (x8.ports.length : Int))) with c32 | c32
        · replace hm := cF c32 hm
          have pc32 := of_decide_eq_false c32
          refine cond_f rfl (vb rfl c32) ?_
          refine wp_exit ?_
          exact (then_x (then_x (hit_x ⟨_, rfl, ⟨xs29, (uxs29), s10_2, s11_2, s12_2, s3_2, Gxs29, T, (by rw [hK2] at hm; exact hm)⟩⟩)))
        · replace hm := cT c32 hm
          have pc32 := of_decide_eq_true c32
          refine cond_t rfl (vb rfl c32) ?_
          refine wp_skip ?_
          refine then_n ?_
          refine wp_seq ?_
          refine wp_block ?_
          refine wp_seq ?_
          refine wp_rs rfl ?_
          refine RQ.y rfl (Y.move (v := .int .i64 i30) s20_2) ?_
          refine RQ.y rfl (Y.assign (v := .int .i64 i30) rfl) ?_
          refine RQ.nil ?_
          refine then_n ?_
          refine wp_rl rfl ?_
          refine RL.y rfl (Y.move (v := uxs29) s3_2) ?_
          refine RL.y rfl (Y.move (v := .int .i64 i5) s4_2) ?_
          refine RL.y rfl (Y.move (v := .int .i64 i30) rfl) ?_
          refine RL.y rfl (Y.build2 (cells := #[.int .i64 i5, .int .i64 i30]) rfl rfl (by kernel_rfl) (by kernel_rfl)) ?_
          refine RL.bslice (e := 53) (cells := #[.int .i64 i5, .int .i64 i30]) rfl (pm1 rfl) (by kernel_rfl) (fun w33 B34 hb35 szw33 => ?_)
          have ZB34 : w.heap.size ≤ w31.heap.size := T.size
          have Do36_oxs29 := Dj.new (v := .slice (some ⟨w31.heap.size, 0, none⟩) 1 1) litGe (OwF.hi Gxs29)
          have Gxs29 := OwF.below Gxs29 hb35
          have T := Tt T hb35
          have G37 := OwF.lit (enc := encPort) (sz := 2) (xs := [(⟨i5, i30⟩ : DPort)]) B34 ZB34 rfl rfl rfl rfl
          obtain ⟨_, m39, hm⟩ := bnd hm
          have hk40 := mustP_some m39
          refine RL.append fPort app_impl_Port rfl rfl rfl Gxs29 (OwF.arg fPort G37) T.size hk40 (fun v41 w42 G43 hgr44 hbl45 hnb46 => ?_)
          have szw42 := hbl45.size
          have T := T.trans hbl45
          refine RL.y rfl (Y.assign (v := v41) rfl) ?_
          refine RL.nil ?_
          refine blk_n (then_n ?_)
          refine wp_rs rfl ?_
          refine RQ.y rfl (Y.binI s20_2 rfl (binI_add (m := i30) (by omega))) ?_
          refine RQ.y rfl (Y.move (v := .int .i64 (i30 + 1)) rfl) ?_
          refine RQ.nil ?_
          exact (then_n ⟨g, _, Nat.lt_succ_self _, rfl, ⟨(xs29 ++ [(⟨i5, i30⟩ : DPort)]), (i30 + 1), (v41), s4_2, s10_2, s11_2, s12_2, s19_2, rfl, G43, rfl, (by omega), T, (by rw [← hrec2]; exact hm)⟩⟩)

def m_impl_Net_pairs_A1 (xs2 : List DPair) : Option (List DPair) :=
  some xs2
def m_impl_Net_pairs_B1 (d0 : DNet) (rec1 : List DPair → Int → Option (List DPair)) (K1 : List DPair → Option (List DPair)) (xs4 : List DPair) (i5 : Int) : Option (List DPair) :=
  (bif (decide (i5 < (d0.agents.length : Int))) then ((getI d0.agents i5).bind fun x8 => ((getI x8.ports 0).bind fun x26 => (bif (x26.slot == 0) then (bif (decide (x26.agent > i5)) then (bif (x8.kind != 1) then ((mustP (xs4.length + ([(⟨i5, x26.agent⟩ : DPair)]).length ≤ 4294967296)).bind fun _ => (rec1 (xs4 ++ [(⟨i5, x26.agent⟩ : DPair)]) (i5 + 1))) else (rec1 xs4 (i5 + 1))) else (rec1 xs4 (i5 + 1))) else (rec1 xs4 (i5 + 1))))) else (K1 xs4))
def m_impl_Net_pairs_L1 (d0 : DNet) (K1 : List DPair → Option (List DPair)) : Nat → List DPair → Int → Option (List DPair)
  | 0, _, _ => none
  | g + 1, xs4, i5 => m_impl_Net_pairs_B1 d0 (m_impl_Net_pairs_L1 d0 K1 g) K1 xs4 i5
def m_impl_Net_pairs (d0 : DNet) : Option (List DPair) :=
  (m_impl_Net_pairs_L1 d0 m_impl_Net_pairs_A1 (d0.agents.length + 1) ([] : List DPair) 0)
set_option maxHeartbeats 2000000 in
theorem c_m_impl_Net_pairs (d0 : DNet) (r : List DPair) (hm : m_impl_Net_pairs d0 = some r) (v0 : Value) (w : World) (hv0 : Pt netRd w v0 d0) :
    Calls Try.prog 69 #[v0] w fun e w' => (∃ v, e = .returned v ∧ OwF 81 encPair 2 w' w.heap.size v r) ∧ Below w.heap.size w w' := by
  obtain ⟨ba0, oa0, csa0, rfl, hba0, hRa0, hca0⟩ := hv0
  have hSa0 := hRa0
  obtain ⟨A1, n1, c1, rfl, ⟨h1, r1⟩⟩ := hRa0
  have e1 := h1.len; subst e1
  have q1 := len_le r1
  have T := Below.refl w.heap.size w
  unfold m_impl_Net_pairs at hm
  refine enter 44 Try.func69 rfl rfl rfl ?_
  intro f hf
  have s0 : f 0 = .pointer (some ⟨ba0, oa0, none⟩) := hf 0 _ rfl
  refine wp_seq ?_
  refine wp_rs rfl ?_
  refine RQ.y rfl (Y.assign (v := .slice none 0 0) rfl) ?_
  refine RQ.nil ?_
  refine then_n ?_
  refine wp_seq ?_
  refine wp_rs rfl ?_
  refine RQ.y rfl (Y.assign (v := .slice none 0 0) rfl) ?_
  refine RQ.nil ?_
  refine then_n ?_
  refine wp_seq ?_
  refine wp_seq ?_
  refine wp_rs rfl ?_
  refine RQ.y rfl (Y.move (v := .pointer (some ⟨ba0, oa0, none⟩)) s0) ?_
  refine RQ.y rfl (Y.nilCheck rfl) ?_
  refine RQ.y rfl (Y.fieldAddr (off := 0) rfl (by kernel_rfl)) ?_
  refine RQ.y rfl (Y.load (v := .slice A1 d0.agents.length c1) rfl (by kernel_rfl) (eqC (cellT T (hca0 0 _ rfl)))) ?_
  refine RQ.y rfl (Y.len (by kernel_rfl) rfl) ?_
  refine RQ.y rfl (Y.move (v := .int .i64 0) rfl) ?_
  refine RQ.nil ?_
  refine then_n ?_
  refine wp_block ?_
  have G61 : OwF 81 encPair 2 w w.heap.size (.slice none 0 0) ([] : List DPair) := OwF.nil
  obtain ⟨K1, hK1, hm⟩ : ∃ K, K = m_impl_Net_pairs_A1 ∧ m_impl_Net_pairs_L1 d0 K (d0.agents.length + 1) ([] : List DPair) 0 = some r := ⟨_, rfl, hm⟩
  refine wp_loopX (fun g f w' => ∃ (xs4 : List DPair) (i5 : Int) (uxs4 : Value), f 10 = .slice A1 d0.agents.length c1 ∧ f 11 = .int .i64 (d0.agents.length : Int) ∧ f 3 = uxs4 ∧ OwF 81 encPair 2 w' w.heap.size uxs4 xs4 ∧ f 12 = .int .i64 i5 ∧ 0 ≤ i5 ∧ Below w.heap.size w w' ∧ m_impl_Net_pairs_L1 d0 K1 g xs4 i5 = some r) 0 (fun f w' => ∃ (xs2 : List DPair) (uxs2 : Value), f 3 = uxs2 ∧ OwF 81 encPair 2 w' w.heap.size uxs2 xs2 ∧ Below w.heap.size w w' ∧ m_impl_Net_pairs_A1 xs2 = some r) (d0.agents.length + 1) ⟨([] : List DPair), 0, ((.slice none 0 0)), rfl, rfl, rfl, G61, rfl, (by omega), T, hm⟩ ?_ ?_
  · rintro f w3 ⟨xs2, uxs2, s3_1x, Gxs2, T, hm⟩
    unfold m_impl_Net_pairs_A1 at hm
    refine blk_hit (then_n ?_)
    refine wp_seq ?_
    refine wp_rs rfl ?_
    refine RQ.y rfl (Y.move (v := uxs2) s3_1x) ?_
    refine RQ.y rfl (Y.assign (v := uxs2) rfl) ?_
    refine RQ.nil ?_
    refine then_n ?_
    refine wp_ret ?_
    obtain rfl := Option.some.inj hm
    exact (ret1 rfl rfl rfl ⟨⟨_, rfl, Gxs2⟩, T⟩)
  · rintro g f w6 ⟨xs4, i5, uxs4, s10_1, s11_1, s3_1, Gxs4, s12_1, nn12_1, T, hm⟩
    rcases g with _ | g
    · simp only [m_impl_Net_pairs_L1] at hm; cases hm
    obtain ⟨rec1, hrec1, hm⟩ : ∃ z, z = m_impl_Net_pairs_L1 d0 K1 g ∧ m_impl_Net_pairs_B1 d0 z K1 xs4 i5 = some r := ⟨_, rfl, hm⟩
    unfold m_impl_Net_pairs_B1 at hm
    refine wp_seq ?_
    refine wp_rs rfl ?_
    refine RQ.y rfl (Y.binI (v := .bool (decide (i5 < (d0.agents.length : Int)))) s12_1 s11_1 rfl) ?_
    refine RQ.nil ?_
    refine then_n ?_
    refine wp_seq ?_
    rcases bcases (decide (i5 < (d0.agents.length : Int))) with c7 | c7
    · replace hm := cF c7 hm
      have pc7 := of_decide_eq_false c7
      refine cond_f rfl (vb rfl c7) ?_
      refine wp_exit ?_
      exact (then_x (then_x (hit_x ⟨_, rfl, ⟨xs4, (uxs4), s3_1, Gxs4, T, (by rw [hK1] at hm; exact hm)⟩⟩)))
    · replace hm := cT c7 hm
      have pc7 := of_decide_eq_true c7
      refine cond_t rfl (vb rfl c7) ?_
      refine wp_skip ?_
      refine then_n ?_
      refine wp_seq ?_
      refine wp_block ?_
      refine wp_seq ?_
      refine wp_rl rfl ?_
      refine RL.y rfl (Y.move (v := .int .i64 i5) s12_1) ?_
      obtain ⟨x8, hx11, hm⟩ := bnd hm
      obtain ⟨k9, hk12, hl13, hx11⟩ := getI_some hx11
      obtain ⟨b15, o16, rfl, hbb15⟩ := h1.addr (by omega)
      obtain ⟨cs10, hRcs10, hc14⟩ := h1.el hx11
      have hScs10 := hRcs10
      obtain ⟨A17, n17, c17, A18, n18, c18, rfl, ⟨h17, r17⟩, ⟨h18, r18⟩⟩ := hRcs10
      have e17 := h17.len; subst e17
      have q17 := len_le r17
      have e18 := h18.len; subst e18
      have q18 := len_le r18
      refine RL.y rfl (Y.indexAddr (m := k9) (sz := 5) s10_1 s12_1 hk12 hl13 (by kernel_rfl)) ?_
      refine RL.y rfl (Y.loadN (cs := [.int .i64 x8.kind, .int .i64 x8.level, .int .i64 x8.value, .slice A17 x8.data.length c17, .slice A18 x8.ports.length c18]) rfl (by kernel_rfl) (cells5 (eqC (cellT T (hc14 0 _ rfl))) (eqC (cellT T (hc14 1 _ rfl))) (eqC (cellT T (hc14 2 _ rfl))) (eqC (cellT T (hc14 3 _ rfl))) (eqC (cellT T (hc14 4 _ rfl))))) ?_
      refine RL.alloc (z := .agg #[.int .i64 0, .int .i64 0, .int .i64 0, .slice none 0 0, .slice none 0 0]) rfl (by kernel_rfl) (fun w19 B20 hb21 szw19 => ?_)
      replace B20 : Blk w19 w6.heap.size 89 #[.int .i64 0, .int .i64 0, .int .i64 0, .slice none 0 0, .slice none 0 0] := B20
      have GB20 : w.heap.size ≤ w6.heap.size := T.size
      have Noxs4_ob22 := OwF.far Gxs4 (Nat.le_refl _)
      have Gxs4 := OwF.below Gxs4 hb21
      have T := Tt T hb21
      refine RL.y rfl (Y.assign (v := .int .i64 i5) rfl) ?_
      refine RL.store (v := .agg #[.int .i64 x8.kind, .int .i64 x8.level, .int .i64 x8.value, .slice A17 x8.data.length c17, .slice A18 x8.ports.length c18]) (cs' := #[.int .i64 x8.kind, .int .i64 x8.level, .int .i64 x8.value, .slice A17 x8.data.length c17, .slice A18 x8.ports.length c18]) rfl rfl rfl B20 (by kernel_rfl) (by rfl) (by rfl) (by rfl) (fun w23 B24 ho25 => ?_)
      have szw23 := ho25.size
      have Gxs4 := OwF.only Gxs4 ho25 Noxs4_ob22
      have T := T.trans (ho25.below (by simp; omega))
      refine RL.nil ?_
      refine then_n ?_
      refine wp_seq ?_
      refine wp_rl rfl ?_
      refine RL.y rfl (Y.fieldAddr (off := 4) rfl (by kernel_rfl)) ?_
      refine RL.y rfl (Y.load (v := .slice A18 x8.ports.length c18) rfl (by kernel_rfl) (eqC (blkCell B24 (i := 4) rfl))) ?_
      obtain ⟨x26, hx29, hm⟩ := bnd hm
      obtain ⟨k27, hk30, hl31, hx29⟩ := getI_some hx29
      obtain ⟨b33, o34, rfl, hbb33⟩ := h18.addr (by omega)
      obtain ⟨cs28, hRcs28, hc32⟩ := h18.el hx29
      have hScs28 := hRcs28
      obtain rfl := hRcs28
      refine RL.y rfl (Y.indexAddr (m := k27) (sz := 2) rfl rfl hk30 hl31 (by kernel_rfl)) ?_
      refine RL.y rfl (Y.loadN (cs := [.int .i64 x26.agent, .int .i64 x26.slot]) rfl (by kernel_rfl) (cells2 (eqC (cellT T (hc32 0 _ rfl))) (eqC (cellT T (hc32 1 _ rfl))))) ?_
      refine RL.alloc (z := .agg #[.int .i64 0, .int .i64 0]) rfl (by kernel_rfl) (fun w35 B36 hb37 szw35 => ?_)
      replace B36 : Blk w35 w23.heap.size 53 #[.int .i64 0, .int .i64 0] := B36
      have GB36 : w.heap.size ≤ w23.heap.size := T.size
      have Eob38_ob22 := Nat.ne_of_lt B24.lt
      have Noxs4_ob38 := OwF.far Gxs4 (Nat.le_refl _)
      have B24 := blkT B24 hb37
      have Gxs4 := OwF.below Gxs4 hb37
      have T := Tt T hb37
      refine RL.store (v := .agg #[.int .i64 x26.agent, .int .i64 x26.slot]) (cs' := #[.int .i64 x26.agent, .int .i64 x26.slot]) rfl rfl rfl B36 (by kernel_rfl) (by rfl) (by rfl) (by rfl) (fun w39 B40 ho41 => ?_)
      have szw39 := ho41.size
      have B24 := B24.only_ ho41 (by intro hin; simp at hin; exact Eob38_ob22 hin)
      have Gxs4 := OwF.only Gxs4 ho41 Noxs4_ob38
      have T := T.trans (ho41.below (by simp; omega))
      refine RL.nil ?_
      refine then_n ?_
      refine wp_seq ?_
      refine wp_rs rfl ?_
      refine RQ.y rfl (Y.fieldAddr (off := 1) rfl (by kernel_rfl)) ?_
      refine RQ.y rfl (Y.load (v := .int .i64 x26.slot) rfl (by kernel_rfl) (eqC (blkCell B40 (i := 1) rfl))) ?_
      refine RQ.y rfl (Y.binI (v := .bool (x26.slot == 0)) rfl rfl rfl) ?_
      refine RQ.y rfl (Y.move (v := .bool (x26.slot == 0)) rfl) ?_
      rcases bcases (x26.slot == 0) with c42 | c42
      · replace hm := cF c42 hm
        refine RQ.skip (wantN (dj := 24) rfl (vb rfl c42) rfl) ?_
        refine RQ.skip (wantN (dj := 24) rfl (vb rfl c42) rfl) ?_
        refine RQ.skip (wantN (dj := 24) rfl (vb rfl c42) rfl) ?_
        refine RQ.skip (wantN (dj := 24) rfl (vb rfl c42) rfl) ?_
        refine RQ.y rfl (Y.pick (b := false) (v := .bool false) (vb rfl c42) rfl) ?_
        refine RQ.y rfl (Y.move (v := .bool false) rfl) ?_
        refine RQ.skip (wantN (dj := 30) rfl rfl rfl) ?_
        refine RQ.skip (wantN (dj := 30) rfl rfl rfl) ?_
        refine RQ.skip (wantN (dj := 30) rfl rfl rfl) ?_
        refine RQ.y rfl (Y.pick (b := false) (v := .bool false) rfl rfl) ?_
        refine RQ.nil ?_
        refine then_n ?_
        refine cond_f rfl rfl ?_
        refine wp_skip ?_
        refine blk_n (then_n ?_)
        refine wp_rs rfl ?_
        refine RQ.y rfl (Y.binI s12_1 rfl (binI_add (m := i5) (by omega))) ?_
        refine RQ.y rfl (Y.move (v := .int .i64 (i5 + 1)) rfl) ?_
        refine RQ.nil ?_
        exact (then_n ⟨g, _, Nat.lt_succ_self _, rfl, ⟨xs4, (i5 + 1), (uxs4), s10_1, s11_1, s3_1, Gxs4, rfl, (by omega), T, (by rw [← hrec1]; exact hm)⟩⟩)
      · replace hm := cT c42 hm
        refine RQ.y (wantT (dj := 24) rfl (vb rfl c42)) (Y.fieldAddr (off := 0) rfl (by kernel_rfl)) ?_
        refine RQ.y (wantT (dj := 24) rfl (vb rfl c42)) (Y.load (v := .int .i64 x26.agent) rfl (by kernel_rfl) (eqC (blkCell B40 (i := 0) rfl))) ?_
        refine RQ.y (wantT (dj := 24) rfl (vb rfl c42)) (Y.move (v := .int .i64 i5) rfl) ?_
        refine RQ.y (wantT (dj := 24) rfl (vb rfl c42)) (Y.binI (v := .bool (decide (x26.agent > i5))) rfl rfl rfl) ?_
        refine RQ.y rfl (Y.pick (b := true) (v := .bool (decide (x26.agent > i5))) (vb rfl c42) rfl) ?_
        refine RQ.y rfl (Y.move (v := .bool (decide (x26.agent > i5))) rfl) ?_
        rcases bcases (decide (x26.agent > i5)) with c43 | c43
        · replace hm := cF c43 hm
          have pc43 := of_decide_eq_false c43
          refine RQ.skip (wantN (dj := 30) rfl (vb rfl c43) rfl) ?_
          refine RQ.skip (wantN (dj := 30) rfl (vb rfl c43) rfl) ?_
          refine RQ.skip (wantN (dj := 30) rfl (vb rfl c43) rfl) ?_
          refine RQ.y rfl (Y.pick (b := false) (v := .bool false) (vb rfl c43) rfl) ?_
          refine RQ.nil ?_
          refine then_n ?_
          refine cond_f rfl rfl ?_
          refine wp_skip ?_
          refine blk_n (then_n ?_)
          refine wp_rs rfl ?_
          refine RQ.y rfl (Y.binI s12_1 rfl (binI_add (m := i5) (by omega))) ?_
          refine RQ.y rfl (Y.move (v := .int .i64 (i5 + 1)) rfl) ?_
          refine RQ.nil ?_
          exact (then_n ⟨g, _, Nat.lt_succ_self _, rfl, ⟨xs4, (i5 + 1), (uxs4), s10_1, s11_1, s3_1, Gxs4, rfl, (by omega), T, (by rw [← hrec1]; exact hm)⟩⟩)
        · replace hm := cT c43 hm
          have pc43 := of_decide_eq_true c43
          refine RQ.y (wantT (dj := 30) rfl (vb rfl c43)) (Y.fieldAddr (off := 0) rfl (by kernel_rfl)) ?_
          refine RQ.y (wantT (dj := 30) rfl (vb rfl c43)) (Y.load (v := .int .i64 x8.kind) rfl (by kernel_rfl) (eqC (blkCell B24 (i := 0) rfl))) ?_
          refine RQ.y (wantT (dj := 30) rfl (vb rfl c43)) (Y.binI (v := .bool (x8.kind != 1)) rfl rfl rfl) ?_
          refine RQ.y rfl (Y.pick (b := true) (v := .bool (x8.kind != 1)) (vb rfl c43) rfl) ?_
          refine RQ.nil ?_
          refine then_n ?_
          rcases bcases (x8.kind != 1) with c44 | c44
          · replace hm := cF c44 hm
            refine cond_f rfl (vb rfl c44) ?_
            refine wp_skip ?_
            refine blk_n (then_n ?_)
            refine wp_rs rfl ?_
            refine RQ.y rfl (Y.binI s12_1 rfl (binI_add (m := i5) (by omega))) ?_
            refine RQ.y rfl (Y.move (v := .int .i64 (i5 + 1)) rfl) ?_
            refine RQ.nil ?_
            exact (then_n ⟨g, _, Nat.lt_succ_self _, rfl, ⟨xs4, (i5 + 1), (uxs4), s10_1, s11_1, s3_1, Gxs4, rfl, (by omega), T, (by rw [← hrec1]; exact hm)⟩⟩)
          · replace hm := cT c44 hm
            refine cond_t rfl (vb rfl c44) ?_
            refine wp_rl rfl ?_
            refine RL.y rfl (Y.move (v := uxs4) s3_1) ?_
            refine RL.y rfl (Y.move (v := .int .i64 i5) rfl) ?_
            refine RL.y rfl (Y.fieldAddr (off := 0) rfl (by kernel_rfl)) ?_
            refine RL.y rfl (Y.load (v := .int .i64 x26.agent) rfl (by kernel_rfl) (eqC (blkCell B40 (i := 0) rfl))) ?_
            refine RL.y rfl (Y.build2 (cells := #[.int .i64 i5, .int .i64 x26.agent]) rfl rfl (by kernel_rfl) (by kernel_rfl)) ?_
            refine RL.bslice (e := 81) (cells := #[.int .i64 i5, .int .i64 x26.agent]) rfl (pm1 rfl) (by kernel_rfl) (fun w45 B46 hb47 szw45 => ?_)
            have ZB46 : w.heap.size ≤ w39.heap.size := T.size
            have No48_ob38 := litNe (n := 1) (c := 1) B40.lt
            have Do48_oxs4 := Dj.new (v := .slice (some ⟨w39.heap.size, 0, none⟩) 1 1) litGe (OwF.hi Gxs4)
            have B40 := blkT B40 hb47
            have Gxs4 := OwF.below Gxs4 hb47
            have T := Tt T hb47
            have G49 := OwF.lit (enc := encPair) (sz := 2) (xs := [(⟨i5, x26.agent⟩ : DPair)]) B46 ZB46 rfl rfl rfl rfl
            obtain ⟨_, m51, hm⟩ := bnd hm
            have hk52 := mustP_some m51
            refine RL.append fPair app_impl_Pair rfl rfl rfl Gxs4 (OwF.arg fPair G49) T.size hk52 (fun v53 w54 G55 hgr56 hbl57 hnb58 => ?_)
            have szw54 := hbl57.size
            have No59_ob38 := ne_app hnb58 Noxs4_ob38 B40.lt
            have B40 := Blk.kept B40 hgr56 Noxs4_ob38
            have T := T.trans hbl57
            refine RL.y rfl (Y.assign (v := v53) rfl) ?_
            refine RL.nil ?_
            refine blk_n (then_n ?_)
            refine wp_rs rfl ?_
            refine RQ.y rfl (Y.binI s12_1 rfl (binI_add (m := i5) (by omega))) ?_
            refine RQ.y rfl (Y.move (v := .int .i64 (i5 + 1)) rfl) ?_
            refine RQ.nil ?_
            exact (then_n ⟨g, _, Nat.lt_succ_self _, rfl, ⟨(xs4 ++ [(⟨i5, x26.agent⟩ : DPair)]), (i5 + 1), (v53), s10_1, s11_1, rfl, G55, rfl, (by omega), T, (by rw [← hrec1]; exact hm)⟩⟩)

def m_spec_l11Pairs_A1 (xs8 : List DPair) : Option (List DPair) :=
  some xs8
def m_spec_l11Pairs_B1 (d0 : DNet) (rec1 : List DPair → Int → Option (List DPair)) (K1 : List DPair → Option (List DPair)) (xs10 : List DPair) (i11 : Int) : Option (List DPair) :=
  (bif (decide (i11 < (d0.agents.length : Int))) then ((getI d0.agents i11).bind fun x14 => (bif (x14.kind == 0) then (rec1 xs10 (i11 + 1)) else ((getI d0.agents i11).bind fun x26 => ((getI x26.ports 0).bind fun x35 => (bif (x35.slot == 0) then (bif (decide (x35.agent > i11)) then ((mustP (xs10.length + ([(⟨i11, x35.agent⟩ : DPair)]).length ≤ 4294967296)).bind fun _ => (rec1 (xs10 ++ [(⟨i11, x35.agent⟩ : DPair)]) (i11 + 1))) else (rec1 xs10 (i11 + 1))) else (rec1 xs10 (i11 + 1))))))) else (K1 xs10))
def m_spec_l11Pairs_L1 (d0 : DNet) (K1 : List DPair → Option (List DPair)) : Nat → List DPair → Int → Option (List DPair)
  | 0, _, _ => none
  | g + 1, xs10, i11 => m_spec_l11Pairs_B1 d0 (m_spec_l11Pairs_L1 d0 K1 g) K1 xs10 i11
def m_spec_l11Pairs (d0 : DNet) : Option (List DPair) :=
  (m_spec_l11Pairs_L1 d0 m_spec_l11Pairs_A1 (d0.agents.length + 1) ([] : List DPair) 1)
set_option maxHeartbeats 2000000 in
theorem c_m_spec_l11Pairs (d0 : DNet) (r : List DPair) (hm : m_spec_l11Pairs d0 = some r) (v0 : Value) (w : World) (hv0 : Pt netRd w v0 d0) :
    Calls Try.prog 67 #[v0] w fun e w' => (∃ v, e = .returned v ∧ OwF 81 encPair 2 w' w.heap.size v r) ∧ Below w.heap.size w w' := by
  obtain ⟨ba0, oa0, csa0, rfl, hba0, hRa0, hca0⟩ := hv0
  have hSa0 := hRa0
  obtain ⟨A1, n1, c1, rfl, ⟨h1, r1⟩⟩ := hRa0
  have e1 := h1.len; subst e1
  have q1 := len_le r1
  have T := Below.refl w.heap.size w
  unfold m_spec_l11Pairs at hm
  refine enter 52 Try.func67 rfl rfl rfl ?_
  intro f hf
  have s0 : f 0 = .pointer (some ⟨ba0, oa0, none⟩) := hf 0 _ rfl
  refine wp_seq ?_
  refine wp_rs rfl ?_
  refine RQ.y rfl (Y.assign (v := .slice none 0 0) rfl) ?_
  refine RQ.nil ?_
  refine then_n ?_
  refine wp_seq ?_
  refine wp_rl rfl ?_
  refine RL.bslice (e := 81) (cells := #[]) rfl pm0 (by kernel_rfl) (fun w2 B3 hb4 szw2 => ?_)
  have ZB3 : w.heap.size ≤ w.heap.size := T.size
  have T := Tt T hb4
  have G6 := OwF.lit (enc := encPair) (sz := 2) (xs := ([] : List DPair)) B3 ZB3 rfl rfl rfl rfl
  refine RL.y rfl (Y.assign (v := .slice (some ⟨w.heap.size, 0, none⟩) 0 0) rfl) ?_
  refine RL.nil ?_
  refine then_n ?_
  refine wp_seq ?_
  refine wp_seq ?_
  refine wp_rs rfl ?_
  refine RQ.y rfl (Y.assign (v := .int .i64 1) rfl) ?_
  refine RQ.nil ?_
  refine then_n ?_
  refine wp_block ?_
  obtain ⟨K1, hK1, hm⟩ : ∃ K, K = m_spec_l11Pairs_A1 ∧ m_spec_l11Pairs_L1 d0 K (d0.agents.length + 1) ([] : List DPair) 1 = some r := ⟨_, rfl, hm⟩
  refine wp_loopX (fun g f w' => ∃ (xs10 : List DPair) (i11 : Int) (uxs10 : Value), f 0 = .pointer (some ⟨ba0, oa0, none⟩) ∧ f 3 = uxs10 ∧ OwF 81 encPair 2 w' w.heap.size uxs10 xs10 ∧ f 4 = .int .i64 i11 ∧ 0 ≤ i11 ∧ Below w.heap.size w w' ∧ m_spec_l11Pairs_L1 d0 K1 g xs10 i11 = some r) 0 (fun f w' => ∃ (xs8 : List DPair) (uxs8 : Value), f 3 = uxs8 ∧ OwF 81 encPair 2 w' w.heap.size uxs8 xs8 ∧ Below w.heap.size w w' ∧ m_spec_l11Pairs_A1 xs8 = some r) (d0.agents.length + 1) ⟨([] : List DPair), 1, (.slice (some ⟨w.heap.size, 0, none⟩) 0 0), s0, rfl, G6, rfl, (by omega), T, hm⟩ ?_ ?_
  · rintro f w9 ⟨xs8, uxs8, s3_1x, Gxs8, T, hm⟩
    unfold m_spec_l11Pairs_A1 at hm
    refine blk_hit (then_n ?_)
    refine wp_seq ?_
    refine wp_rs rfl ?_
    refine RQ.y rfl (Y.move (v := uxs8) s3_1x) ?_
    refine RQ.y rfl (Y.assign (v := uxs8) rfl) ?_
    refine RQ.nil ?_
    refine then_n ?_
    refine wp_ret ?_
    obtain rfl := Option.some.inj hm
    exact (ret1 rfl rfl rfl ⟨⟨_, rfl, Gxs8⟩, T⟩)
  · rintro g f w12 ⟨xs10, i11, uxs10, s0_1, s3_1, Gxs10, s4_1, nn4_1, T, hm⟩
    rcases g with _ | g
    · simp only [m_spec_l11Pairs_L1] at hm; cases hm
    obtain ⟨rec1, hrec1, hm⟩ : ∃ z, z = m_spec_l11Pairs_L1 d0 K1 g ∧ m_spec_l11Pairs_B1 d0 z K1 xs10 i11 = some r := ⟨_, rfl, hm⟩
    unfold m_spec_l11Pairs_B1 at hm
    refine wp_seq ?_
    refine wp_seq ?_
    refine wp_rs rfl ?_
    refine RQ.y rfl (Y.move (v := .int .i64 i11) s4_1) ?_
    refine RQ.y rfl (Y.move (v := .pointer (some ⟨ba0, oa0, none⟩)) s0_1) ?_
    refine RQ.y rfl (Y.nilCheck rfl) ?_
    refine RQ.y rfl (Y.fieldAddr (off := 0) rfl (by kernel_rfl)) ?_
    refine RQ.y rfl (Y.load (v := .slice A1 d0.agents.length c1) rfl (by kernel_rfl) (eqC (cellT T (hca0 0 _ rfl)))) ?_
    refine RQ.y rfl (Y.len (by kernel_rfl) rfl) ?_
    refine RQ.y rfl (Y.binI (v := .bool (decide (i11 < (d0.agents.length : Int)))) rfl rfl rfl) ?_
    refine RQ.nil ?_
    refine then_n ?_
    rcases bcases (decide (i11 < (d0.agents.length : Int))) with c13 | c13
    · replace hm := cF c13 hm
      have pc13 := of_decide_eq_false c13
      refine cond_f rfl (vb rfl c13) ?_
      refine wp_exit ?_
      exact (then_x (then_x (hit_x ⟨_, rfl, ⟨xs10, (uxs10), s3_1, Gxs10, T, (by rw [hK1] at hm; exact hm)⟩⟩)))
    · replace hm := cT c13 hm
      have pc13 := of_decide_eq_true c13
      refine cond_t rfl (vb rfl c13) ?_
      refine wp_skip ?_
      refine then_n ?_
      refine wp_seq ?_
      refine wp_block ?_
      refine wp_seq ?_
      refine wp_seq ?_
      refine wp_rs rfl ?_
      refine RQ.y rfl (Y.move (v := .pointer (some ⟨ba0, oa0, none⟩)) s0_1) ?_
      refine RQ.y rfl (Y.nilCheck rfl) ?_
      refine RQ.y rfl (Y.fieldAddr (off := 0) rfl (by kernel_rfl)) ?_
      refine RQ.y rfl (Y.load (v := .slice A1 d0.agents.length c1) rfl (by kernel_rfl) (eqC (cellT T (hca0 0 _ rfl)))) ?_
      refine RQ.y rfl (Y.move (v := .int .i64 i11) s4_1) ?_
      obtain ⟨x14, hx17, hm⟩ := bnd hm
      obtain ⟨k15, hk18, hl19, hx17⟩ := getI_some hx17
      obtain ⟨b21, o22, rfl, hbb21⟩ := h1.addr (by omega)
      obtain ⟨cs16, hRcs16, hc20⟩ := h1.el hx17
      have hScs16 := hRcs16
      obtain ⟨A23, n23, c23, A24, n24, c24, rfl, ⟨h23, r23⟩, ⟨h24, r24⟩⟩ := hRcs16
      have e23 := h23.len; subst e23
      have q23 := len_le r23
      have e24 := h24.len; subst e24
      have q24 := len_le r24
      refine RQ.y rfl (Y.indexAddr (m := k15) (sz := 5) rfl rfl hk18 hl19 (by kernel_rfl)) ?_
      refine RQ.y rfl (Y.fieldAddr (off := 0) rfl (by kernel_rfl)) ?_
      refine RQ.y rfl (Y.load (v := .int .i64 x14.kind) rfl (by kernel_rfl) (eqC (cellT T (hc20 0 _ rfl)))) ?_
      refine RQ.y rfl (Y.binI (v := .bool (x14.kind == 0)) rfl rfl rfl) ?_
      refine RQ.nil ?_
      refine then_n ?_
      rcases bcases (x14.kind == 0) with c25 | c25
      · replace hm := cF c25 hm
        refine cond_f rfl (vb rfl c25) ?_
        refine wp_skip ?_
        refine then_n ?_
        refine wp_seq ?_
        refine wp_rl rfl ?_
        refine RL.y rfl (Y.move (v := .pointer (some ⟨ba0, oa0, none⟩)) s0_1) ?_
        refine RL.y rfl (Y.nilCheck rfl) ?_
        refine RL.y rfl (Y.fieldAddr (off := 0) rfl (by kernel_rfl)) ?_
        refine RL.y rfl (Y.load (v := .slice (some ⟨b21, o22, none⟩) d0.agents.length c1) rfl (by kernel_rfl) (eqC (cellT T (hca0 0 _ rfl)))) ?_
        refine RL.y rfl (Y.move (v := .int .i64 i11) s4_1) ?_
        obtain ⟨x26, hx29, hm⟩ := bnd hm
        obtain ⟨k27, hk30, hl31, hx29⟩ := getI_some hx29
        obtain ⟨cs28, hRcs28, hc32⟩ := h1.el hx29
        have hScs28 := hRcs28
        obtain ⟨A33, n33, c33, A34, n34, c34, rfl, ⟨h33, r33⟩, ⟨h34, r34⟩⟩ := hRcs28
        have e33 := h33.len; subst e33
        have q33 := len_le r33
        have e34 := h34.len; subst e34
        have q34 := len_le r34
        refine RL.y rfl (Y.indexAddr (m := k27) (sz := 5) rfl rfl hk30 hl31 (by kernel_rfl)) ?_
        refine RL.y rfl (Y.fieldAddr (off := 4) rfl (by kernel_rfl)) ?_
        refine RL.y rfl (Y.load (v := .slice A34 x26.ports.length c34) rfl (by kernel_rfl) (eqC (cellT T (hc32 4 _ rfl)))) ?_
        obtain ⟨x35, hx38, hm⟩ := bnd hm
        obtain ⟨k36, hk39, hl40, hx38⟩ := getI_some hx38
        obtain ⟨b42, o43, rfl, hbb42⟩ := h34.addr (by omega)
        obtain ⟨cs37, hRcs37, hc41⟩ := h34.el hx38
        have hScs37 := hRcs37
        obtain rfl := hRcs37
        refine RL.y rfl (Y.indexAddr (m := k36) (sz := 2) rfl rfl hk39 hl40 (by kernel_rfl)) ?_
        refine RL.y rfl (Y.loadN (cs := [.int .i64 x35.agent, .int .i64 x35.slot]) rfl (by kernel_rfl) (cells2 (eqC (cellT T (hc41 0 _ rfl))) (eqC (cellT T (hc41 1 _ rfl))))) ?_
        refine RL.alloc (z := .agg #[.int .i64 0, .int .i64 0]) rfl (by kernel_rfl) (fun w44 B45 hb46 szw44 => ?_)
        replace B45 : Blk w44 w12.heap.size 53 #[.int .i64 0, .int .i64 0] := B45
        have GB45 : w.heap.size ≤ w12.heap.size := T.size
        have Noxs10_ob47 := OwF.far Gxs10 (Nat.le_refl _)
        have Gxs10 := OwF.below Gxs10 hb46
        have T := Tt T hb46
        refine RL.store (v := .agg #[.int .i64 x35.agent, .int .i64 x35.slot]) (cs' := #[.int .i64 x35.agent, .int .i64 x35.slot]) rfl rfl rfl B45 (by kernel_rfl) (by rfl) (by rfl) (by rfl) (fun w48 B49 ho50 => ?_)
        have szw48 := ho50.size
        have Gxs10 := OwF.only Gxs10 ho50 Noxs10_ob47
        have T := T.trans (ho50.below (by simp; omega))
        refine RL.nil ?_
        refine then_n ?_
        refine wp_seq ?_
        refine wp_rs rfl ?_
        refine RQ.y rfl (Y.fieldAddr (off := 1) rfl (by kernel_rfl)) ?_
        refine RQ.y rfl (Y.load (v := .int .i64 x35.slot) rfl (by kernel_rfl) (eqC (blkCell B49 (i := 1) rfl))) ?_
        refine RQ.y rfl (Y.binI (v := .bool (x35.slot == 0)) rfl rfl rfl) ?_
        refine RQ.y rfl (Y.move (v := .bool (x35.slot == 0)) rfl) ?_
        rcases bcases (x35.slot == 0) with c51 | c51
        · replace hm := cF c51 hm
          refine RQ.skip (wantN (dj := 38) rfl (vb rfl c51) rfl) ?_
          refine RQ.skip (wantN (dj := 38) rfl (vb rfl c51) rfl) ?_
          refine RQ.skip (wantN (dj := 38) rfl (vb rfl c51) rfl) ?_
          refine RQ.skip (wantN (dj := 38) rfl (vb rfl c51) rfl) ?_
          refine RQ.y rfl (Y.pick (b := false) (v := .bool false) (vb rfl c51) rfl) ?_
          refine RQ.nil ?_
          refine then_n ?_
          refine cond_f rfl rfl ?_
          refine wp_skip ?_
          refine blk_n (then_n ?_)
          refine wp_rs rfl ?_
          refine RQ.y rfl (Y.move (v := .int .i64 i11) s4_1) ?_
          refine RQ.y rfl (Y.binI rfl rfl (binI_add (m := i11) (by omega))) ?_
          refine RQ.y rfl (Y.assign (v := .int .i64 (i11 + 1)) rfl) ?_
          refine RQ.nil ?_
          exact (then_n ⟨g, _, Nat.lt_succ_self _, rfl, ⟨xs10, (i11 + 1), (uxs10), s0_1, s3_1, Gxs10, rfl, (by omega), T, (by rw [← hrec1]; exact hm)⟩⟩)
        · replace hm := cT c51 hm
          refine RQ.y (wantT (dj := 38) rfl (vb rfl c51)) (Y.fieldAddr (off := 0) rfl (by kernel_rfl)) ?_
          refine RQ.y (wantT (dj := 38) rfl (vb rfl c51)) (Y.load (v := .int .i64 x35.agent) rfl (by kernel_rfl) (eqC (blkCell B49 (i := 0) rfl))) ?_
          refine RQ.y (wantT (dj := 38) rfl (vb rfl c51)) (Y.move (v := .int .i64 i11) s4_1) ?_
          refine RQ.y (wantT (dj := 38) rfl (vb rfl c51)) (Y.binI (v := .bool (decide (x35.agent > i11))) rfl rfl rfl) ?_
          refine RQ.y rfl (Y.pick (b := true) (v := .bool (decide (x35.agent > i11))) (vb rfl c51) rfl) ?_
          refine RQ.nil ?_
          refine then_n ?_
          rcases bcases (decide (x35.agent > i11)) with c52 | c52
          · replace hm := cF c52 hm
            have pc52 := of_decide_eq_false c52
            refine cond_f rfl (vb rfl c52) ?_
            refine wp_skip ?_
            refine blk_n (then_n ?_)
            refine wp_rs rfl ?_
            refine RQ.y rfl (Y.move (v := .int .i64 i11) s4_1) ?_
            refine RQ.y rfl (Y.binI rfl rfl (binI_add (m := i11) (by omega))) ?_
            refine RQ.y rfl (Y.assign (v := .int .i64 (i11 + 1)) rfl) ?_
            refine RQ.nil ?_
            exact (then_n ⟨g, _, Nat.lt_succ_self _, rfl, ⟨xs10, (i11 + 1), (uxs10), s0_1, s3_1, Gxs10, rfl, (by omega), T, (by rw [← hrec1]; exact hm)⟩⟩)
          · replace hm := cT c52 hm
            have pc52 := of_decide_eq_true c52
            refine cond_t rfl (vb rfl c52) ?_
            refine wp_rl rfl ?_
            refine RL.y rfl (Y.move (v := uxs10) s3_1) ?_
            refine RL.y rfl (Y.move (v := .int .i64 i11) s4_1) ?_
            refine RL.y rfl (Y.fieldAddr (off := 0) rfl (by kernel_rfl)) ?_
            refine RL.y rfl (Y.load (v := .int .i64 x35.agent) rfl (by kernel_rfl) (eqC (blkCell B49 (i := 0) rfl))) ?_
            refine RL.y rfl (Y.build2 (cells := #[.int .i64 i11, .int .i64 x35.agent]) rfl rfl (by kernel_rfl) (by kernel_rfl)) ?_
            refine RL.bslice (e := 81) (cells := #[.int .i64 i11, .int .i64 x35.agent]) rfl (pm1 rfl) (by kernel_rfl) (fun w53 B54 hb55 szw53 => ?_)
            have ZB54 : w.heap.size ≤ w48.heap.size := T.size
            have No56_ob47 := litNe (n := 1) (c := 1) B49.lt
            have Do56_oxs10 := Dj.new (v := .slice (some ⟨w48.heap.size, 0, none⟩) 1 1) litGe (OwF.hi Gxs10)
            have B49 := blkT B49 hb55
            have Gxs10 := OwF.below Gxs10 hb55
            have T := Tt T hb55
            have G57 := OwF.lit (enc := encPair) (sz := 2) (xs := [(⟨i11, x35.agent⟩ : DPair)]) B54 ZB54 rfl rfl rfl rfl
            obtain ⟨_, m59, hm⟩ := bnd hm
            have hk60 := mustP_some m59
            refine RL.append fPair app_impl_Pair rfl rfl rfl Gxs10 (OwF.arg fPair G57) T.size hk60 (fun v61 w62 G63 hgr64 hbl65 hnb66 => ?_)
            have szw62 := hbl65.size
            have No67_ob47 := ne_app hnb66 Noxs10_ob47 B49.lt
            have B49 := Blk.kept B49 hgr64 Noxs10_ob47
            have T := T.trans hbl65
            refine RL.y rfl (Y.assign (v := v61) rfl) ?_
            refine RL.nil ?_
            refine blk_n (then_n ?_)
            refine wp_rs rfl ?_
            refine RQ.y rfl (Y.move (v := .int .i64 i11) s4_1) ?_
            refine RQ.y rfl (Y.binI rfl rfl (binI_add (m := i11) (by omega))) ?_
            refine RQ.y rfl (Y.assign (v := .int .i64 (i11 + 1)) rfl) ?_
            refine RQ.nil ?_
            exact (then_n ⟨g, _, Nat.lt_succ_self _, rfl, ⟨(xs10 ++ [(⟨i11, x35.agent⟩ : DPair)]), (i11 + 1), (v61), s0_1, rfl, G63, rfl, (by omega), T, (by rw [← hrec1]; exact hm)⟩⟩)
      · replace hm := cT c25 hm
        refine cond_t rfl (vb rfl c25) ?_
        refine wp_exit ?_
        refine then_x (blk_hit (then_n ?_))
        refine wp_rs rfl ?_
        refine RQ.y rfl (Y.move (v := .int .i64 i11) s4_1) ?_
        refine RQ.y rfl (Y.binI rfl rfl (binI_add (m := i11) (by omega))) ?_
        refine RQ.y rfl (Y.assign (v := .int .i64 (i11 + 1)) rfl) ?_
        refine RQ.nil ?_
        exact (then_n ⟨g, _, Nat.lt_succ_self _, rfl, ⟨xs10, (i11 + 1), (uxs10), s0_1, s3_1, Gxs10, rfl, (by omega), T, (by rw [← hrec1]; exact hm)⟩⟩)

def m_impl_Port_before (d0 : DPort) (d1 : DPort) : Option Bool :=
  (bif (decide (d0.agent < d1.agent)) then some true else (bif (d0.agent == d1.agent) then some (decide (d0.slot < d1.slot)) else some false))
set_option maxHeartbeats 2000000 in
theorem c_m_impl_Port_before (d0 : DPort) (d1 : DPort) (r : Bool) (hm : m_impl_Port_before d0 d1 = some r)  (w : World)  :
    Calls Try.prog 141 #[.agg #[.int .i64 d0.agent, .int .i64 d0.slot], .agg #[.int .i64 d1.agent, .int .i64 d1.slot]] w fun e w' => e = .returned (.bool r) ∧ Below w.heap.size w w' := by
  have T := Below.refl w.heap.size w
  unfold m_impl_Port_before at hm
  refine enter 24 Try.func141 rfl rfl rfl ?_
  intro f hf
  have s0 : f 0 = .agg #[.int .i64 d0.agent, .int .i64 d0.slot] := hf 0 _ rfl
  have s1 : f 1 = .agg #[.int .i64 d1.agent, .int .i64 d1.slot] := hf 1 _ rfl
  refine wp_seq ?_
  refine wp_rl rfl ?_
  refine RL.box rfl s0 (fun w1 B2 hb3 szw1 => ?_)
  replace B2 : Blk w1 w.heap.size 53 #[.int .i64 d0.agent, .int .i64 d0.slot] := B2
  have GB2 : w.heap.size ≤ w.heap.size := T.size
  have T := Tt T hb3
  refine RL.box rfl s1 (fun w5 B6 hb7 szw5 => ?_)
  replace B6 : Blk w5 w1.heap.size 53 #[.int .i64 d1.agent, .int .i64 d1.slot] := B6
  have GB6 : w.heap.size ≤ w1.heap.size := T.size
  have Eob8_ob4 := Nat.ne_of_lt B2.lt
  have B2 := blkT B2 hb7
  have T := Tt T hb7
  refine RL.y rfl (Y.assign (v := .bool false) rfl) ?_
  refine RL.nil ?_
  refine then_n ?_
  refine wp_seq ?_
  refine wp_rs rfl ?_
  refine RQ.y rfl (Y.fieldAddr (off := 0) rfl (by kernel_rfl)) ?_
  refine RQ.y rfl (Y.load (v := .int .i64 d0.agent) rfl (by kernel_rfl) (eqC (blkCell B2 (i := 0) rfl))) ?_
  refine RQ.y rfl (Y.fieldAddr (off := 0) rfl (by kernel_rfl)) ?_
  refine RQ.y rfl (Y.load (v := .int .i64 d1.agent) rfl (by kernel_rfl) (eqC (blkCell B6 (i := 0) rfl))) ?_
  refine RQ.y rfl (Y.binI (v := .bool (decide (d0.agent < d1.agent))) rfl rfl rfl) ?_
  refine RQ.y rfl (Y.move (v := .bool (decide (d0.agent < d1.agent))) rfl) ?_
  rcases bcases (decide (d0.agent < d1.agent)) with c9 | c9
  · replace hm := cF c9 hm
    have pc9 := of_decide_eq_false c9
    refine RQ.y (wantT (dj := 10) rfl (vb rfl c9)) (Y.fieldAddr (off := 0) rfl (by kernel_rfl)) ?_
    refine RQ.y (wantT (dj := 10) rfl (vb rfl c9)) (Y.load (v := .int .i64 d0.agent) rfl (by kernel_rfl) (eqC (blkCell B2 (i := 0) rfl))) ?_
    refine RQ.y (wantT (dj := 10) rfl (vb rfl c9)) (Y.fieldAddr (off := 0) rfl (by kernel_rfl)) ?_
    refine RQ.y (wantT (dj := 10) rfl (vb rfl c9)) (Y.load (v := .int .i64 d1.agent) rfl (by kernel_rfl) (eqC (blkCell B6 (i := 0) rfl))) ?_
    refine RQ.y (wantT (dj := 10) rfl (vb rfl c9)) (Y.binI (v := .bool (d0.agent == d1.agent)) rfl rfl rfl) ?_
    refine RQ.y (wantT (dj := 10) rfl (vb rfl c9)) (Y.move (v := .bool (d0.agent == d1.agent)) rfl) ?_
    rcases bcases (d0.agent == d1.agent) with c10 | c10
    · replace hm := cF c10 hm
      refine RQ.skip (wantN (dj := 16) rfl (vb rfl c10) rfl) ?_
      refine RQ.skip (wantN (dj := 16) rfl (vb rfl c10) rfl) ?_
      refine RQ.skip (wantN (dj := 16) rfl (vb rfl c10) rfl) ?_
      refine RQ.skip (wantN (dj := 16) rfl (vb rfl c10) rfl) ?_
      refine RQ.skip (wantN (dj := 16) rfl (vb rfl c10) rfl) ?_
      refine RQ.y (wantT (dj := 10) rfl (vb rfl c9)) (Y.pick (b := false) (v := .bool false) (vb rfl c10) rfl) ?_
      refine RQ.y rfl (Y.pick (b := false) (v := .bool false) (vb rfl c9) rfl) ?_
      refine RQ.y rfl (Y.assign (v := .bool false) rfl) ?_
      refine RQ.nil ?_
      refine then_n ?_
      refine wp_ret ?_
      obtain rfl := Option.some.inj hm
      exact (ret1 rfl rfl rfl ⟨rfl, T⟩)
    · replace hm := cT c10 hm
      refine RQ.y (wantT (dj := 16) rfl (vb rfl c10)) (Y.fieldAddr (off := 1) rfl (by kernel_rfl)) ?_
      refine RQ.y (wantT (dj := 16) rfl (vb rfl c10)) (Y.load (v := .int .i64 d0.slot) rfl (by kernel_rfl) (eqC (blkCell B2 (i := 1) rfl))) ?_
      refine RQ.y (wantT (dj := 16) rfl (vb rfl c10)) (Y.fieldAddr (off := 1) rfl (by kernel_rfl)) ?_
      refine RQ.y (wantT (dj := 16) rfl (vb rfl c10)) (Y.load (v := .int .i64 d1.slot) rfl (by kernel_rfl) (eqC (blkCell B6 (i := 1) rfl))) ?_
      refine RQ.y (wantT (dj := 16) rfl (vb rfl c10)) (Y.binI (v := .bool (decide (d0.slot < d1.slot))) rfl rfl rfl) ?_
      refine RQ.y (wantT (dj := 10) rfl (vb rfl c9)) (Y.pick (b := true) (v := .bool (decide (d0.slot < d1.slot))) (vb rfl c10) rfl) ?_
      refine RQ.y rfl (Y.pick (b := false) (v := .bool (decide (d0.slot < d1.slot))) (vb rfl c9) rfl) ?_
      refine RQ.y rfl (Y.assign (v := .bool (decide (d0.slot < d1.slot))) rfl) ?_
      refine RQ.nil ?_
      refine then_n ?_
      refine wp_ret ?_
      obtain rfl := Option.some.inj hm
      exact (ret1 rfl rfl rfl ⟨rfl, T⟩)
  · replace hm := cT c9 hm
    have pc9 := of_decide_eq_true c9
    refine RQ.skip (wantN (dj := 10) rfl (vb rfl c9) rfl) ?_
    refine RQ.skip (wantN (dj := 10) rfl (vb rfl c9) rfl) ?_
    refine RQ.skip (wantN (dj := 10) rfl (vb rfl c9) rfl) ?_
    refine RQ.skip (wantN (dj := 10) rfl (vb rfl c9) rfl) ?_
    refine RQ.skip (wantN (dj := 10) rfl (vb rfl c9) rfl) ?_
    refine RQ.skip (wantN (dj := 10) rfl (vb rfl c9) rfl) ?_
    refine RQ.skip rfl ?_
    refine RQ.skip rfl ?_
    refine RQ.skip rfl ?_
    refine RQ.skip rfl ?_
    refine RQ.skip rfl ?_
    refine RQ.skip (wantN (dj := 10) rfl (vb rfl c9) rfl) ?_
    refine RQ.y rfl (Y.pick (b := true) (v := .bool true) (vb rfl c9) rfl) ?_
    refine RQ.y rfl (Y.assign (v := .bool true) rfl) ?_
    refine RQ.nil ?_
    refine then_n ?_
    refine wp_ret ?_
    obtain rfl := Option.some.inj hm
    exact (ret1 rfl rfl rfl ⟨rfl, T⟩)

def m_spec_l11Wires_A1 (xs8 : List DWire) : Option (List DWire) :=
  some xs8
def m_spec_l11Wires_A2 (rec1 : List DWire → Int → Option (List DWire)) (i11 : Int) (xs14 : List DWire) : Option (List DWire) :=
  ((ck (i11 + 1)).bind fun s16 => (rec1 xs14 s16))
def m_spec_l11Wires_B2 (d0 : DNet) (i11 : Int) (rec2 : List DWire → Int → Option (List DWire)) (K2 : List DWire → Option (List DWire)) (xs17 : List DWire) (i18 : Int) : Option (List DWire) :=
  ((getI d0.agents i11).bind fun x20 => (bif (decide (i18 < (x20.ports.length : Int))) then ((getI d0.agents i11).bind fun x39 => ((getI x39.ports i18).bind fun x48 => ((m_spec_l11Before (⟨i11, i18⟩ : DPort) x48).bind fun y57 => (bif y57 then ((getI d0.agents i11).bind fun x64 => ((getI x64.ports i18).bind fun x73 => ((mustP (xs17.length + ([(⟨(⟨i11, i18⟩ : DPort), x73⟩ : DWire)]).length ≤ 4294967296)).bind fun _ => (rec2 (xs17 ++ [(⟨(⟨i11, i18⟩ : DPort), x73⟩ : DWire)]) (i18 + 1))))) else (rec2 xs17 (i18 + 1)))))) else (K2 xs17)))
def m_spec_l11Wires_L2 (d0 : DNet) (i11 : Int) (K2 : List DWire → Option (List DWire)) : Nat → List DWire → Int → Option (List DWire)
  | 0, _, _ => none
  | g + 1, xs17, i18 => m_spec_l11Wires_B2 d0 i11 (m_spec_l11Wires_L2 d0 i11 K2 g) K2 xs17 i18
def m_spec_l11Wires_B1 (d0 : DNet) (rec1 : List DWire → Int → Option (List DWire)) (K1 : List DWire → Option (List DWire)) (xs10 : List DWire) (i11 : Int) : Option (List DWire) :=
  (bif (decide (i11 < (d0.agents.length : Int))) then (m_spec_l11Wires_L2 d0 i11 (m_spec_l11Wires_A2 rec1 i11) (((getI d0.agents i11).getD default).ports.length + 1) xs10 0) else (K1 xs10))
def m_spec_l11Wires_L1 (d0 : DNet) (K1 : List DWire → Option (List DWire)) : Nat → List DWire → Int → Option (List DWire)
  | 0, _, _ => none
  | g + 1, xs10, i11 => m_spec_l11Wires_B1 d0 (m_spec_l11Wires_L1 d0 K1 g) K1 xs10 i11
def m_spec_l11Wires (d0 : DNet) : Option (List DWire) :=
  (m_spec_l11Wires_L1 d0 m_spec_l11Wires_A1 (d0.agents.length + 1) ([] : List DWire) 0)
set_option maxHeartbeats 2000000 in
theorem c_m_spec_l11Wires (d0 : DNet) (r : List DWire) (hm : m_spec_l11Wires d0 = some r) (v0 : Value) (w : World) (hv0 : Pt netRd w v0 d0) :
    Calls Try.prog 89 #[v0] w fun e w' => (∃ v, e = .returned v ∧ OwF 55 encWire 4 w' w.heap.size v r) ∧ Below w.heap.size w w' := by
  obtain ⟨ba0, oa0, csa0, rfl, hba0, hRa0, hca0⟩ := hv0
  have hSa0 := hRa0
  obtain ⟨A1, n1, c1, rfl, ⟨h1, r1⟩⟩ := hRa0
  have e1 := h1.len; subst e1
  have q1 := len_le r1
  have T := Below.refl w.heap.size w
  unfold m_spec_l11Wires at hm
  refine enter 63 Try.func89 rfl rfl rfl ?_
  intro f hf
  have s0 : f 0 = .pointer (some ⟨ba0, oa0, none⟩) := hf 0 _ rfl
  refine wp_seq ?_
  refine wp_rs rfl ?_
  refine RQ.y rfl (Y.assign (v := .slice none 0 0) rfl) ?_
  refine RQ.nil ?_
  refine then_n ?_
  refine wp_seq ?_
  refine wp_rl rfl ?_
  refine RL.bslice (e := 55) (cells := #[]) rfl pm0 (by kernel_rfl) (fun w2 B3 hb4 szw2 => ?_)
  have ZB3 : w.heap.size ≤ w.heap.size := T.size
  have T := Tt T hb4
  have G6 := OwF.lit (enc := encWire) (sz := 4) (xs := ([] : List DWire)) B3 ZB3 rfl rfl rfl rfl
  refine RL.y rfl (Y.assign (v := .slice (some ⟨w.heap.size, 0, none⟩) 0 0) rfl) ?_
  refine RL.nil ?_
  refine then_n ?_
  refine wp_seq ?_
  refine wp_seq ?_
  refine wp_rs rfl ?_
  refine RQ.y rfl (Y.assign (v := .int .i64 0) rfl) ?_
  refine RQ.nil ?_
  refine then_n ?_
  refine wp_block ?_
  obtain ⟨K1, hK1, hm⟩ : ∃ K, K = m_spec_l11Wires_A1 ∧ m_spec_l11Wires_L1 d0 K (d0.agents.length + 1) ([] : List DWire) 0 = some r := ⟨_, rfl, hm⟩
  refine wp_loopX (fun g f w' => ∃ (xs10 : List DWire) (i11 : Int) (uxs10 : Value), f 0 = .pointer (some ⟨ba0, oa0, none⟩) ∧ f 3 = uxs10 ∧ OwF 55 encWire 4 w' w.heap.size uxs10 xs10 ∧ f 4 = .int .i64 i11 ∧ 0 ≤ i11 ∧ Below w.heap.size w w' ∧ m_spec_l11Wires_L1 d0 K1 g xs10 i11 = some r) 0 (fun f w' => ∃ (xs8 : List DWire) (uxs8 : Value), f 3 = uxs8 ∧ OwF 55 encWire 4 w' w.heap.size uxs8 xs8 ∧ Below w.heap.size w w' ∧ m_spec_l11Wires_A1 xs8 = some r) (d0.agents.length + 1) ⟨([] : List DWire), 0, (.slice (some ⟨w.heap.size, 0, none⟩) 0 0), s0, rfl, G6, rfl, (by omega), T, hm⟩ ?_ ?_
  · rintro f w9 ⟨xs8, uxs8, s3_1x, Gxs8, T, hm⟩
    unfold m_spec_l11Wires_A1 at hm
    refine blk_hit (then_n ?_)
    refine wp_seq ?_
    refine wp_rs rfl ?_
    refine RQ.y rfl (Y.move (v := uxs8) s3_1x) ?_
    refine RQ.y rfl (Y.assign (v := uxs8) rfl) ?_
    refine RQ.nil ?_
    refine then_n ?_
    refine wp_ret ?_
    obtain rfl := Option.some.inj hm
    exact (ret1 rfl rfl rfl ⟨⟨_, rfl, Gxs8⟩, T⟩)
  · rintro g f w12 ⟨xs10, i11, uxs10, s0_1, s3_1, Gxs10, s4_1, nn4_1, T, hm⟩
    rcases g with _ | g
    · simp only [m_spec_l11Wires_L1] at hm; cases hm
    obtain ⟨rec1, hrec1, hm⟩ : ∃ z, z = m_spec_l11Wires_L1 d0 K1 g ∧ m_spec_l11Wires_B1 d0 z K1 xs10 i11 = some r := ⟨_, rfl, hm⟩
    unfold m_spec_l11Wires_B1 at hm
    refine wp_seq ?_
    refine wp_seq ?_
    refine wp_rs rfl ?_
    refine RQ.y rfl (Y.move (v := .int .i64 i11) s4_1) ?_
    refine RQ.y rfl (Y.move (v := .pointer (some ⟨ba0, oa0, none⟩)) s0_1) ?_
    refine RQ.y rfl (Y.nilCheck rfl) ?_
    refine RQ.y rfl (Y.fieldAddr (off := 0) rfl (by kernel_rfl)) ?_
    refine RQ.y rfl (Y.load (v := .slice A1 d0.agents.length c1) rfl (by kernel_rfl) (eqC (cellT T (hca0 0 _ rfl)))) ?_
    refine RQ.y rfl (Y.len (by kernel_rfl) rfl) ?_
    refine RQ.y rfl (Y.binI (v := .bool (decide (i11 < (d0.agents.length : Int)))) rfl rfl rfl) ?_
    refine RQ.nil ?_
    refine then_n ?_
    rcases bcases (decide (i11 < (d0.agents.length : Int))) with c13 | c13
    · replace hm := cF c13 hm
      have pc13 := of_decide_eq_false c13
      refine cond_f rfl (vb rfl c13) ?_
      refine wp_exit ?_
      exact (then_x (then_x (hit_x ⟨_, rfl, ⟨xs10, (uxs10), s3_1, Gxs10, T, (by rw [hK1] at hm; exact hm)⟩⟩)))
    · replace hm := cT c13 hm
      have pc13 := of_decide_eq_true c13
      refine cond_t rfl (vb rfl c13) ?_
      refine wp_skip ?_
      refine then_n ?_
      refine wp_seq ?_
      refine wp_block ?_
      refine wp_seq ?_
      refine wp_rs rfl ?_
      refine RQ.y rfl (Y.assign (v := .int .i64 0) rfl) ?_
      refine RQ.nil ?_
      refine then_n ?_
      refine wp_block ?_
      obtain ⟨K2, hK2, hm⟩ : ∃ K, K = (m_spec_l11Wires_A2 rec1 i11) ∧ m_spec_l11Wires_L2 d0 i11 K (((getI d0.agents i11).getD default).ports.length + 1) xs10 0 = some r := ⟨_, rfl, hm⟩
      refine wp_loopX (fun g f w' => ∃ (xs17 : List DWire) (i18 : Int) (uxs17 : Value), f 0 = .pointer (some ⟨ba0, oa0, none⟩) ∧ f 4 = .int .i64 i11 ∧ f 3 = uxs17 ∧ OwF 55 encWire 4 w' w.heap.size uxs17 xs17 ∧ f 5 = .int .i64 i18 ∧ 0 ≤ i18 ∧ Below w.heap.size w w' ∧ m_spec_l11Wires_L2 d0 i11 K2 g xs17 i18 = some r) 2 (fun f w' => ∃ (xs14 : List DWire) (uxs14 : Value), f 0 = .pointer (some ⟨ba0, oa0, none⟩) ∧ f 4 = .int .i64 i11 ∧ f 3 = uxs14 ∧ OwF 55 encWire 4 w' w.heap.size uxs14 xs14 ∧ Below w.heap.size w w' ∧ m_spec_l11Wires_A2 rec1 i11 xs14 = some r) (((getI d0.agents i11).getD default).ports.length + 1) ⟨xs10, 0, (uxs10), s0_1, s4_1, s3_1, Gxs10, rfl, (by omega), T, hm⟩ ?_ ?_
      · rintro f w15 ⟨xs14, uxs14, s0_2x, s4_2x, s3_2x, Gxs14, T, hm⟩
        unfold m_spec_l11Wires_A2 at hm
        refine blk_hit (blk_n (then_n ?_))
        refine wp_rs rfl ?_
        refine RQ.y rfl (Y.move (v := .int .i64 i11) s4_2x) ?_
        obtain ⟨s16, ks16, hm⟩ := bnd hm
        replace ks16 := ck_some ks16
        refine RQ.y rfl (Y.binI (v := .int .i64 s16) rfl rfl (by rw [binI_add ks16.2, ks16.1])) ?_
        refine RQ.y rfl (Y.assign (v := .int .i64 s16) rfl) ?_
        refine RQ.nil ?_
        exact (then_n ⟨g, _, Nat.lt_succ_self _, rfl, ⟨xs14, s16, (uxs14), s0_2x, s3_2x, Gxs14, rfl, (by omega), T, (by rw [← hrec1]; exact hm)⟩⟩)
      · rintro g f w19 ⟨xs17, i18, uxs17, s0_2, s4_2, s3_2, Gxs17, s5_2, nn5_2, T, hm⟩
        rcases g with _ | g
        · simp only [m_spec_l11Wires_L2] at hm; cases hm
        obtain ⟨rec2, hrec2, hm⟩ : ∃ z, z = m_spec_l11Wires_L2 d0 i11 K2 g ∧ m_spec_l11Wires_B2 d0 i11 z K2 xs17 i18 = some r := ⟨_, rfl, hm⟩
        unfold m_spec_l11Wires_B2 at hm
        refine wp_seq ?_
        refine wp_seq ?_
        refine wp_rs rfl ?_
        refine RQ.y rfl (Y.move (v := .int .i64 i18) s5_2) ?_
        refine RQ.y rfl (Y.move (v := .pointer (some ⟨ba0, oa0, none⟩)) s0_2) ?_
        refine RQ.y rfl (Y.nilCheck rfl) ?_
        refine RQ.y rfl (Y.fieldAddr (off := 0) rfl (by kernel_rfl)) ?_
        refine RQ.y rfl (Y.load (v := .slice A1 d0.agents.length c1) rfl (by kernel_rfl) (eqC (cellT T (hca0 0 _ rfl)))) ?_
        refine RQ.y rfl (Y.move (v := .int .i64 i11) s4_2) ?_
        obtain ⟨x20, hx23, hm⟩ := bnd hm
        obtain ⟨k21, hk24, hl25, hx23⟩ := getI_some hx23
        obtain ⟨b27, o28, rfl, hbb27⟩ := h1.addr (by omega)
        obtain ⟨cs22, hRcs22, hc26⟩ := h1.el hx23
        have hScs22 := hRcs22
        obtain ⟨A29, n29, c29, A30, n30, c30, rfl, ⟨h29, r29⟩, ⟨h30, r30⟩⟩ := hRcs22
        have e29 := h29.len; subst e29
        have q29 := len_le r29
        have e30 := h30.len; subst e30
        have q30 := len_le r30
        refine RQ.y rfl (Y.indexAddr (m := k21) (sz := 5) rfl rfl hk24 hl25 (by kernel_rfl)) ?_
        refine RQ.y rfl (Y.fieldAddr (off := 4) rfl (by kernel_rfl)) ?_
        refine RQ.y rfl (Y.load (v := .slice A30 x20.ports.length c30) rfl (by kernel_rfl) (eqC (cellT T (hc26 4 _ rfl)))) ?_
        refine RQ.y rfl (Y.len (by kernel_rfl) rfl) ?_
        refine RQ.y rfl (Y.binI (v := .bool (decide (i18 < (x20.ports.length : Int)))) rfl rfl rfl) ?_
        refine RQ.nil ?_
        refine then_n ?_
        rcases bcases (decide (i18 < (x20.ports.length : Int))) with c31 | c31
        · replace hm := cF c31 hm
          have pc31 := of_decide_eq_false c31
          refine cond_f rfl (vb rfl c31) ?_
          refine wp_exit ?_
          exact (then_x (then_x (hit_x ⟨_, rfl, ⟨xs17, (uxs17), s0_2, s4_2, s3_2, Gxs17, T, (by rw [hK2] at hm; exact hm)⟩⟩)))
        · replace hm := cT c31 hm
          have pc31 := of_decide_eq_true c31
          refine cond_t rfl (vb rfl c31) ?_
          refine wp_skip ?_
          refine then_n ?_
          refine wp_seq ?_
          refine wp_block ?_
          refine wp_seq ?_
          refine wp_rl rfl ?_
          refine RL.y rfl (Y.move (v := .int .i64 i11) s4_2) ?_
          refine RL.y rfl (Y.move (v := .int .i64 i18) s5_2) ?_
          refine RL.y rfl (Y.build2 (cells := #[.int .i64 i11, .int .i64 i18]) rfl rfl (by kernel_rfl) (by kernel_rfl)) ?_
          refine RL.alloc (z := .agg #[.int .i64 0, .int .i64 0]) rfl (by kernel_rfl) (fun w32 B33 hb34 szw32 => ?_)
          replace B33 : Blk w32 w19.heap.size 53 #[.int .i64 0, .int .i64 0] := B33
          have GB33 : w.heap.size ≤ w19.heap.size := T.size
          have Noxs17_ob35 := OwF.far Gxs17 (Nat.le_refl _)
          have Gxs17 := OwF.below Gxs17 hb34
          have T := Tt T hb34
          refine RL.store (v := .agg #[.int .i64 i11, .int .i64 i18]) (cs' := #[.int .i64 i11, .int .i64 i18]) rfl rfl rfl B33 (by kernel_rfl) (by rfl) (by rfl) (by rfl) (fun w36 B37 ho38 => ?_)
          have szw36 := ho38.size
          have Gxs17 := OwF.only Gxs17 ho38 Noxs17_ob35
          have T := T.trans (ho38.below (by simp; omega))
          refine RL.nil ?_
          refine then_n ?_
          refine wp_seq ?_
          refine wp_rbd (by kernel_rfl) (by kernel_rfl) ?_
          refine RQ.y rfl (Y.loadN (cs := [.int .i64 i11, .int .i64 i18]) rfl (by kernel_rfl) (cells2 (beC (blkCell B37 (i := 0) rfl)) (beC (blkCell B37 (i := 1) rfl)))) ?_
          refine RQ.y rfl (Y.move (v := .pointer (some ⟨ba0, oa0, none⟩)) s0_2) ?_
          refine RQ.y rfl (Y.nilCheck rfl) ?_
          refine RQ.y rfl (Y.fieldAddr (off := 0) rfl (by kernel_rfl)) ?_
          refine RQ.y rfl (Y.load (v := .slice (some ⟨b27, o28, none⟩) d0.agents.length c1) rfl (by kernel_rfl) (beC (cellT T (hca0 0 _ rfl)))) ?_
          refine RQ.y rfl (Y.move (v := .int .i64 i11) s4_2) ?_
          obtain ⟨x39, hx42, hm⟩ := bnd hm
          obtain ⟨k40, hk43, hl44, hx42⟩ := getI_some hx42
          obtain ⟨cs41, hRcs41, hc45⟩ := h1.el hx42
          have hScs41 := hRcs41
          obtain ⟨A46, n46, c46, A47, n47, c47, rfl, ⟨h46, r46⟩, ⟨h47, r47⟩⟩ := hRcs41
          have e46 := h46.len; subst e46
          have q46 := len_le r46
          have e47 := h47.len; subst e47
          have q47 := len_le r47
          refine RQ.y rfl (Y.indexAddr (m := k40) (sz := 5) rfl rfl hk43 hl44 (by kernel_rfl)) ?_
          refine RQ.y rfl (Y.fieldAddr (off := 4) rfl (by kernel_rfl)) ?_
          refine RQ.y rfl (Y.load (v := .slice A47 x39.ports.length c47) rfl (by kernel_rfl) (beC (cellT T (hc45 4 _ rfl)))) ?_
          refine RQ.y rfl (Y.move (v := .int .i64 i18) s5_2) ?_
          obtain ⟨x48, hx51, hm⟩ := bnd hm
          obtain ⟨k49, hk52, hl53, hx51⟩ := getI_some hx51
          obtain ⟨b55, o56, rfl, hbb55⟩ := h47.addr (by omega)
          obtain ⟨cs50, hRcs50, hc54⟩ := h47.el hx51
          have hScs50 := hRcs50
          obtain rfl := hRcs50
          refine RQ.y rfl (Y.indexAddr (m := k49) (sz := 2) rfl rfl hk52 hl53 (by kernel_rfl)) ?_
          refine RQ.y rfl (Y.loadN (cs := [.int .i64 x48.agent, .int .i64 x48.slot]) rfl (by kernel_rfl) (cells2 (beC (cellT T (hc54 0 _ rfl))) (beC (cellT T (hc54 1 _ rfl))))) ?_
          obtain ⟨y57, e58, hm⟩ := bnd hm
          refine RQ.call rfl (am2 rfl rfl) (by kernel_rfl) (v := .bool y57) (bel (K := fun _ => True) fun w' hb' => (c_m_spec_l11Before (⟨i11, i18⟩ : DPort) x48 _ e58  w' )) ?_
          refine RQ.nil ?_
          intro w59 hb60
          have szw59 := hb60.size
          have B37 := blkT B37 hb60
          have Gxs17 := OwF.below Gxs17 hb60
          have T := Tt T hb60
          refine then_n ?_
          rcases bcases y57 with c61 | c61
          · replace hm := cF c61 hm
            refine cond_f rfl (vb rfl c61) ?_
            refine wp_skip ?_
            refine blk_n (then_n ?_)
            refine wp_rs rfl ?_
            refine RQ.y rfl (Y.move (v := .int .i64 i18) s5_2) ?_
            refine RQ.y rfl (Y.binI rfl rfl (binI_add (m := i18) (by omega))) ?_
            refine RQ.y rfl (Y.assign (v := .int .i64 (i18 + 1)) rfl) ?_
            refine RQ.nil ?_
            exact (then_n ⟨g, _, Nat.lt_succ_self _, rfl, ⟨xs17, (i18 + 1), (uxs17), s0_2, s4_2, s3_2, Gxs17, rfl, (by omega), T, (by rw [← hrec2]; exact hm)⟩⟩)
          · replace hm := cT c61 hm
            refine cond_t rfl (vb rfl c61) ?_
            refine wp_rg (fun w' => Below w.heap.size w w' ∧ Blk w' w19.heap.size 53 #[.int .i64 i11, .int .i64 i18]) [(0, true), (1, true), (2, true), (3, true), (4, true), (5, true), (6, true), (7, true), (8, true), (9, true), (10, true), (11, true), (12, true), (13, true), (14, false), (15, false), (16, true)] (by kernel_rfl) (by kernel_rfl) (fun w62 hb63 szw62 => ?_)
            have B37 := blkT B37 hb63
            have Gxs17 := OwF.below Gxs17 hb63
            have T := Tt T hb63
            refine ⟨⟨T, B37⟩, ?_⟩
            refine RG.y rfl rfl (Y.move (v := uxs17) s3_2) ?_
            refine RG.y rfl rfl (Y.loadN (cs := [.int .i64 i11, .int .i64 i18]) rfl (by kernel_rfl) (cells2 (fun w' hS => (blkCell hS.2 (i := 0) rfl)) (fun w' hS => (blkCell hS.2 (i := 1) rfl)))) ?_
            refine RG.y rfl rfl (Y.move (v := .pointer (some ⟨ba0, oa0, none⟩)) s0_2) ?_
            refine RG.y rfl rfl (Y.nilCheck rfl) ?_
            refine RG.y rfl rfl (Y.fieldAddr (off := 0) rfl (by kernel_rfl)) ?_
            refine RG.y rfl rfl (Y.load (v := .slice (some ⟨b27, o28, none⟩) d0.agents.length c1) rfl (by kernel_rfl) (fun w' hS => (cellT hS.1 (hca0 0 _ rfl)))) ?_
            refine RG.y rfl rfl (Y.move (v := .int .i64 i11) s4_2) ?_
            obtain ⟨x64, hx67, hm⟩ := bnd hm
            obtain ⟨k65, hk68, hl69, hx67⟩ := getI_some hx67
            obtain ⟨cs66, hRcs66, hc70⟩ := h1.el hx67
            have hScs66 := hRcs66
            obtain ⟨A71, n71, c71, A72, n72, c72, rfl, ⟨h71, r71⟩, ⟨h72, r72⟩⟩ := hRcs66
            have e71 := h71.len; subst e71
            have q71 := len_le r71
            have e72 := h72.len; subst e72
            have q72 := len_le r72
            refine RG.y rfl rfl (Y.indexAddr (m := k65) (sz := 5) rfl rfl hk68 hl69 (by kernel_rfl)) ?_
            refine RG.y rfl rfl (Y.fieldAddr (off := 4) rfl (by kernel_rfl)) ?_
            refine RG.y rfl rfl (Y.load (v := .slice A72 x64.ports.length c72) rfl (by kernel_rfl) (fun w' hS => (cellT hS.1 (hc70 4 _ rfl)))) ?_
            refine RG.y rfl rfl (Y.move (v := .int .i64 i18) s5_2) ?_
            obtain ⟨x73, hx76, hm⟩ := bnd hm
            obtain ⟨k74, hk77, hl78, hx76⟩ := getI_some hx76
            obtain ⟨b80, o81, rfl, hbb80⟩ := h72.addr (by omega)
            obtain ⟨cs75, hRcs75, hc79⟩ := h72.el hx76
            have hScs75 := hRcs75
            obtain rfl := hRcs75
            refine RG.y rfl rfl (Y.indexAddr (m := k74) (sz := 2) rfl rfl hk77 hl78 (by kernel_rfl)) ?_
            refine RG.y rfl rfl (Y.loadN (cs := [.int .i64 x73.agent, .int .i64 x73.slot]) rfl (by kernel_rfl) (cells2 (fun w' hS => (cellT hS.1 (hc79 0 _ rfl))) (fun w' hS => (cellT hS.1 (hc79 1 _ rfl))))) ?_
            refine RG.y rfl rfl (Y.build2 (cells := #[.int .i64 i11, .int .i64 i18, .int .i64 x73.agent, .int .i64 x73.slot]) rfl rfl (by kernel_rfl) (by kernel_rfl)) ?_
            refine RG.act rfl ?_
            refine RL.bslice (e := 55) (cells := #[.int .i64 i11, .int .i64 i18, .int .i64 x73.agent, .int .i64 x73.slot]) rfl (pm1 rfl) (by kernel_rfl) (fun w82 B83 hb84 szw82 => ?_)
            have ZB83 : w.heap.size ≤ w62.heap.size := T.size
            have No85_ob35 := litNe (n := 1) (c := 1) B37.lt
            have Do85_oxs17 := Dj.new (v := .slice (some ⟨w62.heap.size, 0, none⟩) 1 1) litGe (OwF.hi Gxs17)
            have B37 := blkT B37 hb84
            have Gxs17 := OwF.below Gxs17 hb84
            have T := Tt T hb84
            have G86 := OwF.lit (enc := encWire) (sz := 4) (xs := [(⟨(⟨i11, i18⟩ : DPort), x73⟩ : DWire)]) B83 ZB83 rfl rfl rfl rfl
            refine RL.nil ⟨⟨T, B37⟩, ?_⟩
            refine RG.act rfl ?_
            obtain ⟨_, m88, hm⟩ := bnd hm
            have hk89 := mustP_some m88
            refine RL.append fWire app_impl_Wire rfl rfl rfl Gxs17 (OwF.arg fWire G86) T.size hk89 (fun v90 w91 G92 hgr93 hbl94 hnb95 => ?_)
            have szw91 := hbl94.size
            have No96_ob35 := ne_app hnb95 Noxs17_ob35 B37.lt
            have B37 := Blk.kept B37 hgr93 Noxs17_ob35
            have T := T.trans hbl94
            refine RL.nil ⟨⟨T, B37⟩, ?_⟩
            refine RG.y rfl rfl (Y.assign (v := v90) rfl) ?_
            refine RG.nil ?_
            refine blk_n (then_n ?_)
            refine wp_rs rfl ?_
            refine RQ.y rfl (Y.move (v := .int .i64 i18) s5_2) ?_
            refine RQ.y rfl (Y.binI rfl rfl (binI_add (m := i18) (by omega))) ?_
            refine RQ.y rfl (Y.assign (v := .int .i64 (i18 + 1)) rfl) ?_
            refine RQ.nil ?_
            exact (then_n ⟨g, _, Nat.lt_succ_self _, rfl, ⟨(xs17 ++ [(⟨(⟨i11, i18⟩ : DPort), x73⟩ : DWire)]), (i18 + 1), (v90), s0_2, s4_2, rfl, G92, rfl, (by omega), T, (by rw [← hrec2]; exact hm)⟩⟩)

end Go.Proofs.Ytampijkiidjcmaa
