/- Models and contracts of functions, printed by wg.py. -/
import Derived.Test.YtjddeofchiohkaaWD
import Derived.Test.YtjddeofchiohkaaWkM
import Derived.Test.YtjddeofchiohkaaRows
namespace Go.Proofs.Ytjddeofchiohkaa
open Go.RowKit
set_option linter.unusedVariables false
set_option linter.unusedSimpArgs false
set_option maxRecDepth 100000

def m_spec_l12Traverse_A2 (xs27 : List Int) (xs28 : List Int) : Option ((List Int) × (List Int)) :=
  some (xs28, xs27)
def m_spec_l12Traverse_A3 (rec2 : List Int → List Int → Int → Option ((List Int) × (List Int))) (i32 : Int) (xs56 : List Int) (xs57 : List Int) : Option ((List Int) × (List Int)) :=
  ((ck (i32 + 1)).bind fun s59 => (rec2 xs56 xs57 s59))
def m_spec_l12Traverse_B3 (x43 : DAgent) (rec3 : List Int → List Int → Int → Option ((List Int) × (List Int))) (K3 : List Int → List Int → Option ((List Int) × (List Int))) (xs60 : List Int) (xs61 : List Int) (i62 : Int) : Option ((List Int) × (List Int)) :=
  (bif (decide (i62 < (x43.ports.length : Int))) then ((getI x43.ports i62).bind fun x65 => ((getI xs60 x65.agent).bind fun x76 => (bif (decide (x76 < 0)) then ((getI xs60 x65.agent).bind fun x85 => ((mustP (xs61.length + ([x65.agent]).length ≤ 4294967296)).bind fun _ => (rec3 (setI xs60 x65.agent (xs61.length : Int)) (xs61 ++ [x65.agent]) (i62 + 1)))) else (rec3 xs60 xs61 (i62 + 1))))) else (K3 xs60 xs61))
def m_spec_l12Traverse_L3 (x43 : DAgent) (K3 : List Int → List Int → Option ((List Int) × (List Int))) : Nat → List Int → List Int → Int → Option ((List Int) × (List Int))
  | 0, _, _, _ => none
  | g + 1, xs60, xs61, i62 => m_spec_l12Traverse_B3 x43 (m_spec_l12Traverse_L3 x43 K3 g) K3 xs60 xs61 i62
def m_spec_l12Traverse_B2 (d0 : DNet) (rec2 : List Int → List Int → Int → Option ((List Int) × (List Int))) (K2 : List Int → List Int → Option ((List Int) × (List Int))) (xs30 : List Int) (xs31 : List Int) (i32 : Int) : Option ((List Int) × (List Int)) :=
  (bif (decide (i32 < (xs31.length : Int))) then ((getI xs31 i32).bind fun x37 => ((getI d0.agents x37).bind fun x43 => (m_spec_l12Traverse_L3 x43 (m_spec_l12Traverse_A3 rec2 i32) (x43.ports.length + 1) xs30 xs31 0))) else (K2 xs30 xs31))
def m_spec_l12Traverse_L2 (d0 : DNet) (K2 : List Int → List Int → Option ((List Int) × (List Int))) : Nat → List Int → List Int → Int → Option ((List Int) × (List Int))
  | 0, _, _, _ => none
  | g + 1, xs30, xs31, i32 => m_spec_l12Traverse_B2 d0 (m_spec_l12Traverse_L2 d0 K2 g) K2 xs30 xs31 i32
def m_spec_l12Traverse_A1 (d0 : DNet) (d1 : Int) (xs8 : List Int) : Option ((List Int) × (List Int)) :=
  ((getI xs8 d1).bind fun x18 => (m_spec_l12Traverse_L2 d0 m_spec_l12Traverse_A2 (d0.agents.length + 2) (setI xs8 d1 0) ([d1]) 0))
def m_spec_l12Traverse_B1 (d0 : DNet) (rec1 : List Int → Int → Option ((List Int) × (List Int))) (K1 : List Int → Option ((List Int) × (List Int))) (xs110 : List Int) (i111 : Int) : Option ((List Int) × (List Int)) :=
  (bif (decide (i111 < (d0.agents.length : Int))) then ((mustP (xs110.length + ([(-1)]).length ≤ 4294967296)).bind fun _ => (rec1 (xs110 ++ [(-1)]) (i111 + 1))) else (K1 xs110))
def m_spec_l12Traverse_L1 (d0 : DNet) (K1 : List Int → Option ((List Int) × (List Int))) : Nat → List Int → Int → Option ((List Int) × (List Int))
  | 0, _, _ => none
  | g + 1, xs110, i111 => m_spec_l12Traverse_B1 d0 (m_spec_l12Traverse_L1 d0 K1 g) K1 xs110 i111
def m_spec_l12Traverse (d0 : DNet) (d1 : Int) : Option ((List Int) × (List Int)) :=
  (m_spec_l12Traverse_L1 d0 (m_spec_l12Traverse_A1 d0 d1) (d0.agents.length + 1) ([] : List Int) 0)
set_option maxHeartbeats 2000000 in
theorem c_m_spec_l12Traverse (d0 : DNet) (d1 : Int) (r : (List Int) × (List Int)) (hm : m_spec_l12Traverse d0 d1 = some r) (v0 : Value) (w : World) (hv0 : Pt netRd w v0 d0) :
    Calls Try.prog 80 #[v0, .int .i64 d1] w fun e w' => (∃ v0 v1, e = .returned (.tuple #[v0, v1]) ∧ OwF 2 encI 1 w' w.heap.size v0 r.1 ∧ OwF 2 encI 1 w' w.heap.size v1 r.2 ∧ Dj v0 v1) ∧ Below w.heap.size w w' := by
  obtain ⟨ba0, oa0, csa0, rfl, hba0, hRa0, hca0⟩ := hv0
  have hSa0 := hRa0
  obtain ⟨A1, n1, c1, rfl, ⟨h1, r1⟩⟩ := hRa0
  have e1 := h1.len; subst e1
  have q1 := len_le r1
  have T := Below.refl w.heap.size w
  unfold m_spec_l12Traverse at hm
  refine enter 79 Try.func80 rfl rfl rfl ?_
  intro f hf
  have s0 : f 0 = .pointer (some ⟨ba0, oa0, none⟩) := hf 0 _ rfl
  have s1 : f 1 = .int .i64 d1 := hf 1 _ rfl
  refine wp_seq ?_
  refine wp_rs rfl ?_
  refine RQ.y rfl (Y.assign (v := .slice none 0 0) rfl) ?_
  refine RQ.y rfl (Y.assign (v := .slice none 0 0) rfl) ?_
  refine RQ.nil ?_
  refine then_n ?_
  refine wp_seq ?_
  refine wp_rl rfl ?_
  refine RL.bslice (e := 2) (cells := #[]) rfl pm0 (by kernel_rfl) (fun w2 B3 hb4 szw2 => ?_)
  have ZB3 : w.heap.size ≤ w.heap.size := T.size
  have T := Tt T hb4
  have G6 := OwF.lit (enc := encI) (sz := 1) (xs := ([] : List Int)) B3 ZB3 rfl rfl rfl rfl
  refine RL.y rfl (Y.assign (v := .slice (some ⟨w.heap.size, 0, none⟩) 0 0) rfl) ?_
  refine RL.nil ?_
  refine then_n ?_
  refine wp_seq ?_
  refine wp_seq ?_
  refine wp_rs rfl ?_
  refine RQ.y rfl (Y.assign (v := .int .i64 0) rfl) ?_
  refine RQ.nil ?_
  refine then_n ?_
  refine wp_block ?_
  obtain ⟨K1, hK1, hm⟩ : ∃ K, K = (m_spec_l12Traverse_A1 d0 d1) ∧ m_spec_l12Traverse_L1 d0 K (d0.agents.length + 1) ([] : List Int) 0 = some r := ⟨_, rfl, hm⟩
  refine wp_loopX (fun g f w' => ∃ (xs110 : List Int) (i111 : Int) (uxs110 : Value), f 0 = .pointer (some ⟨ba0, oa0, none⟩) ∧ f 1 = .int .i64 d1 ∧ f 6 = uxs110 ∧ OwF 2 encI 1 w' w.heap.size uxs110 xs110 ∧ f 7 = .int .i64 i111 ∧ 0 ≤ i111 ∧ Below w.heap.size w w' ∧ m_spec_l12Traverse_L1 d0 K1 g xs110 i111 = some r) 0 (fun f w' => ∃ (xs8 : List Int) (uxs8 : Value), f 0 = .pointer (some ⟨ba0, oa0, none⟩) ∧ f 1 = .int .i64 d1 ∧ f 6 = uxs8 ∧ OwF 2 encI 1 w' w.heap.size uxs8 xs8 ∧ Below w.heap.size w w' ∧ m_spec_l12Traverse_A1 d0 d1 xs8 = some r) (d0.agents.length + 1) ⟨([] : List Int), 0, (.slice (some ⟨w.heap.size, 0, none⟩) 0 0), s0, s1, rfl, G6, rfl, (by omega), T, hm⟩ ?_ ?_
  · rintro f w9 ⟨xs8, uxs8, s0_1x, s1_1x, s6_1x, Gxs8, T, hm⟩
    unfold m_spec_l12Traverse_A1 at hm
    refine blk_hit (then_n ?_)
    refine wp_seq ?_
    refine wp_rl rfl ?_
    refine RL.y rfl (Y.move (v := .int .i64 d1) s1_1x) ?_
    refine RL.bslice (e := 2) (cells := #[.int .i64 d1]) rfl (pm1 rfl) (by kernel_rfl) (fun w10 B11 hb12 szw10 => ?_)
    have ZB11 : w.heap.size ≤ w9.heap.size := T.size
    have Do13_oxs8 := Dj.new (v := .slice (some ⟨w9.heap.size, 0, none⟩) 1 1) litGe (OwF.hi Gxs8)
    have Gxs8 := OwF.below Gxs8 hb12
    have T := Tt T hb12
    have G14 := OwF.lit (enc := encI) (sz := 1) (xs := [d1]) B11 ZB11 rfl rfl rfl rfl
    refine RL.y rfl (Y.assign (v := .slice (some ⟨w9.heap.size, 0, none⟩) 1 1) rfl) ?_
    refine RL.nil ?_
    refine then_n ?_
    refine wp_seq ?_
    refine wp_rl rfl ?_
    refine RL.y rfl (Y.move (v := uxs8) s6_1x) ?_
    refine RL.y rfl (Y.move (v := .int .i64 d1) s1_1x) ?_
    obtain ⟨A16, c17, rfl⟩ := OwF.form Gxs8
    have qbA16 := OwF.bound Gxs8
    obtain ⟨x18, hx20, hm⟩ := bnd hm
    obtain ⟨k19, hk21, hl22, hx20⟩ := getI_some hx20
    obtain ⟨b23, rfl⟩ := OwF.addr0 Gxs8 (by omega)
    refine RL.y rfl (Y.indexAddr (m := k19) (sz := 1) rfl rfl hk21 hl22 (by kernel_rfl)) ?_
    refine RL.storeF (k := k19) (a := 0) fI rfl rfl rfl Gxs8 hl22 rfl (by kernel_rfl) (fun w24 G25 ho26 => ?_)
    have szw24 := ho26.size
    have G14 := OwF.only G14 ho26 (fun e => Do13_oxs8 _ e rfl)
    have T := T.trans (ho26.below (by intro b hb; simp at hb; subst hb; exact OwF.lo_ Gxs8 _ rfl))
    have G25 : OwF 2 encI 1 w24 w.heap.size (.slice (some ⟨b23, 0, none⟩) xs8.length c17) (setI xs8 d1 0) := by rw [hk21, setI_nat]; exact G25
    refine RL.nil ?_
    refine then_n ?_
    refine wp_seq ?_
    refine wp_seq ?_
    refine wp_rs rfl ?_
    refine RQ.y rfl (Y.assign (v := .int .i64 0) rfl) ?_
    refine RQ.nil ?_
    refine then_n ?_
    refine wp_block ?_
    obtain ⟨K2, hK2, hm⟩ : ∃ K, K = m_spec_l12Traverse_A2 ∧ m_spec_l12Traverse_L2 d0 K (d0.agents.length + 2) (setI xs8 d1 0) ([d1]) 0 = some r := ⟨_, rfl, hm⟩
    refine wp_loopX (fun g f w' => ∃ (xs30 : List Int) (xs31 : List Int) (i32 : Int) (uxs30 : Value) (uxs31 : Value), f 0 = .pointer (some ⟨ba0, oa0, none⟩) ∧ f 6 = uxs30 ∧ OwF 2 encI 1 w' w.heap.size uxs30 xs30 ∧ f 8 = uxs31 ∧ OwF 2 encI 1 w' w.heap.size uxs31 xs31 ∧ f 9 = .int .i64 i32 ∧ 0 ≤ i32 ∧ Dj uxs31 uxs30 ∧ Below w.heap.size w w' ∧ m_spec_l12Traverse_L2 d0 K2 g xs30 xs31 i32 = some r) 2 (fun f w' => ∃ (xs27 : List Int) (xs28 : List Int) (uxs27 : Value) (uxs28 : Value), f 6 = uxs27 ∧ OwF 2 encI 1 w' w.heap.size uxs27 xs27 ∧ f 8 = uxs28 ∧ OwF 2 encI 1 w' w.heap.size uxs28 xs28 ∧ Dj uxs28 uxs27 ∧ Below w.heap.size w w' ∧ m_spec_l12Traverse_A2 xs27 xs28 = some r) (d0.agents.length + 2) ⟨(setI xs8 d1 0), ([d1]), 0, (.slice (some ⟨b23, 0, none⟩) xs8.length c17), (.slice (some ⟨w9.heap.size, 0, none⟩) 1 1), s0_1x, s6_1x, G25, rfl, G14, rfl, (by omega), Do13_oxs8, T, hm⟩ ?_ ?_
    · rintro f w29 ⟨xs27, xs28, uxs27, uxs28, s6_2x, Gxs27, s8_2x, Gxs28, Doxs28_oxs27, T, hm⟩
      unfold m_spec_l12Traverse_A2 at hm
      refine blk_hit (then_n ?_)
      refine wp_seq ?_
      refine wp_rs rfl ?_
      refine RQ.y rfl (Y.move (v := uxs28) s8_2x) ?_
      refine RQ.y rfl (Y.move (v := uxs27) s6_2x) ?_
      refine RQ.y rfl (Y.assign (v := uxs28) rfl) ?_
      refine RQ.y rfl (Y.assign (v := uxs27) rfl) ?_
      refine RQ.nil ?_
      refine then_n ?_
      refine wp_ret ?_
      obtain rfl := Option.some.inj hm
      exact (ret2 rfl rfl rfl rfl ⟨⟨_, _, rfl, Gxs28, Gxs27, Doxs28_oxs27⟩, T⟩)
    · rintro g f w33 ⟨xs30, xs31, i32, uxs30, uxs31, s0_2, s6_2, Gxs30, s8_2, Gxs31, s9_2, nn9_2, Doxs31_oxs30, T, hm⟩
      rcases g with _ | g
      · simp only [m_spec_l12Traverse_L2] at hm; cases hm
      obtain ⟨rec2, hrec2, hm⟩ : ∃ z, z = m_spec_l12Traverse_L2 d0 K2 g ∧ m_spec_l12Traverse_B2 d0 z K2 xs30 xs31 i32 = some r := ⟨_, rfl, hm⟩
      unfold m_spec_l12Traverse_B2 at hm
      refine wp_seq ?_
      refine wp_seq ?_
      refine wp_rs rfl ?_
      refine RQ.y rfl (Y.move (v := .int .i64 i32) s9_2) ?_
      refine RQ.y rfl (Y.move (v := uxs31) s8_2) ?_
      obtain ⟨A34, c35, rfl⟩ := OwF.form Gxs31
      have qbA34 := OwF.bound Gxs31
      refine RQ.y rfl (Y.len (by kernel_rfl) rfl) ?_
      refine RQ.y rfl (Y.binI (v := .bool (decide (i32 < (xs31.length : Int)))) rfl rfl rfl) ?_
      refine RQ.nil ?_
      refine then_n ?_
      rcases bcases (decide (i32 < (xs31.length : Int))) with c36 | c36
      · replace hm := cF c36 hm
        have pc36 := of_decide_eq_false c36
        refine cond_f rfl (vb rfl c36) ?_
        refine wp_exit ?_
        exact (then_x (then_x (hit_x ⟨_, rfl, ⟨xs30, xs31, (uxs30), (.slice A34 xs31.length c35), s6_2, Gxs30, s8_2, Gxs31, Doxs31_oxs30, T, (by rw [hK2] at hm; exact hm)⟩⟩)))
      · replace hm := cT c36 hm
        have pc36 := of_decide_eq_true c36
        refine cond_t rfl (vb rfl c36) ?_
        refine wp_skip ?_
        refine then_n ?_
        refine wp_seq ?_
        refine wp_block ?_
        refine wp_seq ?_
        refine wp_rbd (by kernel_rfl) (by kernel_rfl) ?_
        refine RQ.y rfl (Y.move (v := .pointer (some ⟨ba0, oa0, none⟩)) s0_2) ?_
        refine RQ.y rfl (Y.nilCheck rfl) ?_
        refine RQ.y rfl (Y.fieldAddr (off := 0) rfl (by kernel_rfl)) ?_
        refine RQ.y rfl (Y.load (v := .slice A1 d0.agents.length c1) rfl (by kernel_rfl) (beC (cellT T (hca0 0 _ rfl)))) ?_
        refine RQ.y rfl (Y.move (v := .slice A34 xs31.length c35) s8_2) ?_
        refine RQ.y rfl (Y.move (v := .int .i64 i32) s9_2) ?_
        obtain ⟨x37, hx39, hm⟩ := bnd hm
        obtain ⟨k38, hk40, hl41, hx39⟩ := getI_some hx39
        obtain ⟨b42, rfl⟩ := OwF.addr0 Gxs31 (by omega)
        refine RQ.y rfl (Y.indexAddr (m := k38) (sz := 1) rfl rfl hk40 hl41 (by kernel_rfl)) ?_
        refine RQ.y rfl (Y.load (v := .int .i64 x37) rfl (by kernel_rfl) (beC (OwF.cell fI Gxs31 hx39 (j := 0) rfl))) ?_
        obtain ⟨x43, hx46, hm⟩ := bnd hm
        obtain ⟨k44, hk47, hl48, hx46⟩ := getI_some hx46
        obtain ⟨b50, o51, rfl, hbb50⟩ := h1.addr (by omega)
        obtain ⟨cs45, hRcs45, hc49⟩ := h1.el hx46
        have hScs45 := hRcs45
        obtain ⟨A52, n52, c52, A53, n53, c53, rfl, ⟨h52, r52⟩, ⟨h53, r53⟩⟩ := hRcs45
        have e52 := h52.len; subst e52
        have q52 := len_le r52
        have e53 := h53.len; subst e53
        have q53 := len_le r53
        refine RQ.y rfl (Y.indexAddr (m := k44) (sz := 5) rfl rfl hk47 hl48 (by kernel_rfl)) ?_
        refine RQ.y rfl (Y.assign (v := .pointer (some ⟨b50, o51 + k44 * 5, none⟩)) rfl) ?_
        refine RQ.nil ?_
        intro w54 hb55
        have szw54 := hb55.size
        have Gxs30 := OwF.below Gxs30 hb55
        have Gxs31 := OwF.below Gxs31 hb55
        have T := Tt T hb55
        refine then_n ?_
        refine wp_seq ?_
        refine wp_rs rfl ?_
        refine RQ.y rfl (Y.assign (v := .int .i64 0) rfl) ?_
        refine RQ.nil ?_
        refine then_n ?_
        refine wp_block ?_
        obtain ⟨K3, hK3, hm⟩ : ∃ K, K = (m_spec_l12Traverse_A3 rec2 i32) ∧ m_spec_l12Traverse_L3 x43 K (x43.ports.length + 1) xs30 xs31 0 = some r := ⟨_, rfl, hm⟩
        refine wp_loopX (fun g f w' => ∃ (xs60 : List Int) (xs61 : List Int) (i62 : Int) (uxs60 : Value) (uxs61 : Value), f 0 = .pointer (some ⟨ba0, oa0, none⟩) ∧ f 9 = .int .i64 i32 ∧ f 10 = .pointer (some ⟨b50, o51 + k44 * 5, none⟩) ∧ f 6 = uxs60 ∧ OwF 2 encI 1 w' w.heap.size uxs60 xs60 ∧ f 8 = uxs61 ∧ OwF 2 encI 1 w' w.heap.size uxs61 xs61 ∧ f 11 = .int .i64 i62 ∧ 0 ≤ i62 ∧ Dj uxs61 uxs60 ∧ Below w.heap.size w w' ∧ m_spec_l12Traverse_L3 x43 K3 g xs60 xs61 i62 = some r) 4 (fun f w' => ∃ (xs56 : List Int) (xs57 : List Int) (uxs56 : Value) (uxs57 : Value), f 0 = .pointer (some ⟨ba0, oa0, none⟩) ∧ f 9 = .int .i64 i32 ∧ f 6 = uxs56 ∧ OwF 2 encI 1 w' w.heap.size uxs56 xs56 ∧ f 8 = uxs57 ∧ OwF 2 encI 1 w' w.heap.size uxs57 xs57 ∧ Dj uxs57 uxs56 ∧ Below w.heap.size w w' ∧ m_spec_l12Traverse_A3 rec2 i32 xs56 xs57 = some r) (x43.ports.length + 1) ⟨xs30, xs31, 0, (uxs30), (.slice (some ⟨b42, 0, none⟩) xs31.length c35), s0_2, s9_2, rfl, s6_2, Gxs30, s8_2, Gxs31, rfl, (by omega), Doxs31_oxs30, T, hm⟩ ?_ ?_
        · rintro f w58 ⟨xs56, xs57, uxs56, uxs57, s0_3x, s9_3x, s6_3x, Gxs56, s8_3x, Gxs57, Doxs57_oxs56, T, hm⟩
          unfold m_spec_l12Traverse_A3 at hm
          refine blk_hit (blk_n (then_n ?_))
          refine wp_rs rfl ?_
          refine RQ.y rfl (Y.move (v := .int .i64 i32) s9_3x) ?_
          obtain ⟨s59, ks59, hm⟩ := bnd hm
          replace ks59 := ck_some ks59
          refine RQ.y rfl (Y.binI (v := .int .i64 s59) rfl rfl (by rw [binI_add ks59.2, ks59.1])) ?_
          refine RQ.y rfl (Y.assign (v := .int .i64 s59) rfl) ?_
          refine RQ.nil ?_
          exact (then_n ⟨g, _, Nat.lt_succ_self _, rfl, ⟨xs56, xs57, s59, (uxs56), (uxs57), s0_3x, s6_3x, Gxs56, s8_3x, Gxs57, rfl, (by omega), Doxs57_oxs56, T, (by rw [← hrec2]; exact hm)⟩⟩)
        · rintro g f w63 ⟨xs60, xs61, i62, uxs60, uxs61, s0_3, s9_3, s10_3, s6_3, Gxs60, s8_3, Gxs61, s11_3, nn11_3, Doxs61_oxs60, T, hm⟩
          rcases g with _ | g
          · simp only [m_spec_l12Traverse_L3] at hm; cases hm
          obtain ⟨rec3, hrec3, hm⟩ : ∃ z, z = m_spec_l12Traverse_L3 x43 K3 g ∧ m_spec_l12Traverse_B3 x43 z K3 xs60 xs61 i62 = some r := ⟨_, rfl, hm⟩
          unfold m_spec_l12Traverse_B3 at hm
          refine wp_seq ?_
          refine wp_seq ?_
          refine wp_rs rfl ?_
          refine RQ.y rfl (Y.move (v := .int .i64 i62) s11_3) ?_
          refine RQ.y rfl (Y.move (v := .pointer (some ⟨b50, o51 + k44 * 5, none⟩)) s10_3) ?_
          refine RQ.y rfl (Y.nilCheck rfl) ?_
          refine RQ.y rfl (Y.fieldAddr (off := 4) rfl (by kernel_rfl)) ?_
          refine RQ.y rfl (Y.load (v := .slice A53 x43.ports.length c53) rfl (by kernel_rfl) (eqC (cellT T (hc49 4 _ rfl)))) ?_
          refine RQ.y rfl (Y.len (by kernel_rfl) rfl) ?_
          refine RQ.y rfl (Y.binI (v := .bool (decide (i62 < (x43.ports.length : Int)))) rfl rfl rfl) ?_
          refine RQ.nil ?_
          refine then_n ?_
          rcases bcases (decide (i62 < (x43.ports.length : Int))) with c64 | c64
          · replace hm := cF c64 hm
            have pc64 := of_decide_eq_false c64
            refine cond_f rfl (vb rfl c64) ?_
            refine wp_exit ?_
            exact (then_x (then_x (hit_x ⟨_, rfl, ⟨xs60, xs61, (uxs60), (uxs61), s0_3, s9_3, s6_3, Gxs60, s8_3, Gxs61, Doxs61_oxs60, T, (by rw [hK3] at hm; exact hm)⟩⟩)))
          · replace hm := cT c64 hm
            have pc64 := of_decide_eq_true c64
            refine cond_t rfl (vb rfl c64) ?_
            refine wp_skip ?_
            refine then_n ?_
            refine wp_seq ?_
            refine wp_block ?_
            refine wp_seq ?_
            refine wp_rs rfl ?_
            refine RQ.y rfl (Y.move (v := .pointer (some ⟨b50, o51 + k44 * 5, none⟩)) s10_3) ?_
            refine RQ.y rfl (Y.nilCheck rfl) ?_
            refine RQ.y rfl (Y.fieldAddr (off := 4) rfl (by kernel_rfl)) ?_
            refine RQ.y rfl (Y.load (v := .slice A53 x43.ports.length c53) rfl (by kernel_rfl) (eqC (cellT T (hc49 4 _ rfl)))) ?_
            refine RQ.y rfl (Y.move (v := .int .i64 i62) s11_3) ?_
            obtain ⟨x65, hx68, hm⟩ := bnd hm
            obtain ⟨k66, hk69, hl70, hx68⟩ := getI_some hx68
            obtain ⟨b72, o73, rfl, hbb72⟩ := h53.addr (by omega)
            obtain ⟨cs67, hRcs67, hc71⟩ := h53.el hx68
            have hScs67 := hRcs67
            obtain rfl := hRcs67
            refine RQ.y rfl (Y.indexAddr (m := k66) (sz := 2) rfl rfl hk69 hl70 (by kernel_rfl)) ?_
            refine RQ.y rfl (Y.fieldAddr (off := 0) rfl (by kernel_rfl)) ?_
            refine RQ.y rfl (Y.load (v := .int .i64 x65.agent) rfl (by kernel_rfl) (eqC (cellT T (hc71 0 _ rfl)))) ?_
            refine RQ.y rfl (Y.assign (v := .int .i64 x65.agent) rfl) ?_
            refine RQ.nil ?_
            refine then_n ?_
            refine wp_seq ?_
            refine wp_rs rfl ?_
            refine RQ.y rfl (Y.move (v := uxs60) s6_3) ?_
            refine RQ.y rfl (Y.move (v := .int .i64 x65.agent) rfl) ?_
            obtain ⟨A74, c75, rfl⟩ := OwF.form Gxs60
            have qbA74 := OwF.bound Gxs60
            obtain ⟨x76, hx78, hm⟩ := bnd hm
            obtain ⟨k77, hk79, hl80, hx78⟩ := getI_some hx78
            obtain ⟨b81, rfl⟩ := OwF.addr0 Gxs60 (by omega)
            refine RQ.y rfl (Y.indexAddr (m := k77) (sz := 1) rfl rfl hk79 hl80 (by kernel_rfl)) ?_
            refine RQ.y rfl (Y.load (v := .int .i64 x76) rfl (by kernel_rfl) (eqC (OwF.cell fI Gxs60 hx78 (j := 0) rfl))) ?_
            refine RQ.y rfl (Y.binI (v := .bool (decide (x76 < 0))) rfl rfl rfl) ?_
            refine RQ.nil ?_
            refine then_n ?_
            rcases bcases (decide (x76 < 0)) with c82 | c82
            · replace hm := cF c82 hm
              have pc82 := of_decide_eq_false c82
              refine cond_f rfl (vb rfl c82) ?_
              refine wp_skip ?_
              refine blk_n (then_n ?_)
              refine wp_rs rfl ?_
              refine RQ.y rfl (Y.move (v := .int .i64 i62) s11_3) ?_
              refine RQ.y rfl (Y.binI rfl rfl (binI_add (m := i62) (by omega))) ?_
              refine RQ.y rfl (Y.assign (v := .int .i64 (i62 + 1)) rfl) ?_
              refine RQ.nil ?_
              exact (then_n ⟨g, _, Nat.lt_succ_self _, rfl, ⟨xs60, xs61, (i62 + 1), (.slice (some ⟨b81, 0, none⟩) xs60.length c75), (uxs61), s0_3, s9_3, s10_3, s6_3, Gxs60, s8_3, Gxs61, rfl, (by omega), Doxs61_oxs60, T, (by rw [← hrec3]; exact hm)⟩⟩)
            · replace hm := cT c82 hm
              have pc82 := of_decide_eq_true c82
              refine cond_t rfl (vb rfl c82) ?_
              refine wp_seq ?_
              refine wp_rl rfl ?_
              refine RL.y rfl (Y.move (v := .slice (some ⟨b81, 0, none⟩) xs60.length c75) s6_3) ?_
              refine RL.y rfl (Y.move (v := .int .i64 x65.agent) rfl) ?_
              refine RL.y rfl (Y.move (v := uxs61) s8_3) ?_
              obtain ⟨A83, c84, rfl⟩ := OwF.form Gxs61
              have qbA83 := OwF.bound Gxs61
              refine RL.y rfl (Y.len (by kernel_rfl) rfl) ?_
              obtain ⟨x85, hx87, hm⟩ := bnd hm
              obtain ⟨k86, hk88, hl89, hx87⟩ := getI_some hx87
              refine RL.y rfl (Y.indexAddr (m := k86) (sz := 1) rfl rfl hk88 hl89 (by kernel_rfl)) ?_
              refine RL.storeF (k := k86) (a := (xs61.length : Int)) fI rfl rfl rfl Gxs60 hl89 rfl (by kernel_rfl) (fun w90 G91 ho92 => ?_)
              have szw90 := ho92.size
              have Gxs61 := OwF.only Gxs61 ho92 (fun e => Doxs61_oxs60 _ e rfl)
              have T := T.trans (ho92.below (by intro b hb; simp at hb; subst hb; exact OwF.lo_ Gxs60 _ rfl))
              have G91 : OwF 2 encI 1 w90 w.heap.size (.slice (some ⟨b81, 0, none⟩) xs60.length c75) (setI xs60 x65.agent (xs61.length : Int)) := by rw [hk88, setI_nat]; exact G91
              refine RL.nil ?_
              refine then_n ?_
              refine wp_rl rfl ?_
              refine RL.y rfl (Y.move (v := .slice A83 xs61.length c84) s8_3) ?_
              refine RL.y rfl (Y.move (v := .int .i64 x65.agent) rfl) ?_
              refine RL.bslice (e := 2) (cells := #[.int .i64 x65.agent]) rfl (pm1 rfl) (by kernel_rfl) (fun w93 B94 hb95 szw93 => ?_)
              have ZB94 : w.heap.size ≤ w90.heap.size := T.size
              have Do96_oxs60 := Dj.new (v := .slice (some ⟨w90.heap.size, 0, none⟩) 1 1) litGe (OwF.hi G91)
              have Do96_oxs61 := Dj.new (v := .slice (some ⟨w90.heap.size, 0, none⟩) 1 1) litGe (OwF.hi Gxs61)
              have G91 := OwF.below G91 hb95
              have Gxs61 := OwF.below Gxs61 hb95
              have T := Tt T hb95
              have G97 := OwF.lit (enc := encI) (sz := 1) (xs := [x65.agent]) B94 ZB94 rfl rfl rfl rfl
              obtain ⟨_, m99, hm⟩ := bnd hm
              have hk100 := mustP_some m99
              refine RL.append fI app_int64 rfl rfl rfl Gxs61 (OwF.arg fI G97) T.size hk100 (fun v101 w102 G103 hgr104 hbl105 hnb106 => ?_)
              have szw102 := hbl105.size
              have Do107_oxs60 := Dj.app Doxs61_oxs60 hnb106 (OwF.hi G91)
              have G91 := OwF.keptD G91 hgr104 (Dj.symm Doxs61_oxs60)
              have T := T.trans hbl105
              refine RL.y rfl (Y.assign (v := v101) rfl) ?_
              refine RL.nil ?_
              refine blk_n (then_n ?_)
              refine wp_rs rfl ?_
              refine RQ.y rfl (Y.move (v := .int .i64 i62) s11_3) ?_
              refine RQ.y rfl (Y.binI rfl rfl (binI_add (m := i62) (by omega))) ?_
              refine RQ.y rfl (Y.assign (v := .int .i64 (i62 + 1)) rfl) ?_
              refine RQ.nil ?_
              exact (then_n ⟨g, _, Nat.lt_succ_self _, rfl, ⟨(setI xs60 x65.agent (xs61.length : Int)), (xs61 ++ [x65.agent]), (i62 + 1), (.slice (some ⟨b81, 0, none⟩) xs60.length c75), (v101), s0_3, s9_3, s10_3, s6_3, G91, rfl, G103, rfl, (by omega), Do107_oxs60, T, (by rw [← hrec3]; exact hm)⟩⟩)
  · rintro g f w112 ⟨xs110, i111, uxs110, s0_1, s1_1, s6_1, Gxs110, s7_1, nn7_1, T, hm⟩
    rcases g with _ | g
    · simp only [m_spec_l12Traverse_L1] at hm; cases hm
    obtain ⟨rec1, hrec1, hm⟩ : ∃ z, z = m_spec_l12Traverse_L1 d0 K1 g ∧ m_spec_l12Traverse_B1 d0 z K1 xs110 i111 = some r := ⟨_, rfl, hm⟩
    unfold m_spec_l12Traverse_B1 at hm
    refine wp_seq ?_
    refine wp_seq ?_
    refine wp_rs rfl ?_
    refine RQ.y rfl (Y.move (v := .int .i64 i111) s7_1) ?_
    refine RQ.y rfl (Y.move (v := .pointer (some ⟨ba0, oa0, none⟩)) s0_1) ?_
    refine RQ.y rfl (Y.nilCheck rfl) ?_
    refine RQ.y rfl (Y.fieldAddr (off := 0) rfl (by kernel_rfl)) ?_
    refine RQ.y rfl (Y.load (v := .slice A1 d0.agents.length c1) rfl (by kernel_rfl) (eqC (cellT T (hca0 0 _ rfl)))) ?_
    refine RQ.y rfl (Y.len (by kernel_rfl) rfl) ?_
    refine RQ.y rfl (Y.binI (v := .bool (decide (i111 < (d0.agents.length : Int)))) rfl rfl rfl) ?_
    refine RQ.nil ?_
    refine then_n ?_
    rcases bcases (decide (i111 < (d0.agents.length : Int))) with c113 | c113
    · replace hm := cF c113 hm
      have pc113 := of_decide_eq_false c113
      refine cond_f rfl (vb rfl c113) ?_
      refine wp_exit ?_
      exact (then_x (then_x (hit_x ⟨_, rfl, ⟨xs110, (uxs110), s0_1, s1_1, s6_1, Gxs110, T, (by rw [hK1] at hm; exact hm)⟩⟩)))
    · replace hm := cT c113 hm
      have pc113 := of_decide_eq_true c113
      refine cond_t rfl (vb rfl c113) ?_
      refine wp_skip ?_
      refine then_n ?_
      refine wp_seq ?_
      refine wp_block ?_
      refine wp_rl rfl ?_
      refine RL.y rfl (Y.move (v := uxs110) s6_1) ?_
      refine RL.bslice (e := 2) (cells := #[.int .i64 (-1)]) rfl (pm1 rfl) (by kernel_rfl) (fun w114 B115 hb116 szw114 => ?_)
      have ZB115 : w.heap.size ≤ w112.heap.size := T.size
      have Do117_oxs110 := Dj.new (v := .slice (some ⟨w112.heap.size, 0, none⟩) 1 1) litGe (OwF.hi Gxs110)
      have Gxs110 := OwF.below Gxs110 hb116
      have T := Tt T hb116
      have G118 := OwF.lit (enc := encI) (sz := 1) (xs := [(-1)]) B115 ZB115 rfl rfl rfl rfl
      obtain ⟨_, m120, hm⟩ := bnd hm
      have hk121 := mustP_some m120
      refine RL.append fI app_int64 rfl rfl rfl Gxs110 (OwF.arg fI G118) T.size hk121 (fun v122 w123 G124 hgr125 hbl126 hnb127 => ?_)
      have szw123 := hbl126.size
      have T := T.trans hbl126
      refine RL.y rfl (Y.assign (v := v122) rfl) ?_
      refine RL.nil ?_
      refine blk_n (then_n ?_)
      refine wp_rs rfl ?_
      refine RQ.y rfl (Y.move (v := .int .i64 i111) s7_1) ?_
      refine RQ.y rfl (Y.binI rfl rfl (binI_add (m := i111) (by omega))) ?_
      refine RQ.y rfl (Y.assign (v := .int .i64 (i111 + 1)) rfl) ?_
      refine RQ.nil ?_
      exact (then_n ⟨g, _, Nat.lt_succ_self _, rfl, ⟨(xs110 ++ [(-1)]), (i111 + 1), (v122), s0_1, s1_1, rfl, G124, rfl, (by omega), T, (by rw [← hrec1]; exact hm)⟩⟩)

def m_spec_TraverseFrom (d0 : DNet) (d1 : Int) : Option ((List Int) × Int) :=
  ((m_spec_l12Start d0 d1).bind fun y6 => (bif (y6 != 0) then some (([] : List Int), y6) else ((m_spec_l12Traverse d0 d1).bind fun y11 => some (y11.1, 0))))
set_option maxHeartbeats 2000000 in
theorem c_m_spec_TraverseFrom (d0 : DNet) (d1 : Int) (r : (List Int) × Int) (hm : m_spec_TraverseFrom d0 d1 = some r) (v0 : Value) (w : World) (hv0 : St netRd w v0 d0) :
    Calls Try.prog 37 #[v0, .int .i64 d1] w fun e w' => (∃ v, e = .returned (.tuple #[v, .int .i64 r.2]) ∧ OwF 2 encI 1 w' w.heap.size v r.1) ∧ Below w.heap.size w w' := by
  obtain ⟨csa0, rfl, ⟨A1, n1, c1, rfl, ⟨h1, r1⟩⟩⟩ := hv0
  have e1 := h1.len; subst e1
  have q1 := len_le r1
  have T := Below.refl w.heap.size w
  unfold m_spec_TraverseFrom at hm
  refine enter 21 Try.func37 rfl rfl rfl ?_
  intro f hf
  have s0 : f 0 = .agg #[.slice A1 d0.agents.length c1] := hf 0 _ rfl
  have s1 : f 1 = .int .i64 d1 := hf 1 _ rfl
  refine wp_seq ?_
  refine wp_rl rfl ?_
  refine RL.box rfl s0 (fun w2 B3 hb4 szw2 => ?_)
  replace B3 : Blk w2 w.heap.size 29 #[.slice A1 d0.agents.length c1] := B3
  have GB3 : w.heap.size ≤ w.heap.size := T.size
  have T := Tt T hb4
  refine RL.y rfl (Y.assign (v := .slice none 0 0) rfl) ?_
  refine RL.y rfl (Y.assign (v := .int .i64 0) rfl) ?_
  refine RL.nil ?_
  refine then_n ?_
  refine wp_seq ?_
  refine wp_seq ?_
  refine wp_rb rfl ?_
  refine RQ.y rfl (Y.move (v := .int .i64 d1) s1) ?_
  obtain ⟨y6, e7, hm⟩ := bnd hm
  refine RQ.call rfl (am2 rfl rfl) (by kernel_rfl) (v := .int .i64 y6) (bel (K := fun _ => True) fun w' hb' => (c_m_spec_l12Start d0 d1 _ e7 _ w' (ptBox (R := netRd) (blkT B3 hb') ⟨_, _, _, rfl, ⟨SlAt.now agentRd_ok h1 (Nat.le_refl _) (Tt T hb'), r1⟩⟩))) ?_
  refine RQ.y rfl (Y.assign (v := .int .i64 y6) rfl) ?_
  refine RQ.nil ?_
  intro w8 hb9
  have szw8 := hb9.size
  have B3 := blkT B3 hb9
  have T := Tt T hb9
  refine then_n ?_
  refine wp_seq ?_
  refine wp_rs rfl ?_
  refine RQ.y rfl (Y.move (v := .int .i64 y6) rfl) ?_
  refine RQ.y rfl (Y.binI (v := .bool (y6 != 0)) rfl rfl rfl) ?_
  refine RQ.nil ?_
  refine then_n ?_
  rcases bcases (y6 != 0) with c10 | c10
  · replace hm := cF c10 hm
    refine cond_f rfl (vb rfl c10) ?_
    refine wp_skip ?_
    refine then_n ?_
    refine wp_seq ?_
    refine wp_rl rfl ?_
    refine RL.y rfl (Y.move (v := .int .i64 d1) s1) ?_
    obtain ⟨y11, e12, hm⟩ := bnd hm
    refine RL.call rfl (am2 rfl rfl) (by kernel_rfl) ((c_m_spec_l12Traverse d0 d1 _ e12 _ _ (ptBox (R := netRd) B3 ⟨_, _, _, rfl, ⟨SlAt.now agentRd_ok h1 (Nat.le_refl _) T, r1⟩⟩)).mono ?_)
    rintro _ w19 ⟨⟨v13, v16, rfl, G14, G17, Do15_o18⟩, hb20⟩
    refine ⟨_, rfl, ?_⟩
    have szw19 := hb20.size
    have T0w19 := T.size
    have No15_ob5 := OwF.ne G14 B3.lt
    have No18_ob5 := OwF.ne G17 B3.lt
    have B3 := blkT B3 hb20
    have T := Tt T hb20
    replace G14 := OwF.mono G14 T0w19
    replace G17 := OwF.mono G17 T0w19
    refine RL.y rfl (Y.move (v := .tuple #[v13, v16]) rfl) ?_
    refine RL.y rfl (Y.extract (i := 0) rfl rfl) ?_
    refine RL.y rfl (Y.extract (i := 1) rfl rfl) ?_
    refine RL.y rfl (Y.assign (v := v13) rfl) ?_
    refine RL.y rfl (Y.assign (v := v16) rfl) ?_
    refine RL.nil ?_
    refine then_n ?_
    refine wp_seq ?_
    refine wp_rs rfl ?_
    refine RQ.y rfl (Y.move (v := v13) rfl) ?_
    refine RQ.y rfl (Y.assign (v := v13) rfl) ?_
    refine RQ.y rfl (Y.assign (v := .int .i64 0) rfl) ?_
    refine RQ.nil ?_
    refine then_n ?_
    refine wp_ret ?_
    obtain rfl := Option.some.inj hm
    exact (ret2 rfl rfl rfl rfl ⟨⟨_, rfl, G14⟩, T⟩)
  · replace hm := cT c10 hm
    refine cond_t rfl (vb rfl c10) ?_
    refine wp_seq ?_
    refine wp_rl rfl ?_
    refine RL.bslice (e := 2) (cells := #[]) rfl pm0 (by kernel_rfl) (fun w22 B23 hb24 szw22 => ?_)
    have ZB23 : w.heap.size ≤ w8.heap.size := T.size
    have No25_ob5 := litNe (n := 0) (c := 0) B3.lt
    have B3 := blkT B3 hb24
    have T := Tt T hb24
    have G26 := OwF.lit (enc := encI) (sz := 1) (xs := ([] : List Int)) B23 ZB23 rfl rfl rfl rfl
    refine RL.y rfl (Y.move (v := .int .i64 y6) rfl) ?_
    refine RL.y rfl (Y.assign (v := .slice (some ⟨w8.heap.size, 0, none⟩) 0 0) rfl) ?_
    refine RL.y rfl (Y.assign (v := .int .i64 y6) rfl) ?_
    refine RL.nil ?_
    refine then_n ?_
    refine wp_ret ?_
    obtain rfl := Option.some.inj hm
    exact (then_r (ret2 rfl rfl rfl rfl ⟨⟨_, rfl, G26⟩, T⟩))

def m_impl_Net_traverse_A1 (xs18 : List Int) : Option (List Int) :=
  some xs18
def m_impl_Net_traverse_A2 (rec1 : List Int → Int → MapM Int Bool → Option (List Int)) (i21 : Int) (xs46 : List Int) (z47 : MapM Int Bool) : Option (List Int) :=
  ((ck (i21 + 1)).bind fun s49 => (rec1 xs46 s49 z47))
def m_impl_Net_traverse_B2 (x33 : DAgent) (rec2 : List Int → Int → MapM Int Bool → Option (List Int)) (K2 : List Int → MapM Int Bool → Option (List Int)) (xs50 : List Int) (i51 : Int) (z52 : MapM Int Bool) : Option (List Int) :=
  (bif (decide (i51 < (x33.ports.length : Int))) then ((getI x33.ports i51).bind fun x55 => ((ck x55.agent).bind fun _ => (bif (z52.look x55.agent false) then (rec2 xs50 (i51 + 1) z52) else ((ck x55.agent).bind fun _ => ((mustP (z52.n ≤ 4294967296)).bind fun _ => ((mustP (xs50.length + ([x55.agent]).length ≤ 4294967296)).bind fun _ => (rec2 (xs50 ++ [x55.agent]) (i51 + 1) (z52.put x55.agent true)))))))) else (K2 xs50 z52))
def m_impl_Net_traverse_L2 (x33 : DAgent) (K2 : List Int → MapM Int Bool → Option (List Int)) : Nat → List Int → Int → MapM Int Bool → Option (List Int)
  | 0, _, _, _ => none
  | g + 1, xs50, i51, z52 => m_impl_Net_traverse_B2 x33 (m_impl_Net_traverse_L2 x33 K2 g) K2 xs50 i51 z52
def m_impl_Net_traverse_B1 (d0 : DNet) (rec1 : List Int → Int → MapM Int Bool → Option (List Int)) (K1 : List Int → Option (List Int)) (xs20 : List Int) (i21 : Int) (z22 : MapM Int Bool) : Option (List Int) :=
  (bif (decide (i21 < (xs20.length : Int))) then ((getI xs20 i21).bind fun x27 => ((getI d0.agents x27).bind fun x33 => (m_impl_Net_traverse_L2 x33 (m_impl_Net_traverse_A2 rec1 i21) (x33.ports.length + 1) xs20 0 z22))) else (K1 xs20))
def m_impl_Net_traverse_L1 (d0 : DNet) (K1 : List Int → Option (List Int)) : Nat → List Int → Int → MapM Int Bool → Option (List Int)
  | 0, _, _, _ => none
  | g + 1, xs20, i21, z22 => m_impl_Net_traverse_B1 d0 (m_impl_Net_traverse_L1 d0 K1 g) K1 xs20 i21 z22
def m_impl_Net_traverse (d0 : DNet) (d1 : Int) : Option (List Int) :=
  ((ck d1).bind fun _ => ((mustP ((MapM.empty : MapM Int Bool).n ≤ 4294967296)).bind fun _ => (m_impl_Net_traverse_L1 d0 m_impl_Net_traverse_A1 (d0.agents.length + 2) ([d1]) 0 ((MapM.empty : MapM Int Bool).put d1 true))))
set_option maxHeartbeats 2000000 in
theorem c_m_impl_Net_traverse (d0 : DNet) (d1 : Int) (r : List Int) (hm : m_impl_Net_traverse d0 d1 = some r) (v0 : Value) (w : World) (hv0 : Pt netRd w v0 d0) :
    Calls Try.prog 82 #[v0, .int .i64 d1] w fun e w' => (∃ v, e = .returned v ∧ OwF 2 encI 1 w' w.heap.size v r) ∧ Below w.heap.size w w' := by
  obtain ⟨ba0, oa0, csa0, rfl, hba0, hRa0, hca0⟩ := hv0
  have hSa0 := hRa0
  obtain ⟨A1, n1, c1, rfl, ⟨h1, r1⟩⟩ := hRa0
  have e1 := h1.len; subst e1
  have q1 := len_le r1
  have T := Below.refl w.heap.size w
  unfold m_impl_Net_traverse at hm
  refine enter 52 Try.func82 rfl rfl rfl ?_
  intro f hf
  have s0 : f 0 = .pointer (some ⟨ba0, oa0, none⟩) := hf 0 _ rfl
  have s1 : f 1 = .int .i64 d1 := hf 1 _ rfl
  refine wp_seq ?_
  refine wp_rs rfl ?_
  refine RQ.y rfl (Y.assign (v := .slice none 0 0) rfl) ?_
  refine RQ.nil ?_
  refine then_n ?_
  refine wp_seq ?_
  refine wp_rl rfl ?_
  refine RL.y rfl (Y.move (v := .int .i64 d1) s1) ?_
  refine RL.bslice (e := 2) (cells := #[.int .i64 d1]) rfl (pm1 rfl) (by kernel_rfl) (fun w2 B3 hb4 szw2 => ?_)
  have ZB3 : w.heap.size ≤ w.heap.size := T.size
  have T := Tt T hb4
  have G6 := OwF.lit (enc := encI) (sz := 1) (xs := [d1]) B3 ZB3 rfl rfl rfl rfl
  refine RL.y rfl (Y.assign (v := .slice (some ⟨w.heap.size, 0, none⟩) 1 1) rfl) ?_
  refine RL.nil ?_
  refine then_n ?_
  refine wp_seq ?_
  refine wp_rl rfl ?_
  refine RL.makeMap (κ := Int) (β := Bool) 2 litI encVB rfl (fun w8 B9 hb10 szw8 => ?_)
  replace B9 := OwM.lower B9 T.size
  have No5_ob11 := OwF.far G6 (Nat.le_refl _)
  have G6 := OwF.below G6 hb10
  have T := Tt T hb10
  refine RL.y rfl (Y.move (v := .int .i64 d1) s1) ?_
  obtain ⟨_, kc12, hm⟩ := bnd hm
  replace kc12 := (ck_some kc12).2
  obtain ⟨_, m13, hm⟩ := bnd hm
  have hk14 := mustP_some m13
  refine RL.mapIns (a := d1) (v := true) (enc := encVB) mt_int64_bool rfl rfl rfl rfl kc12 B9 hk14 (fun w15 B16 ho17 => ?_)
  have szw15 := ho17.size
  have G6 := OwF.only G6 ho17 No5_ob11
  have T := T.trans (ho17.below (by intro b hb; simp at hb; subst hb; exact B9.1))
  refine RL.y rfl (Y.move (v := .map (some w2.heap.size)) rfl) ?_
  refine RL.y rfl (Y.assign (v := .map (some w2.heap.size)) rfl) ?_
  refine RL.nil ?_
  refine then_n ?_
  refine wp_seq ?_
  refine wp_seq ?_
  refine wp_rs rfl ?_
  refine RQ.y rfl (Y.assign (v := .int .i64 0) rfl) ?_
  refine RQ.nil ?_
  refine then_n ?_
  refine wp_block ?_
  obtain ⟨K1, hK1, hm⟩ : ∃ K, K = m_impl_Net_traverse_A1 ∧ m_impl_Net_traverse_L1 d0 K (d0.agents.length + 2) ([d1]) 0 ((MapM.empty : MapM Int Bool).put d1 true) = some r := ⟨_, rfl, hm⟩
  refine wp_loopX (fun g f w' => ∃ (xs20 : List Int) (i21 : Int) (z22 : MapM Int Bool) (uxs20 : Value), f 0 = .pointer (some ⟨ba0, oa0, none⟩) ∧ f 6 = .map (some w2.heap.size) ∧ f 5 = uxs20 ∧ OwF 2 encI 1 w' w.heap.size uxs20 xs20 ∧ f 7 = .int .i64 i21 ∧ 0 ≤ i21 ∧ OwM Try.prog 2 litI encVB w' w.heap.size w2.heap.size z22 ∧ Value.ownBlock uxs20 ≠ some w2.heap.size ∧ Below w.heap.size w w' ∧ m_impl_Net_traverse_L1 d0 K1 g xs20 i21 z22 = some r) 0 (fun f w' => ∃ (xs18 : List Int) (uxs18 : Value), f 5 = uxs18 ∧ OwF 2 encI 1 w' w.heap.size uxs18 xs18 ∧ Value.ownBlock uxs18 ≠ some w2.heap.size ∧ Below w.heap.size w w' ∧ m_impl_Net_traverse_A1 xs18 = some r) (d0.agents.length + 2) ⟨([d1]), 0, ((MapM.empty : MapM Int Bool).put d1 true), (.slice (some ⟨w.heap.size, 0, none⟩) 1 1), s0, rfl, rfl, G6, rfl, (by omega), B16, No5_ob11, T, hm⟩ ?_ ?_
  · rintro f w19 ⟨xs18, uxs18, s5_1x, Gxs18, Noxs18_ob11, T, hm⟩
    unfold m_impl_Net_traverse_A1 at hm
    refine blk_hit (then_n ?_)
    refine wp_seq ?_
    refine wp_rs rfl ?_
    refine RQ.y rfl (Y.move (v := uxs18) s5_1x) ?_
    refine RQ.y rfl (Y.assign (v := uxs18) rfl) ?_
    refine RQ.nil ?_
    refine then_n ?_
    refine wp_ret ?_
    obtain rfl := Option.some.inj hm
    exact (ret1 rfl rfl rfl ⟨⟨_, rfl, Gxs18⟩, T⟩)
  · rintro g f w23 ⟨xs20, i21, z22, uxs20, s0_1, s6_1, s5_1, Gxs20, s7_1, nn7_1, Bz22, Noxs20_ob11, T, hm⟩
    rcases g with _ | g
    · simp only [m_impl_Net_traverse_L1] at hm; cases hm
    obtain ⟨rec1, hrec1, hm⟩ : ∃ z, z = m_impl_Net_traverse_L1 d0 K1 g ∧ m_impl_Net_traverse_B1 d0 z K1 xs20 i21 z22 = some r := ⟨_, rfl, hm⟩
    unfold m_impl_Net_traverse_B1 at hm
    refine wp_seq ?_
    refine wp_seq ?_
    refine wp_rs rfl ?_
    refine RQ.y rfl (Y.move (v := .int .i64 i21) s7_1) ?_
    refine RQ.y rfl (Y.move (v := uxs20) s5_1) ?_
    obtain ⟨A24, c25, rfl⟩ := OwF.form Gxs20
    have qbA24 := OwF.bound Gxs20
    refine RQ.y rfl (Y.len (by kernel_rfl) rfl) ?_
    refine RQ.y rfl (Y.binI (v := .bool (decide (i21 < (xs20.length : Int)))) rfl rfl rfl) ?_
    refine RQ.nil ?_
    refine then_n ?_
    rcases bcases (decide (i21 < (xs20.length : Int))) with c26 | c26
    · replace hm := cF c26 hm
      have pc26 := of_decide_eq_false c26
      refine cond_f rfl (vb rfl c26) ?_
      refine wp_exit ?_
      exact (then_x (then_x (hit_x ⟨_, rfl, ⟨xs20, (.slice A24 xs20.length c25), s5_1, Gxs20, Noxs20_ob11, T, (by rw [hK1] at hm; exact hm)⟩⟩)))
    · replace hm := cT c26 hm
      have pc26 := of_decide_eq_true c26
      refine cond_t rfl (vb rfl c26) ?_
      refine wp_skip ?_
      refine then_n ?_
      refine wp_seq ?_
      refine wp_block ?_
      refine wp_seq ?_
      refine wp_rbd (by kernel_rfl) (by kernel_rfl) ?_
      refine RQ.y rfl (Y.move (v := .pointer (some ⟨ba0, oa0, none⟩)) s0_1) ?_
      refine RQ.y rfl (Y.nilCheck rfl) ?_
      refine RQ.y rfl (Y.fieldAddr (off := 0) rfl (by kernel_rfl)) ?_
      refine RQ.y rfl (Y.load (v := .slice A1 d0.agents.length c1) rfl (by kernel_rfl) (beC (cellT T (hca0 0 _ rfl)))) ?_
      refine RQ.y rfl (Y.move (v := .slice A24 xs20.length c25) s5_1) ?_
      refine RQ.y rfl (Y.move (v := .int .i64 i21) s7_1) ?_
      obtain ⟨x27, hx29, hm⟩ := bnd hm
      obtain ⟨k28, hk30, hl31, hx29⟩ := getI_some hx29
      obtain ⟨b32, rfl⟩ := OwF.addr0 Gxs20 (by omega)
      refine RQ.y rfl (Y.indexAddr (m := k28) (sz := 1) rfl rfl hk30 hl31 (by kernel_rfl)) ?_
      refine RQ.y rfl (Y.load (v := .int .i64 x27) rfl (by kernel_rfl) (beC (OwF.cell fI Gxs20 hx29 (j := 0) rfl))) ?_
      obtain ⟨x33, hx36, hm⟩ := bnd hm
      obtain ⟨k34, hk37, hl38, hx36⟩ := getI_some hx36
      obtain ⟨b40, o41, rfl, hbb40⟩ := h1.addr (by omega)
      obtain ⟨cs35, hRcs35, hc39⟩ := h1.el hx36
      have hScs35 := hRcs35
      obtain ⟨A42, n42, c42, A43, n43, c43, rfl, ⟨h42, r42⟩, ⟨h43, r43⟩⟩ := hRcs35
      have e42 := h42.len; subst e42
      have q42 := len_le r42
      have e43 := h43.len; subst e43
      have q43 := len_le r43
      refine RQ.y rfl (Y.indexAddr (m := k34) (sz := 5) rfl rfl hk37 hl38 (by kernel_rfl)) ?_
      refine RQ.y rfl (Y.fieldAddr (off := 4) rfl (by kernel_rfl)) ?_
      refine RQ.y rfl (Y.load (v := .slice A43 x33.ports.length c43) rfl (by kernel_rfl) (beC (cellT T (hc39 4 _ rfl)))) ?_
      refine RQ.y rfl (Y.len (by kernel_rfl) rfl) ?_
      refine RQ.y rfl (Y.move (v := .int .i64 0) rfl) ?_
      refine RQ.nil ?_
      intro w44 hb45
      have szw44 := hb45.size
      have Bz22 := OwM.below Bz22 hb45
      have Gxs20 := OwF.below Gxs20 hb45
      have T := Tt T hb45
      refine then_n ?_
      refine wp_block ?_
      obtain ⟨K2, hK2, hm⟩ : ∃ K, K = (m_impl_Net_traverse_A2 rec1 i21) ∧ m_impl_Net_traverse_L2 x33 K (x33.ports.length + 1) xs20 0 z22 = some r := ⟨_, rfl, hm⟩
      refine wp_loopX (fun g f w' => ∃ (xs50 : List Int) (i51 : Int) (z52 : MapM Int Bool) (uxs50 : Value), f 0 = .pointer (some ⟨ba0, oa0, none⟩) ∧ f 6 = .map (some w2.heap.size) ∧ f 7 = .int .i64 i21 ∧ f 31 = .slice A43 x33.ports.length c43 ∧ f 32 = .int .i64 (x33.ports.length : Int) ∧ f 5 = uxs50 ∧ OwF 2 encI 1 w' w.heap.size uxs50 xs50 ∧ f 33 = .int .i64 i51 ∧ 0 ≤ i51 ∧ OwM Try.prog 2 litI encVB w' w.heap.size w2.heap.size z52 ∧ Value.ownBlock uxs50 ≠ some w2.heap.size ∧ Below w.heap.size w w' ∧ m_impl_Net_traverse_L2 x33 K2 g xs50 i51 z52 = some r) 2 (fun f w' => ∃ (xs46 : List Int) (z47 : MapM Int Bool) (uxs46 : Value), f 0 = .pointer (some ⟨ba0, oa0, none⟩) ∧ f 6 = .map (some w2.heap.size) ∧ f 7 = .int .i64 i21 ∧ f 5 = uxs46 ∧ OwF 2 encI 1 w' w.heap.size uxs46 xs46 ∧ OwM Try.prog 2 litI encVB w' w.heap.size w2.heap.size z47 ∧ Value.ownBlock uxs46 ≠ some w2.heap.size ∧ Below w.heap.size w w' ∧ m_impl_Net_traverse_A2 rec1 i21 xs46 z47 = some r) (x33.ports.length + 1) ⟨xs20, 0, z22, (.slice (some ⟨b32, 0, none⟩) xs20.length c25), s0_1, s6_1, s7_1, rfl, rfl, s5_1, Gxs20, rfl, (by omega), Bz22, Noxs20_ob11, T, hm⟩ ?_ ?_
      · rintro f w48 ⟨xs46, z47, uxs46, s0_2x, s6_2x, s7_2x, s5_2x, Gxs46, Bz47, Noxs46_ob11, T, hm⟩
        unfold m_impl_Net_traverse_A2 at hm
        refine blk_hit (blk_n (then_n ?_))
        refine wp_rs rfl ?_
        refine RQ.y rfl (Y.move (v := .int .i64 i21) s7_2x) ?_
        obtain ⟨s49, ks49, hm⟩ := bnd hm
        replace ks49 := ck_some ks49
        refine RQ.y rfl (Y.binI (v := .int .i64 s49) rfl rfl (by rw [binI_add ks49.2, ks49.1])) ?_
        refine RQ.y rfl (Y.assign (v := .int .i64 s49) rfl) ?_
        refine RQ.nil ?_
        exact (then_n ⟨g, _, Nat.lt_succ_self _, rfl, ⟨xs46, s49, z47, (uxs46), s0_2x, s6_2x, s5_2x, Gxs46, rfl, (by omega), Bz47, Noxs46_ob11, T, (by rw [← hrec1]; exact hm)⟩⟩)
      · rintro g f w53 ⟨xs50, i51, z52, uxs50, s0_2, s6_2, s7_2, s31_2, s32_2, s5_2, Gxs50, s33_2, nn33_2, Bz52, Noxs50_ob11, T, hm⟩
        rcases g with _ | g
        · simp only [m_impl_Net_traverse_L2] at hm; cases hm
        obtain ⟨rec2, hrec2, hm⟩ : ∃ z, z = m_impl_Net_traverse_L2 x33 K2 g ∧ m_impl_Net_traverse_B2 x33 z K2 xs50 i51 z52 = some r := ⟨_, rfl, hm⟩
        unfold m_impl_Net_traverse_B2 at hm
        refine wp_seq ?_
        refine wp_rs rfl ?_
        refine RQ.y rfl (Y.binI (v := .bool (decide (i51 < (x33.ports.length : Int)))) s33_2 s32_2 rfl) ?_
        refine RQ.nil ?_
        refine then_n ?_
        refine wp_seq ?_
        rcases bcases (decide (i51 < (x33.ports.length : Int))) with c54 | c54
        · replace hm := cF c54 hm
          have pc54 := of_decide_eq_false c54
          refine cond_f rfl (vb rfl c54) ?_
          refine wp_exit ?_
          exact (then_x (then_x (hit_x ⟨_, rfl, ⟨xs50, z52, (uxs50), s0_2, s6_2, s7_2, s5_2, Gxs50, Bz52, Noxs50_ob11, T, (by rw [hK2] at hm; exact hm)⟩⟩)))
        · replace hm := cT c54 hm
          have pc54 := of_decide_eq_true c54
          refine cond_t rfl (vb rfl c54) ?_
          refine wp_skip ?_
          refine then_n ?_
          refine wp_seq ?_
          refine wp_block ?_
          refine wp_seq ?_
          refine wp_rl rfl ?_
          obtain ⟨x55, hx58, hm⟩ := bnd hm
          obtain ⟨k56, hk59, hl60, hx58⟩ := getI_some hx58
          obtain ⟨b62, o63, rfl, hbb62⟩ := h43.addr (by omega)
          obtain ⟨cs57, hRcs57, hc61⟩ := h43.el hx58
          have hScs57 := hRcs57
          obtain rfl := hRcs57
          refine RL.y rfl (Y.indexAddr (m := k56) (sz := 2) s31_2 s33_2 hk59 hl60 (by kernel_rfl)) ?_
          refine RL.y rfl (Y.loadN (cs := [.int .i64 x55.agent, .int .i64 x55.slot]) rfl (by kernel_rfl) (cells2 (eqC (cellT T (hc61 0 _ rfl))) (eqC (cellT T (hc61 1 _ rfl))))) ?_
          refine RL.alloc (z := .agg #[.int .i64 0, .int .i64 0]) rfl (by kernel_rfl) (fun w64 B65 hb66 szw64 => ?_)
          replace B65 : Blk w64 w53.heap.size 35 #[.int .i64 0, .int .i64 0] := B65
          have GB65 : w.heap.size ≤ w53.heap.size := T.size
          have Eob67_ob11 := Nat.ne_of_lt Bz52.lt
          have Noxs50_ob67 := OwF.far Gxs50 (Nat.le_refl _)
          have Bz52 := OwM.below Bz52 hb66
          have Gxs50 := OwF.below Gxs50 hb66
          have T := Tt T hb66
          refine RL.store (v := .agg #[.int .i64 x55.agent, .int .i64 x55.slot]) (cs' := #[.int .i64 x55.agent, .int .i64 x55.slot]) rfl rfl rfl B65 (by kernel_rfl) (by rfl) (by rfl) (by rfl) (fun w68 B69 ho70 => ?_)
          have szw68 := ho70.size
          have Bz52 := Bz52.only ho70 (by intro hin; simp at hin; exact Eob67_ob11 hin)
          have Gxs50 := OwF.only Gxs50 ho70 Noxs50_ob67
          have T := T.trans (ho70.below (by first | (simp; done) | (simp; omega)))
          refine RL.nil ?_
          refine then_n ?_
          refine wp_seq ?_
          refine wp_rs rfl ?_
          refine RQ.y rfl (Y.move (v := .map (some w2.heap.size)) s6_2) ?_
          refine RQ.y rfl (Y.fieldAddr (off := 0) rfl (by kernel_rfl)) ?_
          refine RQ.y rfl (Y.load (v := .int .i64 x55.agent) rfl (by kernel_rfl) (eqC (blkCell B69 (i := 0) rfl))) ?_
          obtain ⟨_, kc71, hm⟩ := bnd hm
          replace kc71 := (ck_some kc71).2
          refine RQ.y rfl (Y.look (zb := false) (a := x55.agent) mt_int64_bool rfl rfl kc71 (fun w' e => by rw [e]; exact Bz52)) ?_
          refine RQ.y rfl (Y.not (b' := (!(z52.look x55.agent false))) rfl rfl) ?_
          refine RQ.nil ?_
          refine then_n ?_
          rcases bcases (z52.look x55.agent false) with c72 | c72
          · replace hm := cF c72 hm
            refine cond_t rfl (vbn rfl c72 rfl) ?_
            refine wp_seq ?_
            refine wp_rl rfl ?_
            refine RL.y rfl (Y.move (v := .map (some w2.heap.size)) s6_2) ?_
            refine RL.y rfl (Y.fieldAddr (off := 0) rfl (by kernel_rfl)) ?_
            refine RL.y rfl (Y.load (v := .int .i64 x55.agent) rfl (by kernel_rfl) (eqC (blkCell B69 (i := 0) rfl))) ?_
            obtain ⟨_, kc73, hm⟩ := bnd hm
            replace kc73 := (ck_some kc73).2
            obtain ⟨_, m74, hm⟩ := bnd hm
            have hk75 := mustP_some m74
            refine RL.mapSet (a := x55.agent) (v := true) (enc := encVB) mt_int64_bool rfl rfl rfl rfl kc73 Bz52 hk75 (fun w76 B77 ho78 => ?_)
            have szw76 := ho78.size
            have B69 := B69.only_ ho78 (by intro hin; simp at hin; exact Eob67_ob11.symm hin)
            have Gxs50 := OwF.only Gxs50 ho78 Noxs50_ob11
            have T := T.trans (ho78.below (by intro b hb; simp at hb; subst hb; exact Bz52.1))
            refine RL.nil ?_
            refine then_n ?_
            refine wp_rl rfl ?_
            refine RL.y rfl (Y.move (v := uxs50) s5_2) ?_
            refine RL.y rfl (Y.fieldAddr (off := 0) rfl (by kernel_rfl)) ?_
            refine RL.y rfl (Y.load (v := .int .i64 x55.agent) rfl (by kernel_rfl) (eqC (blkCell B69 (i := 0) rfl))) ?_
            refine RL.bslice (e := 2) (cells := #[.int .i64 x55.agent]) rfl (pm1 rfl) (by kernel_rfl) (fun w79 B80 hb81 szw79 => ?_)
            have ZB80 : w.heap.size ≤ w76.heap.size := T.size
            have No82_ob11 := litNe (n := 1) (c := 1) B77.lt
            have No82_ob67 := litNe (n := 1) (c := 1) B69.lt
            have Do82_oxs50 := Dj.new (v := .slice (some ⟨w76.heap.size, 0, none⟩) 1 1) litGe (OwF.hi Gxs50)
            have B77 := OwM.below B77 hb81
            have B69 := blkT B69 hb81
            have Gxs50 := OwF.below Gxs50 hb81
            have T := Tt T hb81
            have G83 := OwF.lit (enc := encI) (sz := 1) (xs := [x55.agent]) B80 ZB80 rfl rfl rfl rfl
            obtain ⟨_, m85, hm⟩ := bnd hm
            have hk86 := mustP_some m85
            refine RL.append fI app_int64 rfl rfl rfl Gxs50 (OwF.arg fI G83) T.size hk86 (fun v87 w88 G89 hgr90 hbl91 hnb92 => ?_)
            have szw88 := hbl91.size
            have No93_ob11 := ne_app hnb92 Noxs50_ob11 B77.lt
            have No93_ob67 := ne_app hnb92 Noxs50_ob67 B69.lt
            have B77 := OwM.grown B77 hgr90 Noxs50_ob11
            have B69 := Blk.kept B69 hgr90 Noxs50_ob67
            have T := T.trans hbl91
            refine RL.y rfl (Y.assign (v := v87) rfl) ?_
            refine RL.nil ?_
            refine blk_n (then_n ?_)
            refine wp_rs rfl ?_
            refine RQ.y rfl (Y.binI s33_2 rfl (binI_add (m := i51) (by omega))) ?_
            refine RQ.y rfl (Y.move (v := .int .i64 (i51 + 1)) rfl) ?_
            refine RQ.nil ?_
            exact (then_n ⟨g, _, Nat.lt_succ_self _, rfl, ⟨(xs50 ++ [x55.agent]), (i51 + 1), (z52.put x55.agent true), (v87), s0_2, s6_2, s7_2, s31_2, s32_2, rfl, G89, rfl, (by omega), B77, No93_ob11, T, (by rw [← hrec2]; exact hm)⟩⟩)
          · replace hm := cT c72 hm
            refine cond_f rfl (vbn rfl c72 rfl) ?_
            refine wp_skip ?_
            refine blk_n (then_n ?_)
            refine wp_rs rfl ?_
            refine RQ.y rfl (Y.binI s33_2 rfl (binI_add (m := i51) (by omega))) ?_
            refine RQ.y rfl (Y.move (v := .int .i64 (i51 + 1)) rfl) ?_
            refine RQ.nil ?_
            exact (then_n ⟨g, _, Nat.lt_succ_self _, rfl, ⟨xs50, (i51 + 1), z52, (uxs50), s0_2, s6_2, s7_2, s31_2, s32_2, s5_2, Gxs50, rfl, (by omega), Bz52, Noxs50_ob11, T, (by rw [← hrec2]; exact hm)⟩⟩)

def m_impl_TraverseFrom (d0 : DNet) (d1 : Int) : Option ((List Int) × Int) :=
  ((m_impl_ValidNet d0).bind fun y6 => (bif y6 then ((m_impl_Net_hasAgent d0 d1).bind fun y11 => (bif y11 then ((m_impl_Net_traverse d0 d1).bind fun y16 => some (y16, 0)) else some ([], 2))) else some ([], 1)))
set_option maxHeartbeats 2000000 in
theorem c_m_impl_TraverseFrom (d0 : DNet) (d1 : Int) (r : (List Int) × Int) (hm : m_impl_TraverseFrom d0 d1 = some r) (v0 : Value) (w : World) (hv0 : St netRd w v0 d0) :
    Calls Try.prog 38 #[v0, .int .i64 d1] w fun e w' => (∃ v, e = .returned (.tuple #[v, .int .i64 r.2]) ∧ OwF 2 encI 1 w' w.heap.size v r.1) ∧ Below w.heap.size w w' := by
  obtain ⟨csa0, rfl, ⟨A1, n1, c1, rfl, ⟨h1, r1⟩⟩⟩ := hv0
  have e1 := h1.len; subst e1
  have q1 := len_le r1
  have T := Below.refl w.heap.size w
  unfold m_impl_TraverseFrom at hm
  refine enter 14 Try.func38 rfl rfl rfl ?_
  intro f hf
  have s0 : f 0 = .agg #[.slice A1 d0.agents.length c1] := hf 0 _ rfl
  have s1 : f 1 = .int .i64 d1 := hf 1 _ rfl
  refine wp_seq ?_
  refine wp_rl rfl ?_
  refine RL.box rfl s0 (fun w2 B3 hb4 szw2 => ?_)
  replace B3 : Blk w2 w.heap.size 29 #[.slice A1 d0.agents.length c1] := B3
  have GB3 : w.heap.size ≤ w.heap.size := T.size
  have T := Tt T hb4
  refine RL.y rfl (Y.assign (v := .slice none 0 0) rfl) ?_
  refine RL.y rfl (Y.assign (v := .int .i64 0) rfl) ?_
  refine RL.nil ?_
  refine then_n ?_
  refine wp_seq ?_
  refine wp_seq ?_
  refine wp_rb rfl ?_
  refine RQ.y rfl (Y.loadN (cs := [.slice A1 d0.agents.length c1]) rfl (by kernel_rfl) (cells1 (beC (blkCell B3 (i := 0) rfl)))) ?_
  obtain ⟨y6, e7, hm⟩ := bnd hm
  refine RQ.call rfl (am1 rfl) (by kernel_rfl) (v := .bool y6) (bel (K := fun _ => True) fun w' hb' => (c_m_impl_ValidNet d0 _ e7 _ w' (stArg (R := netRd) ⟨_, _, _, rfl, ⟨SlAt.now agentRd_ok h1 (Nat.le_refl _) (Tt T hb'), r1⟩⟩))) ?_
  refine RQ.y rfl (Y.not (b' := (!y6)) rfl rfl) ?_
  refine RQ.nil ?_
  intro w8 hb9
  have szw8 := hb9.size
  have B3 := blkT B3 hb9
  have T := Tt T hb9
  refine then_n ?_
  rcases bcases y6 with c10 | c10
  · replace hm := cF c10 hm
    refine cond_t rfl (vbn rfl c10 rfl) ?_
    refine wp_seq ?_
    refine wp_rs rfl ?_
    refine RQ.y rfl (Y.assign (v := .slice none 0 0) rfl) ?_
    refine RQ.y rfl (Y.assign (v := .int .i64 1) rfl) ?_
    refine RQ.nil ?_
    refine then_n ?_
    refine wp_ret ?_
    obtain rfl := Option.some.inj hm
    exact (then_r (ret2 rfl rfl rfl rfl ⟨⟨_, rfl, OwF.nil⟩, T⟩))
  · replace hm := cT c10 hm
    refine cond_f rfl (vbn rfl c10 rfl) ?_
    refine wp_skip ?_
    refine then_n ?_
    refine wp_seq ?_
    refine wp_seq ?_
    refine wp_rb rfl ?_
    refine RQ.y rfl (Y.move (v := .int .i64 d1) s1) ?_
    obtain ⟨y11, e12, hm⟩ := bnd hm
    refine RQ.call rfl (am2 rfl rfl) (by kernel_rfl) (v := .bool y11) (bel (K := fun _ => True) fun w' hb' => (c_m_impl_Net_hasAgent d0 d1 _ e12 _ w' (ptBox (R := netRd) (blkT B3 hb') ⟨_, _, _, rfl, ⟨SlAt.now agentRd_ok h1 (Nat.le_refl _) (Tt T hb'), r1⟩⟩))) ?_
    refine RQ.y rfl (Y.not (b' := (!y11)) rfl rfl) ?_
    refine RQ.nil ?_
    intro w13 hb14
    have szw13 := hb14.size
    have B3 := blkT B3 hb14
    have T := Tt T hb14
    refine then_n ?_
    rcases bcases y11 with c15 | c15
    · replace hm := cF c15 hm
      refine cond_t rfl (vbn rfl c15 rfl) ?_
      refine wp_seq ?_
      refine wp_rs rfl ?_
      refine RQ.y rfl (Y.assign (v := .slice none 0 0) rfl) ?_
      refine RQ.y rfl (Y.assign (v := .int .i64 2) rfl) ?_
      refine RQ.nil ?_
      refine then_n ?_
      refine wp_ret ?_
      obtain rfl := Option.some.inj hm
      exact (then_r (ret2 rfl rfl rfl rfl ⟨⟨_, rfl, OwF.nil⟩, T⟩))
    · replace hm := cT c15 hm
      refine cond_f rfl (vbn rfl c15 rfl) ?_
      refine wp_skip ?_
      refine then_n ?_
      refine wp_seq ?_
      refine wp_rl rfl ?_
      refine RL.y rfl (Y.move (v := .int .i64 d1) s1) ?_
      obtain ⟨y16, e17, hm⟩ := bnd hm
      refine RL.call rfl (am2 rfl rfl) (by kernel_rfl) ((c_m_impl_Net_traverse d0 d1 _ e17 _ _ (ptBox (R := netRd) B3 ⟨_, _, _, rfl, ⟨SlAt.now agentRd_ok h1 (Nat.le_refl _) T, r1⟩⟩)).mono ?_)
      rintro _ w21 ⟨⟨v18, rfl, G19⟩, hb22⟩
      refine ⟨_, rfl, ?_⟩
      have szw21 := hb22.size
      have T0w21 := T.size
      have No20_ob5 := OwF.ne G19 B3.lt
      have B3 := blkT B3 hb22
      have T := Tt T hb22
      replace G19 := OwF.mono G19 T0w21
      refine RL.y rfl (Y.assign (v := v18) rfl) ?_
      refine RL.y rfl (Y.assign (v := .int .i64 0) rfl) ?_
      refine RL.nil ?_
      refine then_n ?_
      refine wp_ret ?_
      obtain rfl := Option.some.inj hm
      exact (ret2 rfl rfl rfl rfl ⟨⟨_, rfl, G19⟩, T⟩)

def m_spec_l12Code_A1 (xs19 : List Int) : Option (List Int) :=
  some xs19
def m_spec_l12Code_A2 (rec1 : List Int → Int → Option (List Int)) (i22 : Int) (xs72 : List Int) : Option (List Int) :=
  ((ck (i22 + 1)).bind fun s74 => (rec1 xs72 s74))
def m_spec_l12Code_B2 (y2 : (List Int) × (List Int)) (x33 : DAgent) (rec2 : List Int → Int → Option (List Int)) (K2 : List Int → Option (List Int)) (xs75 : List Int) (i76 : Int) : Option (List Int) :=
  (bif (decide (i76 < (x33.ports.length : Int))) then ((getI x33.ports i76).bind fun x81 => ((getI y2.2 x81.agent).bind fun x92 => ((getI x33.ports i76).bind fun x98 => ((mustP (xs75.length + ([x92, x98.slot]).length ≤ 4294967296)).bind fun _ => (rec2 (xs75 ++ [x92, x98.slot]) (i76 + 1)))))) else (K2 xs75))
def m_spec_l12Code_L2 (y2 : (List Int) × (List Int)) (x33 : DAgent) (K2 : List Int → Option (List Int)) : Nat → List Int → Int → Option (List Int)
  | 0, _, _ => none
  | g + 1, xs75, i76 => m_spec_l12Code_B2 y2 x33 (m_spec_l12Code_L2 y2 x33 K2 g) K2 xs75 i76
def m_spec_l12Code_B1 (d0 : DNet) (y2 : (List Int) × (List Int)) (rec1 : List Int → Int → Option (List Int)) (K1 : List Int → Option (List Int)) (xs21 : List Int) (i22 : Int) : Option (List Int) :=
  (bif (decide (i22 < (y2.1.length : Int))) then ((getI y2.1 i22).bind fun x27 => ((getI d0.agents x27).bind fun x33 => ((mustP (xs21.length + ([x33.kind, x33.level, x33.value, (x33.data.length : Int)]).length ≤ 4294967296)).bind fun _ => ((mustP ((xs21 ++ [x33.kind, x33.level, x33.value, (x33.data.length : Int)]).length + x33.data.length ≤ 4294967296)).bind fun _ => (m_spec_l12Code_L2 y2 x33 (m_spec_l12Code_A2 rec1 i22) (x33.ports.length + 1) ((xs21 ++ [x33.kind, x33.level, x33.value, (x33.data.length : Int)]) ++ x33.data) 0))))) else (K1 xs21))
def m_spec_l12Code_L1 (d0 : DNet) (y2 : (List Int) × (List Int)) (K1 : List Int → Option (List Int)) : Nat → List Int → Int → Option (List Int)
  | 0, _, _ => none
  | g + 1, xs21, i22 => m_spec_l12Code_B1 d0 y2 (m_spec_l12Code_L1 d0 y2 K1 g) K1 xs21 i22
def m_spec_l12Code (d0 : DNet) (d1 : Int) : Option (List Int) :=
  ((m_spec_l12Traverse d0 d1).bind fun y2 => (m_spec_l12Code_L1 d0 y2 m_spec_l12Code_A1 (y2.1.length + 1) ([] : List Int) 0))
set_option maxHeartbeats 2000000 in
theorem c_m_spec_l12Code (d0 : DNet) (d1 : Int) (r : List Int) (hm : m_spec_l12Code d0 d1 = some r) (v0 : Value) (w : World) (hv0 : Pt netRd w v0 d0) :
    Calls Try.prog 83 #[v0, .int .i64 d1] w fun e w' => (∃ v, e = .returned v ∧ OwF 2 encI 1 w' w.heap.size v r) ∧ Below w.heap.size w w' := by
  obtain ⟨ba0, oa0, csa0, rfl, hba0, hRa0, hca0⟩ := hv0
  have hSa0 := hRa0
  obtain ⟨A1, n1, c1, rfl, ⟨h1, r1⟩⟩ := hRa0
  have e1 := h1.len; subst e1
  have q1 := len_le r1
  have T := Below.refl w.heap.size w
  unfold m_spec_l12Code at hm
  refine enter 91 Try.func83 rfl rfl rfl ?_
  intro f hf
  have s0 : f 0 = .pointer (some ⟨ba0, oa0, none⟩) := hf 0 _ rfl
  have s1 : f 1 = .int .i64 d1 := hf 1 _ rfl
  refine wp_seq ?_
  refine wp_rs rfl ?_
  refine RQ.y rfl (Y.assign (v := .slice none 0 0) rfl) ?_
  refine RQ.nil ?_
  refine then_n ?_
  refine wp_seq ?_
  refine wp_rl rfl ?_
  refine RL.y rfl (Y.move (v := .pointer (some ⟨ba0, oa0, none⟩)) s0) ?_
  refine RL.y rfl (Y.move (v := .int .i64 d1) s1) ?_
  obtain ⟨y2, e3, hm⟩ := bnd hm
  refine RL.call rfl (am2 rfl rfl) (by kernel_rfl) ((c_m_spec_l12Traverse d0 d1 _ e3 _ _ (ptArg netRd_ok hba0 hSa0 hca0 T)).mono ?_)
  rintro _ w10 ⟨⟨v4, v7, rfl, G5, G8, Do6_o9⟩, hb11⟩
  refine ⟨_, rfl, ?_⟩
  have szw10 := hb11.size
  have T0w10 := T.size
  have T := Tt T hb11
  replace G5 := OwF.mono G5 T0w10
  replace G8 := OwF.mono G8 T0w10
  refine RL.y rfl (Y.move (v := .tuple #[v4, v7]) rfl) ?_
  refine RL.y rfl (Y.extract (i := 0) rfl rfl) ?_
  refine RL.y rfl (Y.extract (i := 1) rfl rfl) ?_
  refine RL.y rfl (Y.assign (v := v4) rfl) ?_
  refine RL.y rfl (Y.assign (v := v7) rfl) ?_
  refine RL.nil ?_
  refine then_n ?_
  refine wp_seq ?_
  refine wp_rl rfl ?_
  refine RL.bslice (e := 2) (cells := #[]) rfl pm0 (by kernel_rfl) (fun w13 B14 hb15 szw13 => ?_)
  have ZB14 : w.heap.size ≤ w10.heap.size := T.size
  have Do16_o6 := Dj.new (v := .slice (some ⟨w10.heap.size, 0, none⟩) 0 0) litGe (OwF.hi G5)
  have Do16_o9 := Dj.new (v := .slice (some ⟨w10.heap.size, 0, none⟩) 0 0) litGe (OwF.hi G8)
  have G5 := OwF.below G5 hb15
  have G8 := OwF.below G8 hb15
  have T := Tt T hb15
  have G17 := OwF.lit (enc := encI) (sz := 1) (xs := ([] : List Int)) B14 ZB14 rfl rfl rfl rfl
  refine RL.y rfl (Y.assign (v := .slice (some ⟨w10.heap.size, 0, none⟩) 0 0) rfl) ?_
  refine RL.nil ?_
  refine then_n ?_
  refine wp_seq ?_
  refine wp_seq ?_
  refine wp_rs rfl ?_
  refine RQ.y rfl (Y.assign (v := .int .i64 0) rfl) ?_
  refine RQ.nil ?_
  refine then_n ?_
  refine wp_block ?_
  obtain ⟨K1, hK1, hm⟩ : ∃ K, K = m_spec_l12Code_A1 ∧ m_spec_l12Code_L1 d0 y2 K (y2.1.length + 1) ([] : List Int) 0 = some r := ⟨_, rfl, hm⟩
  refine wp_loopX (fun g f w' => ∃ (xs21 : List Int) (i22 : Int) (uxs21 : Value), f 0 = .pointer (some ⟨ba0, oa0, none⟩) ∧ f 5 = v4 ∧ f 6 = v7 ∧ f 7 = uxs21 ∧ OwF 2 encI 1 w' w.heap.size uxs21 xs21 ∧ f 8 = .int .i64 i22 ∧ 0 ≤ i22 ∧ Dj uxs21 v4 ∧ Dj uxs21 v7 ∧ OwF 2 encI 1 w' w.heap.size v4 y2.1 ∧ OwF 2 encI 1 w' w.heap.size v7 y2.2 ∧ Below w.heap.size w w' ∧ m_spec_l12Code_L1 d0 y2 K1 g xs21 i22 = some r) 0 (fun f w' => ∃ (xs19 : List Int) (uxs19 : Value), f 7 = uxs19 ∧ OwF 2 encI 1 w' w.heap.size uxs19 xs19 ∧ Below w.heap.size w w' ∧ m_spec_l12Code_A1 xs19 = some r) (y2.1.length + 1) ⟨([] : List Int), 0, (.slice (some ⟨w10.heap.size, 0, none⟩) 0 0), s0, rfl, rfl, rfl, G17, rfl, (by omega), Do16_o6, Do16_o9, G5, G8, T, hm⟩ ?_ ?_
  · rintro f w20 ⟨xs19, uxs19, s7_1x, Gxs19, T, hm⟩
    unfold m_spec_l12Code_A1 at hm
    refine blk_hit (then_n ?_)
    refine wp_seq ?_
    refine wp_rs rfl ?_
    refine RQ.y rfl (Y.move (v := uxs19) s7_1x) ?_
    refine RQ.y rfl (Y.assign (v := uxs19) rfl) ?_
    refine RQ.nil ?_
    refine then_n ?_
    refine wp_ret ?_
    obtain rfl := Option.some.inj hm
    exact (ret1 rfl rfl rfl ⟨⟨_, rfl, Gxs19⟩, T⟩)
  · rintro g f w23 ⟨xs21, i22, uxs21, s0_1, s5_1, s6_1, s7_1, Gxs21, s8_1, nn8_1, Doxs21_o6, Doxs21_o9, G5, G8, T, hm⟩
    rcases g with _ | g
    · simp only [m_spec_l12Code_L1] at hm; cases hm
    obtain ⟨rec1, hrec1, hm⟩ : ∃ z, z = m_spec_l12Code_L1 d0 y2 K1 g ∧ m_spec_l12Code_B1 d0 y2 z K1 xs21 i22 = some r := ⟨_, rfl, hm⟩
    unfold m_spec_l12Code_B1 at hm
    refine wp_seq ?_
    refine wp_seq ?_
    refine wp_rs rfl ?_
    refine RQ.y rfl (Y.move (v := .int .i64 i22) s8_1) ?_
    refine RQ.y rfl (Y.move (v := v4) s5_1) ?_
    obtain ⟨A24, c25, rfl⟩ := OwF.form G5
    have qbA24 := OwF.bound G5
    refine RQ.y rfl (Y.len (by kernel_rfl) rfl) ?_
    refine RQ.y rfl (Y.binI (v := .bool (decide (i22 < (y2.1.length : Int)))) rfl rfl rfl) ?_
    refine RQ.nil ?_
    refine then_n ?_
    rcases bcases (decide (i22 < (y2.1.length : Int))) with c26 | c26
    · replace hm := cF c26 hm
      have pc26 := of_decide_eq_false c26
      refine cond_f rfl (vb rfl c26) ?_
      refine wp_exit ?_
      exact (then_x (then_x (hit_x ⟨_, rfl, ⟨xs21, (uxs21), s7_1, Gxs21, T, (by rw [hK1] at hm; exact hm)⟩⟩)))
    · replace hm := cT c26 hm
      have pc26 := of_decide_eq_true c26
      refine cond_t rfl (vb rfl c26) ?_
      refine wp_skip ?_
      refine then_n ?_
      refine wp_seq ?_
      refine wp_block ?_
      refine wp_seq ?_
      refine wp_rbd (by kernel_rfl) (by kernel_rfl) ?_
      refine RQ.y rfl (Y.move (v := .pointer (some ⟨ba0, oa0, none⟩)) s0_1) ?_
      refine RQ.y rfl (Y.nilCheck rfl) ?_
      refine RQ.y rfl (Y.fieldAddr (off := 0) rfl (by kernel_rfl)) ?_
      refine RQ.y rfl (Y.load (v := .slice A1 d0.agents.length c1) rfl (by kernel_rfl) (beC (cellT T (hca0 0 _ rfl)))) ?_
      refine RQ.y rfl (Y.move (v := .slice A24 y2.1.length c25) s5_1) ?_
      refine RQ.y rfl (Y.move (v := .int .i64 i22) s8_1) ?_
      obtain ⟨x27, hx29, hm⟩ := bnd hm
      obtain ⟨k28, hk30, hl31, hx29⟩ := getI_some hx29
      obtain ⟨b32, rfl⟩ := OwF.addr0 G5 (by omega)
      refine RQ.y rfl (Y.indexAddr (m := k28) (sz := 1) rfl rfl hk30 hl31 (by kernel_rfl)) ?_
      refine RQ.y rfl (Y.load (v := .int .i64 x27) rfl (by kernel_rfl) (beC (OwF.cell fI G5 hx29 (j := 0) rfl))) ?_
      obtain ⟨x33, hx36, hm⟩ := bnd hm
      obtain ⟨k34, hk37, hl38, hx36⟩ := getI_some hx36
      obtain ⟨b40, o41, rfl, hbb40⟩ := h1.addr (by omega)
      obtain ⟨cs35, hRcs35, hc39⟩ := h1.el hx36
      have hScs35 := hRcs35
      obtain ⟨A42, n42, c42, A43, n43, c43, rfl, ⟨h42, r42⟩, ⟨h43, r43⟩⟩ := hRcs35
      have e42 := h42.len; subst e42
      have q42 := len_le r42
      have e43 := h43.len; subst e43
      have q43 := len_le r43
      refine RQ.y rfl (Y.indexAddr (m := k34) (sz := 5) rfl rfl hk37 hl38 (by kernel_rfl)) ?_
      refine RQ.y rfl (Y.assign (v := .pointer (some ⟨b40, o41 + k34 * 5, none⟩)) rfl) ?_
      refine RQ.nil ?_
      intro w44 hb45
      have szw44 := hb45.size
      have G5 := OwF.below G5 hb45
      have G8 := OwF.below G8 hb45
      have Gxs21 := OwF.below Gxs21 hb45
      have T := Tt T hb45
      refine then_n ?_
      refine wp_seq ?_
      refine wp_rg (fun w' => Below w.heap.size w w') [(0, true), (1, true), (2, true), (3, true), (4, true), (5, true), (6, true), (7, true), (8, true), (9, true), (10, true), (11, true), (12, true), (13, true), (14, true), (15, true), (16, true), (17, true), (18, false), (19, false), (20, true)] (by kernel_rfl) (by kernel_rfl) (fun w46 hb47 szw46 => ?_)
      have G5 := OwF.below G5 hb47
      have G8 := OwF.below G8 hb47
      have Gxs21 := OwF.below Gxs21 hb47
      have T := Tt T hb47
      refine ⟨T, ?_⟩
      refine RG.y rfl rfl (Y.move (v := uxs21) s7_1) ?_
      refine RG.y rfl rfl (Y.move (v := .pointer (some ⟨b40, o41 + k34 * 5, none⟩)) rfl) ?_
      refine RG.y rfl rfl (Y.nilCheck rfl) ?_
      refine RG.y rfl rfl (Y.fieldAddr (off := 0) rfl (by kernel_rfl)) ?_
      refine RG.y rfl rfl (Y.load (v := .int .i64 x33.kind) rfl (by kernel_rfl) (fun w' hS => (cellT hS (hc39 0 _ rfl)))) ?_
      refine RG.y rfl rfl (Y.move (v := .pointer (some ⟨b40, o41 + k34 * 5, none⟩)) rfl) ?_
      refine RG.y rfl rfl (Y.nilCheck rfl) ?_
      refine RG.y rfl rfl (Y.fieldAddr (off := 1) rfl (by kernel_rfl)) ?_
      refine RG.y rfl rfl (Y.load (v := .int .i64 x33.level) rfl (by kernel_rfl) (fun w' hS => (cellT hS (hc39 1 _ rfl)))) ?_
      refine RG.y rfl rfl (Y.move (v := .pointer (some ⟨b40, o41 + k34 * 5, none⟩)) rfl) ?_
      refine RG.y rfl rfl (Y.nilCheck rfl) ?_
      refine RG.y rfl rfl (Y.fieldAddr (off := 2) rfl (by kernel_rfl)) ?_
      refine RG.y rfl rfl (Y.load (v := .int .i64 x33.value) rfl (by kernel_rfl) (fun w' hS => (cellT hS (hc39 2 _ rfl)))) ?_
      refine RG.y rfl rfl (Y.move (v := .pointer (some ⟨b40, o41 + k34 * 5, none⟩)) rfl) ?_
      refine RG.y rfl rfl (Y.nilCheck rfl) ?_
      refine RG.y rfl rfl (Y.fieldAddr (off := 3) rfl (by kernel_rfl)) ?_
      refine RG.y rfl rfl (Y.load (v := .slice A42 x33.data.length c42) rfl (by kernel_rfl) (fun w' hS => (cellT hS (hc39 3 _ rfl)))) ?_
      refine RG.y rfl rfl (Y.len (by kernel_rfl) rfl) ?_
      refine RG.act rfl ?_
      refine RL.bslice (e := 2) (cells := #[.int .i64 x33.kind, .int .i64 x33.level, .int .i64 x33.value, .int .i64 (x33.data.length : Int)]) rfl (pm4 rfl rfl rfl rfl) (by kernel_rfl) (fun w48 B49 hb50 szw48 => ?_)
      have ZB49 : w.heap.size ≤ w46.heap.size := T.size
      have Do51_o6 := Dj.new (v := .slice (some ⟨w46.heap.size, 0, none⟩) 4 4) litGe (OwF.hi G5)
      have Do51_o9 := Dj.new (v := .slice (some ⟨w46.heap.size, 0, none⟩) 4 4) litGe (OwF.hi G8)
      have Do51_oxs21 := Dj.new (v := .slice (some ⟨w46.heap.size, 0, none⟩) 4 4) litGe (OwF.hi Gxs21)
      have G5 := OwF.below G5 hb50
      have G8 := OwF.below G8 hb50
      have Gxs21 := OwF.below Gxs21 hb50
      have T := Tt T hb50
      have G52 := OwF.lit (enc := encI) (sz := 1) (xs := [x33.kind, x33.level, x33.value, (x33.data.length : Int)]) B49 ZB49 rfl rfl rfl rfl
      refine RL.nil ⟨T, ?_⟩
      refine RG.act rfl ?_
      obtain ⟨_, m54, hm⟩ := bnd hm
      have hk55 := mustP_some m54
      refine RL.append fI app_int64 rfl rfl rfl Gxs21 (OwF.arg fI G52) T.size hk55 (fun v56 w57 G58 hgr59 hbl60 hnb61 => ?_)
      have szw57 := hbl60.size
      have Do62_o6 := Dj.app Doxs21_o6 hnb61 (OwF.hi G5)
      have Do62_o9 := Dj.app Doxs21_o9 hnb61 (OwF.hi G8)
      have G5 := OwF.keptD G5 hgr59 (Dj.symm Doxs21_o6)
      have G8 := OwF.keptD G8 hgr59 (Dj.symm Doxs21_o9)
      have T := T.trans hbl60
      refine RL.nil ⟨T, ?_⟩
      refine RG.y rfl rfl (Y.assign (v := v56) rfl) ?_
      refine RG.nil ?_
      refine then_n ?_
      refine wp_seq ?_
      refine wp_rl rfl ?_
      refine RL.y rfl (Y.move (v := v56) rfl) ?_
      refine RL.y rfl (Y.move (v := .pointer (some ⟨b40, o41 + k34 * 5, none⟩)) rfl) ?_
      refine RL.y rfl (Y.nilCheck rfl) ?_
      refine RL.y rfl (Y.fieldAddr (off := 3) rfl (by kernel_rfl)) ?_
      refine RL.y rfl (Y.load (v := .slice A42 x33.data.length c42) rfl (by kernel_rfl) (eqC (cellT T (hc39 3 _ rfl)))) ?_
      obtain ⟨_, m63, hm⟩ := bnd hm
      have hk64 := mustP_some m63
      refine RL.append fI app_int64 rfl rfl rfl G58 (slArg intRd_ok h42 r42 T) T.size hk64 (fun v65 w66 G67 hgr68 hbl69 hnb70 => ?_)
      have szw66 := hbl69.size
      have Do71_o6 := Dj.app Do62_o6 hnb70 (OwF.hi G5)
      have Do71_o9 := Dj.app Do62_o9 hnb70 (OwF.hi G8)
      have G5 := OwF.keptD G5 hgr68 (Dj.symm Do62_o6)
      have G8 := OwF.keptD G8 hgr68 (Dj.symm Do62_o9)
      have T := T.trans hbl69
      refine RL.y rfl (Y.assign (v := v65) rfl) ?_
      refine RL.nil ?_
      refine then_n ?_
      refine wp_seq ?_
      refine wp_rs rfl ?_
      refine RQ.y rfl (Y.assign (v := .int .i64 0) rfl) ?_
      refine RQ.nil ?_
      refine then_n ?_
      refine wp_block ?_
      obtain ⟨K2, hK2, hm⟩ : ∃ K, K = (m_spec_l12Code_A2 rec1 i22) ∧ m_spec_l12Code_L2 y2 x33 K (x33.ports.length + 1) ((xs21 ++ [x33.kind, x33.level, x33.value, (x33.data.length : Int)]) ++ x33.data) 0 = some r := ⟨_, rfl, hm⟩
      refine wp_loopX (fun g f w' => ∃ (xs75 : List Int) (i76 : Int) (uxs75 : Value), f 0 = .pointer (some ⟨ba0, oa0, none⟩) ∧ f 5 = .slice (some ⟨b32, 0, none⟩) y2.1.length c25 ∧ f 6 = v7 ∧ f 8 = .int .i64 i22 ∧ f 9 = .pointer (some ⟨b40, o41 + k34 * 5, none⟩) ∧ f 7 = uxs75 ∧ OwF 2 encI 1 w' w.heap.size uxs75 xs75 ∧ f 10 = .int .i64 i76 ∧ 0 ≤ i76 ∧ Dj uxs75 (.slice (some ⟨b32, 0, none⟩) y2.1.length c25) ∧ Dj uxs75 v7 ∧ OwF 2 encI 1 w' w.heap.size (.slice (some ⟨b32, 0, none⟩) y2.1.length c25) y2.1 ∧ OwF 2 encI 1 w' w.heap.size v7 y2.2 ∧ Below w.heap.size w w' ∧ m_spec_l12Code_L2 y2 x33 K2 g xs75 i76 = some r) 2 (fun f w' => ∃ (xs72 : List Int) (uxs72 : Value), f 0 = .pointer (some ⟨ba0, oa0, none⟩) ∧ f 5 = .slice (some ⟨b32, 0, none⟩) y2.1.length c25 ∧ f 6 = v7 ∧ f 8 = .int .i64 i22 ∧ f 7 = uxs72 ∧ OwF 2 encI 1 w' w.heap.size uxs72 xs72 ∧ Dj uxs72 (.slice (some ⟨b32, 0, none⟩) y2.1.length c25) ∧ Dj uxs72 v7 ∧ OwF 2 encI 1 w' w.heap.size (.slice (some ⟨b32, 0, none⟩) y2.1.length c25) y2.1 ∧ OwF 2 encI 1 w' w.heap.size v7 y2.2 ∧ Below w.heap.size w w' ∧ m_spec_l12Code_A2 rec1 i22 xs72 = some r) (x33.ports.length + 1) ⟨((xs21 ++ [x33.kind, x33.level, x33.value, (x33.data.length : Int)]) ++ x33.data), 0, (v65), s0_1, s5_1, s6_1, s8_1, rfl, rfl, G67, rfl, (by omega), Do71_o6, Do71_o9, G5, G8, T, hm⟩ ?_ ?_
      · rintro f w73 ⟨xs72, uxs72, s0_2x, s5_2x, s6_2x, s8_2x, s7_2x, Gxs72, Doxs72_o6, Doxs72_o9, G5, G8, T, hm⟩
        unfold m_spec_l12Code_A2 at hm
        refine blk_hit (blk_n (then_n ?_))
        refine wp_rs rfl ?_
        refine RQ.y rfl (Y.move (v := .int .i64 i22) s8_2x) ?_
        obtain ⟨s74, ks74, hm⟩ := bnd hm
        replace ks74 := ck_some ks74
        refine RQ.y rfl (Y.binI (v := .int .i64 s74) rfl rfl (by rw [binI_add ks74.2, ks74.1])) ?_
        refine RQ.y rfl (Y.assign (v := .int .i64 s74) rfl) ?_
        refine RQ.nil ?_
        exact (then_n ⟨g, _, Nat.lt_succ_self _, rfl, ⟨xs72, s74, (uxs72), s0_2x, s5_2x, s6_2x, s7_2x, Gxs72, rfl, (by omega), Doxs72_o6, Doxs72_o9, G5, G8, T, (by rw [← hrec1]; exact hm)⟩⟩)
      · rintro g f w77 ⟨xs75, i76, uxs75, s0_2, s5_2, s6_2, s8_2, s9_2, s7_2, Gxs75, s10_2, nn10_2, Doxs75_o6, Doxs75_o9, G5, G8, T, hm⟩
        rcases g with _ | g
        · simp only [m_spec_l12Code_L2] at hm; cases hm
        obtain ⟨rec2, hrec2, hm⟩ : ∃ z, z = m_spec_l12Code_L2 y2 x33 K2 g ∧ m_spec_l12Code_B2 y2 x33 z K2 xs75 i76 = some r := ⟨_, rfl, hm⟩
        unfold m_spec_l12Code_B2 at hm
        refine wp_seq ?_
        refine wp_seq ?_
        refine wp_rs rfl ?_
        refine RQ.y rfl (Y.move (v := .int .i64 i76) s10_2) ?_
        refine RQ.y rfl (Y.move (v := .pointer (some ⟨b40, o41 + k34 * 5, none⟩)) s9_2) ?_
        refine RQ.y rfl (Y.nilCheck rfl) ?_
        refine RQ.y rfl (Y.fieldAddr (off := 4) rfl (by kernel_rfl)) ?_
        refine RQ.y rfl (Y.load (v := .slice A43 x33.ports.length c43) rfl (by kernel_rfl) (eqC (cellT T (hc39 4 _ rfl)))) ?_
        refine RQ.y rfl (Y.len (by kernel_rfl) rfl) ?_
        refine RQ.y rfl (Y.binI (v := .bool (decide (i76 < (x33.ports.length : Int)))) rfl rfl rfl) ?_
        refine RQ.nil ?_
        refine then_n ?_
        rcases bcases (decide (i76 < (x33.ports.length : Int))) with c78 | c78
        · replace hm := cF c78 hm
          have pc78 := of_decide_eq_false c78
          refine cond_f rfl (vb rfl c78) ?_
          refine wp_exit ?_
          exact (then_x (then_x (hit_x ⟨_, rfl, ⟨xs75, (uxs75), s0_2, s5_2, s6_2, s8_2, s7_2, Gxs75, Doxs75_o6, Doxs75_o9, G5, G8, T, (by rw [hK2] at hm; exact hm)⟩⟩)))
        · replace hm := cT c78 hm
          have pc78 := of_decide_eq_true c78
          refine cond_t rfl (vb rfl c78) ?_
          refine wp_skip ?_
          refine then_n ?_
          refine wp_seq ?_
          refine wp_block ?_
          refine wp_rg (fun w' => Below w.heap.size w w' ∧ OwF 2 encI 1 w' w.heap.size v7 y2.2) [(0, true), (1, true), (2, true), (3, true), (4, true), (5, true), (6, true), (7, true), (8, true), (9, true), (10, true), (11, true), (12, true), (13, true), (14, true), (15, true), (16, true), (17, true), (18, true), (19, true), (20, false), (21, false), (22, true)] (by kernel_rfl) (by kernel_rfl) (fun w79 hb80 szw79 => ?_)
          have G5 := OwF.below G5 hb80
          have G8 := OwF.below G8 hb80
          have Gxs75 := OwF.below Gxs75 hb80
          have T := Tt T hb80
          refine ⟨⟨T, G8⟩, ?_⟩
          refine RG.y rfl rfl (Y.move (v := uxs75) s7_2) ?_
          refine RG.y rfl rfl (Y.move (v := v7) s6_2) ?_
          refine RG.y rfl rfl (Y.move (v := .pointer (some ⟨b40, o41 + k34 * 5, none⟩)) s9_2) ?_
          refine RG.y rfl rfl (Y.nilCheck rfl) ?_
          refine RG.y rfl rfl (Y.fieldAddr (off := 4) rfl (by kernel_rfl)) ?_
          refine RG.y rfl rfl (Y.load (v := .slice A43 x33.ports.length c43) rfl (by kernel_rfl) (fun w' hS => (cellT hS.1 (hc39 4 _ rfl)))) ?_
          refine RG.y rfl rfl (Y.move (v := .int .i64 i76) s10_2) ?_
          obtain ⟨x81, hx84, hm⟩ := bnd hm
          obtain ⟨k82, hk85, hl86, hx84⟩ := getI_some hx84
          obtain ⟨b88, o89, rfl, hbb88⟩ := h43.addr (by omega)
          obtain ⟨cs83, hRcs83, hc87⟩ := h43.el hx84
          have hScs83 := hRcs83
          obtain rfl := hRcs83
          refine RG.y rfl rfl (Y.indexAddr (m := k82) (sz := 2) rfl rfl hk85 hl86 (by kernel_rfl)) ?_
          refine RG.y rfl rfl (Y.fieldAddr (off := 0) rfl (by kernel_rfl)) ?_
          refine RG.y rfl rfl (Y.load (v := .int .i64 x81.agent) rfl (by kernel_rfl) (fun w' hS => (cellT hS.1 (hc87 0 _ rfl)))) ?_
          obtain ⟨A90, c91, rfl⟩ := OwF.form G8
          have qbA90 := OwF.bound G8
          obtain ⟨x92, hx94, hm⟩ := bnd hm
          obtain ⟨k93, hk95, hl96, hx94⟩ := getI_some hx94
          obtain ⟨b97, rfl⟩ := OwF.addr0 G8 (by omega)
          refine RG.y rfl rfl (Y.indexAddr (m := k93) (sz := 1) rfl rfl hk95 hl96 (by kernel_rfl)) ?_
          refine RG.y rfl rfl (Y.load (v := .int .i64 x92) rfl (by kernel_rfl) (fun w' hS => (OwF.cell fI hS.2 hx94 (j := 0) rfl))) ?_
          refine RG.y rfl rfl (Y.move (v := .pointer (some ⟨b40, o41 + k34 * 5, none⟩)) s9_2) ?_
          refine RG.y rfl rfl (Y.nilCheck rfl) ?_
          refine RG.y rfl rfl (Y.fieldAddr (off := 4) rfl (by kernel_rfl)) ?_
          refine RG.y rfl rfl (Y.load (v := .slice (some ⟨b88, o89, none⟩) x33.ports.length c43) rfl (by kernel_rfl) (fun w' hS => (cellT hS.1 (hc39 4 _ rfl)))) ?_
          refine RG.y rfl rfl (Y.move (v := .int .i64 i76) s10_2) ?_
          obtain ⟨x98, hx101, hm⟩ := bnd hm
          obtain ⟨k99, hk102, hl103, hx101⟩ := getI_some hx101
          obtain ⟨cs100, hRcs100, hc104⟩ := h43.el hx101
          have hScs100 := hRcs100
          obtain rfl := hRcs100
          refine RG.y rfl rfl (Y.indexAddr (m := k99) (sz := 2) rfl rfl hk102 hl103 (by kernel_rfl)) ?_
          refine RG.y rfl rfl (Y.fieldAddr (off := 1) rfl (by kernel_rfl)) ?_
          refine RG.y rfl rfl (Y.load (v := .int .i64 x98.slot) rfl (by kernel_rfl) (fun w' hS => (cellT hS.1 (hc104 1 _ rfl)))) ?_
          refine RG.act rfl ?_
          refine RL.bslice (e := 2) (cells := #[.int .i64 x92, .int .i64 x98.slot]) rfl (pm2 rfl rfl) (by kernel_rfl) (fun w105 B106 hb107 szw105 => ?_)
          have ZB106 : w.heap.size ≤ w79.heap.size := T.size
          have Do108_o6 := Dj.new (v := .slice (some ⟨w79.heap.size, 0, none⟩) 2 2) litGe (OwF.hi G5)
          have Do108_o9 := Dj.new (v := .slice (some ⟨w79.heap.size, 0, none⟩) 2 2) litGe (OwF.hi G8)
          have Do108_oxs75 := Dj.new (v := .slice (some ⟨w79.heap.size, 0, none⟩) 2 2) litGe (OwF.hi Gxs75)
          have G5 := OwF.below G5 hb107
          have G8 := OwF.below G8 hb107
          have Gxs75 := OwF.below Gxs75 hb107
          have T := Tt T hb107
          have G109 := OwF.lit (enc := encI) (sz := 1) (xs := [x92, x98.slot]) B106 ZB106 rfl rfl rfl rfl
          refine RL.nil ⟨⟨T, G8⟩, ?_⟩
          refine RG.act rfl ?_
          obtain ⟨_, m111, hm⟩ := bnd hm
          have hk112 := mustP_some m111
          refine RL.append fI app_int64 rfl rfl rfl Gxs75 (OwF.arg fI G109) T.size hk112 (fun v113 w114 G115 hgr116 hbl117 hnb118 => ?_)
          have szw114 := hbl117.size
          have Do119_o6 := Dj.app Doxs75_o6 hnb118 (OwF.hi G5)
          have Do119_o9 := Dj.app Doxs75_o9 hnb118 (OwF.hi G8)
          have G5 := OwF.keptD G5 hgr116 (Dj.symm Doxs75_o6)
          have G8 := OwF.keptD G8 hgr116 (Dj.symm Doxs75_o9)
          have T := T.trans hbl117
          refine RL.nil ⟨⟨T, G8⟩, ?_⟩
          refine RG.y rfl rfl (Y.assign (v := v113) rfl) ?_
          refine RG.nil ?_
          refine blk_n (then_n ?_)
          refine wp_rs rfl ?_
          refine RQ.y rfl (Y.move (v := .int .i64 i76) s10_2) ?_
          refine RQ.y rfl (Y.binI rfl rfl (binI_add (m := i76) (by omega))) ?_
          refine RQ.y rfl (Y.assign (v := .int .i64 (i76 + 1)) rfl) ?_
          refine RQ.nil ?_
          exact (then_n ⟨g, _, Nat.lt_succ_self _, rfl, ⟨(xs75 ++ [x92, x98.slot]), (i76 + 1), (v113), s0_2, s5_2, s6_2, s8_2, s9_2, rfl, G115, rfl, (by omega), Do119_o6, Do119_o9, G5, G8, T, (by rw [← hrec2]; exact hm)⟩⟩)

def m_spec_CodeFrom (d0 : DNet) (d1 : Int) : Option ((List Int) × Int) :=
  ((m_spec_l12Start d0 d1).bind fun y6 => (bif (y6 != 0) then some (([] : List Int), y6) else ((m_spec_l12Code d0 d1).bind fun y11 => some (y11, 0))))
set_option maxHeartbeats 2000000 in
theorem c_m_spec_CodeFrom (d0 : DNet) (d1 : Int) (r : (List Int) × Int) (hm : m_spec_CodeFrom d0 d1 = some r) (v0 : Value) (w : World) (hv0 : St netRd w v0 d0) :
    Calls Try.prog 42 #[v0, .int .i64 d1] w fun e w' => (∃ v, e = .returned (.tuple #[v, .int .i64 r.2]) ∧ OwF 2 encI 1 w' w.heap.size v r.1) ∧ Below w.heap.size w w' := by
  obtain ⟨csa0, rfl, ⟨A1, n1, c1, rfl, ⟨h1, r1⟩⟩⟩ := hv0
  have e1 := h1.len; subst e1
  have q1 := len_le r1
  have T := Below.refl w.heap.size w
  unfold m_spec_CodeFrom at hm
  refine enter 15 Try.func42 rfl rfl rfl ?_
  intro f hf
  have s0 : f 0 = .agg #[.slice A1 d0.agents.length c1] := hf 0 _ rfl
  have s1 : f 1 = .int .i64 d1 := hf 1 _ rfl
  refine wp_seq ?_
  refine wp_rl rfl ?_
  refine RL.box rfl s0 (fun w2 B3 hb4 szw2 => ?_)
  replace B3 : Blk w2 w.heap.size 29 #[.slice A1 d0.agents.length c1] := B3
  have GB3 : w.heap.size ≤ w.heap.size := T.size
  have T := Tt T hb4
  refine RL.y rfl (Y.assign (v := .slice none 0 0) rfl) ?_
  refine RL.y rfl (Y.assign (v := .int .i64 0) rfl) ?_
  refine RL.nil ?_
  refine then_n ?_
  refine wp_seq ?_
  refine wp_seq ?_
  refine wp_rb rfl ?_
  refine RQ.y rfl (Y.move (v := .int .i64 d1) s1) ?_
  obtain ⟨y6, e7, hm⟩ := bnd hm
  refine RQ.call rfl (am2 rfl rfl) (by kernel_rfl) (v := .int .i64 y6) (bel (K := fun _ => True) fun w' hb' => (c_m_spec_l12Start d0 d1 _ e7 _ w' (ptBox (R := netRd) (blkT B3 hb') ⟨_, _, _, rfl, ⟨SlAt.now agentRd_ok h1 (Nat.le_refl _) (Tt T hb'), r1⟩⟩))) ?_
  refine RQ.y rfl (Y.assign (v := .int .i64 y6) rfl) ?_
  refine RQ.nil ?_
  intro w8 hb9
  have szw8 := hb9.size
  have B3 := blkT B3 hb9
  have T := Tt T hb9
  refine then_n ?_
  refine wp_seq ?_
  refine wp_rs rfl ?_
  refine RQ.y rfl (Y.move (v := .int .i64 y6) rfl) ?_
  refine RQ.y rfl (Y.binI (v := .bool (y6 != 0)) rfl rfl rfl) ?_
  refine RQ.nil ?_
  refine then_n ?_
  rcases bcases (y6 != 0) with c10 | c10
  · replace hm := cF c10 hm
    refine cond_f rfl (vb rfl c10) ?_
    refine wp_skip ?_
    refine then_n ?_
    refine wp_seq ?_
    refine wp_rl rfl ?_
    refine RL.y rfl (Y.move (v := .int .i64 d1) s1) ?_
    obtain ⟨y11, e12, hm⟩ := bnd hm
    refine RL.call rfl (am2 rfl rfl) (by kernel_rfl) ((c_m_spec_l12Code d0 d1 _ e12 _ _ (ptBox (R := netRd) B3 ⟨_, _, _, rfl, ⟨SlAt.now agentRd_ok h1 (Nat.le_refl _) T, r1⟩⟩)).mono ?_)
    rintro _ w16 ⟨⟨v13, rfl, G14⟩, hb17⟩
    refine ⟨_, rfl, ?_⟩
    have szw16 := hb17.size
    have T0w16 := T.size
    have No15_ob5 := OwF.ne G14 B3.lt
    have B3 := blkT B3 hb17
    have T := Tt T hb17
    replace G14 := OwF.mono G14 T0w16
    refine RL.y rfl (Y.assign (v := v13) rfl) ?_
    refine RL.y rfl (Y.assign (v := .int .i64 0) rfl) ?_
    refine RL.nil ?_
    refine then_n ?_
    refine wp_ret ?_
    obtain rfl := Option.some.inj hm
    exact (ret2 rfl rfl rfl rfl ⟨⟨_, rfl, G14⟩, T⟩)
  · replace hm := cT c10 hm
    refine cond_t rfl (vb rfl c10) ?_
    refine wp_seq ?_
    refine wp_rl rfl ?_
    refine RL.bslice (e := 2) (cells := #[]) rfl pm0 (by kernel_rfl) (fun w18 B19 hb20 szw18 => ?_)
    have ZB19 : w.heap.size ≤ w8.heap.size := T.size
    have No21_ob5 := litNe (n := 0) (c := 0) B3.lt
    have B3 := blkT B3 hb20
    have T := Tt T hb20
    have G22 := OwF.lit (enc := encI) (sz := 1) (xs := ([] : List Int)) B19 ZB19 rfl rfl rfl rfl
    refine RL.y rfl (Y.move (v := .int .i64 y6) rfl) ?_
    refine RL.y rfl (Y.assign (v := .slice (some ⟨w8.heap.size, 0, none⟩) 0 0) rfl) ?_
    refine RL.y rfl (Y.assign (v := .int .i64 y6) rfl) ?_
    refine RL.nil ?_
    refine then_n ?_
    refine wp_ret ?_
    obtain rfl := Option.some.inj hm
    exact (then_r (ret2 rfl rfl rfl rfl ⟨⟨_, rfl, G22⟩, T⟩))

def m_impl_Net_code_A2 (xs8 : List Int) : Option (List Int) :=
  some xs8
def m_impl_Net_code_A3 (rec2 : List Int → Int → Option (List Int)) (i11 : Int) (xs65 : List Int) : Option (List Int) :=
  ((ck (i11 + 1)).bind fun s67 => (rec2 xs65 s67))
def m_impl_Net_code_B3 (z6 : MapM Int Int) (x23 : DAgent) (rec3 : List Int → Int → Option (List Int)) (K3 : List Int → Option (List Int)) (xs68 : List Int) (i69 : Int) : Option (List Int) :=
  (bif (decide (i69 < (x23.ports.length : Int))) then ((getI x23.ports i69).bind fun x72 => ((ck x72.agent).bind fun _ => ((mustP (xs68.length + ([(z6.look x72.agent 0), x72.slot]).length ≤ 4294967296)).bind fun _ => (rec3 (xs68 ++ [(z6.look x72.agent 0), x72.slot]) (i69 + 1))))) else (K3 xs68))
def m_impl_Net_code_L3 (z6 : MapM Int Int) (x23 : DAgent) (K3 : List Int → Option (List Int)) : Nat → List Int → Int → Option (List Int)
  | 0, _, _ => none
  | g + 1, xs68, i69 => m_impl_Net_code_B3 z6 x23 (m_impl_Net_code_L3 z6 x23 K3 g) K3 xs68 i69
def m_impl_Net_code_B2 (d0 : DNet) (d1 : List Int) (z6 : MapM Int Int) (rec2 : List Int → Int → Option (List Int)) (K2 : List Int → Option (List Int)) (xs10 : List Int) (i11 : Int) : Option (List Int) :=
  (bif (decide (i11 < (d1.length : Int))) then ((getI d1 i11).bind fun x14 => ((getI d0.agents x14).bind fun x23 => ((mustP (xs10.length + ([x23.kind, x23.level, x23.value, (x23.data.length : Int)]).length ≤ 4294967296)).bind fun _ => ((mustP ((xs10 ++ [x23.kind, x23.level, x23.value, (x23.data.length : Int)]).length + x23.data.length ≤ 4294967296)).bind fun _ => (m_impl_Net_code_L3 z6 x23 (m_impl_Net_code_A3 rec2 i11) (x23.ports.length + 1) ((xs10 ++ [x23.kind, x23.level, x23.value, (x23.data.length : Int)]) ++ x23.data) 0))))) else (K2 xs10))
def m_impl_Net_code_L2 (d0 : DNet) (d1 : List Int) (z6 : MapM Int Int) (K2 : List Int → Option (List Int)) : Nat → List Int → Int → Option (List Int)
  | 0, _, _ => none
  | g + 1, xs10, i11 => m_impl_Net_code_B2 d0 d1 z6 (m_impl_Net_code_L2 d0 d1 z6 K2 g) K2 xs10 i11
def m_impl_Net_code_A1 (d0 : DNet) (d1 : List Int) (z6 : MapM Int Int) : Option (List Int) :=
  (m_impl_Net_code_L2 d0 d1 z6 m_impl_Net_code_A2 (d1.length + 1) ([] : List Int) 0)
def m_impl_Net_code_B1 (d1 : List Int) (rec1 : Int → MapM Int Int → Option (List Int)) (K1 : MapM Int Int → Option (List Int)) (i109 : Int) (z110 : MapM Int Int) : Option (List Int) :=
  (bif (decide (i109 < (d1.length : Int))) then ((getI d1 i109).bind fun x113 => ((ck x113).bind fun _ => ((mustP (z110.n ≤ 4294967296)).bind fun _ => (rec1 (i109 + 1) (z110.put x113 i109))))) else (K1 z110))
def m_impl_Net_code_L1 (d1 : List Int) (K1 : MapM Int Int → Option (List Int)) : Nat → Int → MapM Int Int → Option (List Int)
  | 0, _, _ => none
  | g + 1, i109, z110 => m_impl_Net_code_B1 d1 (m_impl_Net_code_L1 d1 K1 g) K1 i109 z110
def m_impl_Net_code (d0 : DNet) (d1 : List Int) : Option (List Int) :=
  (m_impl_Net_code_L1 d1 (m_impl_Net_code_A1 d0 d1) (d1.length + 1) 0 (MapM.empty : MapM Int Int))
set_option maxHeartbeats 2000000 in
theorem c_m_impl_Net_code (d0 : DNet) (d1 : List Int) (r : List Int) (hm : m_impl_Net_code d0 d1 = some r) (v0 : Value) (v1 : Value) (w : World) (hv0 : Pt netRd w v0 d0) (hv1 : Sl intRd 1 w v1 d1) :
    Calls Try.prog 84 #[v0, v1] w fun e w' => (∃ v, e = .returned v ∧ OwF 2 encI 1 w' w.heap.size v r) ∧ Below w.heap.size w w' := by
  obtain ⟨ba0, oa0, csa0, rfl, hba0, hRa0, hca0⟩ := hv0
  have hSa0 := hRa0
  obtain ⟨A1, n1, c1, rfl, ⟨h1, r1⟩⟩ := hRa0
  have e1 := h1.len; subst e1
  have q1 := len_le r1
  obtain ⟨Aa1, na1, ca1, rfl, ha1, ra1⟩ := hv1
  have ea1 := ha1.len; subst ea1
  have qa1 := len_le ra1
  have T := Below.refl w.heap.size w
  unfold m_impl_Net_code at hm
  refine enter 74 Try.func84 rfl rfl rfl ?_
  intro f hf
  have s0 : f 0 = .pointer (some ⟨ba0, oa0, none⟩) := hf 0 _ rfl
  have s1 : f 1 = .slice Aa1 d1.length ca1 := hf 1 _ rfl
  refine wp_seq ?_
  refine wp_rs rfl ?_
  refine RQ.y rfl (Y.assign (v := .slice none 0 0) rfl) ?_
  refine RQ.nil ?_
  refine then_n ?_
  refine wp_seq ?_
  refine wp_rl rfl ?_
  refine RL.makeMap (κ := Int) (β := Int) 2 litI encVI rfl (fun w2 B3 hb4 szw2 => ?_)
  replace B3 := OwM.lower B3 T.size
  have T := Tt T hb4
  refine RL.y rfl (Y.assign (v := .map (some w.heap.size)) rfl) ?_
  refine RL.nil ?_
  refine then_n ?_
  refine wp_seq ?_
  refine wp_seq ?_
  refine wp_rs rfl ?_
  refine RQ.y rfl (Y.move (v := .slice Aa1 d1.length ca1) s1) ?_
  refine RQ.y rfl (Y.len (by kernel_rfl) rfl) ?_
  refine RQ.y rfl (Y.move (v := .int .i64 0) rfl) ?_
  refine RQ.nil ?_
  refine then_n ?_
  refine wp_block ?_
  obtain ⟨K1, hK1, hm⟩ : ∃ K, K = (m_impl_Net_code_A1 d0 d1) ∧ m_impl_Net_code_L1 d1 K (d1.length + 1) 0 (MapM.empty : MapM Int Int) = some r := ⟨_, rfl, hm⟩
  refine wp_loopX (fun g f w' => ∃ (i109 : Int) (z110 : MapM Int Int), f 0 = .pointer (some ⟨ba0, oa0, none⟩) ∧ f 1 = .slice Aa1 d1.length ca1 ∧ f 5 = .map (some w.heap.size) ∧ f 15 = .slice Aa1 d1.length ca1 ∧ f 16 = .int .i64 (d1.length : Int) ∧ f 17 = .int .i64 i109 ∧ 0 ≤ i109 ∧ OwM Try.prog 2 litI encVI w' w.heap.size w.heap.size z110 ∧ Below w.heap.size w w' ∧ m_impl_Net_code_L1 d1 K1 g i109 z110 = some r) 0 (fun f w' => ∃ (z6 : MapM Int Int), f 0 = .pointer (some ⟨ba0, oa0, none⟩) ∧ f 1 = .slice Aa1 d1.length ca1 ∧ f 5 = .map (some w.heap.size) ∧ OwM Try.prog 2 litI encVI w' w.heap.size w.heap.size z6 ∧ Below w.heap.size w w' ∧ m_impl_Net_code_A1 d0 d1 z6 = some r) (d1.length + 1) ⟨0, (MapM.empty : MapM Int Int), s0, s1, rfl, rfl, rfl, rfl, (by omega), B3, T, hm⟩ ?_ ?_
  · rintro f w7 ⟨z6, s0_1x, s1_1x, s5_1x, Bz6, T, hm⟩
    unfold m_impl_Net_code_A1 at hm
    refine blk_hit (then_n ?_)
    refine wp_seq ?_
    refine wp_rs rfl ?_
    refine RQ.y rfl (Y.assign (v := .slice none 0 0) rfl) ?_
    refine RQ.nil ?_
    refine then_n ?_
    refine wp_seq ?_
    refine wp_seq ?_
    refine wp_rs rfl ?_
    refine RQ.y rfl (Y.move (v := .slice Aa1 d1.length ca1) s1_1x) ?_
    refine RQ.y rfl (Y.len (by kernel_rfl) rfl) ?_
    refine RQ.y rfl (Y.move (v := .int .i64 0) rfl) ?_
    refine RQ.nil ?_
    refine then_n ?_
    refine wp_block ?_
    have G106 : OwF 2 encI 1 w7 w.heap.size (.slice none 0 0) ([] : List Int) := OwF.nil
    have No105_ob5 := nilNe (b := w.heap.size)
    obtain ⟨K2, hK2, hm⟩ : ∃ K, K = m_impl_Net_code_A2 ∧ m_impl_Net_code_L2 d0 d1 z6 K (d1.length + 1) ([] : List Int) 0 = some r := ⟨_, rfl, hm⟩
    refine wp_loopX (fun g f w' => ∃ (xs10 : List Int) (i11 : Int) (uxs10 : Value), f 0 = .pointer (some ⟨ba0, oa0, none⟩) ∧ f 5 = .map (some w.heap.size) ∧ f 26 = .slice Aa1 d1.length ca1 ∧ f 27 = .int .i64 (d1.length : Int) ∧ f 8 = uxs10 ∧ OwF 2 encI 1 w' w.heap.size uxs10 xs10 ∧ f 28 = .int .i64 i11 ∧ 0 ≤ i11 ∧ Value.ownBlock uxs10 ≠ some w.heap.size ∧ OwM Try.prog 2 litI encVI w' w.heap.size w.heap.size z6 ∧ Below w.heap.size w w' ∧ m_impl_Net_code_L2 d0 d1 z6 K2 g xs10 i11 = some r) 2 (fun f w' => ∃ (xs8 : List Int) (uxs8 : Value), f 8 = uxs8 ∧ OwF 2 encI 1 w' w.heap.size uxs8 xs8 ∧ Value.ownBlock uxs8 ≠ some w.heap.size ∧ OwM Try.prog 2 litI encVI w' w.heap.size w.heap.size z6 ∧ Below w.heap.size w w' ∧ m_impl_Net_code_A2 xs8 = some r) (d1.length + 1) ⟨([] : List Int), 0, ((.slice none 0 0)), s0_1x, s5_1x, rfl, rfl, rfl, G106, rfl, (by omega), No105_ob5, Bz6, T, hm⟩ ?_ ?_
    · rintro f w9 ⟨xs8, uxs8, s8_2x, Gxs8, Noxs8_ob5, Bz6, T, hm⟩
      unfold m_impl_Net_code_A2 at hm
      refine blk_hit (then_n ?_)
      refine wp_seq ?_
      refine wp_rs rfl ?_
      refine RQ.y rfl (Y.move (v := uxs8) s8_2x) ?_
      refine RQ.y rfl (Y.assign (v := uxs8) rfl) ?_
      refine RQ.nil ?_
      refine then_n ?_
      refine wp_ret ?_
      obtain rfl := Option.some.inj hm
      exact (ret1 rfl rfl rfl ⟨⟨_, rfl, Gxs8⟩, T⟩)
    · rintro g f w12 ⟨xs10, i11, uxs10, s0_2, s5_2, s26_2, s27_2, s8_2, Gxs10, s28_2, nn28_2, Noxs10_ob5, Bz6, T, hm⟩
      rcases g with _ | g
      · simp only [m_impl_Net_code_L2] at hm; cases hm
      obtain ⟨rec2, hrec2, hm⟩ : ∃ z, z = m_impl_Net_code_L2 d0 d1 z6 K2 g ∧ m_impl_Net_code_B2 d0 d1 z6 z K2 xs10 i11 = some r := ⟨_, rfl, hm⟩
      unfold m_impl_Net_code_B2 at hm
      refine wp_seq ?_
      refine wp_rs rfl ?_
      refine RQ.y rfl (Y.binI (v := .bool (decide (i11 < (d1.length : Int)))) s28_2 s27_2 rfl) ?_
      refine RQ.nil ?_
      refine then_n ?_
      refine wp_seq ?_
      rcases bcases (decide (i11 < (d1.length : Int))) with c13 | c13
      · replace hm := cF c13 hm
        have pc13 := of_decide_eq_false c13
        refine cond_f rfl (vb rfl c13) ?_
        refine wp_exit ?_
        exact (then_x (then_x (hit_x ⟨_, rfl, ⟨xs10, (uxs10), s8_2, Gxs10, Noxs10_ob5, Bz6, T, (by rw [hK2] at hm; exact hm)⟩⟩)))
      · replace hm := cT c13 hm
        have pc13 := of_decide_eq_true c13
        refine cond_t rfl (vb rfl c13) ?_
        refine wp_skip ?_
        refine then_n ?_
        refine wp_seq ?_
        refine wp_block ?_
        refine wp_seq ?_
        refine wp_rs rfl ?_
        obtain ⟨x14, hx17, hm⟩ := bnd hm
        obtain ⟨k15, hk18, hl19, hx17⟩ := getI_some hx17
        obtain ⟨b21, o22, rfl, hbb21⟩ := ha1.addr (by omega)
        obtain ⟨cs16, hRcs16, hc20⟩ := ha1.el hx17
        have hScs16 := hRcs16
        obtain rfl := hRcs16
        refine RQ.y rfl (Y.indexAddr (m := k15) (sz := 1) s26_2 s28_2 hk18 hl19 (by kernel_rfl)) ?_
        refine RQ.y rfl (Y.load (v := .int .i64 x14) rfl (by kernel_rfl) (eqC (cellT T (hc20 0 _ rfl)))) ?_
        refine RQ.y rfl (Y.assign (v := .int .i64 x14) rfl) ?_
        refine RQ.nil ?_
        refine then_n ?_
        refine wp_seq ?_
        refine wp_rl rfl ?_
        refine RL.y rfl (Y.move (v := .pointer (some ⟨ba0, oa0, none⟩)) s0_2) ?_
        refine RL.y rfl (Y.nilCheck rfl) ?_
        refine RL.y rfl (Y.fieldAddr (off := 0) rfl (by kernel_rfl)) ?_
        refine RL.y rfl (Y.load (v := .slice A1 d0.agents.length c1) rfl (by kernel_rfl) (eqC (cellT T (hca0 0 _ rfl)))) ?_
        refine RL.y rfl (Y.move (v := .int .i64 x14) rfl) ?_
        obtain ⟨x23, hx26, hm⟩ := bnd hm
        obtain ⟨k24, hk27, hl28, hx26⟩ := getI_some hx26
        obtain ⟨b30, o31, rfl, hbb30⟩ := h1.addr (by omega)
        obtain ⟨cs25, hRcs25, hc29⟩ := h1.el hx26
        have hScs25 := hRcs25
        obtain ⟨A32, n32, c32, A33, n33, c33, rfl, ⟨h32, r32⟩, ⟨h33, r33⟩⟩ := hRcs25
        have e32 := h32.len; subst e32
        have q32 := len_le r32
        have e33 := h33.len; subst e33
        have q33 := len_le r33
        refine RL.y rfl (Y.indexAddr (m := k24) (sz := 5) rfl rfl hk27 hl28 (by kernel_rfl)) ?_
        refine RL.y rfl (Y.loadN (cs := [.int .i64 x23.kind, .int .i64 x23.level, .int .i64 x23.value, .slice A32 x23.data.length c32, .slice A33 x23.ports.length c33]) rfl (by kernel_rfl) (cells5 (eqC (cellT T (hc29 0 _ rfl))) (eqC (cellT T (hc29 1 _ rfl))) (eqC (cellT T (hc29 2 _ rfl))) (eqC (cellT T (hc29 3 _ rfl))) (eqC (cellT T (hc29 4 _ rfl))))) ?_
        refine RL.alloc (z := .agg #[.int .i64 0, .int .i64 0, .int .i64 0, .slice none 0 0, .slice none 0 0]) rfl (by kernel_rfl) (fun w34 B35 hb36 szw34 => ?_)
        replace B35 : Blk w34 w12.heap.size 85 #[.int .i64 0, .int .i64 0, .int .i64 0, .slice none 0 0, .slice none 0 0] := B35
        have GB35 : w.heap.size ≤ w12.heap.size := T.size
        have Eob37_ob5 := Nat.ne_of_lt Bz6.lt
        have Noxs10_ob37 := OwF.far Gxs10 (Nat.le_refl _)
        have Bz6 := OwM.below Bz6 hb36
        have Gxs10 := OwF.below Gxs10 hb36
        have T := Tt T hb36
        refine RL.store (v := .agg #[.int .i64 x23.kind, .int .i64 x23.level, .int .i64 x23.value, .slice A32 x23.data.length c32, .slice A33 x23.ports.length c33]) (cs' := #[.int .i64 x23.kind, .int .i64 x23.level, .int .i64 x23.value, .slice A32 x23.data.length c32, .slice A33 x23.ports.length c33]) rfl rfl rfl B35 (by kernel_rfl) (by rfl) (by rfl) (by rfl) (fun w38 B39 ho40 => ?_)
        have szw38 := ho40.size
        have Bz6 := Bz6.only ho40 (by intro hin; simp at hin; exact Eob37_ob5 hin)
        have Gxs10 := OwF.only Gxs10 ho40 Noxs10_ob37
        have T := T.trans (ho40.below (by first | (simp; done) | (simp; omega)))
        refine RL.nil ?_
        refine then_n ?_
        refine wp_seq ?_
        refine wp_rl rfl ?_
        refine RL.y rfl (Y.move (v := uxs10) s8_2) ?_
        refine RL.y rfl (Y.fieldAddr (off := 0) rfl (by kernel_rfl)) ?_
        refine RL.y rfl (Y.load (v := .int .i64 x23.kind) rfl (by kernel_rfl) (eqC (blkCell B39 (i := 0) rfl))) ?_
        refine RL.y rfl (Y.fieldAddr (off := 1) rfl (by kernel_rfl)) ?_
        refine RL.y rfl (Y.load (v := .int .i64 x23.level) rfl (by kernel_rfl) (eqC (blkCell B39 (i := 1) rfl))) ?_
        refine RL.y rfl (Y.fieldAddr (off := 2) rfl (by kernel_rfl)) ?_
        refine RL.y rfl (Y.load (v := .int .i64 x23.value) rfl (by kernel_rfl) (eqC (blkCell B39 (i := 2) rfl))) ?_
        refine RL.y rfl (Y.fieldAddr (off := 3) rfl (by kernel_rfl)) ?_
        refine RL.y rfl (Y.load (v := .slice A32 x23.data.length c32) rfl (by kernel_rfl) (eqC (blkCell B39 (i := 3) rfl))) ?_
        refine RL.y rfl (Y.len (by kernel_rfl) rfl) ?_
        refine RL.bslice (e := 2) (cells := #[.int .i64 x23.kind, .int .i64 x23.level, .int .i64 x23.value, .int .i64 (x23.data.length : Int)]) rfl (pm4 rfl rfl rfl rfl) (by kernel_rfl) (fun w41 B42 hb43 szw41 => ?_)
        have ZB42 : w.heap.size ≤ w38.heap.size := T.size
        have No44_ob5 := litNe (n := 4) (c := 4) Bz6.lt
        have No44_ob37 := litNe (n := 4) (c := 4) B39.lt
        have Do44_oxs10 := Dj.new (v := .slice (some ⟨w38.heap.size, 0, none⟩) 4 4) litGe (OwF.hi Gxs10)
        have Bz6 := OwM.below Bz6 hb43
        have B39 := blkT B39 hb43
        have Gxs10 := OwF.below Gxs10 hb43
        have T := Tt T hb43
        have G45 := OwF.lit (enc := encI) (sz := 1) (xs := [x23.kind, x23.level, x23.value, (x23.data.length : Int)]) B42 ZB42 rfl rfl rfl rfl
        obtain ⟨_, m47, hm⟩ := bnd hm
        have hk48 := mustP_some m47
        refine RL.append fI app_int64 rfl rfl rfl Gxs10 (OwF.arg fI G45) T.size hk48 (fun v49 w50 G51 hgr52 hbl53 hnb54 => ?_)
        have szw50 := hbl53.size
        have No55_ob5 := ne_app hnb54 Noxs10_ob5 Bz6.lt
        have No55_ob37 := ne_app hnb54 Noxs10_ob37 B39.lt
        have Bz6 := OwM.grown Bz6 hgr52 Noxs10_ob5
        have B39 := Blk.kept B39 hgr52 Noxs10_ob37
        have T := T.trans hbl53
        refine RL.y rfl (Y.assign (v := v49) rfl) ?_
        refine RL.nil ?_
        refine then_n ?_
        refine wp_seq ?_
        refine wp_rl rfl ?_
        refine RL.y rfl (Y.move (v := v49) rfl) ?_
        refine RL.y rfl (Y.fieldAddr (off := 3) rfl (by kernel_rfl)) ?_
        refine RL.y rfl (Y.load (v := .slice A32 x23.data.length c32) rfl (by kernel_rfl) (eqC (blkCell B39 (i := 3) rfl))) ?_
        obtain ⟨_, m56, hm⟩ := bnd hm
        have hk57 := mustP_some m56
        refine RL.append fI app_int64 rfl rfl rfl G51 (slArg intRd_ok h32 r32 T) T.size hk57 (fun v58 w59 G60 hgr61 hbl62 hnb63 => ?_)
        have szw59 := hbl62.size
        have No64_ob5 := ne_app hnb63 No55_ob5 Bz6.lt
        have No64_ob37 := ne_app hnb63 No55_ob37 B39.lt
        have Bz6 := OwM.grown Bz6 hgr61 No55_ob5
        have B39 := Blk.kept B39 hgr61 No55_ob37
        have T := T.trans hbl62
        refine RL.y rfl (Y.assign (v := v58) rfl) ?_
        refine RL.nil ?_
        refine then_n ?_
        refine wp_seq ?_
        refine wp_rs rfl ?_
        refine RQ.y rfl (Y.fieldAddr (off := 4) rfl (by kernel_rfl)) ?_
        refine RQ.y rfl (Y.load (v := .slice A33 x23.ports.length c33) rfl (by kernel_rfl) (eqC (blkCell B39 (i := 4) rfl))) ?_
        refine RQ.y rfl (Y.len (by kernel_rfl) rfl) ?_
        refine RQ.y rfl (Y.move (v := .int .i64 0) rfl) ?_
        refine RQ.nil ?_
        refine then_n ?_
        refine wp_block ?_
        obtain ⟨K3, hK3, hm⟩ : ∃ K, K = (m_impl_Net_code_A3 rec2 i11) ∧ m_impl_Net_code_L3 z6 x23 K (x23.ports.length + 1) ((xs10 ++ [x23.kind, x23.level, x23.value, (x23.data.length : Int)]) ++ x23.data) 0 = some r := ⟨_, rfl, hm⟩
        refine wp_loopX (fun g f w' => ∃ (xs68 : List Int) (i69 : Int) (uxs68 : Value), f 0 = .pointer (some ⟨ba0, oa0, none⟩) ∧ f 5 = .map (some w.heap.size) ∧ f 26 = .slice (some ⟨b21, o22, none⟩) d1.length ca1 ∧ f 27 = .int .i64 (d1.length : Int) ∧ f 28 = .int .i64 i11 ∧ f 56 = .slice A33 x23.ports.length c33 ∧ f 57 = .int .i64 (x23.ports.length : Int) ∧ f 8 = uxs68 ∧ OwF 2 encI 1 w' w.heap.size uxs68 xs68 ∧ f 58 = .int .i64 i69 ∧ 0 ≤ i69 ∧ Value.ownBlock uxs68 ≠ some w.heap.size ∧ OwM Try.prog 2 litI encVI w' w.heap.size w.heap.size z6 ∧ Below w.heap.size w w' ∧ m_impl_Net_code_L3 z6 x23 K3 g xs68 i69 = some r) 4 (fun f w' => ∃ (xs65 : List Int) (uxs65 : Value), f 0 = .pointer (some ⟨ba0, oa0, none⟩) ∧ f 5 = .map (some w.heap.size) ∧ f 26 = .slice (some ⟨b21, o22, none⟩) d1.length ca1 ∧ f 27 = .int .i64 (d1.length : Int) ∧ f 28 = .int .i64 i11 ∧ f 8 = uxs65 ∧ OwF 2 encI 1 w' w.heap.size uxs65 xs65 ∧ Value.ownBlock uxs65 ≠ some w.heap.size ∧ OwM Try.prog 2 litI encVI w' w.heap.size w.heap.size z6 ∧ Below w.heap.size w w' ∧ m_impl_Net_code_A3 rec2 i11 xs65 = some r) (x23.ports.length + 1) ⟨((xs10 ++ [x23.kind, x23.level, x23.value, (x23.data.length : Int)]) ++ x23.data), 0, (v58), s0_2, s5_2, s26_2, s27_2, s28_2, rfl, rfl, rfl, G60, rfl, (by omega), No64_ob5, Bz6, T, hm⟩ ?_ ?_
        · rintro f w66 ⟨xs65, uxs65, s0_3x, s5_3x, s26_3x, s27_3x, s28_3x, s8_3x, Gxs65, Noxs65_ob5, Bz6, T, hm⟩
          unfold m_impl_Net_code_A3 at hm
          refine blk_hit (blk_n (then_n ?_))
          refine wp_rs rfl ?_
          obtain ⟨s67, ks67, hm⟩ := bnd hm
          replace ks67 := ck_some ks67
          refine RQ.y rfl (Y.binI (v := .int .i64 s67) s28_3x rfl (by rw [binI_add ks67.2, ks67.1])) ?_
          refine RQ.y rfl (Y.move (v := .int .i64 s67) rfl) ?_
          refine RQ.nil ?_
          exact (then_n ⟨g, _, Nat.lt_succ_self _, rfl, ⟨xs65, s67, (uxs65), s0_3x, s5_3x, s26_3x, s27_3x, s8_3x, Gxs65, rfl, (by omega), Noxs65_ob5, Bz6, T, (by rw [← hrec2]; exact hm)⟩⟩)
        · rintro g f w70 ⟨xs68, i69, uxs68, s0_3, s5_3, s26_3, s27_3, s28_3, s56_3, s57_3, s8_3, Gxs68, s58_3, nn58_3, Noxs68_ob5, Bz6, T, hm⟩
          rcases g with _ | g
          · simp only [m_impl_Net_code_L3] at hm; cases hm
          obtain ⟨rec3, hrec3, hm⟩ : ∃ z, z = m_impl_Net_code_L3 z6 x23 K3 g ∧ m_impl_Net_code_B3 z6 x23 z K3 xs68 i69 = some r := ⟨_, rfl, hm⟩
          unfold m_impl_Net_code_B3 at hm
          refine wp_seq ?_
          refine wp_rs rfl ?_
          refine RQ.y rfl (Y.binI (v := .bool (decide (i69 < (x23.ports.length : Int)))) s58_3 s57_3 rfl) ?_
          refine RQ.nil ?_
          refine then_n ?_
          refine wp_seq ?_
          rcases bcases (decide (i69 < (x23.ports.length : Int))) with c71 | c71
          · replace hm := cF c71 hm
            have pc71 := of_decide_eq_false c71
            refine cond_f rfl (vb rfl c71) ?_
            refine wp_exit ?_
            exact (then_x (then_x (hit_x ⟨_, rfl, ⟨xs68, (uxs68), s0_3, s5_3, s26_3, s27_3, s28_3, s8_3, Gxs68, Noxs68_ob5, Bz6, T, (by rw [hK3] at hm; exact hm)⟩⟩)))
          · replace hm := cT c71 hm
            have pc71 := of_decide_eq_true c71
            refine cond_t rfl (vb rfl c71) ?_
            refine wp_skip ?_
            refine then_n ?_
            refine wp_seq ?_
            refine wp_block ?_
            refine wp_seq ?_
            refine wp_rl rfl ?_
            obtain ⟨x72, hx75, hm⟩ := bnd hm
            obtain ⟨k73, hk76, hl77, hx75⟩ := getI_some hx75
            obtain ⟨b79, o80, rfl, hbb79⟩ := h33.addr (by omega)
            obtain ⟨cs74, hRcs74, hc78⟩ := h33.el hx75
            have hScs74 := hRcs74
            obtain rfl := hRcs74
            refine RL.y rfl (Y.indexAddr (m := k73) (sz := 2) s56_3 s58_3 hk76 hl77 (by kernel_rfl)) ?_
            refine RL.y rfl (Y.loadN (cs := [.int .i64 x72.agent, .int .i64 x72.slot]) rfl (by kernel_rfl) (cells2 (eqC (cellT T (hc78 0 _ rfl))) (eqC (cellT T (hc78 1 _ rfl))))) ?_
            refine RL.alloc (z := .agg #[.int .i64 0, .int .i64 0]) rfl (by kernel_rfl) (fun w81 B82 hb83 szw81 => ?_)
            replace B82 : Blk w81 w70.heap.size 35 #[.int .i64 0, .int .i64 0] := B82
            have GB82 : w.heap.size ≤ w70.heap.size := T.size
            have Eob84_ob5 := Nat.ne_of_lt Bz6.lt
            have Noxs68_ob84 := OwF.far Gxs68 (Nat.le_refl _)
            have Bz6 := OwM.below Bz6 hb83
            have Gxs68 := OwF.below Gxs68 hb83
            have T := Tt T hb83
            refine RL.store (v := .agg #[.int .i64 x72.agent, .int .i64 x72.slot]) (cs' := #[.int .i64 x72.agent, .int .i64 x72.slot]) rfl rfl rfl B82 (by kernel_rfl) (by rfl) (by rfl) (by rfl) (fun w85 B86 ho87 => ?_)
            have szw85 := ho87.size
            have Bz6 := Bz6.only ho87 (by intro hin; simp at hin; exact Eob84_ob5 hin)
            have Gxs68 := OwF.only Gxs68 ho87 Noxs68_ob84
            have T := T.trans (ho87.below (by first | (simp; done) | (simp; omega)))
            refine RL.nil ?_
            refine then_n ?_
            refine wp_rl rfl ?_
            refine RL.y rfl (Y.move (v := uxs68) s8_3) ?_
            refine RL.y rfl (Y.move (v := .map (some w.heap.size)) s5_3) ?_
            refine RL.y rfl (Y.fieldAddr (off := 0) rfl (by kernel_rfl)) ?_
            refine RL.y rfl (Y.load (v := .int .i64 x72.agent) rfl (by kernel_rfl) (eqC (blkCell B86 (i := 0) rfl))) ?_
            obtain ⟨_, kc88, hm⟩ := bnd hm
            replace kc88 := (ck_some kc88).2
            refine RL.y rfl (Y.look (zb := 0) (a := x72.agent) mt_int64_int64 rfl rfl kc88 (fun w' e => by rw [e]; exact Bz6)) ?_
            refine RL.y rfl (Y.fieldAddr (off := 1) rfl (by kernel_rfl)) ?_
            refine RL.y rfl (Y.load (v := .int .i64 x72.slot) rfl (by kernel_rfl) (eqC (blkCell B86 (i := 1) rfl))) ?_
            refine RL.bslice (e := 2) (cells := #[.int .i64 (z6.look x72.agent 0), .int .i64 x72.slot]) rfl (pm2 rfl rfl) (by kernel_rfl) (fun w89 B90 hb91 szw89 => ?_)
            have ZB90 : w.heap.size ≤ w85.heap.size := T.size
            have No92_ob5 := litNe (n := 2) (c := 2) Bz6.lt
            have No92_ob84 := litNe (n := 2) (c := 2) B86.lt
            have Do92_oxs68 := Dj.new (v := .slice (some ⟨w85.heap.size, 0, none⟩) 2 2) litGe (OwF.hi Gxs68)
            have Bz6 := OwM.below Bz6 hb91
            have B86 := blkT B86 hb91
            have Gxs68 := OwF.below Gxs68 hb91
            have T := Tt T hb91
            have G93 := OwF.lit (enc := encI) (sz := 1) (xs := [(z6.look x72.agent 0), x72.slot]) B90 ZB90 rfl rfl rfl rfl
            obtain ⟨_, m95, hm⟩ := bnd hm
            have hk96 := mustP_some m95
            refine RL.append fI app_int64 rfl rfl rfl Gxs68 (OwF.arg fI G93) T.size hk96 (fun v97 w98 G99 hgr100 hbl101 hnb102 => ?_)
            have szw98 := hbl101.size
            have No103_ob5 := ne_app hnb102 Noxs68_ob5 Bz6.lt
            have No103_ob84 := ne_app hnb102 Noxs68_ob84 B86.lt
            have Bz6 := OwM.grown Bz6 hgr100 Noxs68_ob5
            have B86 := Blk.kept B86 hgr100 Noxs68_ob84
            have T := T.trans hbl101
            refine RL.y rfl (Y.assign (v := v97) rfl) ?_
            refine RL.nil ?_
            refine blk_n (then_n ?_)
            refine wp_rs rfl ?_
            refine RQ.y rfl (Y.binI s58_3 rfl (binI_add (m := i69) (by omega))) ?_
            refine RQ.y rfl (Y.move (v := .int .i64 (i69 + 1)) rfl) ?_
            refine RQ.nil ?_
            exact (then_n ⟨g, _, Nat.lt_succ_self _, rfl, ⟨(xs68 ++ [(z6.look x72.agent 0), x72.slot]), (i69 + 1), (v97), s0_3, s5_3, s26_3, s27_3, s28_3, s56_3, s57_3, rfl, G99, rfl, (by omega), No103_ob5, Bz6, T, (by rw [← hrec3]; exact hm)⟩⟩)
  · rintro g f w111 ⟨i109, z110, s0_1, s1_1, s5_1, s15_1, s16_1, s17_1, nn17_1, Bz110, T, hm⟩
    rcases g with _ | g
    · simp only [m_impl_Net_code_L1] at hm; cases hm
    obtain ⟨rec1, hrec1, hm⟩ : ∃ z, z = m_impl_Net_code_L1 d1 K1 g ∧ m_impl_Net_code_B1 d1 z K1 i109 z110 = some r := ⟨_, rfl, hm⟩
    unfold m_impl_Net_code_B1 at hm
    refine wp_seq ?_
    refine wp_rs rfl ?_
    refine RQ.y rfl (Y.binI (v := .bool (decide (i109 < (d1.length : Int)))) s17_1 s16_1 rfl) ?_
    refine RQ.nil ?_
    refine then_n ?_
    refine wp_seq ?_
    rcases bcases (decide (i109 < (d1.length : Int))) with c112 | c112
    · replace hm := cF c112 hm
      have pc112 := of_decide_eq_false c112
      refine cond_f rfl (vb rfl c112) ?_
      refine wp_exit ?_
      exact (then_x (then_x (hit_x ⟨_, rfl, ⟨z110, s0_1, s1_1, s5_1, Bz110, T, (by rw [hK1] at hm; exact hm)⟩⟩)))
    · replace hm := cT c112 hm
      have pc112 := of_decide_eq_true c112
      refine cond_t rfl (vb rfl c112) ?_
      refine wp_skip ?_
      refine then_n ?_
      refine wp_seq ?_
      refine wp_block ?_
      refine wp_seq ?_
      refine wp_rs rfl ?_
      refine RQ.y rfl (Y.move (v := .int .i64 i109) s17_1) ?_
      obtain ⟨x113, hx116, hm⟩ := bnd hm
      obtain ⟨k114, hk117, hl118, hx116⟩ := getI_some hx116
      obtain ⟨b120, o121, rfl, hbb120⟩ := ha1.addr (by omega)
      obtain ⟨cs115, hRcs115, hc119⟩ := ha1.el hx116
      have hScs115 := hRcs115
      obtain rfl := hRcs115
      refine RQ.y rfl (Y.indexAddr (m := k114) (sz := 1) s15_1 s17_1 hk117 hl118 (by kernel_rfl)) ?_
      refine RQ.y rfl (Y.load (v := .int .i64 x113) rfl (by kernel_rfl) (eqC (cellT T (hc119 0 _ rfl)))) ?_
      refine RQ.y rfl (Y.assign (v := .int .i64 i109) rfl) ?_
      refine RQ.y rfl (Y.assign (v := .int .i64 x113) rfl) ?_
      refine RQ.nil ?_
      refine then_n ?_
      refine wp_rl rfl ?_
      refine RL.y rfl (Y.move (v := .map (some w.heap.size)) s5_1) ?_
      refine RL.y rfl (Y.move (v := .int .i64 x113) rfl) ?_
      refine RL.y rfl (Y.move (v := .int .i64 i109) rfl) ?_
      obtain ⟨_, kc122, hm⟩ := bnd hm
      replace kc122 := (ck_some kc122).2
      obtain ⟨_, m123, hm⟩ := bnd hm
      have hk124 := mustP_some m123
      refine RL.mapSet (a := x113) (v := i109) (enc := encVI) mt_int64_int64 rfl rfl rfl rfl kc122 Bz110 hk124 (fun w125 B126 ho127 => ?_)
      have szw125 := ho127.size
      have T := T.trans (ho127.below (by intro b hb; simp at hb; subst hb; exact Bz110.1))
      refine RL.nil ?_
      refine blk_n (then_n ?_)
      refine wp_rs rfl ?_
      refine RQ.y rfl (Y.binI s17_1 rfl (binI_add (m := i109) (by omega))) ?_
      refine RQ.y rfl (Y.move (v := .int .i64 (i109 + 1)) rfl) ?_
      refine RQ.nil ?_
      exact (then_n ⟨g, _, Nat.lt_succ_self _, rfl, ⟨(i109 + 1), (z110.put x113 i109), s0_1, s1_1, s5_1, s15_1, s16_1, rfl, (by omega), B126, T, (by rw [← hrec1]; exact hm)⟩⟩)

def m_impl_CodeFrom (d0 : DNet) (d1 : Int) : Option ((List Int) × Int) :=
  ((m_impl_TraverseFrom d0 d1).bind fun y6 => (bif (y6.2 != 0) then some ([], y6.2) else ((m_impl_Net_code d0 y6.1).bind fun y14 => some (y14, 0))))
set_option maxHeartbeats 2000000 in
theorem c_m_impl_CodeFrom (d0 : DNet) (d1 : Int) (r : (List Int) × Int) (hm : m_impl_CodeFrom d0 d1 = some r) (v0 : Value) (w : World) (hv0 : St netRd w v0 d0) :
    Calls Try.prog 43 #[v0, .int .i64 d1] w fun e w' => (∃ v, e = .returned (.tuple #[v, .int .i64 r.2]) ∧ OwF 2 encI 1 w' w.heap.size v r.1) ∧ Below w.heap.size w w' := by
  obtain ⟨csa0, rfl, ⟨A1, n1, c1, rfl, ⟨h1, r1⟩⟩⟩ := hv0
  have e1 := h1.len; subst e1
  have q1 := len_le r1
  have T := Below.refl w.heap.size w
  unfold m_impl_CodeFrom at hm
  refine enter 19 Try.func43 rfl rfl rfl ?_
  intro f hf
  have s0 : f 0 = .agg #[.slice A1 d0.agents.length c1] := hf 0 _ rfl
  have s1 : f 1 = .int .i64 d1 := hf 1 _ rfl
  refine wp_seq ?_
  refine wp_rl rfl ?_
  refine RL.box rfl s0 (fun w2 B3 hb4 szw2 => ?_)
  replace B3 : Blk w2 w.heap.size 29 #[.slice A1 d0.agents.length c1] := B3
  have GB3 : w.heap.size ≤ w.heap.size := T.size
  have T := Tt T hb4
  refine RL.y rfl (Y.assign (v := .slice none 0 0) rfl) ?_
  refine RL.y rfl (Y.assign (v := .int .i64 0) rfl) ?_
  refine RL.nil ?_
  refine then_n ?_
  refine wp_seq ?_
  refine wp_rl rfl ?_
  refine RL.y rfl (Y.loadN (cs := [.slice A1 d0.agents.length c1]) rfl (by kernel_rfl) (cells1 (eqC (blkCell B3 (i := 0) rfl)))) ?_
  refine RL.y rfl (Y.move (v := .int .i64 d1) s1) ?_
  obtain ⟨y6, e7, hm⟩ := bnd hm
  refine RL.call rfl (am2 rfl rfl) (by kernel_rfl) ((c_m_impl_TraverseFrom d0 d1 _ e7 _ _ (stArg (R := netRd) ⟨_, _, _, rfl, ⟨SlAt.now agentRd_ok h1 (Nat.le_refl _) T, r1⟩⟩)).mono ?_)
  rintro _ w11 ⟨⟨v8, rfl, G9⟩, hb12⟩
  refine ⟨_, rfl, ?_⟩
  have szw11 := hb12.size
  have T0w11 := T.size
  have No10_ob5 := OwF.ne G9 B3.lt
  have B3 := blkT B3 hb12
  have T := Tt T hb12
  replace G9 := OwF.mono G9 T0w11
  refine RL.y rfl (Y.move (v := .tuple #[v8, .int .i64 y6.2]) rfl) ?_
  refine RL.y rfl (Y.extract (i := 0) rfl rfl) ?_
  refine RL.y rfl (Y.extract (i := 1) rfl rfl) ?_
  refine RL.y rfl (Y.assign (v := v8) rfl) ?_
  refine RL.y rfl (Y.assign (v := .int .i64 y6.2) rfl) ?_
  refine RL.nil ?_
  refine then_n ?_
  refine wp_seq ?_
  refine wp_seq ?_
  refine wp_rs rfl ?_
  refine RQ.y rfl (Y.move (v := .int .i64 y6.2) rfl) ?_
  refine RQ.y rfl (Y.binI (v := .bool (y6.2 != 0)) rfl rfl rfl) ?_
  refine RQ.nil ?_
  refine then_n ?_
  rcases bcases (y6.2 != 0) with c13 | c13
  · replace hm := cF c13 hm
    refine cond_f rfl (vb rfl c13) ?_
    refine wp_skip ?_
    refine then_n ?_
    refine wp_seq ?_
    refine wp_rl rfl ?_
    refine RL.y rfl (Y.move (v := v8) rfl) ?_
    obtain ⟨y14, e15, hm⟩ := bnd hm
    refine RL.call rfl (am2 rfl rfl) (by kernel_rfl) ((c_m_impl_Net_code d0 y6.1 _ e15 _ _ _ (ptBox (R := netRd) B3 ⟨_, _, _, rfl, ⟨SlAt.now agentRd_ok h1 (Nat.le_refl _) T, r1⟩⟩) (OwF.arg fI G9)).mono ?_)
    rintro _ w19 ⟨⟨v16, rfl, G17⟩, hb20⟩
    refine ⟨_, rfl, ?_⟩
    have szw19 := hb20.size
    have T0w19 := T.size
    have Do18_o10 := Dj.new (OwF.lo_ G17) (OwF.hi G9)
    have No18_ob5 := OwF.ne G17 B3.lt
    have B3 := blkT B3 hb20
    have G9 := OwF.below G9 hb20
    have T := Tt T hb20
    replace G17 := OwF.mono G17 T0w19
    refine RL.y rfl (Y.assign (v := v16) rfl) ?_
    refine RL.y rfl (Y.assign (v := .int .i64 0) rfl) ?_
    refine RL.nil ?_
    refine then_n ?_
    refine wp_ret ?_
    obtain rfl := Option.some.inj hm
    exact (ret2 rfl rfl rfl rfl ⟨⟨_, rfl, G17⟩, T⟩)
  · replace hm := cT c13 hm
    refine cond_t rfl (vb rfl c13) ?_
    refine wp_seq ?_
    refine wp_rs rfl ?_
    refine RQ.y rfl (Y.move (v := .int .i64 y6.2) rfl) ?_
    refine RQ.y rfl (Y.assign (v := .slice none 0 0) rfl) ?_
    refine RQ.y rfl (Y.assign (v := .int .i64 y6.2) rfl) ?_
    refine RQ.nil ?_
    refine then_n ?_
    refine wp_ret ?_
    obtain rfl := Option.some.inj hm
    exact (then_r (ret2 rfl rfl rfl rfl ⟨⟨_, rfl, OwF.nil⟩, T⟩))

end Go.Proofs.Ytjddeofchiohkaa
