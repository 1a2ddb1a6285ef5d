/- Lemmas of the proof of FindIsomorphism, part 4. No condition. -/
import Derived.Test.YtebioddcnldjkaaGreatZFindIsomorphism3
namespace Go.Proofs.YtebioddcnldjkaaGreat
section
open Go.RowKit
set_option linter.unusedVariables false
set_option linter.unusedSimpArgs false
set_option maxRecDepth 100000
def m_spec_l12Traverse_A2 (xs27 : List Int) (xs28 : List Int) : Option ((List Int) × (List Int)) :=
  some (xs28, xs27)
def m_spec_l12Traverse_A3 (rec2 : List Int → List Int → Int → Option ((List Int) × (List Int))) (i32 : Int) (xs56 : List Int) (xs57 : List Int) : Option ((List Int) × (List Int)) :=
  ((ck (i32 + 1)).bind fun s59 => (rec2 xs56 xs57 s59))
def m_spec_l12Traverse_B3 (x43 : DAgent) (rec3 : List Int → List Int → Int → Option ((List Int) × (List Int))) (K3 : List Int → List Int → Option ((List Int) × (List Int))) (xs60 : List Int) (xs61 : List Int) (i62 : Int) : Option ((List Int) × (List Int)) :=
  (bif (decide (i62 < (x43.ports.length : Int))) then ((getI x43.ports i62).bind fun x65 => ((getI xs60 x65.agent).bind fun x76 => (bif (decide (x76 < 0)) then ((getI xs60 x65.agent).bind fun x85 => ((mustP (xs61.length + ([x65.agent]).length ≤ 4294967296)).bind fun _ => (rec3 (setI xs60 x65.agent (xs61.length : Int)) (xs61 ++ [x65.agent]) (i62 + 1)))) else (rec3 xs60 xs61 (i62 + 1))))) else (K3 xs60 xs61))
def m_spec_l12Traverse_L3 (x43 : DAgent) (K3 : List Int → List Int → Option ((List Int) × (List Int))) : Nat → List Int → List Int → Int → Option ((List Int) × (List Int))
  | 0, _, _, _ => none
  | g + 1, xs60, xs61, i62 => m_spec_l12Traverse_B3 x43 (m_spec_l12Traverse_L3 x43 K3 g) K3 xs60 xs61 i62
def m_spec_l12Traverse_B2 (d0 : DNet) (rec2 : List Int → List Int → Int → Option ((List Int) × (List Int))) (K2 : List Int → List Int → Option ((List Int) × (List Int))) (xs30 : List Int) (xs31 : List Int) (i32 : Int) : Option ((List Int) × (List Int)) :=
  (bif (decide (i32 < (xs31.length : Int))) then ((getI xs31 i32).bind fun x37 => ((getI d0.agents x37).bind fun x43 => (m_spec_l12Traverse_L3 x43 (m_spec_l12Traverse_A3 rec2 i32) (x43.ports.length + 1) xs30 xs31 0))) else (K2 xs30 xs31))
def m_spec_l12Traverse_L2 (d0 : DNet) (K2 : List Int → List Int → Option ((List Int) × (List Int))) : Nat → List Int → List Int → Int → Option ((List Int) × (List Int))
  | 0, _, _, _ => none
  | g + 1, xs30, xs31, i32 => m_spec_l12Traverse_B2 d0 (m_spec_l12Traverse_L2 d0 K2 g) K2 xs30 xs31 i32
def m_spec_l12Traverse_A1 (d0 : DNet) (d1 : Int) (xs8 : List Int) : Option ((List Int) × (List Int)) :=
  ((getI xs8 d1).bind fun x18 => (m_spec_l12Traverse_L2 d0 m_spec_l12Traverse_A2 (d0.agents.length + 2) (setI xs8 d1 0) ([d1]) 0))
def m_spec_l12Traverse_B1 (d0 : DNet) (rec1 : List Int → Int → Option ((List Int) × (List Int))) (K1 : List Int → Option ((List Int) × (List Int))) (xs110 : List Int) (i111 : Int) : Option ((List Int) × (List Int)) :=
  (bif (decide (i111 < (d0.agents.length : Int))) then ((mustP (xs110.length + ([(-1)]).length ≤ 4294967296)).bind fun _ => (rec1 (xs110 ++ [(-1)]) (i111 + 1))) else (K1 xs110))
def m_spec_l12Traverse_L1 (d0 : DNet) (K1 : List Int → Option ((List Int) × (List Int))) : Nat → List Int → Int → Option ((List Int) × (List Int))
  | 0, _, _ => none
  | g + 1, xs110, i111 => m_spec_l12Traverse_B1 d0 (m_spec_l12Traverse_L1 d0 K1 g) K1 xs110 i111
def m_spec_l12Traverse (d0 : DNet) (d1 : Int) : Option ((List Int) × (List Int)) :=
  (m_spec_l12Traverse_L1 d0 (m_spec_l12Traverse_A1 d0 d1) (d0.agents.length + 1) ([] : List Int) 0)
set_option maxHeartbeats 2000000 in
theorem c_m_spec_l12Traverse (d0 : DNet) (d1 : Int) (r : (List Int) × (List Int)) (hm : m_spec_l12Traverse d0 d1 = some r) (v0 : Value) (w : World) (hv0 : Pt netRd w v0 d0) :
    Calls Tryz.prog 40 #[v0, .int .i64 d1] w fun e w' => (∃ v0 v1, e = .returned (.tuple #[v0, v1]) ∧ OwF 2 encI 1 w' w.heap.size v0 r.1 ∧ OwF 2 encI 1 w' w.heap.size v1 r.2 ∧ Dj v0 v1) ∧ Below w.heap.size w w' := by
  obtain ⟨ba0, oa0, csa0, rfl, hba0, hRa0, hca0⟩ := hv0
  have hSa0 := hRa0
  obtain ⟨A1, n1, c1, rfl, ⟨h1, r1⟩⟩ := hRa0
  have e1 := h1.len; subst e1
  have q1 := len_le r1
  have T := Below.refl w.heap.size w
  unfold m_spec_l12Traverse at hm
  refine enter 79 Tryz.func40 rfl rfl rfl ?_
  intro f hf
  have s0 : f 0 = .pointer (some ⟨ba0, oa0, none⟩) := hf 0 _ rfl
  have s1 : f 1 = .int .i64 d1 := hf 1 _ rfl
  refine wp_seq ?_
  refine wp_rs rfl ?_
  refine RQ.y rfl (Y.assign (v := .slice none 0 0) rfl) ?_
  refine RQ.y rfl (Y.assign (v := .slice none 0 0) rfl) ?_
  refine RQ.nil ?_
  refine then_n ?_
  refine wp_seq ?_
  refine wp_rl rfl ?_
  refine RL.bslice (e := 2) (cells := #[]) rfl pm0 (by kernel_rfl) (fun w2 B3 hb4 szw2 => ?_)
  have ZB3 : w.heap.size ≤ w.heap.size := T.size
  have T := Tt T hb4
  have G6 := OwF.lit (enc := encI) (sz := 1) (xs := ([] : List Int)) B3 ZB3 rfl rfl rfl rfl
  refine RL.y rfl (Y.assign (v := .slice (some ⟨w.heap.size, 0, none⟩) 0 0) rfl) ?_
  refine RL.nil ?_
  refine then_n ?_
  refine wp_seq ?_
  refine wp_seq ?_
  refine wp_rs rfl ?_
  refine RQ.y rfl (Y.assign (v := .int .i64 0) rfl) ?_
  refine RQ.nil ?_
  refine then_n ?_
  refine wp_block ?_
  obtain ⟨K1, hK1, hm⟩ : ∃ K, K = (m_spec_l12Traverse_A1 d0 d1) ∧ m_spec_l12Traverse_L1 d0 K (d0.agents.length + 1) ([] : List Int) 0 = some r := ⟨_, rfl, hm⟩
  refine wp_loopX (fun g f w' => ∃ (xs110 : List Int) (i111 : Int) (uxs110 : Value), f 0 = .pointer (some ⟨ba0, oa0, none⟩) ∧ f 1 = .int .i64 d1 ∧ f 6 = uxs110 ∧ OwF 2 encI 1 w' w.heap.size uxs110 xs110 ∧ f 7 = .int .i64 i111 ∧ 0 ≤ i111 ∧ Below w.heap.size w w' ∧ m_spec_l12Traverse_L1 d0 K1 g xs110 i111 = some r) 0 (fun f w' => ∃ (xs8 : List Int) (uxs8 : Value), f 0 = .pointer (some ⟨ba0, oa0, none⟩) ∧ f 1 = .int .i64 d1 ∧ f 6 = uxs8 ∧ OwF 2 encI 1 w' w.heap.size uxs8 xs8 ∧ Below w.heap.size w w' ∧ m_spec_l12Traverse_A1 d0 d1 xs8 = some r) (d0.agents.length + 1) ⟨([] : List Int), 0, (.slice (some ⟨w.heap.size, 0, none⟩) 0 0), s0, s1, rfl, G6, rfl, (by omega), T, hm⟩ ?_ ?_
  · rintro f w9 ⟨xs8, uxs8, s0_1x, s1_1x, s6_1x, Gxs8, T, hm⟩
    unfold m_spec_l12Traverse_A1 at hm
    refine blk_hit (then_n ?_)
    refine wp_seq ?_
    refine wp_rl rfl ?_
    refine RL.y rfl (Y.move (v := .int .i64 d1) s1_1x) ?_
    refine RL.bslice (e := 2) (cells := #[.int .i64 d1]) rfl (pm1 rfl) (by kernel_rfl) (fun w10 B11 hb12 szw10 => ?_)
    have ZB11 : w.heap.size ≤ w9.heap.size := T.size
    have Do13_oxs8 := Dj.new (v := .slice (some ⟨w9.heap.size, 0, none⟩) 1 1) litGe (OwF.hi Gxs8)
    have Gxs8 := OwF.below Gxs8 hb12
    have T := Tt T hb12
    have G14 := OwF.lit (enc := encI) (sz := 1) (xs := [d1]) B11 ZB11 rfl rfl rfl rfl
    refine RL.y rfl (Y.assign (v := .slice (some ⟨w9.heap.size, 0, none⟩) 1 1) rfl) ?_
    refine RL.nil ?_
    refine then_n ?_
    refine wp_seq ?_
    refine wp_rl rfl ?_
    refine RL.y rfl (Y.move (v := uxs8) s6_1x) ?_
    refine RL.y rfl (Y.move (v := .int .i64 d1) s1_1x) ?_
    obtain ⟨A16, c17, rfl⟩ := OwF.form Gxs8
    have qbA16 := OwF.bound Gxs8
    obtain ⟨x18, hx20, hm⟩ := bnd hm
    obtain ⟨k19, hk21, hl22, hx20⟩ := getI_some hx20
    obtain ⟨b23, rfl⟩ := OwF.addr0 Gxs8 (by omega)
    refine RL.y rfl (Y.indexAddr (m := k19) (sz := 1) rfl rfl hk21 hl22 (by kernel_rfl)) ?_
    refine RL.storeF (k := k19) (a := 0) fI rfl rfl rfl Gxs8 hl22 rfl (by kernel_rfl) (fun w24 G25 ho26 => ?_)
    have szw24 := ho26.size
    have G14 := OwF.only G14 ho26 (fun e => Do13_oxs8 _ e rfl)
    have T := T.trans (ho26.below (by intro b hb; simp at hb; subst hb; exact OwF.lo_ Gxs8 _ rfl))
    have G25 : OwF 2 encI 1 w24 w.heap.size (.slice (some ⟨b23, 0, none⟩) xs8.length c17) (setI xs8 d1 0) := by rw [hk21, setI_nat]; exact G25
    refine RL.nil ?_
    refine then_n ?_
    refine wp_seq ?_
    refine wp_seq ?_
    refine wp_rs rfl ?_
    refine RQ.y rfl (Y.assign (v := .int .i64 0) rfl) ?_
    refine RQ.nil ?_
    refine then_n ?_
    refine wp_block ?_
    obtain ⟨K2, hK2, hm⟩ : ∃ K, K = m_spec_l12Traverse_A2 ∧ m_spec_l12Traverse_L2 d0 K (d0.agents.length + 2) (setI xs8 d1 0) ([d1]) 0 = some r := ⟨_, rfl, hm⟩
    refine wp_loopX (fun g f w' => ∃ (xs30 : List Int) (xs31 : List Int) (i32 : Int) (uxs30 : Value) (uxs31 : Value), f 0 = .pointer (some ⟨ba0, oa0, none⟩) ∧ f 6 = uxs30 ∧ OwF 2 encI 1 w' w.heap.size uxs30 xs30 ∧ f 8 = uxs31 ∧ OwF 2 encI 1 w' w.heap.size uxs31 xs31 ∧ f 9 = .int .i64 i32 ∧ 0 ≤ i32 ∧ Dj uxs31 uxs30 ∧ Below w.heap.size w w' ∧ m_spec_l12Traverse_L2 d0 K2 g xs30 xs31 i32 = some r) 2 (fun f w' => ∃ (xs27 : List Int) (xs28 : List Int) (uxs27 : Value) (uxs28 : Value), f 6 = uxs27 ∧ OwF 2 encI 1 w' w.heap.size uxs27 xs27 ∧ f 8 = uxs28 ∧ OwF 2 encI 1 w' w.heap.size uxs28 xs28 ∧ Dj uxs28 uxs27 ∧ Below w.heap.size w w' ∧ m_spec_l12Traverse_A2 xs27 xs28 = some r) (d0.agents.length + 2) ⟨(setI xs8 d1 0), ([d1]), 0, (.slice (some ⟨b23, 0, none⟩) xs8.length c17), (.slice (some ⟨w9.heap.size, 0, none⟩) 1 1), s0_1x, s6_1x, G25, rfl, G14, rfl, (by omega), Do13_oxs8, T, hm⟩ ?_ ?_
    · rintro f w29 ⟨xs27, xs28, uxs27, uxs28, s6_2x, Gxs27, s8_2x, Gxs28, Doxs28_oxs27, T, hm⟩
      unfold m_spec_l12Traverse_A2 at hm
      refine blk_hit (then_n ?_)
      refine wp_seq ?_
      refine wp_rs rfl ?_
      refine RQ.y rfl (Y.move (v := uxs28) s8_2x) ?_
      refine RQ.y rfl (Y.move (v := uxs27) s6_2x) ?_
      refine RQ.y rfl (Y.assign (v := uxs28) rfl) ?_
      refine RQ.y rfl (Y.assign (v := uxs27) rfl) ?_
      refine RQ.nil ?_
      refine then_n ?_
      refine wp_ret ?_
      obtain rfl := Option.some.inj hm
      exact (ret2 rfl rfl rfl rfl ⟨⟨_, _, rfl, Gxs28, Gxs27, Doxs28_oxs27⟩, T⟩)
    · rintro g f w33 ⟨xs30, xs31, i32, uxs30, uxs31, s0_2, s6_2, Gxs30, s8_2, Gxs31, s9_2, nn9_2, Doxs31_oxs30, T, hm⟩
      rcases g with _ | g
      · simp only [m_spec_l12Traverse_L2] at hm; cases hm
      obtain ⟨rec2, hrec2, hm⟩ : ∃ z, z = m_spec_l12Traverse_L2 d0 K2 g ∧ m_spec_l12Traverse_B2 d0 z K2 xs30 xs31 i32 = some r := ⟨_, rfl, hm⟩
      unfold m_spec_l12Traverse_B2 at hm
      refine wp_seq ?_
      refine wp_seq ?_
      refine wp_rs rfl ?_
      refine RQ.y rfl (Y.move (v := .int .i64 i32) s9_2) ?_
      refine RQ.y rfl (Y.move (v := uxs31) s8_2) ?_
      obtain ⟨A34, c35, rfl⟩ := OwF.form Gxs31
      have qbA34 := OwF.bound Gxs31
      refine RQ.y rfl (Y.len (by kernel_rfl) rfl) ?_
      refine RQ.y rfl (Y.binI (v := .bool (decide (i32 < (xs31.length : Int)))) rfl rfl rfl) ?_
      refine RQ.nil ?_
      refine then_n ?_
      rcases bcases (decide (i32 < (xs31.length : Int))) with c36 | c36
      · replace hm := cF c36 hm
        have pc36 := of_decide_eq_false c36
        refine cond_f rfl (vb rfl c36) ?_
        refine wp_exit ?_
        exact (then_x (then_x (hit_x ⟨_, rfl, ⟨xs30, xs31, (uxs30), (.slice A34 xs31.length c35), s6_2, Gxs30, s8_2, Gxs31, Doxs31_oxs30, T, (by rw [hK2] at hm; exact hm)⟩⟩)))
      · replace hm := cT c36 hm
        have pc36 := of_decide_eq_true c36
        refine cond_t rfl (vb rfl c36) ?_
        refine wp_skip ?_
        refine then_n ?_
        refine wp_seq ?_
        refine wp_block ?_
        refine wp_seq ?_
        refine wp_rbd (by kernel_rfl) (by kernel_rfl) ?_
        refine RQ.y rfl (Y.move (v := .pointer (some ⟨ba0, oa0, none⟩)) s0_2) ?_
        refine RQ.y rfl (Y.nilCheck rfl) ?_
        refine RQ.y rfl (Y.fieldAddr (off := 0) rfl (by kernel_rfl)) ?_
        refine RQ.y rfl (Y.load (v := .slice A1 d0.agents.length c1) rfl (by kernel_rfl) (beC (cellT T (hca0 0 _ rfl)))) ?_
        refine RQ.y rfl (Y.move (v := .slice A34 xs31.length c35) s8_2) ?_
        refine RQ.y rfl (Y.move (v := .int .i64 i32) s9_2) ?_
        obtain ⟨x37, hx39, hm⟩ := bnd hm
        obtain ⟨k38, hk40, hl41, hx39⟩ := getI_some hx39
        obtain ⟨b42, rfl⟩ := OwF.addr0 Gxs31 (by omega)
        refine RQ.y rfl (Y.indexAddr (m := k38) (sz := 1) rfl rfl hk40 hl41 (by kernel_rfl)) ?_
        refine RQ.y rfl (Y.load (v := .int .i64 x37) rfl (by kernel_rfl) (beC (OwF.cell fI Gxs31 hx39 (j := 0) rfl))) ?_
        obtain ⟨x43, hx46, hm⟩ := bnd hm
        obtain ⟨k44, hk47, hl48, hx46⟩ := getI_some hx46
        obtain ⟨b50, o51, rfl, hbb50⟩ := h1.addr (by omega)
        obtain ⟨cs45, hRcs45, hc49⟩ := h1.el hx46
        have hScs45 := hRcs45
        obtain ⟨A52, n52, c52, A53, n53, c53, rfl, ⟨h52, r52⟩, ⟨h53, r53⟩⟩ := hRcs45
        have e52 := h52.len; subst e52
        have q52 := len_le r52
        have e53 := h53.len; subst e53
        have q53 := len_le r53
        refine RQ.y rfl (Y.indexAddr (m := k44) (sz := 5) rfl rfl hk47 hl48 (by kernel_rfl)) ?_
        refine RQ.y rfl (Y.assign (v := .pointer (some ⟨b50, o51 + k44 * 5, none⟩)) rfl) ?_
        refine RQ.nil ?_
        intro w54 hb55
        have szw54 := hb55.size
        have Gxs30 := OwF.below Gxs30 hb55
        have Gxs31 := OwF.below Gxs31 hb55
        have T := Tt T hb55
        refine then_n ?_
        refine wp_seq ?_
        refine wp_rs rfl ?_
        refine RQ.y rfl (Y.assign (v := .int .i64 0) rfl) ?_
        refine RQ.nil ?_
        refine then_n ?_
        refine wp_block ?_
        obtain ⟨K3, hK3, hm⟩ : ∃ K, K = (m_spec_l12Traverse_A3 rec2 i32) ∧ m_spec_l12Traverse_L3 x43 K (x43.ports.length + 1) xs30 xs31 0 = some r := ⟨_, rfl, hm⟩
        refine wp_loopX (fun g f w' => ∃ (xs60 : List Int) (xs61 : List Int) (i62 : Int) (uxs60 : Value) (uxs61 : Value), f 0 = .pointer (some ⟨ba0, oa0, none⟩) ∧ f 9 = .int .i64 i32 ∧ f 10 = .pointer (some ⟨b50, o51 + k44 * 5, none⟩) ∧ f 6 = uxs60 ∧ OwF 2 encI 1 w' w.heap.size uxs60 xs60 ∧ f 8 = uxs61 ∧ OwF 2 encI 1 w' w.heap.size uxs61 xs61 ∧ f 11 = .int .i64 i62 ∧ 0 ≤ i62 ∧ Dj uxs61 uxs60 ∧ Below w.heap.size w w' ∧ m_spec_l12Traverse_L3 x43 K3 g xs60 xs61 i62 = some r) 4 (fun f w' => ∃ (xs56 : List Int) (xs57 : List Int) (uxs56 : Value) (uxs57 : Value), f 0 = .pointer (some ⟨ba0, oa0, none⟩) ∧ f 9 = .int .i64 i32 ∧ f 6 = uxs56 ∧ OwF 2 encI 1 w' w.heap.size uxs56 xs56 ∧ f 8 = uxs57 ∧ OwF 2 encI 1 w' w.heap.size uxs57 xs57 ∧ Dj uxs57 uxs56 ∧ Below w.heap.size w w' ∧ m_spec_l12Traverse_A3 rec2 i32 xs56 xs57 = some r) (x43.ports.length + 1) ⟨xs30, xs31, 0, (uxs30), (.slice (some ⟨b42, 0, none⟩) xs31.length c35), s0_2, s9_2, rfl, s6_2, Gxs30, s8_2, Gxs31, rfl, (by omega), Doxs31_oxs30, T, hm⟩ ?_ ?_
        · rintro f w58 ⟨xs56, xs57, uxs56, uxs57, s0_3x, s9_3x, s6_3x, Gxs56, s8_3x, Gxs57, Doxs57_oxs56, T, hm⟩
          unfold m_spec_l12Traverse_A3 at hm
          refine blk_hit (blk_n (then_n ?_))
          refine wp_rs rfl ?_
          refine RQ.y rfl (Y.move (v := .int .i64 i32) s9_3x) ?_
          obtain ⟨s59, ks59, hm⟩ := bnd hm
          replace ks59 := ck_some ks59
          refine RQ.y rfl (Y.binI (v := .int .i64 s59) rfl rfl (by rw [binI_add ks59.2, ks59.1])) ?_
          refine RQ.y rfl (Y.assign (v := .int .i64 s59) rfl) ?_
          refine RQ.nil ?_
          exact (then_n ⟨g, _, Nat.lt_succ_self _, rfl, ⟨xs56, xs57, s59, (uxs56), (uxs57), s0_3x, s6_3x, Gxs56, s8_3x, Gxs57, rfl, (by omega), Doxs57_oxs56, T, (by rw [← hrec2]; exact hm)⟩⟩)
        · rintro g f w63 ⟨xs60, xs61, i62, uxs60, uxs61, s0_3, s9_3, s10_3, s6_3, Gxs60, s8_3, Gxs61, s11_3, nn11_3, Doxs61_oxs60, T, hm⟩
          rcases g with _ | g
          · simp only [m_spec_l12Traverse_L3] at hm; cases hm
          obtain ⟨rec3, hrec3, hm⟩ : ∃ z, z = m_spec_l12Traverse_L3 x43 K3 g ∧ m_spec_l12Traverse_B3 x43 z K3 xs60 xs61 i62 = some r := ⟨_, rfl, hm⟩
          unfold m_spec_l12Traverse_B3 at hm
          refine wp_seq ?_
          refine wp_seq ?_
          refine wp_rs rfl ?_
          refine RQ.y rfl (Y.move (v := .int .i64 i62) s11_3) ?_
          refine RQ.y rfl (Y.move (v := .pointer (some ⟨b50, o51 + k44 * 5, none⟩)) s10_3) ?_
          refine RQ.y rfl (Y.nilCheck rfl) ?_
          refine RQ.y rfl (Y.fieldAddr (off := 4) rfl (by kernel_rfl)) ?_
          refine RQ.y rfl (Y.load (v := .slice A53 x43.ports.length c53) rfl (by kernel_rfl) (eqC (cellT T (hc49 4 _ rfl)))) ?_
          refine RQ.y rfl (Y.len (by kernel_rfl) rfl) ?_
          refine RQ.y rfl (Y.binI (v := .bool (decide (i62 < (x43.ports.length : Int)))) rfl rfl rfl) ?_
          refine RQ.nil ?_
          refine then_n ?_
          rcases bcases (decide (i62 < (x43.ports.length : Int))) with c64 | c64
          · replace hm := cF c64 hm
            have pc64 := of_decide_eq_false c64
            refine cond_f rfl (vb rfl c64) ?_
            refine wp_exit ?_
            exact (then_x (then_x (hit_x ⟨_, rfl, ⟨xs60, xs61, (uxs60), (uxs61), s0_3, s9_3, s6_3, Gxs60, s8_3, Gxs61, Doxs61_oxs60, T, (by rw [hK3] at hm; exact hm)⟩⟩)))
          · replace hm := cT c64 hm
            have pc64 := of_decide_eq_true c64
            refine cond_t rfl (vb rfl c64) ?_
            refine wp_skip ?_
            refine then_n ?_
            refine wp_seq ?_
            refine wp_block ?_
            refine wp_seq ?_
            refine wp_rs rfl ?_
            refine RQ.y rfl (Y.move (v := .pointer (some ⟨b50, o51 + k44 * 5, none⟩)) s10_3) ?_
            refine RQ.y rfl (Y.nilCheck rfl) ?_
            refine RQ.y rfl (Y.fieldAddr (off := 4) rfl (by kernel_rfl)) ?_
            refine RQ.y rfl (Y.load (v := .slice A53 x43.ports.length c53) rfl (by kernel_rfl) (eqC (cellT T (hc49 4 _ rfl)))) ?_
            refine RQ.y rfl (Y.move (v := .int .i64 i62) s11_3) ?_
            obtain ⟨x65, hx68, hm⟩ := bnd hm
            obtain ⟨k66, hk69, hl70, hx68⟩ := getI_some hx68
            obtain ⟨b72, o73, rfl, hbb72⟩ := h53.addr (by omega)
            obtain ⟨cs67, hRcs67, hc71⟩ := h53.el hx68
            have hScs67 := hRcs67
            obtain rfl := hRcs67
            refine RQ.y rfl (Y.indexAddr (m := k66) (sz := 2) rfl rfl hk69 hl70 (by kernel_rfl)) ?_
            refine RQ.y rfl (Y.fieldAddr (off := 0) rfl (by kernel_rfl)) ?_
            refine RQ.y rfl (Y.load (v := .int .i64 x65.agent) rfl (by kernel_rfl) (eqC (cellT T (hc71 0 _ rfl)))) ?_
            refine RQ.y rfl (Y.assign (v := .int .i64 x65.agent) rfl) ?_
            refine RQ.nil ?_
            refine then_n ?_
            refine wp_seq ?_
            refine wp_rs rfl ?_
            refine RQ.y rfl (Y.move (v := uxs60) s6_3) ?_
            refine RQ.y rfl (Y.move (v := .int .i64 x65.agent) rfl) ?_
            obtain ⟨A74, c75, rfl⟩ := OwF.form Gxs60
            have qbA74 := OwF.bound Gxs60
            obtain ⟨x76, hx78, hm⟩ := bnd hm
            obtain ⟨k77, hk79, hl80, hx78⟩ := getI_some hx78
            obtain ⟨b81, rfl⟩ := OwF.addr0 Gxs60 (by omega)
            refine RQ.y rfl (Y.indexAddr (m := k77) (sz := 1) rfl rfl hk79 hl80 (by kernel_rfl)) ?_
            refine RQ.y rfl (Y.load (v := .int .i64 x76) rfl (by kernel_rfl) (eqC (OwF.cell fI Gxs60 hx78 (j := 0) rfl))) ?_
            refine RQ.y rfl (Y.binI (v := .bool (decide (x76 < 0))) rfl rfl rfl) ?_
            refine RQ.nil ?_
            refine then_n ?_
            rcases bcases (decide (x76 < 0)) with c82 | c82
            · replace hm := cF c82 hm
              have pc82 := of_decide_eq_false c82
              refine cond_f rfl (vb rfl c82) ?_
              refine wp_skip ?_
              refine blk_n (then_n ?_)
              refine wp_rs rfl ?_
              refine RQ.y rfl (Y.move (v := .int .i64 i62) s11_3) ?_
              refine RQ.y rfl (Y.binI rfl rfl (binI_add (m := i62) (by omega))) ?_
              refine RQ.y rfl (Y.assign (v := .int .i64 (i62 + 1)) rfl) ?_
              refine RQ.nil ?_
              exact (then_n ⟨g, _, Nat.lt_succ_self _, rfl, ⟨xs60, xs61, (i62 + 1), (.slice (some ⟨b81, 0, none⟩) xs60.length c75), (uxs61), s0_3, s9_3, s10_3, s6_3, Gxs60, s8_3, Gxs61, rfl, (by omega), Doxs61_oxs60, T, (by rw [← hrec3]; exact hm)⟩⟩)
            · replace hm := cT c82 hm
              have pc82 := of_decide_eq_true c82
              refine cond_t rfl (vb rfl c82) ?_
              refine wp_seq ?_
              refine wp_rl rfl ?_
              refine RL.y rfl (Y.move (v := .slice (some ⟨b81, 0, none⟩) xs60.length c75) s6_3) ?_
              refine RL.y rfl (Y.move (v := .int .i64 x65.agent) rfl) ?_
              refine RL.y rfl (Y.move (v := uxs61) s8_3) ?_
              obtain ⟨A83, c84, rfl⟩ := OwF.form Gxs61
              have qbA83 := OwF.bound Gxs61
              refine RL.y rfl (Y.len (by kernel_rfl) rfl) ?_
              obtain ⟨x85, hx87, hm⟩ := bnd hm
              obtain ⟨k86, hk88, hl89, hx87⟩ := getI_some hx87
              refine RL.y rfl (Y.indexAddr (m := k86) (sz := 1) rfl rfl hk88 hl89 (by kernel_rfl)) ?_
              refine RL.storeF (k := k86) (a := (xs61.length : Int)) fI rfl rfl rfl Gxs60 hl89 rfl (by kernel_rfl) (fun w90 G91 ho92 => ?_)
              have szw90 := ho92.size
              have Gxs61 := OwF.only Gxs61 ho92 (fun e => Doxs61_oxs60 _ e rfl)
              have T := T.trans (ho92.below (by intro b hb; simp at hb; subst hb; exact OwF.lo_ Gxs60 _ rfl))
              have G91 : OwF 2 encI 1 w90 w.heap.size (.slice (some ⟨b81, 0, none⟩) xs60.length c75) (setI xs60 x65.agent (xs61.length : Int)) := by rw [hk88, setI_nat]; exact G91
              refine RL.nil ?_
              refine then_n ?_
              refine wp_rl rfl ?_
              refine RL.y rfl (Y.move (v := .slice A83 xs61.length c84) s8_3) ?_
              refine RL.y rfl (Y.move (v := .int .i64 x65.agent) rfl) ?_
              refine RL.bslice (e := 2) (cells := #[.int .i64 x65.agent]) rfl (pm1 rfl) (by kernel_rfl) (fun w93 B94 hb95 szw93 => ?_)
              have ZB94 : w.heap.size ≤ w90.heap.size := T.size
              have Do96_oxs60 := Dj.new (v := .slice (some ⟨w90.heap.size, 0, none⟩) 1 1) litGe (OwF.hi G91)
              have Do96_oxs61 := Dj.new (v := .slice (some ⟨w90.heap.size, 0, none⟩) 1 1) litGe (OwF.hi Gxs61)
              have G91 := OwF.below G91 hb95
              have Gxs61 := OwF.below Gxs61 hb95
              have T := Tt T hb95
              have G97 := OwF.lit (enc := encI) (sz := 1) (xs := [x65.agent]) B94 ZB94 rfl rfl rfl rfl
              obtain ⟨_, m99, hm⟩ := bnd hm
              have hk100 := mustP_some m99
              refine RL.append fI app_int64 rfl rfl rfl Gxs61 (OwF.arg fI G97) T.size hk100 (fun v101 w102 G103 hgr104 hbl105 hnb106 => ?_)
              have szw102 := hbl105.size
              have Do107_oxs60 := Dj.app Doxs61_oxs60 hnb106 (OwF.hi G91)
              have G91 := OwF.keptD G91 hgr104 (Dj.symm Doxs61_oxs60)
              have T := T.trans hbl105
              refine RL.y rfl (Y.assign (v := v101) rfl) ?_
              refine RL.nil ?_
              refine blk_n (then_n ?_)
              refine wp_rs rfl ?_
              refine RQ.y rfl (Y.move (v := .int .i64 i62) s11_3) ?_
              refine RQ.y rfl (Y.binI rfl rfl (binI_add (m := i62) (by omega))) ?_
              refine RQ.y rfl (Y.assign (v := .int .i64 (i62 + 1)) rfl) ?_
              refine RQ.nil ?_
              exact (then_n ⟨g, _, Nat.lt_succ_self _, rfl, ⟨(setI xs60 x65.agent (xs61.length : Int)), (xs61 ++ [x65.agent]), (i62 + 1), (.slice (some ⟨b81, 0, none⟩) xs60.length c75), (v101), s0_3, s9_3, s10_3, s6_3, G91, rfl, G103, rfl, (by omega), Do107_oxs60, T, (by rw [← hrec3]; exact hm)⟩⟩)
  · rintro g f w112 ⟨xs110, i111, uxs110, s0_1, s1_1, s6_1, Gxs110, s7_1, nn7_1, T, hm⟩
    rcases g with _ | g
    · simp only [m_spec_l12Traverse_L1] at hm; cases hm
    obtain ⟨rec1, hrec1, hm⟩ : ∃ z, z = m_spec_l12Traverse_L1 d0 K1 g ∧ m_spec_l12Traverse_B1 d0 z K1 xs110 i111 = some r := ⟨_, rfl, hm⟩
    unfold m_spec_l12Traverse_B1 at hm
    refine wp_seq ?_
    refine wp_seq ?_
    refine wp_rs rfl ?_
    refine RQ.y rfl (Y.move (v := .int .i64 i111) s7_1) ?_
    refine RQ.y rfl (Y.move (v := .pointer (some ⟨ba0, oa0, none⟩)) s0_1) ?_
    refine RQ.y rfl (Y.nilCheck rfl) ?_
    refine RQ.y rfl (Y.fieldAddr (off := 0) rfl (by kernel_rfl)) ?_
    refine RQ.y rfl (Y.load (v := .slice A1 d0.agents.length c1) rfl (by kernel_rfl) (eqC (cellT T (hca0 0 _ rfl)))) ?_
    refine RQ.y rfl (Y.len (by kernel_rfl) rfl) ?_
    refine RQ.y rfl (Y.binI (v := .bool (decide (i111 < (d0.agents.length : Int)))) rfl rfl rfl) ?_
    refine RQ.nil ?_
    refine then_n ?_
    rcases bcases (decide (i111 < (d0.agents.length : Int))) with c113 | c113
    · replace hm := cF c113 hm
      have pc113 := of_decide_eq_false c113
      refine cond_f rfl (vb rfl c113) ?_
      refine wp_exit ?_
      exact (then_x (then_x (hit_x ⟨_, rfl, ⟨xs110, (uxs110), s0_1, s1_1, s6_1, Gxs110, T, (by rw [hK1] at hm; exact hm)⟩⟩)))
    · replace hm := cT c113 hm
      have pc113 := of_decide_eq_true c113
      refine cond_t rfl (vb rfl c113) ?_
      refine wp_skip ?_
      refine then_n ?_
      refine wp_seq ?_
      refine wp_block ?_
      refine wp_rl rfl ?_
      refine RL.y rfl (Y.move (v := uxs110) s6_1) ?_
      refine RL.bslice (e := 2) (cells := #[.int .i64 (-1)]) rfl (pm1 rfl) (by kernel_rfl) (fun w114 B115 hb116 szw114 => ?_)
      have ZB115 : w.heap.size ≤ w112.heap.size := T.size
      have Do117_oxs110 := Dj.new (v := .slice (some ⟨w112.heap.size, 0, none⟩) 1 1) litGe (OwF.hi Gxs110)
      have Gxs110 := OwF.below Gxs110 hb116
      have T := Tt T hb116
      have G118 := OwF.lit (enc := encI) (sz := 1) (xs := [(-1)]) B115 ZB115 rfl rfl rfl rfl
      obtain ⟨_, m120, hm⟩ := bnd hm
      have hk121 := mustP_some m120
      refine RL.append fI app_int64 rfl rfl rfl Gxs110 (OwF.arg fI G118) T.size hk121 (fun v122 w123 G124 hgr125 hbl126 hnb127 => ?_)
      have szw123 := hbl126.size
      have T := T.trans hbl126
      refine RL.y rfl (Y.assign (v := v122) rfl) ?_
      refine RL.nil ?_
      refine blk_n (then_n ?_)
      refine wp_rs rfl ?_
      refine RQ.y rfl (Y.move (v := .int .i64 i111) s7_1) ?_
      refine RQ.y rfl (Y.binI rfl rfl (binI_add (m := i111) (by omega))) ?_
      refine RQ.y rfl (Y.assign (v := .int .i64 (i111 + 1)) rfl) ?_
      refine RQ.nil ?_
      exact (then_n ⟨g, _, Nat.lt_succ_self _, rfl, ⟨(xs110 ++ [(-1)]), (i111 + 1), (v122), s0_1, s1_1, rfl, G124, rfl, (by omega), T, (by rw [← hrec1]; exact hm)⟩⟩)
def m_impl_Net_traverse_A1 (xs18 : List Int) : Option (List Int) :=
  some xs18
def m_impl_Net_traverse_A2 (rec1 : List Int → Int → MapM Int Bool → Option (List Int)) (i21 : Int) (xs46 : List Int) (z47 : MapM Int Bool) : Option (List Int) :=
  ((ck (i21 + 1)).bind fun s49 => (rec1 xs46 s49 z47))
def m_impl_Net_traverse_B2 (x33 : DAgent) (rec2 : List Int → Int → MapM Int Bool → Option (List Int)) (K2 : List Int → MapM Int Bool → Option (List Int)) (xs50 : List Int) (i51 : Int) (z52 : MapM Int Bool) : Option (List Int) :=
  (bif (decide (i51 < (x33.ports.length : Int))) then ((getI x33.ports i51).bind fun x55 => ((ck x55.agent).bind fun _ => (bif (z52.look x55.agent false) then (rec2 xs50 (i51 + 1) z52) else ((ck x55.agent).bind fun _ => ((mustP (z52.n ≤ 4294967296)).bind fun _ => ((mustP (xs50.length + ([x55.agent]).length ≤ 4294967296)).bind fun _ => (rec2 (xs50 ++ [x55.agent]) (i51 + 1) (z52.put x55.agent true)))))))) else (K2 xs50 z52))
def m_impl_Net_traverse_L2 (x33 : DAgent) (K2 : List Int → MapM Int Bool → Option (List Int)) : Nat → List Int → Int → MapM Int Bool → Option (List Int)
  | 0, _, _, _ => none
  | g + 1, xs50, i51, z52 => m_impl_Net_traverse_B2 x33 (m_impl_Net_traverse_L2 x33 K2 g) K2 xs50 i51 z52
def m_impl_Net_traverse_B1 (d0 : DNet) (rec1 : List Int → Int → MapM Int Bool → Option (List Int)) (K1 : List Int → Option (List Int)) (xs20 : List Int) (i21 : Int) (z22 : MapM Int Bool) : Option (List Int) :=
  (bif (decide (i21 < (xs20.length : Int))) then ((getI xs20 i21).bind fun x27 => ((getI d0.agents x27).bind fun x33 => (m_impl_Net_traverse_L2 x33 (m_impl_Net_traverse_A2 rec1 i21) (x33.ports.length + 1) xs20 0 z22))) else (K1 xs20))
def m_impl_Net_traverse_L1 (d0 : DNet) (K1 : List Int → Option (List Int)) : Nat → List Int → Int → MapM Int Bool → Option (List Int)
  | 0, _, _, _ => none
  | g + 1, xs20, i21, z22 => m_impl_Net_traverse_B1 d0 (m_impl_Net_traverse_L1 d0 K1 g) K1 xs20 i21 z22
def m_impl_Net_traverse (d0 : DNet) (d1 : Int) : Option (List Int) :=
  ((ck d1).bind fun _ => ((mustP ((MapM.empty : MapM Int Bool).n ≤ 4294967296)).bind fun _ => (m_impl_Net_traverse_L1 d0 m_impl_Net_traverse_A1 (d0.agents.length + 2) ([d1]) 0 ((MapM.empty : MapM Int Bool).put d1 true))))
set_option maxHeartbeats 2000000 in
theorem c_m_impl_Net_traverse (d0 : DNet) (d1 : Int) (r : List Int) (hm : m_impl_Net_traverse d0 d1 = some r) (v0 : Value) (w : World) (hv0 : Pt netRd w v0 d0) :
    Calls Tryz.prog 51 #[v0, .int .i64 d1] w fun e w' => (∃ v, e = .returned v ∧ OwF 2 encI 1 w' w.heap.size v r) ∧ Below w.heap.size w w' := by
  obtain ⟨ba0, oa0, csa0, rfl, hba0, hRa0, hca0⟩ := hv0
  have hSa0 := hRa0
  obtain ⟨A1, n1, c1, rfl, ⟨h1, r1⟩⟩ := hRa0
  have e1 := h1.len; subst e1
  have q1 := len_le r1
  have T := Below.refl w.heap.size w
  unfold m_impl_Net_traverse at hm
  refine enter 52 Tryz.func51 rfl rfl rfl ?_
  intro f hf
  have s0 : f 0 = .pointer (some ⟨ba0, oa0, none⟩) := hf 0 _ rfl
  have s1 : f 1 = .int .i64 d1 := hf 1 _ rfl
  refine wp_seq ?_
  refine wp_rs rfl ?_
  refine RQ.y rfl (Y.assign (v := .slice none 0 0) rfl) ?_
  refine RQ.nil ?_
  refine then_n ?_
  refine wp_seq ?_
  refine wp_rl rfl ?_
  refine RL.y rfl (Y.move (v := .int .i64 d1) s1) ?_
  refine RL.bslice (e := 2) (cells := #[.int .i64 d1]) rfl (pm1 rfl) (by kernel_rfl) (fun w2 B3 hb4 szw2 => ?_)
  have ZB3 : w.heap.size ≤ w.heap.size := T.size
  have T := Tt T hb4
  have G6 := OwF.lit (enc := encI) (sz := 1) (xs := [d1]) B3 ZB3 rfl rfl rfl rfl
  refine RL.y rfl (Y.assign (v := .slice (some ⟨w.heap.size, 0, none⟩) 1 1) rfl) ?_
  refine RL.nil ?_
  refine then_n ?_
  refine wp_seq ?_
  refine wp_rl rfl ?_
  refine RL.makeMap (κ := Int) (β := Bool) 2 litI encVB rfl (fun w8 B9 hb10 szw8 => ?_)
  replace B9 := OwM.lower B9 T.size
  have No5_ob11 := OwF.far G6 (Nat.le_refl _)
  have G6 := OwF.below G6 hb10
  have T := Tt T hb10
  refine RL.y rfl (Y.move (v := .int .i64 d1) s1) ?_
  obtain ⟨_, kc12, hm⟩ := bnd hm
  replace kc12 := (ck_some kc12).2
  obtain ⟨_, m13, hm⟩ := bnd hm
  have hk14 := mustP_some m13
  refine RL.mapIns (a := d1) (v := true) (enc := encVB) mt_int64_bool rfl rfl rfl rfl kc12 B9 hk14 (fun w15 B16 ho17 => ?_)
  have szw15 := ho17.size
  have G6 := OwF.only G6 ho17 No5_ob11
  have T := T.trans (ho17.below (by intro b hb; simp at hb; subst hb; exact B9.1))
  refine RL.y rfl (Y.move (v := .map (some w2.heap.size)) rfl) ?_
  refine RL.y rfl (Y.assign (v := .map (some w2.heap.size)) rfl) ?_
  refine RL.nil ?_
  refine then_n ?_
  refine wp_seq ?_
  refine wp_seq ?_
  refine wp_rs rfl ?_
  refine RQ.y rfl (Y.assign (v := .int .i64 0) rfl) ?_
  refine RQ.nil ?_
  refine then_n ?_
  refine wp_block ?_
  obtain ⟨K1, hK1, hm⟩ : ∃ K, K = m_impl_Net_traverse_A1 ∧ m_impl_Net_traverse_L1 d0 K (d0.agents.length + 2) ([d1]) 0 ((MapM.empty : MapM Int Bool).put d1 true) = some r := ⟨_, rfl, hm⟩
  refine wp_loopX (fun g f w' => ∃ (xs20 : List Int) (i21 : Int) (z22 : MapM Int Bool) (uxs20 : Value), f 0 = .pointer (some ⟨ba0, oa0, none⟩) ∧ f 6 = .map (some w2.heap.size) ∧ f 5 = uxs20 ∧ OwF 2 encI 1 w' w.heap.size uxs20 xs20 ∧ f 7 = .int .i64 i21 ∧ 0 ≤ i21 ∧ OwM Tryz.prog 2 litI encVB w' w.heap.size w2.heap.size z22 ∧ Value.ownBlock uxs20 ≠ some w2.heap.size ∧ Below w.heap.size w w' ∧ m_impl_Net_traverse_L1 d0 K1 g xs20 i21 z22 = some r) 0 (fun f w' => ∃ (xs18 : List Int) (uxs18 : Value), f 5 = uxs18 ∧ OwF 2 encI 1 w' w.heap.size uxs18 xs18 ∧ Value.ownBlock uxs18 ≠ some w2.heap.size ∧ Below w.heap.size w w' ∧ m_impl_Net_traverse_A1 xs18 = some r) (d0.agents.length + 2) ⟨([d1]), 0, ((MapM.empty : MapM Int Bool).put d1 true), (.slice (some ⟨w.heap.size, 0, none⟩) 1 1), s0, rfl, rfl, G6, rfl, (by omega), B16, No5_ob11, T, hm⟩ ?_ ?_
  · rintro f w19 ⟨xs18, uxs18, s5_1x, Gxs18, Noxs18_ob11, T, hm⟩
    unfold m_impl_Net_traverse_A1 at hm
    refine blk_hit (then_n ?_)
    refine wp_seq ?_
    refine wp_rs rfl ?_
    refine RQ.y rfl (Y.move (v := uxs18) s5_1x) ?_
    refine RQ.y rfl (Y.assign (v := uxs18) rfl) ?_
    refine RQ.nil ?_
    refine then_n ?_
    refine wp_ret ?_
    obtain rfl := Option.some.inj hm
    exact (ret1 rfl rfl rfl ⟨⟨_, rfl, Gxs18⟩, T⟩)
  · rintro g f w23 ⟨xs20, i21, z22, uxs20, s0_1, s6_1, s5_1, Gxs20, s7_1, nn7_1, Bz22, Noxs20_ob11, T, hm⟩
    rcases g with _ | g
    · simp only [m_impl_Net_traverse_L1] at hm; cases hm
    obtain ⟨rec1, hrec1, hm⟩ : ∃ z, z = m_impl_Net_traverse_L1 d0 K1 g ∧ m_impl_Net_traverse_B1 d0 z K1 xs20 i21 z22 = some r := ⟨_, rfl, hm⟩
    unfold m_impl_Net_traverse_B1 at hm
    refine wp_seq ?_
    refine wp_seq ?_
    refine wp_rs rfl ?_
    refine RQ.y rfl (Y.move (v := .int .i64 i21) s7_1) ?_
    refine RQ.y rfl (Y.move (v := uxs20) s5_1) ?_
    obtain ⟨A24, c25, rfl⟩ := OwF.form Gxs20
    have qbA24 := OwF.bound Gxs20
    refine RQ.y rfl (Y.len (by kernel_rfl) rfl) ?_
    refine RQ.y rfl (Y.binI (v := .bool (decide (i21 < (xs20.length : Int)))) rfl rfl rfl) ?_
    refine RQ.nil ?_
    refine then_n ?_
    rcases bcases (decide (i21 < (xs20.length : Int))) with c26 | c26
    · replace hm := cF c26 hm
      have pc26 := of_decide_eq_false c26
      refine cond_f rfl (vb rfl c26) ?_
      refine wp_exit ?_
      exact (then_x (then_x (hit_x ⟨_, rfl, ⟨xs20, (.slice A24 xs20.length c25), s5_1, Gxs20, Noxs20_ob11, T, (by rw [hK1] at hm; exact hm)⟩⟩)))
    · replace hm := cT c26 hm
      have pc26 := of_decide_eq_true c26
      refine cond_t rfl (vb rfl c26) ?_
      refine wp_skip ?_
      refine then_n ?_
      refine wp_seq ?_
      refine wp_block ?_
      refine wp_seq ?_
      refine wp_rbd (by kernel_rfl) (by kernel_rfl) ?_
      refine RQ.y rfl (Y.move (v := .pointer (some ⟨ba0, oa0, none⟩)) s0_1) ?_
      refine RQ.y rfl (Y.nilCheck rfl) ?_
      refine RQ.y rfl (Y.fieldAddr (off := 0) rfl (by kernel_rfl)) ?_
      refine RQ.y rfl (Y.load (v := .slice A1 d0.agents.length c1) rfl (by kernel_rfl) (beC (cellT T (hca0 0 _ rfl)))) ?_
      refine RQ.y rfl (Y.move (v := .slice A24 xs20.length c25) s5_1) ?_
      refine RQ.y rfl (Y.move (v := .int .i64 i21) s7_1) ?_
      obtain ⟨x27, hx29, hm⟩ := bnd hm
      obtain ⟨k28, hk30, hl31, hx29⟩ := getI_some hx29
      obtain ⟨b32, rfl⟩ := OwF.addr0 Gxs20 (by omega)
      refine RQ.y rfl (Y.indexAddr (m := k28) (sz := 1) rfl rfl hk30 hl31 (by kernel_rfl)) ?_
      refine RQ.y rfl (Y.load (v := .int .i64 x27) rfl (by kernel_rfl) (beC (OwF.cell fI Gxs20 hx29 (j := 0) rfl))) ?_
      obtain ⟨x33, hx36, hm⟩ := bnd hm
      obtain ⟨k34, hk37, hl38, hx36⟩ := getI_some hx36
      obtain ⟨b40, o41, rfl, hbb40⟩ := h1.addr (by omega)
      obtain ⟨cs35, hRcs35, hc39⟩ := h1.el hx36
      have hScs35 := hRcs35
      obtain ⟨A42, n42, c42, A43, n43, c43, rfl, ⟨h42, r42⟩, ⟨h43, r43⟩⟩ := hRcs35
      have e42 := h42.len; subst e42
      have q42 := len_le r42
      have e43 := h43.len; subst e43
      have q43 := len_le r43
      refine RQ.y rfl (Y.indexAddr (m := k34) (sz := 5) rfl rfl hk37 hl38 (by kernel_rfl)) ?_
      refine RQ.y rfl (Y.fieldAddr (off := 4) rfl (by kernel_rfl)) ?_
      refine RQ.y rfl (Y.load (v := .slice A43 x33.ports.length c43) rfl (by kernel_rfl) (beC (cellT T (hc39 4 _ rfl)))) ?_
      refine RQ.y rfl (Y.len (by kernel_rfl) rfl) ?_
      refine RQ.y rfl (Y.move (v := .int .i64 0) rfl) ?_
      refine RQ.nil ?_
      intro w44 hb45
      have szw44 := hb45.size
      have Bz22 := OwM.below Bz22 hb45
      have Gxs20 := OwF.below Gxs20 hb45
      have T := Tt T hb45
      refine then_n ?_
      refine wp_block ?_
      obtain ⟨K2, hK2, hm⟩ : ∃ K, K = (m_impl_Net_traverse_A2 rec1 i21) ∧ m_impl_Net_traverse_L2 x33 K (x33.ports.length + 1) xs20 0 z22 = some r := ⟨_, rfl, hm⟩
      refine wp_loopX (fun g f w' => ∃ (xs50 : List Int) (i51 : Int) (z52 : MapM Int Bool) (uxs50 : Value), f 0 = .pointer (some ⟨ba0, oa0, none⟩) ∧ f 6 = .map (some w2.heap.size) ∧ f 7 = .int .i64 i21 ∧ f 31 = .slice A43 x33.ports.length c43 ∧ f 32 = .int .i64 (x33.ports.length : Int) ∧ f 5 = uxs50 ∧ OwF 2 encI 1 w' w.heap.size uxs50 xs50 ∧ f 33 = .int .i64 i51 ∧ 0 ≤ i51 ∧ OwM Tryz.prog 2 litI encVB w' w.heap.size w2.heap.size z52 ∧ Value.ownBlock uxs50 ≠ some w2.heap.size ∧ Below w.heap.size w w' ∧ m_impl_Net_traverse_L2 x33 K2 g xs50 i51 z52 = some r) 2 (fun f w' => ∃ (xs46 : List Int) (z47 : MapM Int Bool) (uxs46 : Value), f 0 = .pointer (some ⟨ba0, oa0, none⟩) ∧ f 6 = .map (some w2.heap.size) ∧ f 7 = .int .i64 i21 ∧ f 5 = uxs46 ∧ OwF 2 encI 1 w' w.heap.size uxs46 xs46 ∧ OwM Tryz.prog 2 litI encVB w' w.heap.size w2.heap.size z47 ∧ Value.ownBlock uxs46 ≠ some w2.heap.size ∧ Below w.heap.size w w' ∧ m_impl_Net_traverse_A2 rec1 i21 xs46 z47 = some r) (x33.ports.length + 1) ⟨xs20, 0, z22, (.slice (some ⟨b32, 0, none⟩) xs20.length c25), s0_1, s6_1, s7_1, rfl, rfl, s5_1, Gxs20, rfl, (by omega), Bz22, Noxs20_ob11, T, hm⟩ ?_ ?_
      · rintro f w48 ⟨xs46, z47, uxs46, s0_2x, s6_2x, s7_2x, s5_2x, Gxs46, Bz47, Noxs46_ob11, T, hm⟩
        unfold m_impl_Net_traverse_A2 at hm
        refine blk_hit (blk_n (then_n ?_))
        refine wp_rs rfl ?_
        refine RQ.y rfl (Y.move (v := .int .i64 i21) s7_2x) ?_
        obtain ⟨s49, ks49, hm⟩ := bnd hm
        replace ks49 := ck_some ks49
        refine RQ.y rfl (Y.binI (v := .int .i64 s49) rfl rfl (by rw [binI_add ks49.2, ks49.1])) ?_
        refine RQ.y rfl (Y.assign (v := .int .i64 s49) rfl) ?_
        refine RQ.nil ?_
        exact (then_n ⟨g, _, Nat.lt_succ_self _, rfl, ⟨xs46, s49, z47, (uxs46), s0_2x, s6_2x, s5_2x, Gxs46, rfl, (by omega), Bz47, Noxs46_ob11, T, (by rw [← hrec1]; exact hm)⟩⟩)
      · rintro g f w53 ⟨xs50, i51, z52, uxs50, s0_2, s6_2, s7_2, s31_2, s32_2, s5_2, Gxs50, s33_2, nn33_2, Bz52, Noxs50_ob11, T, hm⟩
        rcases g with _ | g
        · simp only [m_impl_Net_traverse_L2] at hm; cases hm
        obtain ⟨rec2, hrec2, hm⟩ : ∃ z, z = m_impl_Net_traverse_L2 x33 K2 g ∧ m_impl_Net_traverse_B2 x33 z K2 xs50 i51 z52 = some r := ⟨_, rfl, hm⟩
        unfold m_impl_Net_traverse_B2 at hm
        refine wp_seq ?_
        refine wp_rs rfl ?_
        refine RQ.y rfl (Y.binI (v := .bool (decide (i51 < (x33.ports.length : Int)))) s33_2 s32_2 rfl) ?_
        refine RQ.nil ?_
        refine then_n ?_
        refine wp_seq ?_
        rcases bcases (decide (i51 < (x33.ports.length : Int))) with c54 | c54
        · replace hm := cF c54 hm
          have pc54 := of_decide_eq_false c54
          refine cond_f rfl (vb rfl c54) ?_
          refine wp_exit ?_
          exact (then_x (then_x (hit_x ⟨_, rfl, ⟨xs50, z52, (uxs50), s0_2, s6_2, s7_2, s5_2, Gxs50, Bz52, Noxs50_ob11, T, (by rw [hK2] at hm; exact hm)⟩⟩)))
        · replace hm := cT c54 hm
          have pc54 := of_decide_eq_true c54
          refine cond_t rfl (vb rfl c54) ?_
          refine wp_skip ?_
          refine then_n ?_
          refine wp_seq ?_
          refine wp_block ?_
          refine wp_seq ?_
          refine wp_rl rfl ?_
          obtain ⟨x55, hx58, hm⟩ := bnd hm
          obtain ⟨k56, hk59, hl60, hx58⟩ := getI_some hx58
          obtain ⟨b62, o63, rfl, hbb62⟩ := h43.addr (by omega)
          obtain ⟨cs57, hRcs57, hc61⟩ := h43.el hx58
          have hScs57 := hRcs57
          obtain rfl := hRcs57
          refine RL.y rfl (Y.indexAddr (m := k56) (sz := 2) s31_2 s33_2 hk59 hl60 (by kernel_rfl)) ?_
          refine RL.y rfl (Y.loadN (cs := [.int .i64 x55.agent, .int .i64 x55.slot]) rfl (by kernel_rfl) (cells2 (eqC (cellT T (hc61 0 _ rfl))) (eqC (cellT T (hc61 1 _ rfl))))) ?_
          refine RL.alloc (z := .agg #[.int .i64 0, .int .i64 0]) rfl (by kernel_rfl) (fun w64 B65 hb66 szw64 => ?_)
          replace B65 : Blk w64 w53.heap.size 65 #[.int .i64 0, .int .i64 0] := B65
          have GB65 : w.heap.size ≤ w53.heap.size := T.size
          have Eob67_ob11 := Nat.ne_of_lt Bz52.lt
          have Noxs50_ob67 := OwF.far Gxs50 (Nat.le_refl _)
          have Bz52 := OwM.below Bz52 hb66
          have Gxs50 := OwF.below Gxs50 hb66
          have T := Tt T hb66
          refine RL.store (v := .agg #[.int .i64 x55.agent, .int .i64 x55.slot]) (cs' := #[.int .i64 x55.agent, .int .i64 x55.slot]) rfl rfl rfl B65 (by kernel_rfl) (by rfl) (by rfl) (by rfl) (fun w68 B69 ho70 => ?_)
          have szw68 := ho70.size
          have Bz52 := Bz52.only ho70 (by intro hin; simp at hin; exact Eob67_ob11 hin)
          have Gxs50 := OwF.only Gxs50 ho70 Noxs50_ob67
          have T := T.trans (ho70.below (by first | (simp; done) | (simp; omega)))
          refine RL.nil ?_
          refine then_n ?_
          refine wp_seq ?_
          refine wp_rs rfl ?_
          refine RQ.y rfl (Y.move (v := .map (some w2.heap.size)) s6_2) ?_
          refine RQ.y rfl (Y.fieldAddr (off := 0) rfl (by kernel_rfl)) ?_
          refine RQ.y rfl (Y.load (v := .int .i64 x55.agent) rfl (by kernel_rfl) (eqC (blkCell B69 (i := 0) rfl))) ?_
          obtain ⟨_, kc71, hm⟩ := bnd hm
          replace kc71 := (ck_some kc71).2
          refine RQ.y rfl (Y.look (zb := false) (a := x55.agent) mt_int64_bool rfl rfl kc71 (fun w' e => by rw [e]; exact Bz52)) ?_
          refine RQ.y rfl (Y.not (b' := (!(z52.look x55.agent false))) rfl rfl) ?_
          refine RQ.nil ?_
          refine then_n ?_
          rcases bcases (z52.look x55.agent false) with c72 | c72
          · replace hm := cF c72 hm
            refine cond_t rfl (vbn rfl c72 rfl) ?_
            refine wp_seq ?_
            refine wp_rl rfl ?_
            refine RL.y rfl (Y.move (v := .map (some w2.heap.size)) s6_2) ?_
            refine RL.y rfl (Y.fieldAddr (off := 0) rfl (by kernel_rfl)) ?_
            refine RL.y rfl (Y.load (v := .int .i64 x55.agent) rfl (by kernel_rfl) (eqC (blkCell B69 (i := 0) rfl))) ?_
            obtain ⟨_, kc73, hm⟩ := bnd hm
            replace kc73 := (ck_some kc73).2
            obtain ⟨_, m74, hm⟩ := bnd hm
            have hk75 := mustP_some m74
            refine RL.mapSet (a := x55.agent) (v := true) (enc := encVB) mt_int64_bool rfl rfl rfl rfl kc73 Bz52 hk75 (fun w76 B77 ho78 => ?_)
            have szw76 := ho78.size
            have B69 := B69.only_ ho78 (by intro hin; simp at hin; exact Eob67_ob11.symm hin)
            have Gxs50 := OwF.only Gxs50 ho78 Noxs50_ob11
            have T := T.trans (ho78.below (by intro b hb; simp at hb; subst hb; exact Bz52.1))
            refine RL.nil ?_
            refine then_n ?_
            refine wp_rl rfl ?_
            refine RL.y rfl (Y.move (v := uxs50) s5_2) ?_
            refine RL.y rfl (Y.fieldAddr (off := 0) rfl (by kernel_rfl)) ?_
            refine RL.y rfl (Y.load (v := .int .i64 x55.agent) rfl (by kernel_rfl) (eqC (blkCell B69 (i := 0) rfl))) ?_
            refine RL.bslice (e := 2) (cells := #[.int .i64 x55.agent]) rfl (pm1 rfl) (by kernel_rfl) (fun w79 B80 hb81 szw79 => ?_)
            have ZB80 : w.heap.size ≤ w76.heap.size := T.size
            have No82_ob11 := litNe (n := 1) (c := 1) B77.lt
            have No82_ob67 := litNe (n := 1) (c := 1) B69.lt
            have Do82_oxs50 := Dj.new (v := .slice (some ⟨w76.heap.size, 0, none⟩) 1 1) litGe (OwF.hi Gxs50)
            have B77 := OwM.below B77 hb81
            have B69 := blkT B69 hb81
            have Gxs50 := OwF.below Gxs50 hb81
            have T := Tt T hb81
            have G83 := OwF.lit (enc := encI) (sz := 1) (xs := [x55.agent]) B80 ZB80 rfl rfl rfl rfl
            obtain ⟨_, m85, hm⟩ := bnd hm
            have hk86 := mustP_some m85
            refine RL.append fI app_int64 rfl rfl rfl Gxs50 (OwF.arg fI G83) T.size hk86 (fun v87 w88 G89 hgr90 hbl91 hnb92 => ?_)
            have szw88 := hbl91.size
            have No93_ob11 := ne_app hnb92 Noxs50_ob11 B77.lt
            have No93_ob67 := ne_app hnb92 Noxs50_ob67 B69.lt
            have B77 := OwM.grown B77 hgr90 Noxs50_ob11
            have B69 := Blk.kept B69 hgr90 Noxs50_ob67
            have T := T.trans hbl91
            refine RL.y rfl (Y.assign (v := v87) rfl) ?_
            refine RL.nil ?_
            refine blk_n (then_n ?_)
            refine wp_rs rfl ?_
            refine RQ.y rfl (Y.binI s33_2 rfl (binI_add (m := i51) (by omega))) ?_
            refine RQ.y rfl (Y.move (v := .int .i64 (i51 + 1)) rfl) ?_
            refine RQ.nil ?_
            exact (then_n ⟨g, _, Nat.lt_succ_self _, rfl, ⟨(xs50 ++ [x55.agent]), (i51 + 1), (z52.put x55.agent true), (v87), s0_2, s6_2, s7_2, s31_2, s32_2, rfl, G89, rfl, (by omega), B77, No93_ob11, T, (by rw [← hrec2]; exact hm)⟩⟩)
          · replace hm := cT c72 hm
            refine cond_f rfl (vbn rfl c72 rfl) ?_
            refine wp_skip ?_
            refine blk_n (then_n ?_)
            refine wp_rs rfl ?_
            refine RQ.y rfl (Y.binI s33_2 rfl (binI_add (m := i51) (by omega))) ?_
            refine RQ.y rfl (Y.move (v := .int .i64 (i51 + 1)) rfl) ?_
            refine RQ.nil ?_
            exact (then_n ⟨g, _, Nat.lt_succ_self _, rfl, ⟨xs50, (i51 + 1), z52, (uxs50), s0_2, s6_2, s7_2, s31_2, s32_2, s5_2, Gxs50, rfl, (by omega), Bz52, Noxs50_ob11, T, (by rw [← hrec2]; exact hm)⟩⟩)
def m_spec_l12Code_A1 (xs19 : List Int) : Option (List Int) :=
  some xs19
def m_spec_l12Code_A2 (rec1 : List Int → Int → Option (List Int)) (i22 : Int) (xs72 : List Int) : Option (List Int) :=
  ((ck (i22 + 1)).bind fun s74 => (rec1 xs72 s74))
def m_spec_l12Code_B2 (y2 : (List Int) × (List Int)) (x33 : DAgent) (rec2 : List Int → Int → Option (List Int)) (K2 : List Int → Option (List Int)) (xs75 : List Int) (i76 : Int) : Option (List Int) :=
  (bif (decide (i76 < (x33.ports.length : Int))) then ((getI x33.ports i76).bind fun x81 => ((getI y2.2 x81.agent).bind fun x92 => ((getI x33.ports i76).bind fun x98 => ((mustP (xs75.length + ([x92, x98.slot]).length ≤ 4294967296)).bind fun _ => (rec2 (xs75 ++ [x92, x98.slot]) (i76 + 1)))))) else (K2 xs75))
def m_spec_l12Code_L2 (y2 : (List Int) × (List Int)) (x33 : DAgent) (K2 : List Int → Option (List Int)) : Nat → List Int → Int → Option (List Int)
  | 0, _, _ => none
  | g + 1, xs75, i76 => m_spec_l12Code_B2 y2 x33 (m_spec_l12Code_L2 y2 x33 K2 g) K2 xs75 i76
def m_spec_l12Code_B1 (d0 : DNet) (y2 : (List Int) × (List Int)) (rec1 : List Int → Int → Option (List Int)) (K1 : List Int → Option (List Int)) (xs21 : List Int) (i22 : Int) : Option (List Int) :=
  (bif (decide (i22 < (y2.1.length : Int))) then ((getI y2.1 i22).bind fun x27 => ((getI d0.agents x27).bind fun x33 => ((mustP (xs21.length + ([x33.kind, x33.level, x33.value, (x33.data.length : Int)]).length ≤ 4294967296)).bind fun _ => ((mustP ((xs21 ++ [x33.kind, x33.level, x33.value, (x33.data.length : Int)]).length + x33.data.length ≤ 4294967296)).bind fun _ => (m_spec_l12Code_L2 y2 x33 (m_spec_l12Code_A2 rec1 i22) (x33.ports.length + 1) ((xs21 ++ [x33.kind, x33.level, x33.value, (x33.data.length : Int)]) ++ x33.data) 0))))) else (K1 xs21))
def m_spec_l12Code_L1 (d0 : DNet) (y2 : (List Int) × (List Int)) (K1 : List Int → Option (List Int)) : Nat → List Int → Int → Option (List Int)
  | 0, _, _ => none
  | g + 1, xs21, i22 => m_spec_l12Code_B1 d0 y2 (m_spec_l12Code_L1 d0 y2 K1 g) K1 xs21 i22
def m_spec_l12Code (d0 : DNet) (d1 : Int) : Option (List Int) :=
  ((m_spec_l12Traverse d0 d1).bind fun y2 => (m_spec_l12Code_L1 d0 y2 m_spec_l12Code_A1 (y2.1.length + 1) ([] : List Int) 0))
set_option maxHeartbeats 2000000 in
theorem c_m_spec_l12Code (d0 : DNet) (d1 : Int) (r : List Int) (hm : m_spec_l12Code d0 d1 = some r) (v0 : Value) (w : World) (hv0 : Pt netRd w v0 d0) :
    Calls Tryz.prog 42 #[v0, .int .i64 d1] w fun e w' => (∃ v, e = .returned v ∧ OwF 2 encI 1 w' w.heap.size v r) ∧ Below w.heap.size w w' := by
  obtain ⟨ba0, oa0, csa0, rfl, hba0, hRa0, hca0⟩ := hv0
  have hSa0 := hRa0
  obtain ⟨A1, n1, c1, rfl, ⟨h1, r1⟩⟩ := hRa0
  have e1 := h1.len; subst e1
  have q1 := len_le r1
  have T := Below.refl w.heap.size w
  unfold m_spec_l12Code at hm
  refine enter 91 Tryz.func42 rfl rfl rfl ?_
  intro f hf
  have s0 : f 0 = .pointer (some ⟨ba0, oa0, none⟩) := hf 0 _ rfl
  have s1 : f 1 = .int .i64 d1 := hf 1 _ rfl
  refine wp_seq ?_
  refine wp_rs rfl ?_
  refine RQ.y rfl (Y.assign (v := .slice none 0 0) rfl) ?_
  refine RQ.nil ?_
  refine then_n ?_
  refine wp_seq ?_
  refine wp_rl rfl ?_
  refine RL.y rfl (Y.move (v := .pointer (some ⟨ba0, oa0, none⟩)) s0) ?_
  refine RL.y rfl (Y.move (v := .int .i64 d1) s1) ?_
  obtain ⟨y2, e3, hm⟩ := bnd hm
  refine RL.call rfl (am2 rfl rfl) (by kernel_rfl) ((c_m_spec_l12Traverse d0 d1 _ e3 _ _ (ptArg netRd_ok hba0 hSa0 hca0 T)).mono ?_)
  rintro _ w10 ⟨⟨v4, v7, rfl, G5, G8, Do6_o9⟩, hb11⟩
  refine ⟨_, rfl, ?_⟩
  have szw10 := hb11.size
  have T0w10 := T.size
  have T := Tt T hb11
  replace G5 := OwF.mono G5 T0w10
  replace G8 := OwF.mono G8 T0w10
  refine RL.y rfl (Y.move (v := .tuple #[v4, v7]) rfl) ?_
  refine RL.y rfl (Y.extract (i := 0) rfl rfl) ?_
  refine RL.y rfl (Y.extract (i := 1) rfl rfl) ?_
  refine RL.y rfl (Y.assign (v := v4) rfl) ?_
  refine RL.y rfl (Y.assign (v := v7) rfl) ?_
  refine RL.nil ?_
  refine then_n ?_
  refine wp_seq ?_
  refine wp_rl rfl ?_
  refine RL.bslice (e := 2) (cells := #[]) rfl pm0 (by kernel_rfl) (fun w13 B14 hb15 szw13 => ?_)
  have ZB14 : w.heap.size ≤ w10.heap.size := T.size
  have Do16_o6 := Dj.new (v := .slice (some ⟨w10.heap.size, 0, none⟩) 0 0) litGe (OwF.hi G5)
  have Do16_o9 := Dj.new (v := .slice (some ⟨w10.heap.size, 0, none⟩) 0 0) litGe (OwF.hi G8)
  have G5 := OwF.below G5 hb15
  have G8 := OwF.below G8 hb15
  have T := Tt T hb15
  have G17 := OwF.lit (enc := encI) (sz := 1) (xs := ([] : List Int)) B14 ZB14 rfl rfl rfl rfl
  refine RL.y rfl (Y.assign (v := .slice (some ⟨w10.heap.size, 0, none⟩) 0 0) rfl) ?_
  refine RL.nil ?_
  refine then_n ?_
  refine wp_seq ?_
  refine wp_seq ?_
  refine wp_rs rfl ?_
  refine RQ.y rfl (Y.assign (v := .int .i64 0) rfl) ?_
  refine RQ.nil ?_
  refine then_n ?_
  refine wp_block ?_
  obtain ⟨K1, hK1, hm⟩ : ∃ K, K = m_spec_l12Code_A1 ∧ m_spec_l12Code_L1 d0 y2 K (y2.1.length + 1) ([] : List Int) 0 = some r := ⟨_, rfl, hm⟩
  refine wp_loopX (fun g f w' => ∃ (xs21 : List Int) (i22 : Int) (uxs21 : Value), f 0 = .pointer (some ⟨ba0, oa0, none⟩) ∧ f 5 = v4 ∧ f 6 = v7 ∧ f 7 = uxs21 ∧ OwF 2 encI 1 w' w.heap.size uxs21 xs21 ∧ f 8 = .int .i64 i22 ∧ 0 ≤ i22 ∧ Dj uxs21 v4 ∧ Dj uxs21 v7 ∧ OwF 2 encI 1 w' w.heap.size v4 y2.1 ∧ OwF 2 encI 1 w' w.heap.size v7 y2.2 ∧ Below w.heap.size w w' ∧ m_spec_l12Code_L1 d0 y2 K1 g xs21 i22 = some r) 0 (fun f w' => ∃ (xs19 : List Int) (uxs19 : Value), f 7 = uxs19 ∧ OwF 2 encI 1 w' w.heap.size uxs19 xs19 ∧ Below w.heap.size w w' ∧ m_spec_l12Code_A1 xs19 = some r) (y2.1.length + 1) ⟨([] : List Int), 0, (.slice (some ⟨w10.heap.size, 0, none⟩) 0 0), s0, rfl, rfl, rfl, G17, rfl, (by omega), Do16_o6, Do16_o9, G5, G8, T, hm⟩ ?_ ?_
  · rintro f w20 ⟨xs19, uxs19, s7_1x, Gxs19, T, hm⟩
    unfold m_spec_l12Code_A1 at hm
    refine blk_hit (then_n ?_)
    refine wp_seq ?_
    refine wp_rs rfl ?_
    refine RQ.y rfl (Y.move (v := uxs19) s7_1x) ?_
    refine RQ.y rfl (Y.assign (v := uxs19) rfl) ?_
    refine RQ.nil ?_
    refine then_n ?_
    refine wp_ret ?_
    obtain rfl := Option.some.inj hm
    exact (ret1 rfl rfl rfl ⟨⟨_, rfl, Gxs19⟩, T⟩)
  · rintro g f w23 ⟨xs21, i22, uxs21, s0_1, s5_1, s6_1, s7_1, Gxs21, s8_1, nn8_1, Doxs21_o6, Doxs21_o9, G5, G8, T, hm⟩
    rcases g with _ | g
    · simp only [m_spec_l12Code_L1] at hm; cases hm
    obtain ⟨rec1, hrec1, hm⟩ : ∃ z, z = m_spec_l12Code_L1 d0 y2 K1 g ∧ m_spec_l12Code_B1 d0 y2 z K1 xs21 i22 = some r := ⟨_, rfl, hm⟩
    unfold m_spec_l12Code_B1 at hm
    refine wp_seq ?_
    refine wp_seq ?_
    refine wp_rs rfl ?_
    refine RQ.y rfl (Y.move (v := .int .i64 i22) s8_1) ?_
    refine RQ.y rfl (Y.move (v := v4) s5_1) ?_
    obtain ⟨A24, c25, rfl⟩ := OwF.form G5
    have qbA24 := OwF.bound G5
    refine RQ.y rfl (Y.len (by kernel_rfl) rfl) ?_
    refine RQ.y rfl (Y.binI (v := .bool (decide (i22 < (y2.1.length : Int)))) rfl rfl rfl) ?_
    refine RQ.nil ?_
    refine then_n ?_
    rcases bcases (decide (i22 < (y2.1.length : Int))) with c26 | c26
    · replace hm := cF c26 hm
      have pc26 := of_decide_eq_false c26
      refine cond_f rfl (vb rfl c26) ?_
      refine wp_exit ?_
      exact (then_x (then_x (hit_x ⟨_, rfl, ⟨xs21, (uxs21), s7_1, Gxs21, T, (by rw [hK1] at hm; exact hm)⟩⟩)))
    · replace hm := cT c26 hm
      have pc26 := of_decide_eq_true c26
      refine cond_t rfl (vb rfl c26) ?_
      refine wp_skip ?_
      refine then_n ?_
      refine wp_seq ?_
      refine wp_block ?_
      refine wp_seq ?_
      refine wp_rbd (by kernel_rfl) (by kernel_rfl) ?_
      refine RQ.y rfl (Y.move (v := .pointer (some ⟨ba0, oa0, none⟩)) s0_1) ?_
      refine RQ.y rfl (Y.nilCheck rfl) ?_
      refine RQ.y rfl (Y.fieldAddr (off := 0) rfl (by kernel_rfl)) ?_
      refine RQ.y rfl (Y.load (v := .slice A1 d0.agents.length c1) rfl (by kernel_rfl) (beC (cellT T (hca0 0 _ rfl)))) ?_
      refine RQ.y rfl (Y.move (v := .slice A24 y2.1.length c25) s5_1) ?_
      refine RQ.y rfl (Y.move (v := .int .i64 i22) s8_1) ?_
      obtain ⟨x27, hx29, hm⟩ := bnd hm
      obtain ⟨k28, hk30, hl31, hx29⟩ := getI_some hx29
      obtain ⟨b32, rfl⟩ := OwF.addr0 G5 (by omega)
      refine RQ.y rfl (Y.indexAddr (m := k28) (sz := 1) rfl rfl hk30 hl31 (by kernel_rfl)) ?_
      refine RQ.y rfl (Y.load (v := .int .i64 x27) rfl (by kernel_rfl) (beC (OwF.cell fI G5 hx29 (j := 0) rfl))) ?_
      obtain ⟨x33, hx36, hm⟩ := bnd hm
      obtain ⟨k34, hk37, hl38, hx36⟩ := getI_some hx36
      obtain ⟨b40, o41, rfl, hbb40⟩ := h1.addr (by omega)
      obtain ⟨cs35, hRcs35, hc39⟩ := h1.el hx36
      have hScs35 := hRcs35
      obtain ⟨A42, n42, c42, A43, n43, c43, rfl, ⟨h42, r42⟩, ⟨h43, r43⟩⟩ := hRcs35
      have e42 := h42.len; subst e42
      have q42 := len_le r42
      have e43 := h43.len; subst e43
      have q43 := len_le r43
      refine RQ.y rfl (Y.indexAddr (m := k34) (sz := 5) rfl rfl hk37 hl38 (by kernel_rfl)) ?_
      refine RQ.y rfl (Y.assign (v := .pointer (some ⟨b40, o41 + k34 * 5, none⟩)) rfl) ?_
      refine RQ.nil ?_
      intro w44 hb45
      have szw44 := hb45.size
      have G5 := OwF.below G5 hb45
      have G8 := OwF.below G8 hb45
      have Gxs21 := OwF.below Gxs21 hb45
      have T := Tt T hb45
      refine then_n ?_
      refine wp_seq ?_
      refine wp_rg (fun w' => Below w.heap.size w w') [(0, true), (1, true), (2, true), (3, true), (4, true), (5, true), (6, true), (7, true), (8, true), (9, true), (10, true), (11, true), (12, true), (13, true), (14, true), (15, true), (16, true), (17, true), (18, false), (19, false), (20, true)] (by kernel_rfl) (by kernel_rfl) (fun w46 hb47 szw46 => ?_)
      have G5 := OwF.below G5 hb47
      have G8 := OwF.below G8 hb47
      have Gxs21 := OwF.below Gxs21 hb47
      have T := Tt T hb47
      refine ⟨T, ?_⟩
      refine RG.y rfl rfl (Y.move (v := uxs21) s7_1) ?_
      refine RG.y rfl rfl (Y.move (v := .pointer (some ⟨b40, o41 + k34 * 5, none⟩)) rfl) ?_
      refine RG.y rfl rfl (Y.nilCheck rfl) ?_
      refine RG.y rfl rfl (Y.fieldAddr (off := 0) rfl (by kernel_rfl)) ?_
      refine RG.y rfl rfl (Y.load (v := .int .i64 x33.kind) rfl (by kernel_rfl) (fun w' hS => (cellT hS (hc39 0 _ rfl)))) ?_
      refine RG.y rfl rfl (Y.move (v := .pointer (some ⟨b40, o41 + k34 * 5, none⟩)) rfl) ?_
      refine RG.y rfl rfl (Y.nilCheck rfl) ?_
      refine RG.y rfl rfl (Y.fieldAddr (off := 1) rfl (by kernel_rfl)) ?_
      refine RG.y rfl rfl (Y.load (v := .int .i64 x33.level) rfl (by kernel_rfl) (fun w' hS => (cellT hS (hc39 1 _ rfl)))) ?_
      refine RG.y rfl rfl (Y.move (v := .pointer (some ⟨b40, o41 + k34 * 5, none⟩)) rfl) ?_
      refine RG.y rfl rfl (Y.nilCheck rfl) ?_
      refine RG.y rfl rfl (Y.fieldAddr (off := 2) rfl (by kernel_rfl)) ?_
      refine RG.y rfl rfl (Y.load (v := .int .i64 x33.value) rfl (by kernel_rfl) (fun w' hS => (cellT hS (hc39 2 _ rfl)))) ?_
      refine RG.y rfl rfl (Y.move (v := .pointer (some ⟨b40, o41 + k34 * 5, none⟩)) rfl) ?_
      refine RG.y rfl rfl (Y.nilCheck rfl) ?_
      refine RG.y rfl rfl (Y.fieldAddr (off := 3) rfl (by kernel_rfl)) ?_
      refine RG.y rfl rfl (Y.load (v := .slice A42 x33.data.length c42) rfl (by kernel_rfl) (fun w' hS => (cellT hS (hc39 3 _ rfl)))) ?_
      refine RG.y rfl rfl (Y.len (by kernel_rfl) rfl) ?_
      refine RG.act rfl ?_
      refine RL.bslice (e := 2) (cells := #[.int .i64 x33.kind, .int .i64 x33.level, .int .i64 x33.value, .int .i64 (x33.data.length : Int)]) rfl (pm4 rfl rfl rfl rfl) (by kernel_rfl) (fun w48 B49 hb50 szw48 => ?_)
      have ZB49 : w.heap.size ≤ w46.heap.size := T.size
      have Do51_o6 := Dj.new (v := .slice (some ⟨w46.heap.size, 0, none⟩) 4 4) litGe (OwF.hi G5)
      have Do51_o9 := Dj.new (v := .slice (some ⟨w46.heap.size, 0, none⟩) 4 4) litGe (OwF.hi G8)
      have Do51_oxs21 := Dj.new (v := .slice (some ⟨w46.heap.size, 0, none⟩) 4 4) litGe (OwF.hi Gxs21)
      have G5 := OwF.below G5 hb50
      have G8 := OwF.below G8 hb50
      have Gxs21 := OwF.below Gxs21 hb50
      have T := Tt T hb50
      have G52 := OwF.lit (enc := encI) (sz := 1) (xs := [x33.kind, x33.level, x33.value, (x33.data.length : Int)]) B49 ZB49 rfl rfl rfl rfl
      refine RL.nil ⟨T, ?_⟩
      refine RG.act rfl ?_
      obtain ⟨_, m54, hm⟩ := bnd hm
      have hk55 := mustP_some m54
      refine RL.append fI app_int64 rfl rfl rfl Gxs21 (OwF.arg fI G52) T.size hk55 (fun v56 w57 G58 hgr59 hbl60 hnb61 => ?_)
      have szw57 := hbl60.size
      have Do62_o6 := Dj.app Doxs21_o6 hnb61 (OwF.hi G5)
      have Do62_o9 := Dj.app Doxs21_o9 hnb61 (OwF.hi G8)
      have G5 := OwF.keptD G5 hgr59 (Dj.symm Doxs21_o6)
      have G8 := OwF.keptD G8 hgr59 (Dj.symm Doxs21_o9)
      have T := T.trans hbl60
      refine RL.nil ⟨T, ?_⟩
      refine RG.y rfl rfl (Y.assign (v := v56) rfl) ?_
      refine RG.nil ?_
      refine then_n ?_
      refine wp_seq ?_
      refine wp_rl rfl ?_
      refine RL.y rfl (Y.move (v := v56) rfl) ?_
      refine RL.y rfl (Y.move (v := .pointer (some ⟨b40, o41 + k34 * 5, none⟩)) rfl) ?_
      refine RL.y rfl (Y.nilCheck rfl) ?_
      refine RL.y rfl (Y.fieldAddr (off := 3) rfl (by kernel_rfl)) ?_
      refine RL.y rfl (Y.load (v := .slice A42 x33.data.length c42) rfl (by kernel_rfl) (eqC (cellT T (hc39 3 _ rfl)))) ?_
      obtain ⟨_, m63, hm⟩ := bnd hm
      have hk64 := mustP_some m63
      refine RL.append fI app_int64 rfl rfl rfl G58 (slArg intRd_ok h42 r42 T) T.size hk64 (fun v65 w66 G67 hgr68 hbl69 hnb70 => ?_)
      have szw66 := hbl69.size
      have Do71_o6 := Dj.app Do62_o6 hnb70 (OwF.hi G5)
      have Do71_o9 := Dj.app Do62_o9 hnb70 (OwF.hi G8)
      have G5 := OwF.keptD G5 hgr68 (Dj.symm Do62_o6)
      have G8 := OwF.keptD G8 hgr68 (Dj.symm Do62_o9)
      have T := T.trans hbl69
      refine RL.y rfl (Y.assign (v := v65) rfl) ?_
      refine RL.nil ?_
      refine then_n ?_
      refine wp_seq ?_
      refine wp_rs rfl ?_
      refine RQ.y rfl (Y.assign (v := .int .i64 0) rfl) ?_
      refine RQ.nil ?_
      refine then_n ?_
      refine wp_block ?_
      obtain ⟨K2, hK2, hm⟩ : ∃ K, K = (m_spec_l12Code_A2 rec1 i22) ∧ m_spec_l12Code_L2 y2 x33 K (x33.ports.length + 1) ((xs21 ++ [x33.kind, x33.level, x33.value, (x33.data.length : Int)]) ++ x33.data) 0 = some r := ⟨_, rfl, hm⟩
      refine wp_loopX (fun g f w' => ∃ (xs75 : List Int) (i76 : Int) (uxs75 : Value), f 0 = .pointer (some ⟨ba0, oa0, none⟩) ∧ f 5 = .slice (some ⟨b32, 0, none⟩) y2.1.length c25 ∧ f 6 = v7 ∧ f 8 = .int .i64 i22 ∧ f 9 = .pointer (some ⟨b40, o41 + k34 * 5, none⟩) ∧ f 7 = uxs75 ∧ OwF 2 encI 1 w' w.heap.size uxs75 xs75 ∧ f 10 = .int .i64 i76 ∧ 0 ≤ i76 ∧ Dj uxs75 (.slice (some ⟨b32, 0, none⟩) y2.1.length c25) ∧ Dj uxs75 v7 ∧ OwF 2 encI 1 w' w.heap.size (.slice (some ⟨b32, 0, none⟩) y2.1.length c25) y2.1 ∧ OwF 2 encI 1 w' w.heap.size v7 y2.2 ∧ Below w.heap.size w w' ∧ m_spec_l12Code_L2 y2 x33 K2 g xs75 i76 = some r) 2 (fun f w' => ∃ (xs72 : List Int) (uxs72 : Value), f 0 = .pointer (some ⟨ba0, oa0, none⟩) ∧ f 5 = .slice (some ⟨b32, 0, none⟩) y2.1.length c25 ∧ f 6 = v7 ∧ f 8 = .int .i64 i22 ∧ f 7 = uxs72 ∧ OwF 2 encI 1 w' w.heap.size uxs72 xs72 ∧ Dj uxs72 (.slice (some ⟨b32, 0, none⟩) y2.1.length c25) ∧ Dj uxs72 v7 ∧ OwF 2 encI 1 w' w.heap.size (.slice (some ⟨b32, 0, none⟩) y2.1.length c25) y2.1 ∧ OwF 2 encI 1 w' w.heap.size v7 y2.2 ∧ Below w.heap.size w w' ∧ m_spec_l12Code_A2 rec1 i22 xs72 = some r) (x33.ports.length + 1) ⟨((xs21 ++ [x33.kind, x33.level, x33.value, (x33.data.length : Int)]) ++ x33.data), 0, (v65), s0_1, s5_1, s6_1, s8_1, rfl, rfl, G67, rfl, (by omega), Do71_o6, Do71_o9, G5, G8, T, hm⟩ ?_ ?_
      · rintro f w73 ⟨xs72, uxs72, s0_2x, s5_2x, s6_2x, s8_2x, s7_2x, Gxs72, Doxs72_o6, Doxs72_o9, G5, G8, T, hm⟩
        unfold m_spec_l12Code_A2 at hm
        refine blk_hit (blk_n (then_n ?_))
        refine wp_rs rfl ?_
        refine RQ.y rfl (Y.move (v := .int .i64 i22) s8_2x) ?_
        obtain ⟨s74, ks74, hm⟩ := bnd hm
        replace ks74 := ck_some ks74
        refine RQ.y rfl (Y.binI (v := .int .i64 s74) rfl rfl (by rw [binI_add ks74.2, ks74.1])) ?_
        refine RQ.y rfl (Y.assign (v := .int .i64 s74) rfl) ?_
        refine RQ.nil ?_
        exact (then_n ⟨g, _, Nat.lt_succ_self _, rfl, ⟨xs72, s74, (uxs72), s0_2x, s5_2x, s6_2x, s7_2x, Gxs72, rfl, (by omega), Doxs72_o6, Doxs72_o9, G5, G8, T, (by rw [← hrec1]; exact hm)⟩⟩)
      · rintro g f w77 ⟨xs75, i76, uxs75, s0_2, s5_2, s6_2, s8_2, s9_2, s7_2, Gxs75, s10_2, nn10_2, Doxs75_o6, Doxs75_o9, G5, G8, T, hm⟩
        rcases g with _ | g
        · simp only [m_spec_l12Code_L2] at hm; cases hm
        obtain ⟨rec2, hrec2, hm⟩ : ∃ z, z = m_spec_l12Code_L2 y2 x33 K2 g ∧ m_spec_l12Code_B2 y2 x33 z K2 xs75 i76 = some r := ⟨_, rfl, hm⟩
        unfold m_spec_l12Code_B2 at hm
        refine wp_seq ?_
        refine wp_seq ?_
        refine wp_rs rfl ?_
        refine RQ.y rfl (Y.move (v := .int .i64 i76) s10_2) ?_
        refine RQ.y rfl (Y.move (v := .pointer (some ⟨b40, o41 + k34 * 5, none⟩)) s9_2) ?_
        refine RQ.y rfl (Y.nilCheck rfl) ?_
        refine RQ.y rfl (Y.fieldAddr (off := 4) rfl (by kernel_rfl)) ?_
        refine RQ.y rfl (Y.load (v := .slice A43 x33.ports.length c43) rfl (by kernel_rfl) (eqC (cellT T (hc39 4 _ rfl)))) ?_
        refine RQ.y rfl (Y.len (by kernel_rfl) rfl) ?_
        refine RQ.y rfl (Y.binI (v := .bool (decide (i76 < (x33.ports.length : Int)))) rfl rfl rfl) ?_
        refine RQ.nil ?_
        refine then_n ?_
        rcases bcases (decide (i76 < (x33.ports.length : Int))) with c78 | c78
        · replace hm := cF c78 hm
          have pc78 := of_decide_eq_false c78
          refine cond_f rfl (vb rfl c78) ?_
          refine wp_exit ?_
          exact (then_x (then_x (hit_x ⟨_, rfl, ⟨xs75, (uxs75), s0_2, s5_2, s6_2, s8_2, s7_2, Gxs75, Doxs75_o6, Doxs75_o9, G5, G8, T, (by rw [hK2] at hm; exact hm)⟩⟩)))
        · replace hm := cT c78 hm
          have pc78 := of_decide_eq_true c78
          refine cond_t rfl (vb rfl c78) ?_
          refine wp_skip ?_
          refine then_n ?_
          refine wp_seq ?_
          refine wp_block ?_
          refine wp_rg (fun w' => Below w.heap.size w w' ∧ OwF 2 encI 1 w' w.heap.size v7 y2.2) [(0, true), (1, true), (2, true), (3, true), (4, true), (5, true), (6, true), (7, true), (8, true), (9, true), (10, true), (11, true), (12, true), (13, true), (14, true), (15, true), (16, true), (17, true), (18, true), (19, true), (20, false), (21, false), (22, true)] (by kernel_rfl) (by kernel_rfl) (fun w79 hb80 szw79 => ?_)
          have G5 := OwF.below G5 hb80
          have G8 := OwF.below G8 hb80
          have Gxs75 := OwF.below Gxs75 hb80
          have T := Tt T hb80
          refine ⟨⟨T, G8⟩, ?_⟩
          refine RG.y rfl rfl (Y.move (v := uxs75) s7_2) ?_
          refine RG.y rfl rfl (Y.move (v := v7) s6_2) ?_
          refine RG.y rfl rfl (Y.move (v := .pointer (some ⟨b40, o41 + k34 * 5, none⟩)) s9_2) ?_
          refine RG.y rfl rfl (Y.nilCheck rfl) ?_
          refine RG.y rfl rfl (Y.fieldAddr (off := 4) rfl (by kernel_rfl)) ?_
          refine RG.y rfl rfl (Y.load (v := .slice A43 x33.ports.length c43) rfl (by kernel_rfl) (fun w' hS => (cellT hS.1 (hc39 4 _ rfl)))) ?_
          refine RG.y rfl rfl (Y.move (v := .int .i64 i76) s10_2) ?_
          obtain ⟨x81, hx84, hm⟩ := bnd hm
          obtain ⟨k82, hk85, hl86, hx84⟩ := getI_some hx84
          obtain ⟨b88, o89, rfl, hbb88⟩ := h43.addr (by omega)
          obtain ⟨cs83, hRcs83, hc87⟩ := h43.el hx84
          have hScs83 := hRcs83
          obtain rfl := hRcs83
          refine RG.y rfl rfl (Y.indexAddr (m := k82) (sz := 2) rfl rfl hk85 hl86 (by kernel_rfl)) ?_
          refine RG.y rfl rfl (Y.fieldAddr (off := 0) rfl (by kernel_rfl)) ?_
          refine RG.y rfl rfl (Y.load (v := .int .i64 x81.agent) rfl (by kernel_rfl) (fun w' hS => (cellT hS.1 (hc87 0 _ rfl)))) ?_
          obtain ⟨A90, c91, rfl⟩ := OwF.form G8
          have qbA90 := OwF.bound G8
          obtain ⟨x92, hx94, hm⟩ := bnd hm
          obtain ⟨k93, hk95, hl96, hx94⟩ := getI_some hx94
          obtain ⟨b97, rfl⟩ := OwF.addr0 G8 (by omega)
          refine RG.y rfl rfl (Y.indexAddr (m := k93) (sz := 1) rfl rfl hk95 hl96 (by kernel_rfl)) ?_
          refine RG.y rfl rfl (Y.load (v := .int .i64 x92) rfl (by kernel_rfl) (fun w' hS => (OwF.cell fI hS.2 hx94 (j := 0) rfl))) ?_
          refine RG.y rfl rfl (Y.move (v := .pointer (some ⟨b40, o41 + k34 * 5, none⟩)) s9_2) ?_
          refine RG.y rfl rfl (Y.nilCheck rfl) ?_
          refine RG.y rfl rfl (Y.fieldAddr (off := 4) rfl (by kernel_rfl)) ?_
          refine RG.y rfl rfl (Y.load (v := .slice (some ⟨b88, o89, none⟩) x33.ports.length c43) rfl (by kernel_rfl) (fun w' hS => (cellT hS.1 (hc39 4 _ rfl)))) ?_
          refine RG.y rfl rfl (Y.move (v := .int .i64 i76) s10_2) ?_
          obtain ⟨x98, hx101, hm⟩ := bnd hm
          obtain ⟨k99, hk102, hl103, hx101⟩ := getI_some hx101
          obtain ⟨cs100, hRcs100, hc104⟩ := h43.el hx101
          have hScs100 := hRcs100
          obtain rfl := hRcs100
          refine RG.y rfl rfl (Y.indexAddr (m := k99) (sz := 2) rfl rfl hk102 hl103 (by kernel_rfl)) ?_
          refine RG.y rfl rfl (Y.fieldAddr (off := 1) rfl (by kernel_rfl)) ?_
          refine RG.y rfl rfl (Y.load (v := .int .i64 x98.slot) rfl (by kernel_rfl) (fun w' hS => (cellT hS.1 (hc104 1 _ rfl)))) ?_
          refine RG.act rfl ?_
          refine RL.bslice (e := 2) (cells := #[.int .i64 x92, .int .i64 x98.slot]) rfl (pm2 rfl rfl) (by kernel_rfl) (fun w105 B106 hb107 szw105 => ?_)
          have ZB106 : w.heap.size ≤ w79.heap.size := T.size
          have Do108_o6 := Dj.new (v := .slice (some ⟨w79.heap.size, 0, none⟩) 2 2) litGe (OwF.hi G5)
          have Do108_o9 := Dj.new (v := .slice (some ⟨w79.heap.size, 0, none⟩) 2 2) litGe (OwF.hi G8)
          have Do108_oxs75 := Dj.new (v := .slice (some ⟨w79.heap.size, 0, none⟩) 2 2) litGe (OwF.hi Gxs75)
          have G5 := OwF.below G5 hb107
          have G8 := OwF.below G8 hb107
          have Gxs75 := OwF.below Gxs75 hb107
          have T := Tt T hb107
          have G109 := OwF.lit (enc := encI) (sz := 1) (xs := [x92, x98.slot]) B106 ZB106 rfl rfl rfl rfl
          refine RL.nil ⟨⟨T, G8⟩, ?_⟩
          refine RG.act rfl ?_
          obtain ⟨_, m111, hm⟩ := bnd hm
          have hk112 := mustP_some m111
          refine RL.append fI app_int64 rfl rfl rfl Gxs75 (OwF.arg fI G109) T.size hk112 (fun v113 w114 G115 hgr116 hbl117 hnb118 => ?_)
          have szw114 := hbl117.size
          have Do119_o6 := Dj.app Doxs75_o6 hnb118 (OwF.hi G5)
          have Do119_o9 := Dj.app Doxs75_o9 hnb118 (OwF.hi G8)
          have G5 := OwF.keptD G5 hgr116 (Dj.symm Doxs75_o6)
          have G8 := OwF.keptD G8 hgr116 (Dj.symm Doxs75_o9)
          have T := T.trans hbl117
          refine RL.nil ⟨⟨T, G8⟩, ?_⟩
          refine RG.y rfl rfl (Y.assign (v := v113) rfl) ?_
          refine RG.nil ?_
          refine blk_n (then_n ?_)
          refine wp_rs rfl ?_
          refine RQ.y rfl (Y.move (v := .int .i64 i76) s10_2) ?_
          refine RQ.y rfl (Y.binI rfl rfl (binI_add (m := i76) (by omega))) ?_
          refine RQ.y rfl (Y.assign (v := .int .i64 (i76 + 1)) rfl) ?_
          refine RQ.nil ?_
          exact (then_n ⟨g, _, Nat.lt_succ_self _, rfl, ⟨(xs75 ++ [x92, x98.slot]), (i76 + 1), (v113), s0_2, s5_2, s6_2, s8_2, s9_2, rfl, G115, rfl, (by omega), Do119_o6, Do119_o9, G5, G8, T, (by rw [← hrec2]; exact hm)⟩⟩)
def m_impl_Net_code_A2 (xs8 : List Int) : Option (List Int) :=
  some xs8
def m_impl_Net_code_A3 (rec2 : List Int → Int → Option (List Int)) (i11 : Int) (xs65 : List Int) : Option (List Int) :=
  ((ck (i11 + 1)).bind fun s67 => (rec2 xs65 s67))
def m_impl_Net_code_B3 (z6 : MapM Int Int) (x23 : DAgent) (rec3 : List Int → Int → Option (List Int)) (K3 : List Int → Option (List Int)) (xs68 : List Int) (i69 : Int) : Option (List Int) :=
  (bif (decide (i69 < (x23.ports.length : Int))) then ((getI x23.ports i69).bind fun x72 => ((ck x72.agent).bind fun _ => ((mustP (xs68.length + ([(z6.look x72.agent 0), x72.slot]).length ≤ 4294967296)).bind fun _ => (rec3 (xs68 ++ [(z6.look x72.agent 0), x72.slot]) (i69 + 1))))) else (K3 xs68))
def m_impl_Net_code_L3 (z6 : MapM Int Int) (x23 : DAgent) (K3 : List Int → Option (List Int)) : Nat → List Int → Int → Option (List Int)
  | 0, _, _ => none
  | g + 1, xs68, i69 => m_impl_Net_code_B3 z6 x23 (m_impl_Net_code_L3 z6 x23 K3 g) K3 xs68 i69
def m_impl_Net_code_B2 (d0 : DNet) (d1 : List Int) (z6 : MapM Int Int) (rec2 : List Int → Int → Option (List Int)) (K2 : List Int → Option (List Int)) (xs10 : List Int) (i11 : Int) : Option (List Int) :=
  (bif (decide (i11 < (d1.length : Int))) then ((getI d1 i11).bind fun x14 => ((getI d0.agents x14).bind fun x23 => ((mustP (xs10.length + ([x23.kind, x23.level, x23.value, (x23.data.length : Int)]).length ≤ 4294967296)).bind fun _ => ((mustP ((xs10 ++ [x23.kind, x23.level, x23.value, (x23.data.length : Int)]).length + x23.data.length ≤ 4294967296)).bind fun _ => (m_impl_Net_code_L3 z6 x23 (m_impl_Net_code_A3 rec2 i11) (x23.ports.length + 1) ((xs10 ++ [x23.kind, x23.level, x23.value, (x23.data.length : Int)]) ++ x23.data) 0))))) else (K2 xs10))
def m_impl_Net_code_L2 (d0 : DNet) (d1 : List Int) (z6 : MapM Int Int) (K2 : List Int → Option (List Int)) : Nat → List Int → Int → Option (List Int)
  | 0, _, _ => none
  | g + 1, xs10, i11 => m_impl_Net_code_B2 d0 d1 z6 (m_impl_Net_code_L2 d0 d1 z6 K2 g) K2 xs10 i11
def m_impl_Net_code_A1 (d0 : DNet) (d1 : List Int) (z6 : MapM Int Int) : Option (List Int) :=
  (m_impl_Net_code_L2 d0 d1 z6 m_impl_Net_code_A2 (d1.length + 1) ([] : List Int) 0)
def m_impl_Net_code_B1 (d1 : List Int) (rec1 : Int → MapM Int Int → Option (List Int)) (K1 : MapM Int Int → Option (List Int)) (i109 : Int) (z110 : MapM Int Int) : Option (List Int) :=
  (bif (decide (i109 < (d1.length : Int))) then ((getI d1 i109).bind fun x113 => ((ck x113).bind fun _ => ((mustP (z110.n ≤ 4294967296)).bind fun _ => (rec1 (i109 + 1) (z110.put x113 i109))))) else (K1 z110))
def m_impl_Net_code_L1 (d1 : List Int) (K1 : MapM Int Int → Option (List Int)) : Nat → Int → MapM Int Int → Option (List Int)
  | 0, _, _ => none
  | g + 1, i109, z110 => m_impl_Net_code_B1 d1 (m_impl_Net_code_L1 d1 K1 g) K1 i109 z110
def m_impl_Net_code (d0 : DNet) (d1 : List Int) : Option (List Int) :=
  (m_impl_Net_code_L1 d1 (m_impl_Net_code_A1 d0 d1) (d1.length + 1) 0 (MapM.empty : MapM Int Int))
set_option maxHeartbeats 2000000 in
theorem c_m_impl_Net_code (d0 : DNet) (d1 : List Int) (r : List Int) (hm : m_impl_Net_code d0 d1 = some r) (v0 : Value) (v1 : Value) (w : World) (hv0 : Pt netRd w v0 d0) (hv1 : Sl intRd 1 w v1 d1) :
    Calls Tryz.prog 77 #[v0, v1] w fun e w' => (∃ v, e = .returned v ∧ OwF 2 encI 1 w' w.heap.size v r) ∧ Below w.heap.size w w' := by
  obtain ⟨ba0, oa0, csa0, rfl, hba0, hRa0, hca0⟩ := hv0
  have hSa0 := hRa0
  obtain ⟨A1, n1, c1, rfl, ⟨h1, r1⟩⟩ := hRa0
  have e1 := h1.len; subst e1
  have q1 := len_le r1
  obtain ⟨Aa1, na1, ca1, rfl, ha1, ra1⟩ := hv1
  have ea1 := ha1.len; subst ea1
  have qa1 := len_le ra1
  have T := Below.refl w.heap.size w
  unfold m_impl_Net_code at hm
  refine enter 74 Tryz.func77 rfl rfl rfl ?_
  intro f hf
  have s0 : f 0 = .pointer (some ⟨ba0, oa0, none⟩) := hf 0 _ rfl
  have s1 : f 1 = .slice Aa1 d1.length ca1 := hf 1 _ rfl
  refine wp_seq ?_
  refine wp_rs rfl ?_
  refine RQ.y rfl (Y.assign (v := .slice none 0 0) rfl) ?_
  refine RQ.nil ?_
  refine then_n ?_
  refine wp_seq ?_
  refine wp_rl rfl ?_
  refine RL.makeMap (κ := Int) (β := Int) 2 litI encVI rfl (fun w2 B3 hb4 szw2 => ?_)
  replace B3 := OwM.lower B3 T.size
  have T := Tt T hb4
  refine RL.y rfl (Y.assign (v := .map (some w.heap.size)) rfl) ?_
  refine RL.nil ?_
  refine then_n ?_
  refine wp_seq ?_
  refine wp_seq ?_
  refine wp_rs rfl ?_
  refine RQ.y rfl (Y.move (v := .slice Aa1 d1.length ca1) s1) ?_
  refine RQ.y rfl (Y.len (by kernel_rfl) rfl) ?_
  refine RQ.y rfl (Y.move (v := .int .i64 0) rfl) ?_
  refine RQ.nil ?_
  refine then_n ?_
  refine wp_block ?_
  obtain ⟨K1, hK1, hm⟩ : ∃ K, K = (m_impl_Net_code_A1 d0 d1) ∧ m_impl_Net_code_L1 d1 K (d1.length + 1) 0 (MapM.empty : MapM Int Int) = some r := ⟨_, rfl, hm⟩
  refine wp_loopX (fun g f w' => ∃ (i109 : Int) (z110 : MapM Int Int), f 0 = .pointer (some ⟨ba0, oa0, none⟩) ∧ f 1 = .slice Aa1 d1.length ca1 ∧ f 5 = .map (some w.heap.size) ∧ f 15 = .slice Aa1 d1.length ca1 ∧ f 16 = .int .i64 (d1.length : Int) ∧ f 17 = .int .i64 i109 ∧ 0 ≤ i109 ∧ OwM Tryz.prog 2 litI encVI w' w.heap.size w.heap.size z110 ∧ Below w.heap.size w w' ∧ m_impl_Net_code_L1 d1 K1 g i109 z110 = some r) 0 (fun f w' => ∃ (z6 : MapM Int Int), f 0 = .pointer (some ⟨ba0, oa0, none⟩) ∧ f 1 = .slice Aa1 d1.length ca1 ∧ f 5 = .map (some w.heap.size) ∧ OwM Tryz.prog 2 litI encVI w' w.heap.size w.heap.size z6 ∧ Below w.heap.size w w' ∧ m_impl_Net_code_A1 d0 d1 z6 = some r) (d1.length + 1) ⟨0, (MapM.empty : MapM Int Int), s0, s1, rfl, rfl, rfl, rfl, (by omega), B3, T, hm⟩ ?_ ?_
  · rintro f w7 ⟨z6, s0_1x, s1_1x, s5_1x, Bz6, T, hm⟩
    unfold m_impl_Net_code_A1 at hm
    refine blk_hit (then_n ?_)
    refine wp_seq ?_
    refine wp_rs rfl ?_
    refine RQ.y rfl (Y.assign (v := .slice none 0 0) rfl) ?_
    refine RQ.nil ?_
    refine then_n ?_
    refine wp_seq ?_
    refine wp_seq ?_
    refine wp_rs rfl ?_
    refine RQ.y rfl (Y.move (v := .slice Aa1 d1.length ca1) s1_1x) ?_
    refine RQ.y rfl (Y.len (by kernel_rfl) rfl) ?_
    refine RQ.y rfl (Y.move (v := .int .i64 0) rfl) ?_
    refine RQ.nil ?_
    refine then_n ?_
    refine wp_block ?_
    have G106 : OwF 2 encI 1 w7 w.heap.size (.slice none 0 0) ([] : List Int) := OwF.nil
    have No105_ob5 := nilNe (b := w.heap.size)
    obtain ⟨K2, hK2, hm⟩ : ∃ K, K = m_impl_Net_code_A2 ∧ m_impl_Net_code_L2 d0 d1 z6 K (d1.length + 1) ([] : List Int) 0 = some r := ⟨_, rfl, hm⟩
    refine wp_loopX (fun g f w' => ∃ (xs10 : List Int) (i11 : Int) (uxs10 : Value), f 0 = .pointer (some ⟨ba0, oa0, none⟩) ∧ f 5 = .map (some w.heap.size) ∧ f 26 = .slice Aa1 d1.length ca1 ∧ f 27 = .int .i64 (d1.length : Int) ∧ f 8 = uxs10 ∧ OwF 2 encI 1 w' w.heap.size uxs10 xs10 ∧ f 28 = .int .i64 i11 ∧ 0 ≤ i11 ∧ Value.ownBlock uxs10 ≠ some w.heap.size ∧ OwM Tryz.prog 2 litI encVI w' w.heap.size w.heap.size z6 ∧ Below w.heap.size w w' ∧ m_impl_Net_code_L2 d0 d1 z6 K2 g xs10 i11 = some r) 2 (fun f w' => ∃ (xs8 : List Int) (uxs8 : Value), f 8 = uxs8 ∧ OwF 2 encI 1 w' w.heap.size uxs8 xs8 ∧ Value.ownBlock uxs8 ≠ some w.heap.size ∧ OwM Tryz.prog 2 litI encVI w' w.heap.size w.heap.size z6 ∧ Below w.heap.size w w' ∧ m_impl_Net_code_A2 xs8 = some r) (d1.length + 1) ⟨([] : List Int), 0, ((.slice none 0 0)), s0_1x, s5_1x, rfl, rfl, rfl, G106, rfl, (by omega), No105_ob5, Bz6, T, hm⟩ ?_ ?_
    · rintro f w9 ⟨xs8, uxs8, s8_2x, Gxs8, Noxs8_ob5, Bz6, T, hm⟩
      unfold m_impl_Net_code_A2 at hm
      refine blk_hit (then_n ?_)
      refine wp_seq ?_
      refine wp_rs rfl ?_
      refine RQ.y rfl (Y.move (v := uxs8) s8_2x) ?_
      refine RQ.y rfl (Y.assign (v := uxs8) rfl) ?_
      refine RQ.nil ?_
      refine then_n ?_
      refine wp_ret ?_
      obtain rfl := Option.some.inj hm
      exact (ret1 rfl rfl rfl ⟨⟨_, rfl, Gxs8⟩, T⟩)
    · rintro g f w12 ⟨xs10, i11, uxs10, s0_2, s5_2, s26_2, s27_2, s8_2, Gxs10, s28_2, nn28_2, Noxs10_ob5, Bz6, T, hm⟩
      rcases g with _ | g
      · simp only [m_impl_Net_code_L2] at hm; cases hm
      obtain ⟨rec2, hrec2, hm⟩ : ∃ z, z = m_impl_Net_code_L2 d0 d1 z6 K2 g ∧ m_impl_Net_code_B2 d0 d1 z6 z K2 xs10 i11 = some r := ⟨_, rfl, hm⟩
      unfold m_impl_Net_code_B2 at hm
      refine wp_seq ?_
      refine wp_rs rfl ?_
      refine RQ.y rfl (Y.binI (v := .bool (decide (i11 < (d1.length : Int)))) s28_2 s27_2 rfl) ?_
      refine RQ.nil ?_
      refine then_n ?_
      refine wp_seq ?_
      rcases bcases (decide (i11 < (d1.length : Int))) with c13 | c13
      · replace hm := cF c13 hm
        have pc13 := of_decide_eq_false c13
        refine cond_f rfl (vb rfl c13) ?_
        refine wp_exit ?_
        exact (then_x (then_x (hit_x ⟨_, rfl, ⟨xs10, (uxs10), s8_2, Gxs10, Noxs10_ob5, Bz6, T, (by rw [hK2] at hm; exact hm)⟩⟩)))
      · replace hm := cT c13 hm
        have pc13 := of_decide_eq_true c13
        refine cond_t rfl (vb rfl c13) ?_
        refine wp_skip ?_
        refine then_n ?_
        refine wp_seq ?_
        refine wp_block ?_
        refine wp_seq ?_
        refine wp_rs rfl ?_
        obtain ⟨x14, hx17, hm⟩ := bnd hm
        obtain ⟨k15, hk18, hl19, hx17⟩ := getI_some hx17
        obtain ⟨b21, o22, rfl, hbb21⟩ := ha1.addr (by omega)
        obtain ⟨cs16, hRcs16, hc20⟩ := ha1.el hx17
        have hScs16 := hRcs16
        obtain rfl := hRcs16
        refine RQ.y rfl (Y.indexAddr (m := k15) (sz := 1) s26_2 s28_2 hk18 hl19 (by kernel_rfl)) ?_
        refine RQ.y rfl (Y.load (v := .int .i64 x14) rfl (by kernel_rfl) (eqC (cellT T (hc20 0 _ rfl)))) ?_
        refine RQ.y rfl (Y.assign (v := .int .i64 x14) rfl) ?_
        refine RQ.nil ?_
        refine then_n ?_
        refine wp_seq ?_
        refine wp_rl rfl ?_
        refine RL.y rfl (Y.move (v := .pointer (some ⟨ba0, oa0, none⟩)) s0_2) ?_
        refine RL.y rfl (Y.nilCheck rfl) ?_
        refine RL.y rfl (Y.fieldAddr (off := 0) rfl (by kernel_rfl)) ?_
        refine RL.y rfl (Y.load (v := .slice A1 d0.agents.length c1) rfl (by kernel_rfl) (eqC (cellT T (hca0 0 _ rfl)))) ?_
        refine RL.y rfl (Y.move (v := .int .i64 x14) rfl) ?_
        obtain ⟨x23, hx26, hm⟩ := bnd hm
        obtain ⟨k24, hk27, hl28, hx26⟩ := getI_some hx26
        obtain ⟨b30, o31, rfl, hbb30⟩ := h1.addr (by omega)
        obtain ⟨cs25, hRcs25, hc29⟩ := h1.el hx26
        have hScs25 := hRcs25
        obtain ⟨A32, n32, c32, A33, n33, c33, rfl, ⟨h32, r32⟩, ⟨h33, r33⟩⟩ := hRcs25
        have e32 := h32.len; subst e32
        have q32 := len_le r32
        have e33 := h33.len; subst e33
        have q33 := len_le r33
        refine RL.y rfl (Y.indexAddr (m := k24) (sz := 5) rfl rfl hk27 hl28 (by kernel_rfl)) ?_
        refine RL.y rfl (Y.loadN (cs := [.int .i64 x23.kind, .int .i64 x23.level, .int .i64 x23.value, .slice A32 x23.data.length c32, .slice A33 x23.ports.length c33]) rfl (by kernel_rfl) (cells5 (eqC (cellT T (hc29 0 _ rfl))) (eqC (cellT T (hc29 1 _ rfl))) (eqC (cellT T (hc29 2 _ rfl))) (eqC (cellT T (hc29 3 _ rfl))) (eqC (cellT T (hc29 4 _ rfl))))) ?_
        refine RL.alloc (z := .agg #[.int .i64 0, .int .i64 0, .int .i64 0, .slice none 0 0, .slice none 0 0]) rfl (by kernel_rfl) (fun w34 B35 hb36 szw34 => ?_)
        replace B35 : Blk w34 w12.heap.size 63 #[.int .i64 0, .int .i64 0, .int .i64 0, .slice none 0 0, .slice none 0 0] := B35
        have GB35 : w.heap.size ≤ w12.heap.size := T.size
        have Eob37_ob5 := Nat.ne_of_lt Bz6.lt
        have Noxs10_ob37 := OwF.far Gxs10 (Nat.le_refl _)
        have Bz6 := OwM.below Bz6 hb36
        have Gxs10 := OwF.below Gxs10 hb36
        have T := Tt T hb36
        refine RL.store (v := .agg #[.int .i64 x23.kind, .int .i64 x23.level, .int .i64 x23.value, .slice A32 x23.data.length c32, .slice A33 x23.ports.length c33]) (cs' := #[.int .i64 x23.kind, .int .i64 x23.level, .int .i64 x23.value, .slice A32 x23.data.length c32, .slice A33 x23.ports.length c33]) rfl rfl rfl B35 (by kernel_rfl) (by rfl) (by rfl) (by rfl) (fun w38 B39 ho40 => ?_)
        have szw38 := ho40.size
        have Bz6 := Bz6.only ho40 (by intro hin; simp at hin; exact Eob37_ob5 hin)
        have Gxs10 := OwF.only Gxs10 ho40 Noxs10_ob37
        have T := T.trans (ho40.below (by first | (simp; done) | (simp; omega)))
        refine RL.nil ?_
        refine then_n ?_
        refine wp_seq ?_
        refine wp_rl rfl ?_
        refine RL.y rfl (Y.move (v := uxs10) s8_2) ?_
        refine RL.y rfl (Y.fieldAddr (off := 0) rfl (by kernel_rfl)) ?_
        refine RL.y rfl (Y.load (v := .int .i64 x23.kind) rfl (by kernel_rfl) (eqC (blkCell B39 (i := 0) rfl))) ?_
        refine RL.y rfl (Y.fieldAddr (off := 1) rfl (by kernel_rfl)) ?_
        refine RL.y rfl (Y.load (v := .int .i64 x23.level) rfl (by kernel_rfl) (eqC (blkCell B39 (i := 1) rfl))) ?_
        refine RL.y rfl (Y.fieldAddr (off := 2) rfl (by kernel_rfl)) ?_
        refine RL.y rfl (Y.load (v := .int .i64 x23.value) rfl (by kernel_rfl) (eqC (blkCell B39 (i := 2) rfl))) ?_
        refine RL.y rfl (Y.fieldAddr (off := 3) rfl (by kernel_rfl)) ?_
        refine RL.y rfl (Y.load (v := .slice A32 x23.data.length c32) rfl (by kernel_rfl) (eqC (blkCell B39 (i := 3) rfl))) ?_
        refine RL.y rfl (Y.len (by kernel_rfl) rfl) ?_
        refine RL.bslice (e := 2) (cells := #[.int .i64 x23.kind, .int .i64 x23.level, .int .i64 x23.value, .int .i64 (x23.data.length : Int)]) rfl (pm4 rfl rfl rfl rfl) (by kernel_rfl) (fun w41 B42 hb43 szw41 => ?_)
        have ZB42 : w.heap.size ≤ w38.heap.size := T.size
        have No44_ob5 := litNe (n := 4) (c := 4) Bz6.lt
        have No44_ob37 := litNe (n := 4) (c := 4) B39.lt
        have Do44_oxs10 := Dj.new (v := .slice (some ⟨w38.heap.size, 0, none⟩) 4 4) litGe (OwF.hi Gxs10)
        have Bz6 := OwM.below Bz6 hb43
        have B39 := blkT B39 hb43
        have Gxs10 := OwF.below Gxs10 hb43
        have T := Tt T hb43
        have G45 := OwF.lit (enc := encI) (sz := 1) (xs := [x23.kind, x23.level, x23.value, (x23.data.length : Int)]) B42 ZB42 rfl rfl rfl rfl
        obtain ⟨_, m47, hm⟩ := bnd hm
        have hk48 := mustP_some m47
        refine RL.append fI app_int64 rfl rfl rfl Gxs10 (OwF.arg fI G45) T.size hk48 (fun v49 w50 G51 hgr52 hbl53 hnb54 => ?_)
        have szw50 := hbl53.size
        have No55_ob5 := ne_app hnb54 Noxs10_ob5 Bz6.lt
        have No55_ob37 := ne_app hnb54 Noxs10_ob37 B39.lt
        have Bz6 := OwM.grown Bz6 hgr52 Noxs10_ob5
        have B39 := Blk.kept B39 hgr52 Noxs10_ob37
        have T := T.trans hbl53
        refine RL.y rfl (Y.assign (v := v49) rfl) ?_
        refine RL.nil ?_
        refine then_n ?_
        refine wp_seq ?_
        refine wp_rl rfl ?_
        refine RL.y rfl (Y.move (v := v49) rfl) ?_
        refine RL.y rfl (Y.fieldAddr (off := 3) rfl (by kernel_rfl)) ?_
        refine RL.y rfl (Y.load (v := .slice A32 x23.data.length c32) rfl (by kernel_rfl) (eqC (blkCell B39 (i := 3) rfl))) ?_
        obtain ⟨_, m56, hm⟩ := bnd hm
        have hk57 := mustP_some m56
        refine RL.append fI app_int64 rfl rfl rfl G51 (slArg intRd_ok h32 r32 T) T.size hk57 (fun v58 w59 G60 hgr61 hbl62 hnb63 => ?_)
        have szw59 := hbl62.size
        have No64_ob5 := ne_app hnb63 No55_ob5 Bz6.lt
        have No64_ob37 := ne_app hnb63 No55_ob37 B39.lt
        have Bz6 := OwM.grown Bz6 hgr61 No55_ob5
        have B39 := Blk.kept B39 hgr61 No55_ob37
        have T := T.trans hbl62
        refine RL.y rfl (Y.assign (v := v58) rfl) ?_
        refine RL.nil ?_
        refine then_n ?_
        refine wp_seq ?_
        refine wp_rs rfl ?_
        refine RQ.y rfl (Y.fieldAddr (off := 4) rfl (by kernel_rfl)) ?_
        refine RQ.y rfl (Y.load (v := .slice A33 x23.ports.length c33) rfl (by kernel_rfl) (eqC (blkCell B39 (i := 4) rfl))) ?_
        refine RQ.y rfl (Y.len (by kernel_rfl) rfl) ?_
        refine RQ.y rfl (Y.move (v := .int .i64 0) rfl) ?_
        refine RQ.nil ?_
        refine then_n ?_
        refine wp_block ?_
        obtain ⟨K3, hK3, hm⟩ : ∃ K, K = (m_impl_Net_code_A3 rec2 i11) ∧ m_impl_Net_code_L3 z6 x23 K (x23.ports.length + 1) ((xs10 ++ [x23.kind, x23.level, x23.value, (x23.data.length : Int)]) ++ x23.data) 0 = some r := ⟨_, rfl, hm⟩
        refine wp_loopX (fun g f w' => ∃ (xs68 : List Int) (i69 : Int) (uxs68 : Value), f 0 = .pointer (some ⟨ba0, oa0, none⟩) ∧ f 5 = .map (some w.heap.size) ∧ f 26 = .slice (some ⟨b21, o22, none⟩) d1.length ca1 ∧ f 27 = .int .i64 (d1.length : Int) ∧ f 28 = .int .i64 i11 ∧ f 56 = .slice A33 x23.ports.length c33 ∧ f 57 = .int .i64 (x23.ports.length : Int) ∧ f 8 = uxs68 ∧ OwF 2 encI 1 w' w.heap.size uxs68 xs68 ∧ f 58 = .int .i64 i69 ∧ 0 ≤ i69 ∧ Value.ownBlock uxs68 ≠ some w.heap.size ∧ OwM Tryz.prog 2 litI encVI w' w.heap.size w.heap.size z6 ∧ Below w.heap.size w w' ∧ m_impl_Net_code_L3 z6 x23 K3 g xs68 i69 = some r) 4 (fun f w' => ∃ (xs65 : List Int) (uxs65 : Value), f 0 = .pointer (some ⟨ba0, oa0, none⟩) ∧ f 5 = .map (some w.heap.size) ∧ f 26 = .slice (some ⟨b21, o22, none⟩) d1.length ca1 ∧ f 27 = .int .i64 (d1.length : Int) ∧ f 28 = .int .i64 i11 ∧ f 8 = uxs65 ∧ OwF 2 encI 1 w' w.heap.size uxs65 xs65 ∧ Value.ownBlock uxs65 ≠ some w.heap.size ∧ OwM Tryz.prog 2 litI encVI w' w.heap.size w.heap.size z6 ∧ Below w.heap.size w w' ∧ m_impl_Net_code_A3 rec2 i11 xs65 = some r) (x23.ports.length + 1) ⟨((xs10 ++ [x23.kind, x23.level, x23.value, (x23.data.length : Int)]) ++ x23.data), 0, (v58), s0_2, s5_2, s26_2, s27_2, s28_2, rfl, rfl, rfl, G60, rfl, (by omega), No64_ob5, Bz6, T, hm⟩ ?_ ?_
        · rintro f w66 ⟨xs65, uxs65, s0_3x, s5_3x, s26_3x, s27_3x, s28_3x, s8_3x, Gxs65, Noxs65_ob5, Bz6, T, hm⟩
          unfold m_impl_Net_code_A3 at hm
          refine blk_hit (blk_n (then_n ?_))
          refine wp_rs rfl ?_
          obtain ⟨s67, ks67, hm⟩ := bnd hm
          replace ks67 := ck_some ks67
          refine RQ.y rfl (Y.binI (v := .int .i64 s67) s28_3x rfl (by rw [binI_add ks67.2, ks67.1])) ?_
          refine RQ.y rfl (Y.move (v := .int .i64 s67) rfl) ?_
          refine RQ.nil ?_
          exact (then_n ⟨g, _, Nat.lt_succ_self _, rfl, ⟨xs65, s67, (uxs65), s0_3x, s5_3x, s26_3x, s27_3x, s8_3x, Gxs65, rfl, (by omega), Noxs65_ob5, Bz6, T, (by rw [← hrec2]; exact hm)⟩⟩)
        · rintro g f w70 ⟨xs68, i69, uxs68, s0_3, s5_3, s26_3, s27_3, s28_3, s56_3, s57_3, s8_3, Gxs68, s58_3, nn58_3, Noxs68_ob5, Bz6, T, hm⟩
          rcases g with _ | g
          · simp only [m_impl_Net_code_L3] at hm; cases hm
          obtain ⟨rec3, hrec3, hm⟩ : ∃ z, z = m_impl_Net_code_L3 z6 x23 K3 g ∧ m_impl_Net_code_B3 z6 x23 z K3 xs68 i69 = some r := ⟨_, rfl, hm⟩
          unfold m_impl_Net_code_B3 at hm
          refine wp_seq ?_
          refine wp_rs rfl ?_
          refine RQ.y rfl (Y.binI (v := .bool (decide (i69 < (x23.ports.length : Int)))) s58_3 s57_3 rfl) ?_
          refine RQ.nil ?_
          refine then_n ?_
          refine wp_seq ?_
          rcases bcases (decide (i69 < (x23.ports.length : Int))) with c71 | c71
          · replace hm := cF c71 hm
            have pc71 := of_decide_eq_false c71
            refine cond_f rfl (vb rfl c71) ?_
            refine wp_exit ?_
            exact (then_x (then_x (hit_x ⟨_, rfl, ⟨xs68, (uxs68), s0_3, s5_3, s26_3, s27_3, s28_3, s8_3, Gxs68, Noxs68_ob5, Bz6, T, (by rw [hK3] at hm; exact hm)⟩⟩)))
          · replace hm := cT c71 hm
            have pc71 := of_decide_eq_true c71
            refine cond_t rfl (vb rfl c71) ?_
            refine wp_skip ?_
            refine then_n ?_
            refine wp_seq ?_
            refine wp_block ?_
            refine wp_seq ?_
            refine wp_rl rfl ?_
            obtain ⟨x72, hx75, hm⟩ := bnd hm
            obtain ⟨k73, hk76, hl77, hx75⟩ := getI_some hx75
            obtain ⟨b79, o80, rfl, hbb79⟩ := h33.addr (by omega)
            obtain ⟨cs74, hRcs74, hc78⟩ := h33.el hx75
            have hScs74 := hRcs74
            obtain rfl := hRcs74
            refine RL.y rfl (Y.indexAddr (m := k73) (sz := 2) s56_3 s58_3 hk76 hl77 (by kernel_rfl)) ?_
            refine RL.y rfl (Y.loadN (cs := [.int .i64 x72.agent, .int .i64 x72.slot]) rfl (by kernel_rfl) (cells2 (eqC (cellT T (hc78 0 _ rfl))) (eqC (cellT T (hc78 1 _ rfl))))) ?_
            refine RL.alloc (z := .agg #[.int .i64 0, .int .i64 0]) rfl (by kernel_rfl) (fun w81 B82 hb83 szw81 => ?_)
            replace B82 : Blk w81 w70.heap.size 65 #[.int .i64 0, .int .i64 0] := B82
            have GB82 : w.heap.size ≤ w70.heap.size := T.size
            have Eob84_ob5 := Nat.ne_of_lt Bz6.lt
            have Noxs68_ob84 := OwF.far Gxs68 (Nat.le_refl _)
            have Bz6 := OwM.below Bz6 hb83
            have Gxs68 := OwF.below Gxs68 hb83
            have T := Tt T hb83
            refine RL.store (v := .agg #[.int .i64 x72.agent, .int .i64 x72.slot]) (cs' := #[.int .i64 x72.agent, .int .i64 x72.slot]) rfl rfl rfl B82 (by kernel_rfl) (by rfl) (by rfl) (by rfl) (fun w85 B86 ho87 => ?_)
            have szw85 := ho87.size
            have Bz6 := Bz6.only ho87 (by intro hin; simp at hin; exact Eob84_ob5 hin)
            have Gxs68 := OwF.only Gxs68 ho87 Noxs68_ob84
            have T := T.trans (ho87.below (by first | (simp; done) | (simp; omega)))
            refine RL.nil ?_
            refine then_n ?_
            refine wp_rl rfl ?_
            refine RL.y rfl (Y.move (v := uxs68) s8_3) ?_
            refine RL.y rfl (Y.move (v := .map (some w.heap.size)) s5_3) ?_
            refine RL.y rfl (Y.fieldAddr (off := 0) rfl (by kernel_rfl)) ?_
            refine RL.y rfl (Y.load (v := .int .i64 x72.agent) rfl (by kernel_rfl) (eqC (blkCell B86 (i := 0) rfl))) ?_
            obtain ⟨_, kc88, hm⟩ := bnd hm
            replace kc88 := (ck_some kc88).2
            refine RL.y rfl (Y.look (zb := 0) (a := x72.agent) mt_int64_int64 rfl rfl kc88 (fun w' e => by rw [e]; exact Bz6)) ?_
            refine RL.y rfl (Y.fieldAddr (off := 1) rfl (by kernel_rfl)) ?_
            refine RL.y rfl (Y.load (v := .int .i64 x72.slot) rfl (by kernel_rfl) (eqC (blkCell B86 (i := 1) rfl))) ?_
            refine RL.bslice (e := 2) (cells := #[.int .i64 (z6.look x72.agent 0), .int .i64 x72.slot]) rfl (pm2 rfl rfl) (by kernel_rfl) (fun w89 B90 hb91 szw89 => ?_)
            have ZB90 : w.heap.size ≤ w85.heap.size := T.size
            have No92_ob5 := litNe (n := 2) (c := 2) Bz6.lt
            have No92_ob84 := litNe (n := 2) (c := 2) B86.lt
            have Do92_oxs68 := Dj.new (v := .slice (some ⟨w85.heap.size, 0, none⟩) 2 2) litGe (OwF.hi Gxs68)
            have Bz6 := OwM.below Bz6 hb91
            have B86 := blkT B86 hb91
            have Gxs68 := OwF.below Gxs68 hb91
            have T := Tt T hb91
            have G93 := OwF.lit (enc := encI) (sz := 1) (xs := [(z6.look x72.agent 0), x72.slot]) B90 ZB90 rfl rfl rfl rfl
            obtain ⟨_, m95, hm⟩ := bnd hm
            have hk96 := mustP_some m95
            refine RL.append fI app_int64 rfl rfl rfl Gxs68 (OwF.arg fI G93) T.size hk96 (fun v97 w98 G99 hgr100 hbl101 hnb102 => ?_)
            have szw98 := hbl101.size
            have No103_ob5 := ne_app hnb102 Noxs68_ob5 Bz6.lt
            have No103_ob84 := ne_app hnb102 Noxs68_ob84 B86.lt
            have Bz6 := OwM.grown Bz6 hgr100 Noxs68_ob5
            have B86 := Blk.kept B86 hgr100 Noxs68_ob84
            have T := T.trans hbl101
            refine RL.y rfl (Y.assign (v := v97) rfl) ?_
            refine RL.nil ?_
            refine blk_n (then_n ?_)
            refine wp_rs rfl ?_
            refine RQ.y rfl (Y.binI s58_3 rfl (binI_add (m := i69) (by omega))) ?_
            refine RQ.y rfl (Y.move (v := .int .i64 (i69 + 1)) rfl) ?_
            refine RQ.nil ?_
            exact (then_n ⟨g, _, Nat.lt_succ_self _, rfl, ⟨(xs68 ++ [(z6.look x72.agent 0), x72.slot]), (i69 + 1), (v97), s0_3, s5_3, s26_3, s27_3, s28_3, s56_3, s57_3, rfl, G99, rfl, (by omega), No103_ob5, Bz6, T, (by rw [← hrec3]; exact hm)⟩⟩)
  · rintro g f w111 ⟨i109, z110, s0_1, s1_1, s5_1, s15_1, s16_1, s17_1, nn17_1, Bz110, T, hm⟩
    rcases g with _ | g
    · simp only [m_impl_Net_code_L1] at hm; cases hm
    obtain ⟨rec1, hrec1, hm⟩ : ∃ z, z = m_impl_Net_code_L1 d1 K1 g ∧ m_impl_Net_code_B1 d1 z K1 i109 z110 = some r := ⟨_, rfl, hm⟩
    unfold m_impl_Net_code_B1 at hm
    refine wp_seq ?_
    refine wp_rs rfl ?_
    refine RQ.y rfl (Y.binI (v := .bool (decide (i109 < (d1.length : Int)))) s17_1 s16_1 rfl) ?_
    refine RQ.nil ?_
    refine then_n ?_
    refine wp_seq ?_
    rcases bcases (decide (i109 < (d1.length : Int))) with c112 | c112
    · replace hm := cF c112 hm
      have pc112 := of_decide_eq_false c112
      refine cond_f rfl (vb rfl c112) ?_
      refine wp_exit ?_
      exact (then_x (then_x (hit_x ⟨_, rfl, ⟨z110, s0_1, s1_1, s5_1, Bz110, T, (by rw [hK1] at hm; exact hm)⟩⟩)))
    · replace hm := cT c112 hm
      have pc112 := of_decide_eq_true c112
      refine cond_t rfl (vb rfl c112) ?_
      refine wp_skip ?_
      refine then_n ?_
      refine wp_seq ?_
      refine wp_block ?_
      refine wp_seq ?_
      refine wp_rs rfl ?_
      refine RQ.y rfl (Y.move (v := .int .i64 i109) s17_1) ?_
      obtain ⟨x113, hx116, hm⟩ := bnd hm
      obtain ⟨k114, hk117, hl118, hx116⟩ := getI_some hx116
      obtain ⟨b120, o121, rfl, hbb120⟩ := ha1.addr (by omega)
      obtain ⟨cs115, hRcs115, hc119⟩ := ha1.el hx116
      have hScs115 := hRcs115
      obtain rfl := hRcs115
      refine RQ.y rfl (Y.indexAddr (m := k114) (sz := 1) s15_1 s17_1 hk117 hl118 (by kernel_rfl)) ?_
      refine RQ.y rfl (Y.load (v := .int .i64 x113) rfl (by kernel_rfl) (eqC (cellT T (hc119 0 _ rfl)))) ?_
      refine RQ.y rfl (Y.assign (v := .int .i64 i109) rfl) ?_
      refine RQ.y rfl (Y.assign (v := .int .i64 x113) rfl) ?_
      refine RQ.nil ?_
      refine then_n ?_
      refine wp_rl rfl ?_
      refine RL.y rfl (Y.move (v := .map (some w.heap.size)) s5_1) ?_
      refine RL.y rfl (Y.move (v := .int .i64 x113) rfl) ?_
      refine RL.y rfl (Y.move (v := .int .i64 i109) rfl) ?_
      obtain ⟨_, kc122, hm⟩ := bnd hm
      replace kc122 := (ck_some kc122).2
      obtain ⟨_, m123, hm⟩ := bnd hm
      have hk124 := mustP_some m123
      refine RL.mapSet (a := x113) (v := i109) (enc := encVI) mt_int64_int64 rfl rfl rfl rfl kc122 Bz110 hk124 (fun w125 B126 ho127 => ?_)
      have szw125 := ho127.size
      have T := T.trans (ho127.below (by intro b hb; simp at hb; subst hb; exact Bz110.1))
      refine RL.nil ?_
      refine blk_n (then_n ?_)
      refine wp_rs rfl ?_
      refine RQ.y rfl (Y.binI s17_1 rfl (binI_add (m := i109) (by omega))) ?_
      refine RQ.y rfl (Y.move (v := .int .i64 (i109 + 1)) rfl) ?_
      refine RQ.nil ?_
      exact (then_n ⟨g, _, Nat.lt_succ_self _, rfl, ⟨(i109 + 1), (z110.put x113 i109), s0_1, s1_1, s5_1, s15_1, s16_1, rfl, (by omega), B126, T, (by rw [← hrec1]; exact hm)⟩⟩)
end
section
open Go.RowKit
set_option linter.unusedVariables false
set_option linter.unusedSimpArgs false
def visit (l : List Int) (a : Int) : List Int := if a ∈ l then l else l ++ [a]
def posOf (l : List Int) (a : Int) : Int := if a ∈ l then (l.idxOf a : Int) else -1
def atOf (n : Nat) (l : List Int) : List Int := (List.range n).map fun (i : Nat) => posOf l (i : Int)
structure GL (n : Nat) (l : List Int) : Prop where
  nd : l.Nodup
  inr : ∀ a ∈ l, 0 ≤ a ∧ a < n
theorem GL.len {n : Nat} {l : List Int} (h : GL n l) : l.length ≤ n := by
  have := php n (l.map Int.toNat) (by
    rw [List.nodup_iff_pairwise_ne, List.pairwise_map]
    refine (List.nodup_iff_pairwise_ne.1 h.nd).imp_of_mem ?_
    intro a b ha hb hab e
    have := h.inr a ha; have := h.inr b hb
    exact hab (by omega)) (fun x hx => by
    obtain ⟨a, ha, rfl⟩ := List.mem_map.1 hx
    have := h.inr a ha
    omega)
  simpa using this
theorem GL.add {n : Nat} {l : List Int} (h : GL n l) {a : Int} (h0 : 0 ≤ a) (h1 : a < n) (hn : a ∉ l) : GL n (l ++ [a]) :=
  ⟨List.nodup_append.2 ⟨h.nd, by simp, fun x hx y hy e => by simp at hy; subst hy; subst e; exact hn hx⟩, fun x hx => by
    rcases List.mem_append.1 hx with h2 | h2
    · exact h.inr x h2
    · simp at h2; subst h2; exact ⟨h0, h1⟩⟩
theorem GL.visit {n : Nat} {l : List Int} (h : GL n l) {a : Int} (h0 : 0 ≤ a) (h1 : a < n) : GL n (visit l a) := by
  unfold Go.Proofs.YtebioddcnldjkaaGreat.visit
  by_cases ha : a ∈ l
  · rw [if_pos ha]; exact h
  · rw [if_neg ha]; exact h.add h0 h1 ha
theorem posOf_add {l : List Int} {a b : Int} (hn : a ∉ l) : posOf (l ++ [a]) b = if b = a then (l.length : Int) else posOf l b := by
  unfold posOf
  by_cases hb : b = a
  · subst hb
    rw [if_pos (by simp), if_pos rfl, List.idxOf_append]
    simp [hn]
  · rw [if_neg hb]
    by_cases hl : b ∈ l
    · rw [if_pos (by simp [hl]), if_pos hl, List.idxOf_append]
      simp [hl]
    · rw [if_neg (by simp [hl, hb]), if_neg hl]
theorem atOf_get {n : Nat} {l : List Int} {a : Int} (h0 : 0 ≤ a) (h1 : a < n) : getI (atOf n l) a = some (posOf l a) := by
  obtain ⟨k, rfl⟩ := Int.eq_ofNat_of_zero_le h0
  refine getI_nat ?_
  unfold atOf
  rw [List.getElem?_map, List.getElem?_range (by omega)]
  rfl
theorem atOf_set {n : Nat} {l : List Int} {a : Int} (h0 : 0 ≤ a) (h1 : a < n) (hn : a ∉ l) : setI (atOf n l) a (l.length : Int) = atOf n (l ++ [a]) := by
  obtain ⟨k, rfl⟩ := Int.eq_ofNat_of_zero_le h0
  rw [setI_nat]
  apply List.ext_getElem?
  intro i
  unfold atOf
  rw [List.getElem?_set]
  by_cases hi : i < n
  · rw [List.getElem?_map, List.getElem?_map, List.getElem?_range hi]
    simp only [Option.map_some]
    rw [posOf_add hn]
    by_cases hk : k = i
    · subst hk
      simp [hi]
    · have : ¬ ((i : Int) = (k : Int)) := by omega
      rw [if_neg hk, if_neg this]
  · have : ¬ k = i := by omega
    rw [if_neg this, List.getElem?_map, List.getElem?_map, List.getElem?_eq_none (by simp; omega)]
    rfl
theorem posOf_neg {l : List Int} {a : Int} : decide (posOf l a < 0) = decide (a ∉ l) := by
  unfold posOf
  by_cases h : a ∈ l
  · simp [h]
  · simp [h]
def mOf (l : List Int) : MapM Int Bool := l.foldl (fun M a => M.put a true) MapM.empty
theorem mOf_add (l : List Int) (a : Int) : mOf (l ++ [a]) = (mOf l).put a true := by simp [mOf, List.foldl_append]
theorem mOf_ok (l : List Int) : (mOf l).n = l.length ∧ ∀ a, (mOf l).look a false = decide (a ∈ l) := by
  have key : ∀ (k : Nat) (l : List Int), l.length = k → (mOf l).n = l.length ∧ ∀ a, (mOf l).look a false = decide (a ∈ l) := by
    intro k
    induction k with
    | zero => intro l hl; obtain rfl := List.eq_nil_of_length_eq_zero hl; exact ⟨rfl, fun a => by simp [mOf, MapM.empty, MapM.look]⟩
    | succ k ih =>
      intro l hl
      obtain ⟨l', b, rfl⟩ : ∃ l' b, l = l' ++ [b] := by
        have : l ≠ [] := fun e => by rw [e] at hl; simp at hl
        exact ⟨l.dropLast, l.getLast this, (List.dropLast_concat_getLast this).symm⟩
      have hl' : l'.length = k := by simpa using hl
      obtain ⟨h1, h2⟩ := ih l' hl'
      rw [mOf_add]
      refine ⟨by show (mOf l').n + 1 = _; rw [h1]; simp, fun a => ?_⟩
      have h2 := h2 a
      by_cases ha : a = b
      · simp [MapM.look, MapM.put, ha]
      · simp only [MapM.look, MapM.put, if_neg ha] at h2 ⊢
        rw [h2]; simp [ha]
  exact key l.length l rfl
/-- The ports of a valid net lead to agents. -/
theorem Good.to {xs : List DAgent} (G : Good xs) {i : Nat} {x : DAgent} (hx : xs[i]? = some x) {k : Nat} {p : DPort} (hp : x.ports[k]? = some p) : 0 ≤ p.agent ∧ p.agent < xs.length := by
  have h := (G.peer (hasPort_of hx (lt_of_some hp))).1
  rw [peer_of hx hp] at h
  obtain ⟨j, s, y, rfl, hy, _⟩ := hasPort_at h
  have := lt_of_some hy
  simp only
  omega
def visits (l : List Int) (x : DAgent) : List Int := x.ports.foldl (fun l p => visit l p.agent) l
theorem spec_inner {xs : List DAgent} (G : Good xs) {i : Nat} {x : DAgent} (hx : xs[i]? = some x) (K : List Int → List Int → Option (List Int × List Int)) {l : List Int} (hl : GL xs.length l) (g : Nat) (hg : x.ports.length < g) :
    m_spec_l12Traverse_L3 x K g (atOf xs.length l) l 0 = K (atOf xs.length (visits l x)) (visits l x) ∧ GL xs.length (visits l x) := by
  have hn := G.len
  exact foldL (L := fun g s k => m_spec_l12Traverse_L3 x K g (atOf xs.length s) s k) (d := x.ports) (f := fun l p => visit l p.agent) (I := fun _ s => GL xs.length s) (K := fun s => K (atOf xs.length s) s)
    (fun g k p s hp hs => by
      have hk := lt_of_some hp
      obtain ⟨h0, h1⟩ := G.to hx hp
      have hlen := hs.len
      refine ⟨?_, hs.visit h0 h1⟩
      simp -implicitDefEqProofs only [m_spec_l12Traverse_L3, m_spec_l12Traverse_B3, dlt hk, cond_true, getI_nat hp, Option.bind_some, atOf_get h0 h1, posOf_neg]
      unfold visit
      by_cases ha : p.agent ∈ s
      · rw [show decide (p.agent ∉ s) = false by simpa using ha, cond_false, if_pos ha]
      · rw [show decide (p.agent ∉ s) = true by simpa using ha, cond_true, if_neg ha, mustP_ok (by simp; omega), Option.bind_some, atOf_set h0 h1 ha])
    (fun g s _ => by
      simp -implicitDefEqProofs only [m_spec_l12Traverse_L3, m_spec_l12Traverse_B3, dge, cond_false])
    g l hg hl
theorem impl_inner {xs : List DAgent} (G : Good xs) {i : Nat} {x : DAgent} (hx : xs[i]? = some x) (K : List Int → MapM Int Bool → Option (List Int)) {l : List Int} (hl : GL xs.length l) (g : Nat) (hg : x.ports.length < g) :
    m_impl_Net_traverse_L2 x K g l 0 (mOf l) = K (visits l x) (mOf (visits l x)) := by
  have hn := G.len
  exact (foldL (L := fun g s k => m_impl_Net_traverse_L2 x K g s k (mOf s)) (d := x.ports) (f := fun l p => visit l p.agent) (I := fun _ s => GL xs.length s) (K := fun s => K s (mOf s))
    (fun g k p s hp hs => by
      have hk := lt_of_some hp
      obtain ⟨h0, h1⟩ := G.to hx hp
      have hlen := hs.len
      have hm := mOf_ok s
      refine ⟨?_, hs.visit h0 h1⟩
      simp -implicitDefEqProofs only [m_impl_Net_traverse_L2, m_impl_Net_traverse_B2, dlt hk, cond_true, getI_nat hp, Option.bind_some, hm.2]
      rw [ck_ok (by omega), Option.bind_some]
      unfold visit
      by_cases ha : p.agent ∈ s
      · rw [decide_eq_true ha, cond_true, if_pos ha]
      · rw [decide_eq_false ha, cond_false, if_neg ha, Option.bind_some, mustP_ok (by rw [hm.1]; omega), Option.bind_some, mustP_ok (by simp; omega), Option.bind_some, mOf_add])
    (fun g s _ => by
      simp -implicitDefEqProofs only [m_impl_Net_traverse_L2, m_impl_Net_traverse_B2, dge, cond_false])
    g l hg hl).1
/-- The list after k agents have been looked at. -/
def tr (xs : List DAgent) (s : Int) : Nat → List Int
  | 0 => [s]
  | k + 1 => match (tr xs s k)[k]? with
    | none => tr xs s k
    | some a => visits (tr xs s k) (agentAt xs a)
theorem visits_pre (x : DAgent) : ∀ l : List Int, ∃ m, visits l x = l ++ m := by
  unfold visits
  generalize x.ports = ps
  induction ps with
  | nil => intro l; exact ⟨[], by simp⟩
  | cons p ps ih =>
    intro l
    rw [List.foldl_cons]
    by_cases h : p.agent ∈ l
    · rw [show visit l p.agent = l from if_pos h]; exact ih l
    · rw [show visit l p.agent = l ++ [p.agent] from if_neg h]
      obtain ⟨m, hm⟩ := ih (l ++ [p.agent])
      exact ⟨[p.agent] ++ m, by rw [hm, List.append_assoc]⟩
theorem tr_ok {xs : List DAgent} (G : Good xs) {s : Int} (h0 : 0 ≤ s) (h1 : s < xs.length) : ∀ k, GL xs.length (tr xs s k)
  | 0 => ⟨by simp [tr], fun a ha => by simp [tr] at ha; subst ha; exact ⟨h0, h1⟩⟩
  | k + 1 => by
    have ih := tr_ok G h0 h1 k
    show GL xs.length (match (tr xs s k)[k]? with | none => tr xs s k | some a => visits (tr xs s k) (agentAt xs a))
    cases h : (tr xs s k)[k]? with
    | none => exact ih
    | some a =>
      simp only
      obtain ⟨ha0, ha1⟩ := ih.inr a (List.mem_of_getElem? h)
      obtain ⟨j, rfl⟩ := Int.eq_ofNat_of_zero_le ha0
      have hx := List.getElem?_eq_getElem (show j < xs.length by omega)
      rw [agentAt_nat hx]
      unfold visits
      have : ∀ (ps : List DPort), (∀ p ∈ ps, 0 ≤ p.agent ∧ p.agent < xs.length) → ∀ l, GL xs.length l → GL xs.length (ps.foldl (fun l p => visit l p.agent) l) := by
        intro ps
        induction ps with
        | nil => intro _ l hl; exact hl
        | cons p ps ih2 =>
          intro hps l hl
          rw [List.foldl_cons]
          exact ih2 (fun q hq => hps q (by simp [hq])) _ (hl.visit (hps p (by simp)).1 (hps p (by simp)).2)
      refine this _ (fun p hp => ?_) _ ih
      obtain ⟨k', hk', rfl⟩ := List.getElem_of_mem hp
      exact G.to hx (List.getElem?_eq_getElem hk')
theorem tr_end {xs : List DAgent} (G : Good xs) {s : Int} (h0 : 0 ≤ s) (h1 : s < xs.length) : ∃ K, K ≤ xs.length ∧ (tr xs s K).length ≤ K ∧ ∀ k, k < K → k < (tr xs s k).length := by
  obtain ⟨K, h2, h3⟩ := least (p := fun K => (tr xs s K).length ≤ K) ⟨xs.length, (tr_ok G h0 h1 _).len⟩
  refine ⟨K, ?_, h2, fun k hk => by have := h3 k hk; omega⟩
  apply Classical.byContradiction
  intro hn
  exact h3 xs.length (by omega) (tr_ok G h0 h1 _).len
theorem tr_step {xs : List DAgent} {s : Int} {k : Nat} {a : Int} (h : (tr xs s k)[k]? = some a) : tr xs s (k + 1) = visits (tr xs s k) (agentAt xs a) := by
  show (match (tr xs s k)[k]? with | none => tr xs s k | some a => visits (tr xs s k) (agentAt xs a)) = _
  rw [h]
theorem tr_stable {xs : List DAgent} {s : Int} {K : Nat} (h : (tr xs s K).length ≤ K) : ∀ m, tr xs s (K + m) = tr xs s K
  | 0 => rfl
  | m + 1 => by
    have ih := tr_stable h m
    show (match (tr xs s (K + m))[K + m]? with | none => tr xs s (K + m) | some a => visits (tr xs s (K + m)) (agentAt xs a)) = _
    rw [ih, List.getElem?_eq_none (by omega)]
theorem flat_one {α β : Type} (c : β) (l : List α) : l.flatMap (fun _ => [c]) = l.map (fun _ => c) := by
  induction l with
  | nil => rfl
  | cons x l ih => rw [List.flatMap_cons, ih]; rfl
theorem p_sTraverse {xs : List DAgent} (G : Good xs) {s : Int} (h0 : 0 ≤ s) (h1 : s < xs.length) : m_spec_l12Traverse ⟨xs⟩ s = some (tr xs s xs.length, atOf xs.length (tr xs s xs.length)) := by
  have hn := G.len
  obtain ⟨K, hK, hK1, hK2⟩ := tr_end G h0 h1
  have hfin : tr xs s xs.length = tr xs s K := by
    have := tr_stable hK1 (xs.length - K)
    rw [show K + (xs.length - K) = xs.length by omega] at this
    exact this
  have hinit : (List.range' 0 (xs.length - 0)).flatMap (fun _ => [(-1 : Int)]) = atOf xs.length [] := by
    rw [flat_one, Nat.sub_zero, ← List.range_eq_range']
    unfold atOf posOf
    simp
  have key := appI (L := m_spec_l12Traverse_L1 ⟨xs⟩ (m_spec_l12Traverse_A1 ⟨xs⟩ s)) (f := fun _ => [(-1 : Int)]) (n := xs.length) (M := 4294967296) (K := m_spec_l12Traverse_A1 ⟨xs⟩ s)
    (fun g k acc hk hM => by
      simp -implicitDefEqProofs only [m_spec_l12Traverse_L1, m_spec_l12Traverse_B1, dlt hk, cond_true]
      rw [mustP_ok hM, Option.bind_some])
    (fun g acc => by simp -implicitDefEqProofs only [m_spec_l12Traverse_L1, m_spec_l12Traverse_B1, dge, cond_false])
    0 [] (xs.length + 1) (by omega) (by omega) (by rw [hinit]; simp [atOf]; omega)
  rw [hinit, List.nil_append] at key
  have hstep := steps (L := fun g (q : List Int × Int) => m_spec_l12Traverse_L2 ⟨xs⟩ m_spec_l12Traverse_A2 g (atOf xs.length q.1) q.1 q.2) (st := fun k => (tr xs s k, (k : Int))) (n := K)
    (fun g k hk => by
      have hlt := hK2 k hk
      have ha := List.getElem?_eq_getElem hlt
      obtain ⟨a0, a1⟩ := (tr_ok G h0 h1 k).inr _ (List.getElem_mem hlt)
      obtain ⟨j, hj⟩ := Int.eq_ofNat_of_zero_le a0
      have hjl : j < xs.length := by omega
      have hx := List.getElem?_eq_getElem hjl
      rw [hj] at ha
      have hstep := tr_step ha
      rw [agentAt_nat hx] at hstep
      have inner := (spec_inner G hx (m_spec_l12Traverse_A3 (m_spec_l12Traverse_L2 ⟨xs⟩ m_spec_l12Traverse_A2 g) (k : Int)) (tr_ok G h0 h1 k) (xs[j].ports.length + 1) (Nat.lt_succ_self _)).1
      simp -implicitDefEqProofs only [m_spec_l12Traverse_L2, m_spec_l12Traverse_B2, dlt hlt, cond_true, getI_nat ha, getI_nat hx, Option.bind_some]
      rw [inner, m_spec_l12Traverse_A3, ck_ok (by omega), Option.bind_some, hstep]
      simp only [Int.natCast_add, Int.cast_ofNat_Int]) (xs.length + 2 - K)
  have hcon : xs.length + 2 - K + K = xs.length + 2 := by omega
  rw [hcon] at hstep
  have hend : ∀ g, m_spec_l12Traverse_L2 ⟨xs⟩ m_spec_l12Traverse_A2 (g + 1) (atOf xs.length (tr xs s K)) (tr xs s K) (K : Int) = some (tr xs s K, atOf xs.length (tr xs s K)) := by
    intro g
    have : decide ((K : Int) < ((tr xs s K).length : Int)) = false := by simp; omega
    simp -implicitDefEqProofs only [m_spec_l12Traverse_L2, m_spec_l12Traverse_B2, this, cond_false, m_spec_l12Traverse_A2]
  unfold m_spec_l12Traverse
  refine key.trans ?_
  unfold m_spec_l12Traverse_A1
  rw [atOf_get h0 h1, Option.bind_some]
  have hs := atOf_set (l := []) h0 h1 (by simp)
  have hs : setI (atOf xs.length []) s 0 = atOf xs.length [s] := hs
  rw [hs]
  refine Eq.trans hstep ?_
  obtain ⟨g', hg'⟩ : ∃ g', xs.length + 2 - K = g' + 1 := ⟨xs.length + 1 - K, by omega⟩
  rw [hg', hfin]
  exact hend g'
theorem p_iTraverse {xs : List DAgent} (G : Good xs) {s : Int} (h0 : 0 ≤ s) (h1 : s < xs.length) : m_impl_Net_traverse ⟨xs⟩ s = some (tr xs s xs.length) := by
  have hn := G.len
  obtain ⟨K, hK, hK1, hK2⟩ := tr_end G h0 h1
  have hfin : tr xs s xs.length = tr xs s K := by
    have := tr_stable hK1 (xs.length - K)
    rw [show K + (xs.length - K) = xs.length by omega] at this
    exact this
  have hstep := steps (L := fun g (q : List Int × Int) => m_impl_Net_traverse_L1 ⟨xs⟩ m_impl_Net_traverse_A1 g q.1 q.2 (mOf q.1)) (st := fun k => (tr xs s k, (k : Int))) (n := K)
    (fun g k hk => by
      have hlt := hK2 k hk
      have ha := List.getElem?_eq_getElem hlt
      obtain ⟨a0, a1⟩ := (tr_ok G h0 h1 k).inr _ (List.getElem_mem hlt)
      obtain ⟨j, hj⟩ := Int.eq_ofNat_of_zero_le a0
      have hjl : j < xs.length := by omega
      have hx := List.getElem?_eq_getElem hjl
      rw [hj] at ha
      have hstep := tr_step ha
      rw [agentAt_nat hx] at hstep
      have inner := impl_inner G hx (m_impl_Net_traverse_A2 (m_impl_Net_traverse_L1 ⟨xs⟩ m_impl_Net_traverse_A1 g) (k : Int)) (tr_ok G h0 h1 k) (xs[j].ports.length + 1) (Nat.lt_succ_self _)
      simp -implicitDefEqProofs only [m_impl_Net_traverse_L1, m_impl_Net_traverse_B1, dlt hlt, cond_true, getI_nat ha, getI_nat hx, Option.bind_some]
      rw [inner, m_impl_Net_traverse_A2, ck_ok (by omega), Option.bind_some, hstep]
      simp only [Int.natCast_add, Int.cast_ofNat_Int]) (xs.length + 2 - K)
  have hcon : xs.length + 2 - K + K = xs.length + 2 := by omega
  rw [hcon] at hstep
  have hend : ∀ g, m_impl_Net_traverse_L1 ⟨xs⟩ m_impl_Net_traverse_A1 (g + 1) (tr xs s K) (K : Int) (mOf (tr xs s K)) = some (tr xs s K) := by
    intro g
    have : decide ((K : Int) < ((tr xs s K).length : Int)) = false := by simp; omega
    simp -implicitDefEqProofs only [m_impl_Net_traverse_L1, m_impl_Net_traverse_B1, this, cond_false, m_impl_Net_traverse_A1]
  unfold m_impl_Net_traverse
  rw [ck_ok (by omega), Option.bind_some, mustP_ok (by simp [MapM.empty]), Option.bind_some]
  refine Eq.trans hstep ?_
  obtain ⟨g', hg'⟩ : ∃ g', xs.length + 2 - K = g' + 1 := ⟨xs.length + 1 - K, by omega⟩
  rw [hg', hfin]
  exact hend g'
end
section
open Go.RowKit
set_option linter.unusedVariables false
set_option linter.unusedSimpArgs false
theorem visit_mem {l : List Int} {a : Int} : a ∈ visit l a := by
  unfold visit
  by_cases h : a ∈ l
  · rw [if_pos h]; exact h
  · rw [if_neg h]; simp
theorem visit_sub {l : List Int} {a b : Int} (h : b ∈ l) : b ∈ visit l a := by
  unfold visit
  by_cases h' : a ∈ l
  · rw [if_pos h']; exact h
  · rw [if_neg h']; simp [h]
theorem visits_mem (x : DAgent) : ∀ (l : List Int) (p : DPort), p ∈ x.ports → p.agent ∈ visits l x := by
  unfold visits
  generalize x.ports = ps
  have sub : ∀ (ps : List DPort) (l : List Int) (b : Int), b ∈ l → b ∈ ps.foldl (fun l p => visit l p.agent) l := by
    intro ps
    induction ps with
    | nil => intro l b h; exact h
    | cons q ps ih => intro l b h; rw [List.foldl_cons]; exact ih _ _ (visit_sub h)
  induction ps with
  | nil => intro l p h; simp at h
  | cons q ps ih =>
    intro l p h
    rw [List.foldl_cons]
    rcases List.mem_cons.1 h with rfl | h
    · exact sub ps _ _ visit_mem
    · exact ih _ _ h
theorem tr_pre (xs : List DAgent) (s : Int) (k : Nat) : ∀ m, ∃ t, tr xs s (k + m) = tr xs s k ++ t
  | 0 => ⟨[], by simp⟩
  | m + 1 => by
    obtain ⟨t, ht⟩ := tr_pre xs s k m
    show ∃ t, (match (tr xs s (k + m))[k + m]? with | none => tr xs s (k + m) | some a => visits (tr xs s (k + m)) (agentAt xs a)) = _
    cases (tr xs s (k + m))[k + m]? with
    | none => exact ⟨t, ht⟩
    | some a =>
      obtain ⟨u, hu⟩ := visits_pre (agentAt xs a) (tr xs s (k + m))
      exact ⟨t ++ u, by simp only; rw [hu, ht, List.append_assoc]⟩
/-- The traversal is closed. -/
theorem tr_closed {xs : List DAgent} (G : Good xs) {s : Int} (h0 : 0 ≤ s) (h1 : s < xs.length) {a : Int} (ha : a ∈ tr xs s xs.length) {p : DPort} (hp : p ∈ (agentAt xs a).ports) : p.agent ∈ tr xs s xs.length := by
  obtain ⟨K, hK, hK1, hK2⟩ := tr_end G h0 h1
  have hfin : tr xs s xs.length = tr xs s K := by
    have := tr_stable hK1 (xs.length - K)
    rw [show K + (xs.length - K) = xs.length by omega] at this
    exact this
  rw [hfin] at ha ⊢
  obtain ⟨k, hk, hka⟩ := List.getElem_of_mem ha
  have hkK : k < K := by omega
  have hlt := hK2 k hkK
  obtain ⟨t, ht⟩ := tr_pre xs s k (K - k)
  rw [show k + (K - k) = K by omega] at ht
  have e1 : (tr xs s k)[k]? = some a := by
    have e2 := List.getElem?_eq_getElem hk
    rw [hka] at e2
    rw [← e2, ht, List.getElem?_append_left hlt]
  have e3 := tr_step e1
  have e4 := visits_mem (agentAt xs a) (tr xs s k) p hp
  rw [← e3] at e4
  obtain ⟨u, hu⟩ := tr_pre xs s (k + 1) (K - (k + 1))
  rw [show k + 1 + (K - (k + 1)) = K by omega] at hu
  rw [hu]; simp [e4]
def piece (l : List Int) (x : DAgent) : List Int := [x.kind, x.level, x.value, (x.data.length : Int)] ++ x.data ++ x.ports.flatMap fun p => [posOf l p.agent, p.slot]
def codeL (xs : List DAgent) (l : List Int) : List Int := l.flatMap fun a => piece l (agentAt xs a)
theorem piece_len {xs : List DAgent} (hs : Small xs) (l : List Int) {i : Nat} {x : DAgent} (hx : xs[i]? = some x) : (piece l x).length ≤ 3145732 := by
  have h1 := hs.ports (List.mem_of_getElem? hx)
  have h2 := hs.data (List.mem_of_getElem? hx)
  have h3 : ∀ ps : List DPort, (ps.flatMap fun p => [posOf l p.agent, p.slot]).length = 2 * ps.length := by
    intro ps
    induction ps with
    | nil => rfl
    | cons p ps ih => rw [List.flatMap_cons, List.length_append, ih]; simp; omega
  unfold piece
  rw [List.length_append, List.length_append, h3]
  simp
  omega
/-- A loop that appends f of each element. -/
theorem appL {α β ρ : Type} {L : Nat → List β → Int → Option ρ} {d : List α} {f : α → List β} {B M : Nat} {K : List β → Option ρ} (hB : ∀ x ∈ d, (f x).length ≤ B) (h : ∀ g (k : Nat) x acc, d[k]? = some x → acc.length + (f x).length ≤ M → L (g + 1) acc (k : Int) = L g (acc ++ f x) ((k : Int) + 1)) (he : ∀ g acc, L (g + 1) acc (d.length : Int) = K acc)
    (acc : List β) (g : Nat) (hg : d.length < g) (hM : acc.length + d.length * B ≤ M) : L g acc 0 = K (acc ++ d.flatMap f) ∧ (acc ++ d.flatMap f).length ≤ acc.length + d.length * B := by
  have key := foldL (L := L) (d := d) (f := fun s x => s ++ f x) (I := fun k s => k ≤ d.length ∧ s.length ≤ acc.length + k * B) (K := K)
    (fun g k x s hx ⟨hk, hs⟩ => by
      have hkl := lt_of_some hx
      have hb := hB x (List.mem_of_getElem? hx)
      have h1 : k * B + B ≤ d.length * B := by rw [← Nat.succ_mul]; exact Nat.mul_le_mul_right _ hkl
      refine ⟨h g k x s hx (by omega), hkl, ?_⟩
      rw [List.length_append, Nat.succ_mul]; omega)
    (fun g s _ => he g s) g acc hg ⟨Nat.zero_le _, by omega⟩
  have e : ∀ (d : List α) (acc : List β), d.foldl (fun s x => s ++ f x) acc = acc ++ d.flatMap f := by
    intro d
    induction d with
    | nil => intro acc; simp
    | cons x d ih => intro acc; rw [List.foldl_cons, ih, List.flatMap_cons, List.append_assoc]
  rw [e] at key
  exact ⟨key.1, key.2.2⟩
theorem p_sCode {xs : List DAgent} (G : Good xs) (hs : Small xs) {s : Int} (h0 : 0 ≤ s) (h1 : s < xs.length) : m_spec_l12Code ⟨xs⟩ s = some (codeL xs (tr xs s xs.length)) := by
  have hn := G.len
  have hl := tr_ok G h0 h1 xs.length
  have hlen := hl.len
  unfold m_spec_l12Code
  rw [p_sTraverse G h0 h1, Option.bind_some]
  generalize htr : tr xs s xs.length = l at *
  refine (appL (L := m_spec_l12Code_L1 ⟨xs⟩ (l, atOf xs.length l) m_spec_l12Code_A1) (d := l) (f := fun a => piece l (agentAt xs a)) (B := 3145732) (M := 4294967296) (K := some)
    (fun a ha => by
      obtain ⟨a0, a1⟩ := hl.inr a ha
      obtain ⟨j, rfl⟩ := Int.eq_ofNat_of_zero_le a0
      have hx := List.getElem?_eq_getElem (show j < xs.length by omega)
      rw [agentAt_nat hx]
      exact piece_len hs l hx)
    (fun g k a acc ha hM => by
      have hk := lt_of_some ha
      obtain ⟨a0, a1⟩ := hl.inr a (List.mem_of_getElem? ha)
      obtain ⟨j, rfl⟩ := Int.eq_ofNat_of_zero_le a0
      have hx := List.getElem?_eq_getElem (show j < xs.length by omega)
      rw [agentAt_nat hx] at hM ⊢
      have hM2 : acc.length + (4 + xs[j].data.length + (xs[j].ports.flatMap fun p => [posOf l p.agent, p.slot]).length) ≤ 4294967296 := by
        unfold piece at hM; simp only [List.length_append, List.length_cons, List.length_nil] at hM; omega
      have h3 : ∀ ps : List DPort, (ps.flatMap fun p => [posOf l p.agent, p.slot]).length = ps.length * 2 := by
        intro ps
        induction ps with
        | nil => rfl
        | cons p ps ih => rw [List.flatMap_cons, List.length_append, ih]; simp; omega
      rw [h3] at hM2
      have inner := (appL (L := m_spec_l12Code_L2 (l, atOf xs.length l) xs[j] (m_spec_l12Code_A2 (m_spec_l12Code_L1 ⟨xs⟩ (l, atOf xs.length l) m_spec_l12Code_A1 g) (k : Int))) (d := xs[j].ports) (f := fun p => [posOf l p.agent, p.slot]) (B := 2) (M := 4294967296)
        (K := fun acc => m_spec_l12Code_L1 ⟨xs⟩ (l, atOf xs.length l) m_spec_l12Code_A1 g acc ((k : Int) + 1))
        (fun p _ => Nat.le_refl _)
        (fun g' k' p acc' hp hM' => by
          have hk' := lt_of_some hp
          obtain ⟨b0, b1⟩ := G.to hx hp
          simp -implicitDefEqProofs only [m_spec_l12Code_L2, m_spec_l12Code_B2, dlt hk', cond_true, getI_nat hp, Option.bind_some, atOf_get b0 b1]
          rw [mustP_ok hM', Option.bind_some])
        (fun g' acc' => by
          simp -implicitDefEqProofs only [m_spec_l12Code_L2, m_spec_l12Code_B2, dge, cond_false, m_spec_l12Code_A2]
          rw [ck_ok (by omega), Option.bind_some])
        ((acc ++ [xs[j].kind, xs[j].level, xs[j].value, (xs[j].data.length : Int)]) ++ xs[j].data) (xs[j].ports.length + 1) (Nat.lt_succ_self _) (by simp only [List.length_append, List.length_cons, List.length_nil]; omega)).1
      simp -implicitDefEqProofs only [m_spec_l12Code_L1, m_spec_l12Code_B1, dlt hk, cond_true, getI_nat ha, getI_nat hx, Option.bind_some]
      rw [mustP_ok (by simp only [List.length_cons, List.length_nil]; omega), Option.bind_some, mustP_ok (by simp only [List.length_append, List.length_cons, List.length_nil]; omega), Option.bind_some, inner]
      unfold piece
      simp only [List.append_assoc])
    (fun g acc => by simp -implicitDefEqProofs only [m_spec_l12Code_L1, m_spec_l12Code_B1, dge, cond_false, m_spec_l12Code_A1])
    [] (l.length + 1) (Nat.lt_succ_self _) (by simp only [List.length_nil]; omega)).1.trans ?_
  rw [List.nil_append]; rfl
def placeOf (l : List Int) : Nat → MapM Int Int
  | 0 => MapM.empty
  | k + 1 => (placeOf l k).put (l[k]?.getD 0) (k : Int)
theorem placeOf_n (l : List Int) : ∀ k, (placeOf l k).n = k
  | 0 => rfl
  | k + 1 => by show (placeOf l k).n + 1 = k + 1; rw [placeOf_n l k]
theorem placeOf_look {l : List Int} (hn : l.Nodup) : ∀ k, k ≤ l.length → ∀ i (hi : i < k) (hl : i < l.length), (placeOf l k).look l[i] 0 = (i : Int)
  | 0, _, i, hi, _ => by omega
  | k + 1, hk, i, hi, hl => by
    have hkl : k < l.length := hk
    have e : l[k]?.getD 0 = l[k] := by rw [List.getElem?_eq_getElem hkl]; rfl
    by_cases hik : i = k
    · subst hik
      simp [placeOf, MapM.look, MapM.put, e]
    · have hne : l[i] ≠ l[k] := List.pairwise_iff_getElem.1 (List.nodup_iff_pairwise_ne.1 hn) i k hl hkl (by omega)
      have ih := placeOf_look hn k (by omega) i (by omega) hl
      simp only [placeOf, MapM.look, MapM.put, e, if_neg hne] at ih ⊢
      exact ih
theorem placeOf_pos {l : List Int} (hn : l.Nodup) {a : Int} (ha : a ∈ l) : (placeOf l l.length).look a 0 = posOf l a := by
  have hi := List.idxOf_lt_length_of_mem ha
  have := placeOf_look hn l.length (Nat.le_refl _) (l.idxOf a) hi hi
  rw [List.getElem_idxOf] at this
  rw [this]
  unfold posOf
  rw [if_pos ha]
theorem p_iCode {xs : List DAgent} (G : Good xs) (hs : Small xs) {s : Int} (h0 : 0 ≤ s) (h1 : s < xs.length) : m_impl_Net_code ⟨xs⟩ (tr xs s xs.length) = some (codeL xs (tr xs s xs.length)) := by
  have hn := G.len
  have hl := tr_ok G h0 h1 xs.length
  have hlen := hl.len
  have hcl := fun a ha p hp => tr_closed (a := a) (p := p) G h0 h1 ha hp
  generalize htr : tr xs s xs.length = l at *
  have key := traj (L := fun g (q : Int × MapM Int Int) => m_impl_Net_code_L1 l (m_impl_Net_code_A1 ⟨xs⟩ l) g q.1 q.2) (st := fun k => ((k : Int), placeOf l k)) (n := l.length) (r := m_impl_Net_code_A1 ⟨xs⟩ l (placeOf l l.length))
    (fun g k hk => by
      obtain ⟨a0, a1⟩ := hl.inr _ (List.getElem_mem hk)
      have hpn := placeOf_n l k
      simp -implicitDefEqProofs only [m_impl_Net_code_L1, m_impl_Net_code_B1, dlt hk, cond_true, getI_lt hk, Option.bind_some]
      rw [ck_ok (by omega), Option.bind_some, mustP_ok (by omega), Option.bind_some]
      have e : placeOf l (k + 1) = (placeOf l k).put l[k] (k : Int) := by
        show (placeOf l k).put (l[k]?.getD 0) (k : Int) = _
        rw [List.getElem?_eq_getElem hk]; rfl
      rw [e]
      simp only [Int.natCast_add, Int.cast_ofNat_Int])
    (fun g => by simp -implicitDefEqProofs only [m_impl_Net_code_L1, m_impl_Net_code_B1, dge, cond_false]) (l.length + 1) (Nat.lt_succ_self _)
  unfold m_impl_Net_code
  refine Eq.trans key ?_
  unfold m_impl_Net_code_A1
  refine (appL (L := m_impl_Net_code_L2 ⟨xs⟩ l (placeOf l l.length) m_impl_Net_code_A2) (d := l) (f := fun a => piece l (agentAt xs a)) (B := 3145732) (M := 4294967296) (K := some)
    (fun a ha => by
      obtain ⟨a0, a1⟩ := hl.inr a ha
      obtain ⟨j, rfl⟩ := Int.eq_ofNat_of_zero_le a0
      have hx := List.getElem?_eq_getElem (show j < xs.length by omega)
      rw [agentAt_nat hx]
      exact piece_len hs l hx)
    (fun g k a acc ha hM => by
      have hk := lt_of_some ha
      have hmem := List.mem_of_getElem? ha
      obtain ⟨a0, a1⟩ := hl.inr a hmem
      obtain ⟨j, rfl⟩ := Int.eq_ofNat_of_zero_le a0
      have hx := List.getElem?_eq_getElem (show j < xs.length by omega)
      have hcl := fun p hp => hcl (j : Int) hmem p hp
      rw [agentAt_nat hx] at hM hcl ⊢
      have hM2 : acc.length + (4 + xs[j].data.length + (xs[j].ports.flatMap fun p => [posOf l p.agent, p.slot]).length) ≤ 4294967296 := by
        unfold piece at hM; simp only [List.length_append, List.length_cons, List.length_nil] at hM; omega
      have h3 : ∀ ps : List DPort, (ps.flatMap fun p => [posOf l p.agent, p.slot]).length = ps.length * 2 := by
        intro ps
        induction ps with
        | nil => rfl
        | cons p ps ih => rw [List.flatMap_cons, List.length_append, ih]; simp; omega
      rw [h3] at hM2
      have inner := (appL (L := m_impl_Net_code_L3 (placeOf l l.length) xs[j] (m_impl_Net_code_A3 (m_impl_Net_code_L2 ⟨xs⟩ l (placeOf l l.length) m_impl_Net_code_A2 g) (k : Int))) (d := xs[j].ports) (f := fun p => [posOf l p.agent, p.slot]) (B := 2) (M := 4294967296)
        (K := fun acc => m_impl_Net_code_L2 ⟨xs⟩ l (placeOf l l.length) m_impl_Net_code_A2 g acc ((k : Int) + 1))
        (fun p _ => Nat.le_refl _)
        (fun g' k' p acc' hp hM' => by
          have hk' := lt_of_some hp
          obtain ⟨b0, b1⟩ := G.to hx hp
          have hpos := placeOf_pos hl.nd (hcl p (List.mem_of_getElem? hp))
          simp -implicitDefEqProofs only [m_impl_Net_code_L3, m_impl_Net_code_B3, dlt hk', cond_true, getI_nat hp, Option.bind_some, hpos]
          rw [ck_ok (by omega), Option.bind_some, mustP_ok hM', Option.bind_some])
        (fun g' acc' => by
          simp -implicitDefEqProofs only [m_impl_Net_code_L3, m_impl_Net_code_B3, dge, cond_false, m_impl_Net_code_A3]
          rw [ck_ok (by omega), Option.bind_some])
        ((acc ++ [xs[j].kind, xs[j].level, xs[j].value, (xs[j].data.length : Int)]) ++ xs[j].data) (xs[j].ports.length + 1) (Nat.lt_succ_self _) (by simp only [List.length_append, List.length_cons, List.length_nil]; omega)).1
      simp -implicitDefEqProofs only [m_impl_Net_code_L2, m_impl_Net_code_B2, dlt hk, cond_true, getI_nat ha, getI_nat hx, Option.bind_some]
      rw [mustP_ok (by simp only [List.length_cons, List.length_nil]; omega), Option.bind_some, mustP_ok (by simp only [List.length_append, List.length_cons, List.length_nil]; omega), Option.bind_some, inner]
      unfold piece
      simp only [List.append_assoc])
    (fun g acc => by simp -implicitDefEqProofs only [m_impl_Net_code_L2, m_impl_Net_code_B2, dge, cond_false, m_impl_Net_code_A2])
    [] (l.length + 1) (Nat.lt_succ_self _) (by simp only [List.length_nil]; omega)).1.trans ?_
  rw [List.nil_append]; rfl
end
section
open Go.RowKit
set_option linter.unusedVariables false
set_option linter.unusedSimpArgs false
/-- The block of a slice's row. -/
def fb (v : Value) : List Nat := v.ownBlock.toList
/-- Two lists of blocks lie apart. -/
def Ap (l m : List Nat) : Prop := ∀ b ∈ l, b ∉ m
section
variable {l m x l' l2 : List Nat} {k g : Nat} {v u v' : Value}
theorem mem_fb {b : Nat} : b ∈ fb v ↔ v.ownBlock = some b := by simp [fb]
theorem Ap.symm (h : Ap l m) : Ap m l := fun b h1 h2 => h b h2 h1
theorem Ap.nil : Ap [] m := fun b h => by simp at h
theorem Ap.new (h1 : ∀ b ∈ l, k ≤ b) (h2 : ∀ b ∈ x, b < k) : Ap l x := fun b h h' => by have := h1 b h; have := h2 b h'; omega
theorem Ap.one (h : Ap l [g]) : g ∉ l := fun hg => h g hg (by simp)
theorem Ap.far (h : ∀ b ∈ l, b < g) : Ap l [g] := fun b hb h' => by simp at h'; subst h'; exact absurd (h b hb) (Nat.lt_irrefl _)
theorem Ap.farL (h : ∀ b ∈ l, b < g) : Ap [g] l := (Ap.far h).symm
theorem Ap.appF (h : Ap l (fb v)) (hn : ∀ b, v'.ownBlock = some b → v.ownBlock = some b ∨ k ≤ b) (hi : ∀ b ∈ l, b < k) : Ap l (fb v') := fun b hb h' => by
  rcases hn b (mem_fb.1 h') with h2 | h2
  · exact h b hb (mem_fb.2 h2)
  · have := hi b hb; omega
theorem Ap.app (hn : ∀ b ∈ l', b ∈ l ∨ b ∈ l2 ∨ k ≤ b) (h1 : Ap l x) (h2 : Ap l2 x) (hi : ∀ b ∈ x, b < k) : Ap l' x := fun b hb h' => by
  rcases hn b hb with h3 | h3 | h3
  · exact h1 b h3 h'
  · exact h2 b h3 h'
  · have := hi b h'; omega
theorem Ap.cons (h1 : Ap [g] x) (h2 : Ap l x) : Ap (g :: l) x := fun b hb h' => by
  rcases List.mem_cons.1 hb with rfl | hb
  · exact h1 b (by simp) h'
  · exact h2 b hb h'
theorem Ap.append (h1 : Ap l x) (h2 : Ap m x) : Ap (l ++ m) x := fun b hb h' => by
  rcases List.mem_append.1 hb with hb | hb
  · exact h1 b hb h'
  · exact h2 b hb h'
theorem Dj.ap (h : Dj v u) : Ap (fb v) (fb u) := fun b h1 h2 => h b (mem_fb.1 h1) (mem_fb.1 h2)
theorem Ap.dj (h : Ap (fb v) (fb u)) : Dj v u := fun b h1 h2 => h b (mem_fb.2 h1) (mem_fb.2 h2)
theorem ne_ap (h : v.ownBlock ≠ some g) : Ap (fb v) [g] := fun b h1 h2 => by simp at h2; subst h2; exact h (mem_fb.1 h1)
theorem ap_ne (h : Ap (fb v) [g]) : v.ownBlock ≠ some g := fun h1 => h g (mem_fb.2 h1) (by simp)
end
/-- Elements one behind the other, with what they own. -/
def Parts {α : Type} (O : Ow α) (w : World) : List Value → List α → List Nat → Prop
  | cells, [], ib => cells = [] ∧ ib = []
  | cells, x :: xs, ib => ∃ cs rest b1 b2, cells = cs ++ rest ∧ O w cs x b1 ∧ ib = b1 ++ b2 ∧ Parts O w rest xs b2
/-- A slice of the call's own: its row from block lo on, its elements' blocks (no two alike, none the row's), all among bs. -/
def OwN {α : Type} (e : TypeId) (O : Ow α) (sz : Nat) (w : World) (lo : Nat) (v : Value) (xs : List α) (bs : List Nat) : Prop :=
  ∃ cells ib, w.ownsRow lo e sz v xs.length cells ∧ Parts O w cells xs ib ∧ ib.Nodup ∧ (∀ b ∈ ib, b ∈ bs) ∧ (∀ b, v.ownBlock = some b → b ∈ bs ∧ b ∉ ib) ∧ (∀ b ∈ bs, lo ≤ b ∧ b < w.heap.size)
/-- What an element's cells are: one value each. -/
def OneC {α : Type} (O : Ow α) : Prop := ∀ {w cs x bs}, O w cs x bs → ∀ u ∈ cs, u.oneCell' = true
theorem agentOw_one : OneC agentOw := fun ⟨A1, n1, c1, A2, n2, c2, b1, b2, e, _⟩ u hu => by rw [e] at hu; simp at hu; rcases hu with rfl | rfl | rfl | rfl | rfl <;> rfl
theorem slOw_one {α : Type} {O : Ow α} {sz : Nat} : OneC (slOw O sz) := fun ⟨A, n, c, e, _⟩ u hu => by rw [e] at hu; simp at hu; subst hu; rfl
section
variable {α : Type} {O : Ow α} {R : Rd α} {sz : Nat} {w w' : World} {lo lo' : Nat} {v : Value} {xs ys : List α} {x : α} {bs : List Nat} {e : TypeId}
theorem Parts.keep (ok : OwOk O sz) : ∀ {xs : List α} {cells : List Value} {ib : List Nat}, (∀ b ∈ ib, w'.heap[b]? = w.heap[b]?) → Parts O w cells xs ib → Parts O w' cells xs ib
  | [], _, _, _, h => h
  | x :: xs, _, _, hb, ⟨cs, rest, b1, b2, e1, hO, e2, hr⟩ => by
    subst e1 e2
    exact ⟨cs, rest, b1, b2, rfl, ok.keep (fun b h => hb b (by simp [h])) hO, rfl, Parts.keep ok (fun b h => hb b (by simp [h])) hr⟩
theorem Parts.append : ∀ {xs ys : List α} {c1 c2 : List Value} {i1 i2 : List Nat}, Parts O w c1 xs i1 → Parts O w c2 ys i2 → Parts O w (c1 ++ c2) (xs ++ ys) (i1 ++ i2)
  | [], _, _, _, _, _, ⟨e1, e2⟩, h2 => by subst e1 e2; exact h2
  | x :: xs, _, _, _, _, _, ⟨cs, rest, b1, b2, e1, hO, e2, hr⟩, h2 => by
    subst e1 e2
    exact ⟨cs, _, b1, _, by rw [List.append_assoc], hO, by rw [List.append_assoc], Parts.append hr h2⟩
theorem Parts.one {cs : List Value} {b : List Nat} (h : O w cs x b) : Parts O w cs [x] b := ⟨cs, [], b, [], by simp, h, by simp, rfl, rfl⟩
theorem Parts.one_ (one : OneC O) : ∀ {xs : List α} {cells : List Value} {ib : List Nat}, Parts O w cells xs ib → ∀ u ∈ cells, u.oneCell' = true
  | [], _, _, ⟨e, _⟩, u, hu => by rw [e] at hu; simp at hu
  | x :: xs, _, _, ⟨cs, rest, b1, b2, e1, hO, e2, hr⟩, u, hu => by
    subst e1
    rcases List.mem_append.1 hu with h | h
    · exact one hO u h
    · exact Parts.one_ one hr u h
theorem Parts.len (ok : OwOk O sz) : ∀ {xs : List α} {cells : List Value} {ib : List Nat}, Parts O w cells xs ib → cells.length = xs.length * sz
  | [], _, _, ⟨e, _⟩ => by rw [e]; simp
  | x :: xs, _, _, ⟨cs, rest, b1, b2, e1, hO, e2, hr⟩ => by
    subst e1
    rw [List.length_append, ok.len hO, Parts.len ok hr, List.length_cons, Nat.add_mul]; omega
theorem Parts.elAt (ok : OwOk O sz) {g : Nat} {cur : Array Value} (hb : Blk w g e cur) : ∀ {xs : List α} {cells : List Value} {ib : List Nat} (o : Nat), (∀ (j : Nat) (u : Value), cells[j]? = some u → cur[o + j]? = some u) → Parts O w cells xs ib → ElAt O sz w g o xs ib
  | [], _, _, o, _, ⟨_, e⟩ => e
  | x :: xs, _, _, o, hc, ⟨cs, rest, b1, b2, e1, hO, e2, hr⟩ => by
    subst e1 e2
    have hl := ok.len hO
    refine ⟨cs, b1, b2, hO, hb.csAt (fun j u hj => hc j u ?_), rfl, Parts.elAt ok hb (o + sz) (fun j u hj => ?_) hr⟩
    · rw [List.getElem?_append_left (lt_of_some hj)]; exact hj
    · have := hc (sz + j) u (by rw [List.getElem?_append_right (by omega), hl, show sz + j - sz = j by omega]; exact hj)
      rwa [show o + (sz + j) = o + sz + j by omega] at this
/-- One element of many. -/
theorem Parts.split (ok : OwOk O sz) : ∀ {xs : List α} {cells : List Value} {ib : List Nat} {k : Nat} {x : α}, Parts O w cells xs ib → xs[k]? = some x →
    ∃ c1 cs c2 i1 b1 i2, cells = c1 ++ cs ++ c2 ∧ c1.length = k * sz ∧ O w cs x b1 ∧ ib = i1 ++ (b1 ++ i2) ∧ ∀ w' cs' x' b1', (∀ b ∈ i1 ++ i2, w'.heap[b]? = w.heap[b]?) → O w' cs' x' b1' → Parts O w' (c1 ++ cs' ++ c2) (xs.set k x') (i1 ++ (b1' ++ i2))
  | [], _, _, _, _, _, h => by simp at h
  | y :: ys, _, _, 0, x, ⟨cs, rest, b1, b2, e1, hO, e2, hr⟩, h => by
    have : y = x := by simpa using h
    subst this
    subst e1 e2
    exact ⟨[], cs, rest, [], b1, b2, by simp, by simp, hO, by simp, fun w' cs' x' b1' hb hO' => ⟨cs', rest, b1', b2, by simp, hO', by simp, Parts.keep ok (fun b h => hb b (by simp [h])) hr⟩⟩
  | y :: ys, _, _, k + 1, x, ⟨cs, rest, b1, b2, e1, hO, e2, hr⟩, h => by
    subst e1 e2
    obtain ⟨c1, cs2, c2, i1, b3, i2, f1, f2, f3, f4, f5⟩ := Parts.split ok hr (by simpa using h)
    subst f1 f4
    refine ⟨cs ++ c1, cs2, c2, b1 ++ i1, b3, i2, by simp, by rw [List.length_append, ok.len hO, f2, Nat.add_mul]; omega, f3, by simp, fun w' cs' x' b1' hb hO' => ?_⟩
    refine ⟨cs, _, b1, _, by simp [List.append_assoc], ok.keep (fun b h => hb b (by simp [h])) hO, by simp [List.append_assoc], f5 w' cs' x' b1' (fun b h => hb b (by simp at h ⊢; rcases h with h | h <;> simp [h])) hO'⟩
theorem OwN.keep (ok : OwOk O sz) (h : OwN e O sz w lo v xs bs) (hk : ∀ b ∈ bs, w'.heap[b]? = w.heap[b]?) (hs : w.heap.size ≤ w'.heap.size) : OwN e O sz w' lo v xs bs := by
  obtain ⟨cells, ib, h1, h2, h3, h4, h5, h6⟩ := h
  refine ⟨cells, ib, ?_, h2.keep ok (fun b hb => hk b (h4 b hb)), h3, h4, h5, fun b hb => by have := h6 b hb; omega⟩
  refine ⟨h1.1, ?_⟩
  rcases h1.2 with h | ⟨g, cap, cur, hv, hg, hh, r⟩
  · exact .inl h
  · exact .inr ⟨g, cap, cur, hv, hg, (hk g (h5 g (by rw [hv]; rfl)).1).trans hh, r⟩
theorem OwN.hi (h : OwN e O sz w lo v xs bs) : ∀ b ∈ bs, b < w.heap.size := by obtain ⟨cells, ib, h1, h2, h3, h4, h5, h6⟩ := h; exact fun b hb => (h6 b hb).2
theorem OwN.lo_ (h : OwN e O sz w lo v xs bs) : ∀ b ∈ bs, lo ≤ b := by obtain ⟨cells, ib, h1, h2, h3, h4, h5, h6⟩ := h; exact fun b hb => (h6 b hb).1
theorem OwN.row (h : OwN e O sz w lo v xs bs) {b : Nat} (hb : v.ownBlock = some b) : b ∈ bs := by obtain ⟨cells, ib, h1, h2, h3, h4, h5, h6⟩ := h; exact (h5 b hb).1
theorem OwN.below (ok : OwOk O sz) (h : OwN e O sz w lo v xs bs) (hb : Below w.heap.size w w') : OwN e O sz w' lo v xs bs := h.keep ok (fun b hin => hb.block b (h.hi b hin)) hb.size
theorem OwN.only {b : Nat} (ok : OwOk O sz) (h : OwN e O sz w lo v xs bs) (ho : Only [b] w w') (hn : b ∉ bs) : OwN e O sz w' lo v xs bs := h.keep ok (fun k hk => ho.block k (by intro hin; simp at hin; subst hin; exact hn hk)) (Nat.le_of_eq ho.size.symm)
theorem OwN.grown {row : Option Nat} (ok : OwOk O sz) (h : OwN e O sz w lo v xs bs) (hg : w.grownBy w' row) (hn : Ap bs row.toList) : OwN e O sz w' lo v xs bs := h.keep ok (fun k hk => hg.block k (h.hi k hk) (fun e => hn k hk (by simp [← e]))) hg.size
theorem OwN.mono (h : OwN e O sz w lo v xs bs) (hl : lo' ≤ lo) : OwN e O sz w lo' v xs bs := by
  obtain ⟨cells, ib, h1, h2, h3, h4, h5, h6⟩ := h
  refine ⟨cells, ib, ?_, h2, h3, h4, h5, fun b hb => by have := h6 b hb; omega⟩
  refine ⟨h1.1, ?_⟩
  rcases h1.2 with h | ⟨g, cap, cur, hv, hg, r⟩
  · exact .inl h
  · exact .inr ⟨g, cap, cur, hv, by omega, r⟩
theorem OwN.nil : OwN e O sz w lo (.slice none 0 0) ([] : List α) [] := ⟨[], [], ⟨by simp, .inl ⟨rfl, rfl⟩⟩, ⟨rfl, rfl⟩, List.nodup_nil, fun b hb => by simp at hb, fun b hb => by simp [Value.ownBlock] at hb, fun b hb => by simp at hb⟩
theorem OwN.form (h : OwN e O sz w lo v xs bs) : ∃ A c, v = .slice A xs.length c := by
  obtain ⟨cells, ib, h1, _⟩ := h
  rcases h1.2 with ⟨rfl, h0⟩ | ⟨g, cap, cur, hv, _⟩
  · exact ⟨none, 0, by rw [h0]⟩
  · exact ⟨_, _, hv⟩
theorem OwN.bound (h : OwN e O sz w lo v xs bs) : xs.length ≤ 9223372036854775807 := by
  obtain ⟨cells, ib, h1, _⟩ := h
  rcases h1.2 with ⟨_, h0⟩ | ⟨g, cap, cur, hv, hg, hh, h1, h2, _⟩
  · omega
  · unfold maxLen at h2; omega
theorem OwN.addr0 {A : Option Addr} {n c : Nat} (h : OwN e O sz w lo (.slice A n c) xs bs) (hn : 0 < n) : ∃ b, A = some ⟨b, 0, none⟩ := by
  obtain ⟨cells, ib, h1, _⟩ := h
  rcases h1.2 with ⟨h0, _⟩ | ⟨g, cap, cur, hv, _⟩
  · injection h0 with h1 h2; omega
  · injection hv with h1; exact ⟨g, h1⟩
theorem OwN.own1 (ok : OwOk O sz) (h : OwN e O sz w lo v xs bs) : ∃ A n c l, v = .slice A n c ∧ OwAt O sz w A n xs l ∧ l.Nodup ∧ (∀ b ∈ l, b ∈ bs) ∧ n ≤ c ∧ c ≤ maxLen := by
  obtain ⟨cells, ib, h1, h2, h3, h4, h5, h6⟩ := h
  rcases h1.2 with ⟨rfl, h0⟩ | ⟨g, cap, cur, rfl, hg, hh, k1, k2, k3, k4⟩
  · have : xs = [] := List.eq_nil_of_length_eq_zero h0
    subst this
    exact ⟨none, 0, 0, [], rfl, ⟨rfl, .inl ⟨rfl, rfl⟩⟩, List.nodup_nil, fun b hb => by simp at hb, Nat.le_refl _, Nat.zero_le _⟩
  · obtain ⟨hg1, hg2⟩ := h5 g rfl
    refine ⟨some ⟨g, 0, none⟩, _, cap, g :: ib, rfl, ⟨rfl, .inr ⟨g, 0, ib, rfl, rfl, ?_⟩⟩, List.nodup_cons.2 ⟨hg2, h3⟩, fun b hb => by
      rcases List.mem_cons.1 hb with rfl | hb
      · exact hg1
      · exact h4 b hb, k1, k2⟩
    refine h2.elAt (e := e) ok (cur := cur) hh 0 (fun j u hj => ?_)
    rw [← k4, List.getElem?_take] at hj
    split at hj
    · simpa using hj
    · cases hj
theorem OwN.own (ok : OwOk O sz) (h : OwN e O sz w lo v xs bs) : OwS O sz w v xs lo w.heap.size := by
  obtain ⟨A, n, c, l, e1, h1, h2, h3, r⟩ := h.own1 ok
  exact ⟨A, n, c, l, e1, h1, h2, fun b hb => ⟨h.lo_ b (h3 b hb), h.hi b (h3 b hb)⟩, r⟩
theorem OwN.rdS (ok : OwOk O sz) (hR : Gives O R w.heap.size) (h : OwN e O sz w lo v xs bs) : RdS R sz w w.heap.size v xs := (h.own ok).reads hR (Nat.le_refl _)
theorem OwN.arg (ok : OwOk O sz) (hR : Gives O R w.heap.size) (h : OwN e O sz w lo v xs bs) : Sl R sz w v xs := h.rdS ok hR
theorem OwN.sl {A : Option Addr} {n c : Nat} (ok : OwOk O sz) (hR : Gives O R w.heap.size) (h : OwN e O sz w lo (.slice A n c) xs bs) : SlAt R sz w w.heap.size A n xs ∧ n ≤ c ∧ c ≤ maxLen := by
  obtain ⟨A', n', c', he, h1, h2⟩ := h.rdS ok hR
  injection he with e1 e2 e3
  subst e1 e2 e3
  exact ⟨h1, h2⟩
/-- An element's cells. -/
theorem OwN.rd {b n c k : Nat} (ok : OwOk O sz) (hR : Gives O R w.heap.size) (h : OwN e O sz w lo (.slice (some ⟨b, 0, none⟩) n c) xs bs) (hx : xs[k]? = some x) : ∃ cs, R w w.heap.size cs x ∧ ∀ j v, cs[j]? = some v → w.cell? ⟨b, 0 + k * sz + j, none⟩ = some v := (h.sl ok hR).1.el hx
theorem OwN.lit1 {g : Nat} {cells : Array Value} {b1 l : List Nat} (B : Blk w g e cells) (hg : lo ≤ g) (hO : O w cells.toList x b1) (ok : OwOk O sz) (nd : b1.Nodup) (hs : ∀ b ∈ b1, b ∈ l) (hl : ∀ b ∈ l, lo ≤ b ∧ b < g) : OwN e O sz w lo (.slice (some ⟨g, 0, none⟩) 1 1) [x] (g :: l) := by
  have hc : cells.size = 1 * sz := by rw [← Array.length_toList, ok.len hO]; omega
  have hgl := B.lt
  refine ⟨cells.toList, b1, ⟨by simpa using hc, .inr ⟨g, 1, cells, rfl, hg, B, Nat.le_refl _, by unfold maxLen; omega, hc, ?_⟩⟩, Parts.one hO, nd, fun b hb => by simp [hs b hb], fun b hb => ?_, fun b hb => ?_⟩
  · rw [List.take_of_length_le]; simp [hc]
  · simp [Value.ownBlock] at hb; subst hb
    exact ⟨by simp, fun h => by have := hl _ (hs _ h); omega⟩
  · rcases List.mem_cons.1 hb with rfl | hb
    · exact ⟨hg, hgl⟩
    · have := hl b hb; omega
theorem OwN.lit0 {g : Nat} {cells : Array Value} (B : Blk w g e cells) (hg : lo ≤ g) (hc : cells = #[]) : OwN e O sz w lo (.slice (some ⟨g, 0, none⟩) 0 0) ([] : List α) [g] := by
  subst hc
  have hgl := B.lt
  refine ⟨[], [], ⟨by simp, .inr ⟨g, 0, #[], rfl, hg, B, Nat.le_refl _, Nat.zero_le _, by simp, by simp⟩⟩, ⟨rfl, rfl⟩, List.nodup_nil, fun b hb => by simp at hb, fun b hb => ?_, fun b hb => ?_⟩
  · simp [Value.ownBlock] at hb; subst hb
    exact ⟨by simp, by simp⟩
  · simp at hb; subst hb; exact ⟨hg, hgl⟩
theorem nodup2 {l1 l2 m1 m2 : List Nat} (h1 : l1.Nodup) (h2 : l2.Nodup) (s1 : ∀ b ∈ l1, b ∈ m1) (s2 : ∀ b ∈ l2, b ∈ m2) (D : Ap m1 m2) : (l1 ++ l2).Nodup := List.nodup_append.2 ⟨h1, h2, fun a ha b hb e => by subst e; exact D a (s1 a ha) (s2 a hb)⟩
theorem sub2 {l1 l2 m1 m2 : List Nat} (s1 : ∀ b ∈ l1, b ∈ m1) (s2 : ∀ b ∈ l2, b ∈ m2) : ∀ b ∈ l1 ++ l2, b ∈ m1 ++ m2 := fun b hb => by
  rcases List.mem_append.1 hb with h | h
  · simp [s1 b h]
  · simp [s2 b h]
theorem all2 {p : Nat → Prop} {l1 l2 : List Nat} (s1 : ∀ b ∈ l1, p b) (s2 : ∀ b ∈ l2, p b) : ∀ b ∈ l1 ++ l2, p b := fun b hb => by
  rcases List.mem_append.1 hb with h | h
  · exact s1 b h
  · exact s2 b h
end
theorem setI_at {α : Type} {xs : List α} {i : Int} {k : Nat} {x : α} (hi : i = (k : Int)) (hk : k < xs.length) : (setI xs i x)[k]? = some x := by
  subst hi
  rw [setI_nat, List.getElem?_set_self hk]
theorem SlAt.nilOf {α : Type} {R : Rd α} {sz B n : Nat} {w : World} {A : Option Addr} {xs : List α} (h : SlAt R sz w B A n xs) (c : A.isNone = true) : xs = [] := by
  cases A with
  | some a => cases c
  | none =>
    rcases Nat.eq_zero_or_pos n with h0 | h0
    · exact List.eq_nil_of_length_eq_zero (by rw [← h.len]; exact h0)
    · obtain ⟨b, o, e, _⟩ := h.2 h0
      cases e
section
variable {P : Program} {C : World → Prop} {f : Nat → Value} {d : Option Tmp} {ty : TypeId} {pos : String} {af : Array Edge} {g : Option (Nat × Bool)} {x y : Operand} {t t' : TypeId} {A : Option Addr} {n c : Nat}
theorem Y.eqNil {e : TypeId} (hx : ev f x = .slice A n c) (hy : ev f y = .slice none 0 0) (ht : P.underlying t = some (.slice e)) : Y P C f ⟨d, .binOp .eql t x y t', ty, pos, af, g⟩ (.bool A.isNone) := fun w _ => by
  simp only [execOp, hx, hy, Sem.run_bind, eqGuard, Result.andThen_ok]
  simp [binOp, run_equal_slice_nil w t e A n c ht]
end
section
variable {α : Type} {R : Rd α} {O : Ow α} {enc : α → List Value} {sz : Nat} {w w' : World} {lo lo' : Nat} {v : Value} {xs ys : List α} {e : TypeId}
theorem OwF.own2 {A : Option Addr} {n c : Nat} (F : FlatT R O enc sz) (h : OwF e enc sz w lo (.slice A n c) xs) : ∃ l, OwAt O sz w A n xs l ∧ l.Nodup ∧ (∀ b ∈ l, b ∈ fb (.slice A n c)) ∧ n ≤ c ∧ c ≤ maxLen := by
  rcases h.2 with ⟨hv, h0⟩ | ⟨g, cap, cur, hv, hg, hh, h1, h2, h3, h4⟩
  · injection hv with e1 e2 e3
    subst e1 e2 e3
    have : xs = [] := List.eq_nil_of_length_eq_zero h0
    subst this
    exact ⟨[], ⟨rfl, .inl ⟨rfl, rfl⟩⟩, List.nodup_nil, fun b hb => by simp at hb, Nat.le_refl _, Nat.zero_le _⟩
  · injection hv with e1 e2 e3
    subst e1 e2 e3
    obtain ⟨A', n', c', l, he, hA, hn, hl, hc1, hc2⟩ := h.own F
    injection he with e1 e2 e3
    subst e1 e2 e3
    by_cases hx : xs = []
    · subst hx; exact ⟨[], ⟨rfl, .inl ⟨rfl, rfl⟩⟩, List.nodup_nil, fun b hb => by simp at hb, hc1, hc2⟩
    · rcases hA.2 with ⟨h5, _⟩ | ⟨b, o, b2, h5, h6, h7⟩
      · exact absurd h5 hx
      · injection h5 with h5
        injection h5 with h5
        subst h5
        have hflat : ∀ (l : List α) (o : Nat) (k : List Nat), ElAt O sz w g o l k → k = [] → True := fun _ _ _ _ _ => trivial
        refine ⟨[g], ⟨hA.1, .inr ⟨g, 0, [], rfl, rfl, ?_⟩⟩, by simp, fun b hb => by simpa [fb, Value.ownBlock] using hb, hc1, hc2⟩
        have hblk : Blk w g e cur := hh
        have key : ∀ (l : List α) (o : Nat), (∀ j u, (l.flatMap enc)[j]? = some u → cur[o + j]? = some u) → ElAt O sz w g o l [] := by
          intro l
          induction l with
          | nil => intro o _; rfl
          | cons x l ih =>
            intro o hl
            refine ⟨enc x, [], [], F.ow, hblk.csAt (fun j u hj => hl j u ?_), rfl, ih (o + sz) (fun j u hj => ?_)⟩
            · simp only [List.flatMap_cons]
              rw [List.getElem?_append_left (lt_of_some hj)]; exact hj
            · have := hl (sz + j) u (by
                simp only [List.flatMap_cons]
                rw [List.getElem?_append_right (by rw [F.len]; omega), F.len, show sz + j - sz = j by omega]; exact hj)
              rwa [show o + (sz + j) = o + sz + j by omega] at this
        refine key xs 0 (fun j u hj => ?_)
        rw [← h4, List.getElem?_take] at hj
        split at hj
        · simpa using hj
        · cases hj
theorem OwF.fhi (h : OwF e enc sz w lo v xs) : ∀ b ∈ fb v, b < w.heap.size := fun b hb => h.hi b (mem_fb.1 hb)
theorem OwF.flo (h : OwF e enc sz w lo v xs) : ∀ b ∈ fb v, lo ≤ b := fun b hb => h.lo_ b (mem_fb.1 hb)
theorem OwF.fboth (h : OwF e enc sz w lo v xs) {g : Nat} (hg : w.heap.size ≤ g) : ∀ b ∈ fb v, lo ≤ b ∧ b < g := fun b hb => ⟨h.flo b hb, Nat.lt_of_lt_of_le (h.fhi b hb) hg⟩
theorem one_hi {g : Nat} (h : g < w.heap.size) : ∀ b ∈ [g], b < w.heap.size := fun b hb => by simp at hb; subst hb; exact h
variable {O' : Ow α} {bs : List Nat} {u : Value}
/-- Another slice of the call's own, while the row of v grows or is written. -/
theorem OwN.dj (h : OwN e O' sz w lo v xs bs) (A : Ap bs (fb u)) : Dj u v := fun b h1 h2 => A b (h.row h2) (mem_fb.2 h1)
theorem OwN.neB {g : Nat} (h : OwN e O' sz w lo v xs bs) (A : Ap bs [g]) : v.ownBlock ≠ some g := fun h1 => A g (h.row h1) (by simp)
theorem OwN.apRow {bs2 : List Nat} (h : OwN e O' sz w lo v xs bs) (A : Ap bs bs2) : Ap bs2 (v.ownBlock.toList) := fun b h1 h2 => A b (h.row (by simpa using h2)) h1
theorem OwN.both (h : OwN e O' sz w lo v xs bs) {g : Nat} (hg : w.heap.size ≤ g) : ∀ b ∈ bs, lo ≤ b ∧ b < g := fun b hb => ⟨h.lo_ b hb, Nat.lt_of_lt_of_le (h.hi b hb) hg⟩
end
section
variable {P : Program} {ops : Array Oper} {f : Nat → Value} {rest : List Oper} {Q : (Nat → Value) → World → Prop} {w : World} {d : Option Tmp} {ty : TypeId} {pos : String} {af : Array Edge} {g : Option (Nat × Bool)} {x y : Operand} {t e : TypeId} {z : Value} {sz bb : Nat}
theorem RL.appendN {α : Type} {O : Ow α} {v vy : Value} {xs ys : List α} {lo : Nat} {bs bs2 : List Nat} (ok : OwOk O sz) (one : OneC O) (hp : 0 < sz) (A : AppT P t e z sz bb) (hg : wantF f ops ⟨d, .call ⟨.builtin .append, #[x, y], #[t, t]⟩, ty, pos, af, g⟩ = true)
    (hx : ev f x = v) (hy : ev f y = vy) (hv : OwN e O sz w lo v xs bs) (hr : OwN e O sz w lo vy ys bs2) (D : Ap bs bs2) (hlo : lo ≤ w.heap.size) (hk : xs.length + ys.length ≤ 4294967296)
    (h : ∀ v' w1 bs', OwN e O sz w1 lo v' (xs ++ ys) bs' → w.grownBy w1 v.ownBlock → Below lo w w1 → (∀ b ∈ bs', b ∈ bs ∨ b ∈ bs2 ∨ w.heap.size ≤ b) → RL P ops Q rest (upo f d v') w1) : RL P ops Q (⟨d, .call ⟨.builtin .append, #[x, y], #[t, t]⟩, ty, pos, af, g⟩ :: rest) f w := by
  have hrun : ∀ v' w1, (Builtin.append_ #[t, t] ty #[v, vy]).run P w = .ok v' w1 → (execOp (ev f) ⟨d, .call ⟨.builtin .append, #[x, y], #[t, t]⟩, ty, pos, af, g⟩).run P w = .ok (.value v') w1 := fun v' w1 h0 => by
    simp [execOp, resolve, invoke, builtin, hx, hy, h0]
  have hv0 := hv
  obtain ⟨cells, ib, h1, h2, h3, h4, h5, h6⟩ := hv
  obtain ⟨cells2, ib2, k1, k2, k3, k4, k5, k6⟩ := hr
  have hdis : (ib ++ ib2).Nodup := List.nodup_append.2 ⟨h3, k3, fun a ha b hb e => by subst e; exact D a (h4 a ha) (k4 a hb)⟩
  rcases k1.2 with ⟨rfl, h0⟩ | ⟨g2, cap2, cur2, rfl, hg2, hh2, m1, m2, m3, m4⟩
  · have : ys = [] := List.eq_nil_of_length_eq_zero h0
    subst this
    refine .inl ⟨hg, ?_⟩
    rw [hrun v w (append_none A h1 ty)]
    exact h v w bs (by simpa using hv0) ⟨rfl, rfl, rfl, Nat.le_refl _, fun _ _ _ => rfl⟩ (Below.refl _ _) (fun b hb => .inl hb)
  · have hblk : Blk w g2 e cur2 := hh2
    have hcells : ∀ j u, cells2[j]? = some u → w.cell? ((⟨g2, 0, none⟩ : Addr).add j) = some u := fun j u hj => by
      rw [Addr.add_eq, Nat.zero_add, hblk.cell]
      rw [← m4, List.getElem?_take] at hj
      split at hj
      · simpa using hj
      · cases hj
    obtain ⟨v', w1, r1, r2, r3, r4⟩ := append_own2 A hp h1 hlo ⟨g2, 0, none⟩ ys.length cap2 cells2 (k2.len ok) hcells (k2.one_ one) hk ty
    refine .inl ⟨hg, ?_⟩
    rw [hrun v' w1 r1]
    have hkeep : ∀ b ∈ ib ++ ib2, b < w.heap.size ∧ some b ≠ v.ownBlock := fun b hb => by
      rcases List.mem_append.1 hb with hb | hb
      · exact ⟨(h6 b (h4 b hb)).2, fun e => (h5 b e.symm).2 hb⟩
      · exact ⟨(k6 b (k4 b hb)).2, fun e => D b (h5 b e.symm).1 (k4 b hb)⟩
    refine h v' w1 (fb v' ++ (ib ++ ib2)) ⟨cells ++ cells2, ib ++ ib2, ?_, ?_, hdis, fun b hb => by simp at hb ⊢; exact .inr hb, fun b hb => ⟨by simp [mem_fb.2 hb], fun hin => ?_⟩, fun b hb => ?_⟩ r3 ?_ ?_
    · rw [List.length_append]; exact r2
    · exact (h2.keep ok (fun b hb => r3.block b (hkeep b (by simp [hb])).1 (hkeep b (by simp [hb])).2)).append (k2.keep ok (fun b hb => r3.block b (hkeep b (by simp [hb])).1 (hkeep b (by simp [hb])).2))
    · rcases r4 b hb with h7 | h7
      · exact (hkeep b hin).2 h7.symm
      · have := (hkeep b hin).1; omega
    · rcases List.mem_append.1 hb with h7 | h7
      · exact ⟨(r2.lt b (mem_fb.1 h7)).1, (r2.lt b (mem_fb.1 h7)).2⟩
      · have h8 := (hkeep b h7).1
        have := r3.size
        rcases List.mem_append.1 h7 with h7 | h7
        · exact ⟨(h6 b (h4 b h7)).1, by omega⟩
        · exact ⟨(k6 b (k4 b h7)).1, by omega⟩
    · exact (Below.refl lo w).grown r3 hlo (fun b hb => (h6 b (h5 b hb).1).1)
    · intro b hb
      rcases List.mem_append.1 hb with h7 | h7
      · rcases r4 b (mem_fb.1 h7) with h8 | h8
        · exact .inl (h5 b h8).1
        · exact .inr (.inr h8)
      · rcases List.mem_append.1 h7 with h7 | h7
        · exact .inl (h4 b h7)
        · exact .inr (.inl (k4 b h7))
/-- A store of one cell of an element of plain cells. -/
theorem RL.storeFj {α : Type} {R : Rd α} {O : Ow α} {enc : α → List Value} {v : Value} {xs : List α} {lo k n c b j : Nat} {a a' : α} (F : FlatT R O enc sz) (hg : wantF f ops ⟨d, .store t x y, ty, pos, af, g⟩ = true) (hx : ev f x = .pointer (some ⟨b, 0 + k * sz + j, none⟩)) (hy : ev f y = v)
    (hv : OwF e enc sz w lo (.slice (some ⟨b, 0, none⟩) n c) xs) (hk : xs[k]? = some a) (hj : j < sz) (he : (enc a).set j v = enc a') (h1 : v.oneCell' = true) (hc : v.cells = #[v]) (hs : (P.info? t).map (·.size) = some 1)
    (h : ∀ w1, OwF e enc sz w1 lo (.slice (some ⟨b, 0, none⟩) n c) (xs.set k a') → Only [b] w w1 → RL P ops Q rest (upo f d undef) w1) : RL P ops Q (⟨d, .store t x y, ty, pos, af, g⟩ :: rest) f w := by
  refine .inl ⟨hg, ?_⟩
  cases hi : P.info? t with
  | none => rw [hi] at hs; cases hs
  | some inf =>
    rw [hi] at hs
    simp only [Option.map_some, Option.some.injEq] at hs
    obtain ⟨hl, hv2⟩ := hv
    rcases hv2 with ⟨h0, _⟩ | ⟨b', cap, cur, hv, hlo, hh, h1', h2, h3, h4⟩
    · cases h0
    · injection hv with e1 e2 e3
      injection e1 with e1
      injection e1 with e1
      subst e1 e2 e3
      have hkl := lt_of_some hk
      have hkc : k * sz + sz ≤ xs.length * sz := by
        have := Nat.mul_le_mul_right sz (show k + 1 ≤ xs.length from hkl)
        rw [Nat.add_mul] at this; omega
      have hcc : xs.length * sz ≤ cur.size := by rw [h3]; exact Nat.mul_le_mul_right _ h1'
      have hst := run_storeCells_at (P := P) b (k * sz + j) e [v] 0 cur w hh (by simp; omega) (fun u hu => by simp at hu; subst hu; exact h1)
      have hr : (execOp (ev f) ⟨d, .store t x y, ty, pos, af, g⟩).run P w = .ok .skip (w.setRow b (cur.toList.take (k * sz + j) ++ [v] ++ cur.toList.drop (k * sz + j + 1)).toArray) := by
        simp only [Nat.add_zero] at hst
        simp [execOp, hx, hy, Instr.storeAt, Instr.sureAddr, storeVar, sizeOf, typeInfo, hi, hc, hs, hst]
      rw [hr]
      refine h _ ⟨?_, .inr ⟨b, c, _, by rw [List.length_set], hlo, setRow_heap w b cur _ e _ hh, by rw [List.length_set]; exact h1', h2, ?_, ?_⟩⟩ (setRow_only _ _ _)
      · rw [F.flen]
      · simp only [List.size_toArray, List.length_append, List.length_take, List.length_drop, Array.length_toList, List.length_cons, List.length_nil]
        rw [← h3]; omega
      · rw [F.fset hkl, List.length_set, ← h4, ← he]
        have hsp := splice_take (A := cur.toList) (E := [v]) (p := k * sz + j) (L := xs.length * sz) (by simp; omega) (by simpa using hcc)
        simp only [List.length_cons, List.length_nil, Nat.zero_add] at hsp
        show List.take (xs.length * sz) (cur.toList.take (k * sz + j) ++ [v] ++ cur.toList.drop (k * sz + j + 1)) = _
        rw [hsp]
        have hel : (enc a).length = sz := F.len a
        -- the element's cells
        have hget : ((cur.toList.take (xs.length * sz)).drop (k * sz)).take sz = enc a := by
          rw [h4]
          apply List.ext_getElem?
          intro i
          rw [List.getElem?_take]
          split
          · rename_i hi
            rw [List.getElem?_drop]
            have hu := List.getElem?_eq_getElem (show i < (enc a).length by omega)
            rw [hu]
            exact F.fget hk hu
          · rw [List.getElem?_eq_none (by omega)]
        have hL : (cur.toList.take (xs.length * sz)).length = xs.length * sz := by rw [List.length_take]; simp; omega
        generalize cur.toList.take (xs.length * sz) = M at *
        have e7 : M.take (k * sz + j) = M.take (k * sz) ++ (enc a).take j := by
          rw [← hget, List.take_take, Nat.min_eq_left (by omega), List.take_add]
        have e8 : M.drop (k * sz + j + 1) = (enc a).drop (j + 1) ++ M.drop (k * sz + sz) := by
          rw [← hget, List.drop_take]
          have e9 : M.drop (k * sz + j + 1) = (M.drop (k * sz)).drop (j + 1) := by rw [List.drop_drop, Nat.add_assoc]
          have e10 : M.drop (k * sz + sz) = ((M.drop (k * sz)).drop (j + 1)).drop (sz - (j + 1)) := by rw [List.drop_drop, List.drop_drop]; congr 1; omega
          rw [e9, e10, List.take_append_drop]
        rw [e7, e8, List.set_eq_take_append_cons_drop, if_pos (by omega)]
        simp [List.append_assoc]
end
end
section
open Go.RowKit
set_option linter.unusedVariables false
set_option linter.unusedSimpArgs false
set_option maxRecDepth 100000
def m_spec_l00Own (d0 : List Int) : Option (List Int) :=
  ((mustP (([] : List Int).length + d0.length ≤ 4294967296)).bind fun _ => some (([] : List Int) ++ d0))
set_option maxHeartbeats 2000000 in
theorem c_m_spec_l00Own (d0 : List Int) (r : List Int) (hm : m_spec_l00Own d0 = some r) (v0 : Value) (w : World) (hv0 : Sl intRd 1 w v0 d0) :
    Calls Tryz.prog 36 #[v0] w fun e w' => (∃ (v0 : Value), e = .returned (v0) ∧ OwF 2 encI 1 w' w.heap.size v0 r) ∧ Below w.heap.size w w' := by
  obtain ⟨Aa0, na0, ca0, rfl, ha0, ra0⟩ := hv0
  have ea0 := ha0.len; subst ea0
  have qa0 := len_le ra0
  have T := Below.refl w.heap.size w
  unfold m_spec_l00Own at hm
  refine enter 6 Tryz.func36 rfl rfl rfl ?_
  intro f hf
  have s0 : f 0 = .slice Aa0 d0.length ca0 := hf 0 _ rfl
  refine wp_seq ?_
  refine wp_rs rfl ?_
  refine RQ.y rfl (Y.assign (v := .slice none 0 0) rfl) ?_
  refine RQ.nil ?_
  refine then_n ?_
  refine wp_seq ?_
  refine wp_rl rfl ?_
  refine RL.bslice (e := 2) (cells := #[]) rfl pm0 (by kernel_rfl) (fun w1 B2 hb3 szw1 => ?_)
  have ZB2 : w.heap.size ≤ w.heap.size := T.size
  have T := Tt T hb3
  have G5 := OwF.lit (enc := encI) (sz := 1) (xs := ([] : List Int)) B2 ZB2 rfl rfl rfl rfl
  refine RL.y rfl (Y.move (v := .slice Aa0 d0.length ca0) s0) ?_
  obtain ⟨_, m7, hm⟩ := bnd hm
  have hk8 := mustP_some m7
  refine RL.append fI app_int64 rfl rfl rfl G5 (slArg intRd_ok ha0 ra0 T) T.size hk8 (fun v9 w10 G11 hgr12 hbl13 hnb14 => ?_)
  have szw10 := hbl13.size
  have T := T.trans hbl13
  refine RL.y rfl (Y.assign (v := v9) rfl) ?_
  refine RL.nil ?_
  refine then_n ?_
  refine wp_ret ?_
  obtain rfl := Option.some.inj hm
  exact (ret1 rfl rfl rfl ⟨⟨_, rfl, G11⟩, T⟩)
def m_spec_l11OwnAgent (d0 : DAgent) : Option DAgent :=
  ((m_spec_l00Own d0.data).bind fun y9 => ((mustP (([] : List DPort).length + d0.ports.length ≤ 4294967296)).bind fun _ => some (⟨d0.kind, d0.level, d0.value, y9, (([] : List DPort) ++ d0.ports)⟩ : DAgent)))
set_option maxHeartbeats 2000000 in
theorem c_m_spec_l11OwnAgent (d0 : DAgent) (r : DAgent) (hm : m_spec_l11OwnAgent d0 = some r) (v0 : Value) (w : World) (hv0 : Pt agentRd w v0 d0) :
    Calls Tryz.prog 82 #[v0] w fun e w' => (∃ (v0 : Value) (v1 : Value), e = .returned (.agg #[.int .i64 r.kind, .int .i64 r.level, .int .i64 r.value, v0, v1]) ∧ OwF 2 encI 1 w' w.heap.size v0 r.data ∧ OwF 65 encPort 2 w' w.heap.size v1 r.ports ∧ Dj v0 v1) ∧ Below w.heap.size w w' := by
  obtain ⟨ba0, oa0, csa0, rfl, hba0, hRa0, hca0⟩ := hv0
  have hSa0 := hRa0
  obtain ⟨A1, n1, c1, A2, n2, c2, rfl, ⟨h1, r1⟩, ⟨h2, r2⟩⟩ := hRa0
  have e1 := h1.len; subst e1
  have q1 := len_le r1
  have e2 := h2.len; subst e2
  have q2 := len_le r2
  have T := Below.refl w.heap.size w
  unfold m_spec_l11OwnAgent at hm
  refine enter 27 Tryz.func82 rfl rfl rfl ?_
  intro f hf
  have s0 : f 0 = .pointer (some ⟨ba0, oa0, none⟩) := hf 0 _ rfl
  refine wp_seq ?_
  refine wp_rl rfl ?_
  refine RL.alloc (z := .agg #[.int .i64 0, .int .i64 0, .int .i64 0, .slice none 0 0, .slice none 0 0]) rfl (by kernel_rfl) (fun w3 B4 hb5 szw3 => ?_)
  replace B4 : Blk w3 w.heap.size 63 #[.int .i64 0, .int .i64 0, .int .i64 0, .slice none 0 0, .slice none 0 0] := B4
  have GB4 : w.heap.size ≤ w.heap.size := T.size
  have T := Tt T hb5
  refine RL.nil ?_
  refine then_n ?_
  refine wp_seq ?_
  refine wp_rgt (fun w' => Below w.heap.size w w') (.q 0 (.q 1 (.q 2 (.q 3 (.q 4 (.q 5 (.q 6 (.q 7 (.q 8 (.q 9 (.q 10 (.q 11 (.q 12 (.q 13 (.q 14 (.q 15 (.q 18 (.q 19 (.q 20 (.q 21 (.two 16 (.a 17 (.a 22 (.q 23 (.a 24 .nil)))) 17 (.a 16 (.a 22 (.q 23 (.a 24 .nil))))))))))))))))))))))))) (by kernel_rfl) (by kernel_rfl) (fun w7 hb8 szw7 => ?_)
  have B4 := blkT B4 hb8
  have T := Tt T hb8
  refine ⟨T, ?_⟩
  refine RT.y rfl rfl (Y.move (v := .pointer (some ⟨ba0, oa0, none⟩)) s0) ?_
  refine RT.y rfl rfl (Y.nilCheck rfl) ?_
  refine RT.y rfl rfl (Y.fieldAddr (off := 0) rfl (by kernel_rfl)) ?_
  refine RT.y rfl rfl (Y.load (v := .int .i64 d0.kind) rfl (by kernel_rfl) (fun w' hS => (cellT hS (hca0 0 _ rfl)))) ?_
  refine RT.y rfl rfl (Y.move (v := .pointer (some ⟨ba0, oa0, none⟩)) s0) ?_
  refine RT.y rfl rfl (Y.nilCheck rfl) ?_
  refine RT.y rfl rfl (Y.fieldAddr (off := 1) rfl (by kernel_rfl)) ?_
  refine RT.y rfl rfl (Y.load (v := .int .i64 d0.level) rfl (by kernel_rfl) (fun w' hS => (cellT hS (hca0 1 _ rfl)))) ?_
  refine RT.y rfl rfl (Y.move (v := .pointer (some ⟨ba0, oa0, none⟩)) s0) ?_
  refine RT.y rfl rfl (Y.nilCheck rfl) ?_
  refine RT.y rfl rfl (Y.fieldAddr (off := 2) rfl (by kernel_rfl)) ?_
  refine RT.y rfl rfl (Y.load (v := .int .i64 d0.value) rfl (by kernel_rfl) (fun w' hS => (cellT hS (hca0 2 _ rfl)))) ?_
  refine RT.y rfl rfl (Y.move (v := .pointer (some ⟨ba0, oa0, none⟩)) s0) ?_
  refine RT.y rfl rfl (Y.nilCheck rfl) ?_
  refine RT.y rfl rfl (Y.fieldAddr (off := 3) rfl (by kernel_rfl)) ?_
  refine RT.y rfl rfl (Y.load (v := .slice A1 d0.data.length c1) rfl (by kernel_rfl) (fun w' hS => (cellT hS (hca0 3 _ rfl)))) ?_
  refine RT.y rfl rfl (Y.move (v := .pointer (some ⟨ba0, oa0, none⟩)) s0) ?_
  refine RT.y rfl rfl (Y.nilCheck rfl) ?_
  refine RT.y rfl rfl (Y.fieldAddr (off := 4) rfl (by kernel_rfl)) ?_
  refine RT.y rfl rfl (Y.load (v := .slice A2 d0.ports.length c2) rfl (by kernel_rfl) (fun w' hS => (cellT hS (hca0 4 _ rfl)))) ?_
  refine RT.both rfl rfl ?_ ?_
  · obtain ⟨y9, e10, hm⟩ := bnd hm
    refine RL.call rfl (am1 rfl) (by kernel_rfl) ((c_m_spec_l00Own d0.data _ e10 _ _ (slArg intRd_ok h1 r1 T)).mono ?_)
    rintro _ w14 ⟨⟨v11, rfl, G12⟩, hb15⟩
    refine ⟨_, rfl, ?_⟩
    have szw14 := hb15.size
    have T0w14 := T.size
    have Zo13_ob6 := ap_ne (Ap.new (OwF.flo G12) (one_hi B4.lt))
    have B4 := blkT B4 hb15
    have T := Tt T hb15
    replace G12 := OwF.mono G12 T0w14
    refine RL.nil ⟨T, ?_⟩
    refine RT.act rfl ?_
    refine RL.bslice (e := 65) (cells := #[]) rfl pm0 (by kernel_rfl) (fun w16 B17 hb18 szw16 => ?_)
    have ZB17 : w.heap.size ≤ w14.heap.size := T.size
    have No19_ob6 := litNe (n := 0) (c := 0) B4.lt
    have Do19_o13 := Dj.new (v := .slice (some ⟨w14.heap.size, 0, none⟩) 0 0) litGe (OwF.hi G12)
    have B4 := blkT B4 hb18
    have G12 := OwF.below G12 hb18
    have T := Tt T hb18
    have G20 := OwF.lit (enc := encPort) (sz := 2) (xs := ([] : List DPort)) B17 ZB17 rfl rfl rfl rfl
    refine RL.nil ⟨T, ?_⟩
    refine RT.act rfl ?_
    obtain ⟨_, m22, hm⟩ := bnd hm
    have hk23 := mustP_some m22
    refine RL.append fPort app_impl_Port rfl rfl rfl G20 (slArg portRd_ok h2 r2 T) T.size hk23 (fun v24 w25 G26 hgr27 hbl28 hnb29 => ?_)
    have szw25 := hbl28.size
    have No30_ob6 := ne_app hnb29 No19_ob6 B4.lt
    have Do30_o13 := Dj.app Do19_o13 hnb29 (OwF.hi G12)
    have B4 := Blk.kept B4 hgr27 No19_ob6
    have G12 := OwF.keptD G12 hgr27 (Dj.symm Do19_o13)
    have T := T.trans hbl28
    refine RL.nil ⟨T, ?_⟩
    obtain ⟨A31, c32, rfl⟩ := OwF.form G12
    have qbA31 := OwF.bound G12
    obtain ⟨A33, c34, rfl⟩ := OwF.form G26
    have qbA33 := OwF.bound G26
    refine RT.y rfl rfl (Y.build5 (cells := #[.int .i64 d0.kind, .int .i64 d0.level, .int .i64 d0.value, .slice A31 y9.length c32, .slice A33 ((([] : List DPort) ++ d0.ports).length) c34]) rfl rfl rfl rfl rfl (by kernel_rfl) (by kernel_rfl)) ?_
    refine RT.act rfl ?_
    refine RL.store (v := .agg #[.int .i64 d0.kind, .int .i64 d0.level, .int .i64 d0.value, .slice A31 y9.length c32, .slice A33 ((([] : List DPort) ++ d0.ports).length) c34]) (cs' := #[.int .i64 d0.kind, .int .i64 d0.level, .int .i64 d0.value, .slice A31 y9.length c32, .slice A33 ((([] : List DPort) ++ d0.ports).length) c34]) rfl rfl rfl B4 (by kernel_rfl) (by rfl) (by rfl) (by rfl) (fun w35 B36 ho37 => ?_)
    have szw35 := ho37.size
    have G12 := OwF.only G12 ho37 Zo13_ob6
    have G26 := OwF.only G26 ho37 No30_ob6
    have T := T.trans (ho37.below (by first | (simp; done) | (simp; omega)))
    refine RL.nil ⟨T, ?_⟩
    refine RT.nil_ ?_
    refine then_n ?_
    refine wp_ret ?_
    obtain rfl := Option.some.inj hm
    exact (retc (cs := [.int .i64 d0.kind, .int .i64 d0.level, .int .i64 d0.value, .slice A31 y9.length c32, .slice A33 ((([] : List DPort) ++ d0.ports).length) c34]) rfl rfl rfl (by kernel_rfl) (blkCells B36) ⟨⟨_, _, rfl, G12, G26, (Ap.dj (Ap.symm (Dj.ap Do30_o13)))⟩, T⟩)
  · refine RL.bslice (e := 65) (cells := #[]) rfl pm0 (by kernel_rfl) (fun w38 B39 hb40 szw38 => ?_)
    have ZB39 : w.heap.size ≤ w7.heap.size := T.size
    have No41_ob6 := litNe (n := 0) (c := 0) B4.lt
    have B4 := blkT B4 hb40
    have T := Tt T hb40
    have G42 := OwF.lit (enc := encPort) (sz := 2) (xs := ([] : List DPort)) B39 ZB39 rfl rfl rfl rfl
    refine RL.nil ⟨T, ?_⟩
    refine RT.act rfl ?_
    obtain ⟨y44, e45, hm⟩ := bnd hm
    refine RL.call rfl (am1 rfl) (by kernel_rfl) ((c_m_spec_l00Own d0.data _ e45 _ _ (slArg intRd_ok h1 r1 T)).mono ?_)
    rintro _ w49 ⟨⟨v46, rfl, G47⟩, hb50⟩
    refine ⟨_, rfl, ?_⟩
    have szw49 := hb50.size
    have T0w49 := T.size
    have Zo48_ob6 := ap_ne (Ap.new (OwF.flo G47) (one_hi B4.lt))
    have Zo48_o41 := Ap.dj (Ap.new (OwF.flo G47) (OwF.fhi G42))
    have B4 := blkT B4 hb50
    have G42 := OwF.below G42 hb50
    have T := Tt T hb50
    replace G47 := OwF.mono G47 T0w49
    refine RL.nil ⟨T, ?_⟩
    refine RT.act rfl ?_
    obtain ⟨_, m51, hm⟩ := bnd hm
    have hk52 := mustP_some m51
    refine RL.append fPort app_impl_Port rfl rfl rfl G42 (slArg portRd_ok h2 r2 T) T.size hk52 (fun v53 w54 G55 hgr56 hbl57 hnb58 => ?_)
    have szw54 := hbl57.size
    have No59_ob6 := ne_app hnb58 No41_ob6 B4.lt
    have Do59_o48 := Dj.app (Dj.symm Zo48_o41) hnb58 (OwF.hi G47)
    have B4 := Blk.kept B4 hgr56 No41_ob6
    have G47 := OwF.keptD G47 hgr56 Zo48_o41
    have T := T.trans hbl57
    refine RL.nil ⟨T, ?_⟩
    obtain ⟨A60, c61, rfl⟩ := OwF.form G47
    have qbA60 := OwF.bound G47
    obtain ⟨A62, c63, rfl⟩ := OwF.form G55
    have qbA62 := OwF.bound G55
    refine RT.y rfl rfl (Y.build5 (cells := #[.int .i64 d0.kind, .int .i64 d0.level, .int .i64 d0.value, .slice A60 y44.length c61, .slice A62 ((([] : List DPort) ++ d0.ports).length) c63]) rfl rfl rfl rfl rfl (by kernel_rfl) (by kernel_rfl)) ?_
    refine RT.act rfl ?_
    refine RL.store (v := .agg #[.int .i64 d0.kind, .int .i64 d0.level, .int .i64 d0.value, .slice A60 y44.length c61, .slice A62 ((([] : List DPort) ++ d0.ports).length) c63]) (cs' := #[.int .i64 d0.kind, .int .i64 d0.level, .int .i64 d0.value, .slice A60 y44.length c61, .slice A62 ((([] : List DPort) ++ d0.ports).length) c63]) rfl rfl rfl B4 (by kernel_rfl) (by rfl) (by rfl) (by rfl) (fun w64 B65 ho66 => ?_)
    have szw64 := ho66.size
    have G47 := OwF.only G47 ho66 Zo48_ob6
    have G55 := OwF.only G55 ho66 No59_ob6
    have T := T.trans (ho66.below (by first | (simp; done) | (simp; omega)))
    refine RL.nil ⟨T, ?_⟩
    refine RT.nil_ ?_
    refine then_n ?_
    refine wp_ret ?_
    obtain rfl := Option.some.inj hm
    exact (retc (cs := [.int .i64 d0.kind, .int .i64 d0.level, .int .i64 d0.value, .slice A60 y44.length c61, .slice A62 ((([] : List DPort) ++ d0.ports).length) c63]) rfl rfl rfl (by kernel_rfl) (blkCells B65) ⟨⟨_, _, rfl, G47, G55, (Ap.dj (Ap.symm (Dj.ap Do59_o48)))⟩, T⟩)
def m_slices_Clone_int64_int64 (d0 : List Int) : Option (List Int) :=
  ((mustP (([] : List Int).length + d0.length ≤ 4294967296)).bind fun _ => some (([] : List Int) ++ d0))
set_option maxHeartbeats 2000000 in
theorem c_m_slices_Clone_int64_int64 (d0 : List Int) (r : List Int) (hm : m_slices_Clone_int64_int64 d0 = some r) (v0 : Value) (w : World) (hv0 : Sl intRd 1 w v0 d0) :
    Calls Tryz.prog 112 #[v0] w fun e w' => (∃ (v0 : Value), e = .returned (v0) ∧ OwF 2 encI 1 w' w.heap.size v0 r) ∧ Below w.heap.size w w' := by
  obtain ⟨Aa0, na0, ca0, rfl, ha0, ra0⟩ := hv0
  have ea0 := ha0.len; subst ea0
  have qa0 := len_le ra0
  have T := Below.refl w.heap.size w
  unfold m_slices_Clone_int64_int64 at hm
  refine enter 8 Tryz.func112 rfl rfl rfl ?_
  intro f hf
  have s0 : f 0 = .slice Aa0 d0.length ca0 := hf 0 _ rfl
  refine wp_seq ?_
  refine wp_rs rfl ?_
  refine RQ.y rfl (Y.assign (v := .slice none 0 0) rfl) ?_
  refine RQ.nil ?_
  refine then_n ?_
  refine wp_seq ?_
  refine wp_seq ?_
  refine wp_rs rfl ?_
  refine RQ.y rfl (Y.move (v := .slice Aa0 d0.length ca0) s0) ?_
  refine RQ.y rfl (Y.eqNil (e := 2) rfl rfl (by kernel_rfl)) ?_
  refine RQ.nil ?_
  refine then_n ?_
  rcases bcases Aa0.isNone with c1 | c1
  · refine cond_f rfl (vb rfl c1) ?_
    refine wp_skip ?_
    refine then_n ?_
    refine wp_seq ?_
    refine wp_rl rfl ?_
    refine RL.bslice (e := 2) (cells := #[]) rfl pm0 (by kernel_rfl) (fun w2 B3 hb4 szw2 => ?_)
    have ZB3 : w.heap.size ≤ w.heap.size := T.size
    have T := Tt T hb4
    have G6 := OwF.lit (enc := encI) (sz := 1) (xs := ([] : List Int)) B3 ZB3 rfl rfl rfl rfl
    refine RL.y rfl (Y.move (v := .slice Aa0 d0.length ca0) s0) ?_
    obtain ⟨_, m8, hm⟩ := bnd hm
    have hk9 := mustP_some m8
    refine RL.append fI app_int64 rfl rfl rfl G6 (slArg intRd_ok ha0 ra0 T) T.size hk9 (fun v10 w11 G12 hgr13 hbl14 hnb15 => ?_)
    have szw11 := hbl14.size
    have T := T.trans hbl14
    refine RL.y rfl (Y.assign (v := v10) rfl) ?_
    refine RL.nil ?_
    refine then_n ?_
    refine wp_ret ?_
    obtain rfl := Option.some.inj hm
    exact (ret1 rfl rfl rfl ⟨⟨_, rfl, G12⟩, T⟩)
  · have hd17 := SlAt.nilOf ha0 c1
    replace hm : some ([]) = some r := by rw [hd17] at hm; simpa [mustP] using hm
    refine cond_t rfl (vb rfl c1) ?_
    refine wp_seq ?_
    refine wp_rs rfl ?_
    refine RQ.y rfl (Y.assign (v := .slice none 0 0) rfl) ?_
    refine RQ.nil ?_
    refine then_n ?_
    refine wp_ret ?_
    obtain rfl := Option.some.inj hm
    exact (then_r (ret1 rfl rfl rfl ⟨⟨_, rfl, OwF.nil⟩, T⟩))
def m_slices_Clone_impl_Port_impl_Port (d0 : List DPort) : Option (List DPort) :=
  ((mustP (([] : List DPort).length + d0.length ≤ 4294967296)).bind fun _ => some (([] : List DPort) ++ d0))
set_option maxHeartbeats 2000000 in
theorem c_m_slices_Clone_impl_Port_impl_Port (d0 : List DPort) (r : List DPort) (hm : m_slices_Clone_impl_Port_impl_Port d0 = some r) (v0 : Value) (w : World) (hv0 : Sl portRd 2 w v0 d0) :
    Calls Tryz.prog 113 #[v0] w fun e w' => (∃ (v0 : Value), e = .returned (v0) ∧ OwF 65 encPort 2 w' w.heap.size v0 r) ∧ Below w.heap.size w w' := by
  obtain ⟨Aa0, na0, ca0, rfl, ha0, ra0⟩ := hv0
  have ea0 := ha0.len; subst ea0
  have qa0 := len_le ra0
  have T := Below.refl w.heap.size w
  unfold m_slices_Clone_impl_Port_impl_Port at hm
  refine enter 8 Tryz.func113 rfl rfl rfl ?_
  intro f hf
  have s0 : f 0 = .slice Aa0 d0.length ca0 := hf 0 _ rfl
  refine wp_seq ?_
  refine wp_rs rfl ?_
  refine RQ.y rfl (Y.assign (v := .slice none 0 0) rfl) ?_
  refine RQ.nil ?_
  refine then_n ?_
  refine wp_seq ?_
  refine wp_seq ?_
  refine wp_rs rfl ?_
  refine RQ.y rfl (Y.move (v := .slice Aa0 d0.length ca0) s0) ?_
  refine RQ.y rfl (Y.eqNil (e := 65) rfl rfl (by kernel_rfl)) ?_
  refine RQ.nil ?_
  refine then_n ?_
  rcases bcases Aa0.isNone with c1 | c1
  · refine cond_f rfl (vb rfl c1) ?_
    refine wp_skip ?_
    refine then_n ?_
    refine wp_seq ?_
    refine wp_rl rfl ?_
    refine RL.bslice (e := 65) (cells := #[]) rfl pm0 (by kernel_rfl) (fun w2 B3 hb4 szw2 => ?_)
    have ZB3 : w.heap.size ≤ w.heap.size := T.size
    have T := Tt T hb4
    have G6 := OwF.lit (enc := encPort) (sz := 2) (xs := ([] : List DPort)) B3 ZB3 rfl rfl rfl rfl
    refine RL.y rfl (Y.move (v := .slice Aa0 d0.length ca0) s0) ?_
    obtain ⟨_, m8, hm⟩ := bnd hm
    have hk9 := mustP_some m8
    refine RL.append fPort app_impl_Port rfl rfl rfl G6 (slArg portRd_ok ha0 ra0 T) T.size hk9 (fun v10 w11 G12 hgr13 hbl14 hnb15 => ?_)
    have szw11 := hbl14.size
    have T := T.trans hbl14
    refine RL.y rfl (Y.assign (v := v10) rfl) ?_
    refine RL.nil ?_
    refine then_n ?_
    refine wp_ret ?_
    obtain rfl := Option.some.inj hm
    exact (ret1 rfl rfl rfl ⟨⟨_, rfl, G12⟩, T⟩)
  · have hd17 := SlAt.nilOf ha0 c1
    replace hm : some ([]) = some r := by rw [hd17] at hm; simpa [mustP] using hm
    refine cond_t rfl (vb rfl c1) ?_
    refine wp_seq ?_
    refine wp_rs rfl ?_
    refine RQ.y rfl (Y.assign (v := .slice none 0 0) rfl) ?_
    refine RQ.nil ?_
    refine then_n ?_
    refine wp_ret ?_
    obtain rfl := Option.some.inj hm
    exact (then_r (ret1 rfl rfl rfl ⟨⟨_, rfl, OwF.nil⟩, T⟩))
def m_impl_copyAgent (d0 : DAgent) : Option DAgent :=
  ((m_slices_Clone_int64_int64 d0.data).bind fun y13 => ((m_slices_Clone_impl_Port_impl_Port d0.ports).bind fun y20 => some (⟨d0.kind, d0.level, d0.value, y13, y20⟩ : DAgent)))
set_option maxHeartbeats 2000000 in
theorem c_m_impl_copyAgent (d0 : DAgent) (r : DAgent) (hm : m_impl_copyAgent d0 = some r) (v0 : Value) (w : World) (hv0 : St agentRd w v0 d0) :
    Calls Tryz.prog 83 #[v0] w fun e w' => (∃ (v0 : Value) (v1 : Value), e = .returned (.agg #[.int .i64 r.kind, .int .i64 r.level, .int .i64 r.value, v0, v1]) ∧ OwF 2 encI 1 w' w.heap.size v0 r.data ∧ OwF 65 encPort 2 w' w.heap.size v1 r.ports ∧ Dj v0 v1) ∧ Below w.heap.size w w' := by
  obtain ⟨csa0, rfl, ⟨A1, n1, c1, A2, n2, c2, rfl, ⟨h1, r1⟩, ⟨h2, r2⟩⟩⟩ := hv0
  have e1 := h1.len; subst e1
  have q1 := len_le r1
  have e2 := h2.len; subst e2
  have q2 := len_le r2
  have T := Below.refl w.heap.size w
  unfold m_impl_copyAgent at hm
  refine enter 12 Tryz.func83 rfl rfl rfl ?_
  intro f hf
  have s0 : f 0 = .agg #[.int .i64 d0.kind, .int .i64 d0.level, .int .i64 d0.value, .slice A1 d0.data.length c1, .slice A2 d0.ports.length c2] := hf 0 _ rfl
  refine wp_seq ?_
  refine wp_rl rfl ?_
  refine RL.box rfl s0 (fun w3 B4 hb5 szw3 => ?_)
  replace B4 : Blk w3 w.heap.size 63 #[.int .i64 d0.kind, .int .i64 d0.level, .int .i64 d0.value, .slice A1 d0.data.length c1, .slice A2 d0.ports.length c2] := B4
  have GB4 : w.heap.size ≤ w.heap.size := T.size
  have T := Tt T hb5
  refine RL.alloc (z := .agg #[.int .i64 0, .int .i64 0, .int .i64 0, .slice none 0 0, .slice none 0 0]) rfl (by kernel_rfl) (fun w7 B8 hb9 szw7 => ?_)
  replace B8 : Blk w7 w3.heap.size 63 #[.int .i64 0, .int .i64 0, .int .i64 0, .slice none 0 0, .slice none 0 0] := B8
  have GB8 : w.heap.size ≤ w3.heap.size := T.size
  have Eob10_ob6 := Nat.ne_of_lt B4.lt
  have B4 := blkT B4 hb9
  have T := Tt T hb9
  refine RL.nil ?_
  refine then_n ?_
  refine wp_seq ?_
  refine wp_rgt (fun w' => Below w.heap.size w w') (.q 0 (.q 3 (.two 1 (.two 2 (.a 4 (.q 6 (.a 5 (.a 7 (.q 8 (.a 9 .nil)))))) 4 (.a 2 (.q 6 (.a 5 (.a 7 (.q 8 (.a 9 .nil))))))) 4 (.a 1 (.a 2 (.q 6 (.a 5 (.a 7 (.q 8 (.a 9 .nil)))))))))) (by kernel_rfl) (by kernel_rfl) (fun w11 hb12 szw11 => ?_)
  have B4 := blkT B4 hb12
  have B8 := blkT B8 hb12
  have T := Tt T hb12
  refine ⟨T, ?_⟩
  refine RT.y rfl rfl (Y.fieldAddr (off := 3) rfl (by kernel_rfl)) ?_
  refine RT.y rfl rfl (Y.fieldAddr (off := 4) rfl (by kernel_rfl)) ?_
  refine RT.both rfl rfl ?_ ?_
  · refine RL.y rfl (Y.load (v := .slice A1 d0.data.length c1) rfl (by kernel_rfl) (eqC (blkCell B4 (i := 3) rfl))) ?_
    refine RL.nil ⟨T, ?_⟩
    refine RT.both rfl rfl ?_ ?_
    · obtain ⟨y13, e14, hm⟩ := bnd hm
      refine RL.call rfl (am1 rfl) (by kernel_rfl) ((c_m_slices_Clone_int64_int64 d0.data _ e14 _ _ (slArg intRd_ok h1 r1 T)).mono ?_)
      rintro _ w18 ⟨⟨v15, rfl, G16⟩, hb19⟩
      refine ⟨_, rfl, ?_⟩
      have szw18 := hb19.size
      have T0w18 := T.size
      have Zo17_ob6 := ap_ne (Ap.new (OwF.flo G16) (one_hi B4.lt))
      have Zo17_ob10 := ap_ne (Ap.new (OwF.flo G16) (one_hi B8.lt))
      have B4 := blkT B4 hb19
      have B8 := blkT B8 hb19
      have T := Tt T hb19
      replace G16 := OwF.mono G16 T0w18
      refine RL.nil ⟨T, ?_⟩
      refine RT.act rfl ?_
      refine RL.y rfl (Y.load (v := .slice A2 d0.ports.length c2) rfl (by kernel_rfl) (eqC (blkCell B4 (i := 4) rfl))) ?_
      refine RL.nil ⟨T, ?_⟩
      refine RT.y rfl rfl (Y.fieldAddr (off := 3) rfl (by kernel_rfl)) ?_
      refine RT.act rfl ?_
      obtain ⟨y20, e21, hm⟩ := bnd hm
      refine RL.call rfl (am1 rfl) (by kernel_rfl) ((c_m_slices_Clone_impl_Port_impl_Port d0.ports _ e21 _ _ (slArg portRd_ok h2 r2 T)).mono ?_)
      rintro _ w25 ⟨⟨v22, rfl, G23⟩, hb26⟩
      refine ⟨_, rfl, ?_⟩
      have szw25 := hb26.size
      have T0w25 := T.size
      have Zo24_ob6 := ap_ne (Ap.new (OwF.flo G23) (one_hi B4.lt))
      have Zo24_ob10 := ap_ne (Ap.new (OwF.flo G23) (one_hi B8.lt))
      have Zo24_o17 := Ap.dj (Ap.new (OwF.flo G23) (OwF.fhi G16))
      have B4 := blkT B4 hb26
      have B8 := blkT B8 hb26
      have G16 := OwF.below G16 hb26
      have T := Tt T hb26
      replace G23 := OwF.mono G23 T0w25
      refine RL.nil ⟨T, ?_⟩
      refine RT.act rfl ?_
      obtain ⟨A27, c28, rfl⟩ := OwF.form G16
      have qbA27 := OwF.bound G16
      refine RL.store (v := .slice A27 y13.length c28) (cs' := #[.int .i64 d0.kind, .int .i64 d0.level, .int .i64 d0.value, .slice A27 y13.length c28, .slice A2 d0.ports.length c2]) rfl rfl rfl B4 (by kernel_rfl) (by rfl) (by rfl) (by rfl) (fun w29 B30 ho31 => ?_)
      have szw29 := ho31.size
      have B8 := B8.only_ ho31 (by intro hin; simp at hin; exact Eob10_ob6.symm hin)
      have G16 := OwF.only G16 ho31 Zo17_ob6
      have G23 := OwF.only G23 ho31 Zo24_ob6
      have T := T.trans (ho31.below (by first | (simp; done) | (simp; omega)))
      refine RL.nil ⟨T, ?_⟩
      refine RT.y rfl rfl (Y.fieldAddr (off := 4) rfl (by kernel_rfl)) ?_
      refine RT.act rfl ?_
      obtain ⟨A32, c33, rfl⟩ := OwF.form G23
      have qbA32 := OwF.bound G23
      refine RL.store (v := .slice A32 y20.length c33) (cs' := #[.int .i64 d0.kind, .int .i64 d0.level, .int .i64 d0.value, .slice A27 y13.length c28, .slice A32 y20.length c33]) rfl rfl rfl B30 (by kernel_rfl) (by rfl) (by rfl) (by rfl) (fun w34 B35 ho36 => ?_)
      have szw34 := ho36.size
      have B8 := B8.only_ ho36 (by intro hin; simp at hin; exact Eob10_ob6.symm hin)
      have G16 := OwF.only G16 ho36 Zo17_ob6
      have G23 := OwF.only G23 ho36 Zo24_ob6
      have T := T.trans (ho36.below (by first | (simp; done) | (simp; omega)))
      refine RL.nil ⟨T, ?_⟩
      refine RT.nil_ ?_
      refine then_n ?_
      refine wp_seq ?_
      refine wp_rl rfl ?_
      refine RL.y rfl (Y.loadN (cs := [.int .i64 d0.kind, .int .i64 d0.level, .int .i64 d0.value, .slice A27 y13.length c28, .slice A32 y20.length c33]) rfl (by kernel_rfl) (cells5 (eqC (blkCell B35 (i := 0) rfl)) (eqC (blkCell B35 (i := 1) rfl)) (eqC (blkCell B35 (i := 2) rfl)) (eqC (blkCell B35 (i := 3) rfl)) (eqC (blkCell B35 (i := 4) rfl)))) ?_
      refine RL.store (v := .agg #[.int .i64 d0.kind, .int .i64 d0.level, .int .i64 d0.value, .slice A27 y13.length c28, .slice A32 y20.length c33]) (cs' := #[.int .i64 d0.kind, .int .i64 d0.level, .int .i64 d0.value, .slice A27 y13.length c28, .slice A32 y20.length c33]) rfl rfl rfl B8 (by kernel_rfl) (by rfl) (by rfl) (by rfl) (fun w37 B38 ho39 => ?_)
      have szw37 := ho39.size
      have B35 := B35.only_ ho39 (by intro hin; simp at hin; exact Eob10_ob6 hin)
      have G16 := OwF.only G16 ho39 Zo17_ob10
      have G23 := OwF.only G23 ho39 Zo24_ob10
      have T := T.trans (ho39.below (by first | (simp; done) | (simp; omega)))
      refine RL.nil ?_
      refine then_n ?_
      refine wp_ret ?_
      obtain rfl := Option.some.inj hm
      exact (retc (cs := [.int .i64 d0.kind, .int .i64 d0.level, .int .i64 d0.value, .slice A27 y13.length c28, .slice A32 y20.length c33]) rfl rfl rfl (by kernel_rfl) (blkCells B38) ⟨⟨_, _, rfl, G16, G23, (Ap.dj (Ap.symm (Dj.ap Zo24_o17)))⟩, T⟩)
    · refine RL.y rfl (Y.load (v := .slice A2 d0.ports.length c2) rfl (by kernel_rfl) (eqC (blkCell B4 (i := 4) rfl))) ?_
      refine RL.nil ⟨T, ?_⟩
      refine RT.act rfl ?_
      obtain ⟨y40, e41, hm⟩ := bnd hm
      refine RL.call rfl (am1 rfl) (by kernel_rfl) ((c_m_slices_Clone_int64_int64 d0.data _ e41 _ _ (slArg intRd_ok h1 r1 T)).mono ?_)
      rintro _ w45 ⟨⟨v42, rfl, G43⟩, hb46⟩
      refine ⟨_, rfl, ?_⟩
      have szw45 := hb46.size
      have T0w45 := T.size
      have Zo44_ob6 := ap_ne (Ap.new (OwF.flo G43) (one_hi B4.lt))
      have Zo44_ob10 := ap_ne (Ap.new (OwF.flo G43) (one_hi B8.lt))
      have B4 := blkT B4 hb46
      have B8 := blkT B8 hb46
      have T := Tt T hb46
      replace G43 := OwF.mono G43 T0w45
      refine RL.nil ⟨T, ?_⟩
      refine RT.y rfl rfl (Y.fieldAddr (off := 3) rfl (by kernel_rfl)) ?_
      refine RT.act rfl ?_
      obtain ⟨y47, e48, hm⟩ := bnd hm
      refine RL.call rfl (am1 rfl) (by kernel_rfl) ((c_m_slices_Clone_impl_Port_impl_Port d0.ports _ e48 _ _ (slArg portRd_ok h2 r2 T)).mono ?_)
      rintro _ w52 ⟨⟨v49, rfl, G50⟩, hb53⟩
      refine ⟨_, rfl, ?_⟩
      have szw52 := hb53.size
      have T0w52 := T.size
      have Zo51_ob6 := ap_ne (Ap.new (OwF.flo G50) (one_hi B4.lt))
      have Zo51_ob10 := ap_ne (Ap.new (OwF.flo G50) (one_hi B8.lt))
      have Zo51_o44 := Ap.dj (Ap.new (OwF.flo G50) (OwF.fhi G43))
      have B4 := blkT B4 hb53
      have B8 := blkT B8 hb53
      have G43 := OwF.below G43 hb53
      have T := Tt T hb53
      replace G50 := OwF.mono G50 T0w52
      refine RL.nil ⟨T, ?_⟩
      refine RT.act rfl ?_
      obtain ⟨A54, c55, rfl⟩ := OwF.form G43
      have qbA54 := OwF.bound G43
      refine RL.store (v := .slice A54 y40.length c55) (cs' := #[.int .i64 d0.kind, .int .i64 d0.level, .int .i64 d0.value, .slice A54 y40.length c55, .slice A2 d0.ports.length c2]) rfl rfl rfl B4 (by kernel_rfl) (by rfl) (by rfl) (by rfl) (fun w56 B57 ho58 => ?_)
      have szw56 := ho58.size
      have B8 := B8.only_ ho58 (by intro hin; simp at hin; exact Eob10_ob6.symm hin)
      have G43 := OwF.only G43 ho58 Zo44_ob6
      have G50 := OwF.only G50 ho58 Zo51_ob6
      have T := T.trans (ho58.below (by first | (simp; done) | (simp; omega)))
      refine RL.nil ⟨T, ?_⟩
      refine RT.y rfl rfl (Y.fieldAddr (off := 4) rfl (by kernel_rfl)) ?_
      refine RT.act rfl ?_
      obtain ⟨A59, c60, rfl⟩ := OwF.form G50
      have qbA59 := OwF.bound G50
      refine RL.store (v := .slice A59 y47.length c60) (cs' := #[.int .i64 d0.kind, .int .i64 d0.level, .int .i64 d0.value, .slice A54 y40.length c55, .slice A59 y47.length c60]) rfl rfl rfl B57 (by kernel_rfl) (by rfl) (by rfl) (by rfl) (fun w61 B62 ho63 => ?_)
      have szw61 := ho63.size
      have B8 := B8.only_ ho63 (by intro hin; simp at hin; exact Eob10_ob6.symm hin)
      have G43 := OwF.only G43 ho63 Zo44_ob6
      have G50 := OwF.only G50 ho63 Zo51_ob6
      have T := T.trans (ho63.below (by first | (simp; done) | (simp; omega)))
      refine RL.nil ⟨T, ?_⟩
      refine RT.nil_ ?_
      refine then_n ?_
      refine wp_seq ?_
      refine wp_rl rfl ?_
      refine RL.y rfl (Y.loadN (cs := [.int .i64 d0.kind, .int .i64 d0.level, .int .i64 d0.value, .slice A54 y40.length c55, .slice A59 y47.length c60]) rfl (by kernel_rfl) (cells5 (eqC (blkCell B62 (i := 0) rfl)) (eqC (blkCell B62 (i := 1) rfl)) (eqC (blkCell B62 (i := 2) rfl)) (eqC (blkCell B62 (i := 3) rfl)) (eqC (blkCell B62 (i := 4) rfl)))) ?_
      refine RL.store (v := .agg #[.int .i64 d0.kind, .int .i64 d0.level, .int .i64 d0.value, .slice A54 y40.length c55, .slice A59 y47.length c60]) (cs' := #[.int .i64 d0.kind, .int .i64 d0.level, .int .i64 d0.value, .slice A54 y40.length c55, .slice A59 y47.length c60]) rfl rfl rfl B8 (by kernel_rfl) (by rfl) (by rfl) (by rfl) (fun w64 B65 ho66 => ?_)
      have szw64 := ho66.size
      have B62 := B62.only_ ho66 (by intro hin; simp at hin; exact Eob10_ob6 hin)
      have G43 := OwF.only G43 ho66 Zo44_ob10
      have G50 := OwF.only G50 ho66 Zo51_ob10
      have T := T.trans (ho66.below (by first | (simp; done) | (simp; omega)))
      refine RL.nil ?_
      refine then_n ?_
      refine wp_ret ?_
      obtain rfl := Option.some.inj hm
      exact (retc (cs := [.int .i64 d0.kind, .int .i64 d0.level, .int .i64 d0.value, .slice A54 y40.length c55, .slice A59 y47.length c60]) rfl rfl rfl (by kernel_rfl) (blkCells B65) ⟨⟨_, _, rfl, G43, G50, (Ap.dj (Ap.symm (Dj.ap Zo51_o44)))⟩, T⟩)
  · refine RL.y rfl (Y.load (v := .slice A2 d0.ports.length c2) rfl (by kernel_rfl) (eqC (blkCell B4 (i := 4) rfl))) ?_
    refine RL.nil ⟨T, ?_⟩
    refine RT.act rfl ?_
    refine RL.y rfl (Y.load (v := .slice A1 d0.data.length c1) rfl (by kernel_rfl) (eqC (blkCell B4 (i := 3) rfl))) ?_
    refine RL.nil ⟨T, ?_⟩
    refine RT.act rfl ?_
    obtain ⟨y67, e68, hm⟩ := bnd hm
    refine RL.call rfl (am1 rfl) (by kernel_rfl) ((c_m_slices_Clone_int64_int64 d0.data _ e68 _ _ (slArg intRd_ok h1 r1 T)).mono ?_)
    rintro _ w72 ⟨⟨v69, rfl, G70⟩, hb73⟩
    refine ⟨_, rfl, ?_⟩
    have szw72 := hb73.size
    have T0w72 := T.size
    have Zo71_ob6 := ap_ne (Ap.new (OwF.flo G70) (one_hi B4.lt))
    have Zo71_ob10 := ap_ne (Ap.new (OwF.flo G70) (one_hi B8.lt))
    have B4 := blkT B4 hb73
    have B8 := blkT B8 hb73
    have T := Tt T hb73
    replace G70 := OwF.mono G70 T0w72
    refine RL.nil ⟨T, ?_⟩
    refine RT.y rfl rfl (Y.fieldAddr (off := 3) rfl (by kernel_rfl)) ?_
    refine RT.act rfl ?_
    obtain ⟨y74, e75, hm⟩ := bnd hm
    refine RL.call rfl (am1 rfl) (by kernel_rfl) ((c_m_slices_Clone_impl_Port_impl_Port d0.ports _ e75 _ _ (slArg portRd_ok h2 r2 T)).mono ?_)
    rintro _ w79 ⟨⟨v76, rfl, G77⟩, hb80⟩
    refine ⟨_, rfl, ?_⟩
    have szw79 := hb80.size
    have T0w79 := T.size
    have Zo78_ob6 := ap_ne (Ap.new (OwF.flo G77) (one_hi B4.lt))
    have Zo78_ob10 := ap_ne (Ap.new (OwF.flo G77) (one_hi B8.lt))
    have Zo78_o71 := Ap.dj (Ap.new (OwF.flo G77) (OwF.fhi G70))
    have B4 := blkT B4 hb80
    have B8 := blkT B8 hb80
    have G70 := OwF.below G70 hb80
    have T := Tt T hb80
    replace G77 := OwF.mono G77 T0w79
    refine RL.nil ⟨T, ?_⟩
    refine RT.act rfl ?_
    obtain ⟨A81, c82, rfl⟩ := OwF.form G70
    have qbA81 := OwF.bound G70
    refine RL.store (v := .slice A81 y67.length c82) (cs' := #[.int .i64 d0.kind, .int .i64 d0.level, .int .i64 d0.value, .slice A81 y67.length c82, .slice A2 d0.ports.length c2]) rfl rfl rfl B4 (by kernel_rfl) (by rfl) (by rfl) (by rfl) (fun w83 B84 ho85 => ?_)
    have szw83 := ho85.size
    have B8 := B8.only_ ho85 (by intro hin; simp at hin; exact Eob10_ob6.symm hin)
    have G70 := OwF.only G70 ho85 Zo71_ob6
    have G77 := OwF.only G77 ho85 Zo78_ob6
    have T := T.trans (ho85.below (by first | (simp; done) | (simp; omega)))
    refine RL.nil ⟨T, ?_⟩
    refine RT.y rfl rfl (Y.fieldAddr (off := 4) rfl (by kernel_rfl)) ?_
    refine RT.act rfl ?_
    obtain ⟨A86, c87, rfl⟩ := OwF.form G77
    have qbA86 := OwF.bound G77
    refine RL.store (v := .slice A86 y74.length c87) (cs' := #[.int .i64 d0.kind, .int .i64 d0.level, .int .i64 d0.value, .slice A81 y67.length c82, .slice A86 y74.length c87]) rfl rfl rfl B84 (by kernel_rfl) (by rfl) (by rfl) (by rfl) (fun w88 B89 ho90 => ?_)
    have szw88 := ho90.size
    have B8 := B8.only_ ho90 (by intro hin; simp at hin; exact Eob10_ob6.symm hin)
    have G70 := OwF.only G70 ho90 Zo71_ob6
    have G77 := OwF.only G77 ho90 Zo78_ob6
    have T := T.trans (ho90.below (by first | (simp; done) | (simp; omega)))
    refine RL.nil ⟨T, ?_⟩
    refine RT.nil_ ?_
    refine then_n ?_
    refine wp_seq ?_
    refine wp_rl rfl ?_
    refine RL.y rfl (Y.loadN (cs := [.int .i64 d0.kind, .int .i64 d0.level, .int .i64 d0.value, .slice A81 y67.length c82, .slice A86 y74.length c87]) rfl (by kernel_rfl) (cells5 (eqC (blkCell B89 (i := 0) rfl)) (eqC (blkCell B89 (i := 1) rfl)) (eqC (blkCell B89 (i := 2) rfl)) (eqC (blkCell B89 (i := 3) rfl)) (eqC (blkCell B89 (i := 4) rfl)))) ?_
    refine RL.store (v := .agg #[.int .i64 d0.kind, .int .i64 d0.level, .int .i64 d0.value, .slice A81 y67.length c82, .slice A86 y74.length c87]) (cs' := #[.int .i64 d0.kind, .int .i64 d0.level, .int .i64 d0.value, .slice A81 y67.length c82, .slice A86 y74.length c87]) rfl rfl rfl B8 (by kernel_rfl) (by rfl) (by rfl) (by rfl) (fun w91 B92 ho93 => ?_)
    have szw91 := ho93.size
    have B89 := B89.only_ ho93 (by intro hin; simp at hin; exact Eob10_ob6 hin)
    have G70 := OwF.only G70 ho93 Zo71_ob10
    have G77 := OwF.only G77 ho93 Zo78_ob10
    have T := T.trans (ho93.below (by first | (simp; done) | (simp; omega)))
    refine RL.nil ?_
    refine then_n ?_
    refine wp_ret ?_
    obtain rfl := Option.some.inj hm
    exact (retc (cs := [.int .i64 d0.kind, .int .i64 d0.level, .int .i64 d0.value, .slice A81 y67.length c82, .slice A86 y74.length c87]) rfl rfl rfl (by kernel_rfl) (blkCells B92) ⟨⟨_, _, rfl, G70, G77, (Ap.dj (Ap.symm (Dj.ap Zo78_o71)))⟩, T⟩)
end
section
open Go.RowKit
set_option linter.unusedVariables false
set_option linter.unusedSimpArgs false
theorem small_sz {xs : List DAgent} (hs : Small xs) {i : Nat} {x : DAgent} (hx : xs[i]? = some x) : x.data.length ≤ 1048576 ∧ x.ports.length ≤ 1048576 :=
  ⟨hs.data (List.mem_of_getElem? hx), hs.ports (List.mem_of_getElem? hx)⟩
theorem p_ownAgent {x : DAgent} (h : x.data.length ≤ 1048576 ∧ x.ports.length ≤ 1048576) : m_spec_l11OwnAgent x = some x := by
  unfold m_spec_l11OwnAgent m_spec_l00Own
  rw [mustP_ok (by simp; omega), Option.bind_some, Option.bind_some, mustP_ok (by simp; omega), Option.bind_some]
  rfl
theorem flat_id {α : Type} : ∀ l : List α, l.flatMap (fun x => [x]) = l
  | [] => rfl
  | a :: l => by rw [List.flatMap_cons, flat_id l]; rfl
theorem p_copyAgent {x : DAgent} (h : x.data.length ≤ 1048576 ∧ x.ports.length ≤ 1048576) : m_impl_copyAgent x = some x := by
  unfold m_impl_copyAgent m_slices_Clone_int64_int64 m_slices_Clone_impl_Port_impl_Port
  rw [mustP_ok (by simp; omega), Option.bind_some, Option.bind_some, mustP_ok (by simp; omega), Option.bind_some, Option.bind_some]
  rfl
/-- In the middle of the loop. -/
def midL {α : Type} (f : α → α) (xs : List α) (k : Nat) : List α := (xs.take k).map f ++ xs.drop k
section
variable {α : Type} {f : α → α} {xs : List α} {k : Nat}
theorem midL_len (hk : k ≤ xs.length) : (midL f xs k).length = xs.length := by unfold midL; rw [List.length_append, List.length_map, List.length_take, List.length_drop]; omega
theorem midL_zero : midL f xs 0 = xs := by simp [midL]
theorem midL_end : midL f xs xs.length = xs.map f := by simp [midL]
theorem midL_get {x : α} (hx : xs[k]? = some x) : (midL f xs k)[k]? = some x := by
  have hk := lt_of_some hx
  unfold midL
  rw [List.getElem?_append_right (by simp; omega)]
  simp
  rw [Nat.min_eq_left (by omega)]
  simpa using hx
theorem midL_step {x : α} (hx : xs[k]? = some x) : (midL f xs k).set k (f x) = midL f xs (k + 1) := by
  have hk := lt_of_some hx
  unfold midL
  have hl : ((xs.take k).map f).length = k := by simp; omega
  rw [List.set_append_right _ _ (by omega), hl, Nat.sub_self, drop_some hx, List.set_cons_zero, take_succ_some hx, List.map_append, List.append_assoc]
  rfl
end
end
end Go.Proofs.YtebioddcnldjkaaGreat
