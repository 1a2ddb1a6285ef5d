/- Lemmas of the proof of NeighborsOf, part 4. No condition. -/
import Derived.Test.YtebioddcnldjkaaZNeighborsOf3
namespace Go.Proofs.Ytebioddcnldjkaa
section
open Go.RowKit
set_option linter.unusedVariables false
set_option linter.unusedSimpArgs false
set_option maxRecDepth 100000
def m_spec_NeighborsOf_A1 (xs24 : List Int) : Option ((List Int) × Int) :=
  some (xs24, 0)
def m_spec_NeighborsOf_A2 (y6 : DPair × Int) (rec1 : List Int → Int → Option ((List Int) × Int)) (xs26 : List Int) (i27 : Int) (b41 : Bool) : Option ((List Int) × Int) :=
  (bif b41 then (bif (i27 != y6.1.a) then (bif (i27 != y6.1.b) then ((mustP (xs26.length + ([i27]).length ≤ 4294967296)).bind fun _ => ((ck (i27 + 1)).bind fun s64 => (rec1 (xs26 ++ [i27]) s64))) else ((ck (i27 + 1)).bind fun s48 => (rec1 xs26 s48))) else ((ck (i27 + 1)).bind fun s46 => (rec1 xs26 s46))) else ((ck (i27 + 1)).bind fun s44 => (rec1 xs26 s44)))
def m_spec_NeighborsOf_B2 (y6 : DPair × Int) (x30 : DAgent) (rec2 : Bool → Int → Option ((List Int) × Int)) (K2 : Bool → Option ((List Int) × Int)) (b65 : Bool) (i66 : Int) : Option ((List Int) × Int) :=
  (bif (decide (i66 < (x30.ports.length : Int))) then (bif b65 then (rec2 true (i66 + 1)) else ((getI x30.ports i66).bind fun x70 => (bif (x70.agent == y6.1.a) then (rec2 true (i66 + 1)) else ((getI x30.ports i66).bind fun x80 => (rec2 (x80.agent == y6.1.b) (i66 + 1)))))) else (K2 b65))
def m_spec_NeighborsOf_L2 (y6 : DPair × Int) (x30 : DAgent) (K2 : Bool → Option ((List Int) × Int)) : Nat → Bool → Int → Option ((List Int) × Int)
  | 0, _, _ => none
  | g + 1, b65, i66 => m_spec_NeighborsOf_B2 y6 x30 (m_spec_NeighborsOf_L2 y6 x30 K2 g) K2 b65 i66
def m_spec_NeighborsOf_B1 (d0 : DNet) (y6 : DPair × Int) (rec1 : List Int → Int → Option ((List Int) × Int)) (K1 : List Int → Option ((List Int) × Int)) (xs26 : List Int) (i27 : Int) : Option ((List Int) × Int) :=
  (bif (decide (i27 < (d0.agents.length : Int))) then ((getI d0.agents i27).bind fun x30 => (m_spec_NeighborsOf_L2 y6 x30 (m_spec_NeighborsOf_A2 y6 rec1 xs26 i27) (x30.ports.length + 1) false 0)) else (K1 xs26))
def m_spec_NeighborsOf_L1 (d0 : DNet) (y6 : DPair × Int) (K1 : List Int → Option ((List Int) × Int)) : Nat → List Int → Int → Option ((List Int) × Int)
  | 0, _, _ => none
  | g + 1, xs26, i27 => m_spec_NeighborsOf_B1 d0 y6 (m_spec_NeighborsOf_L1 d0 y6 K1 g) K1 xs26 i27
def m_spec_NeighborsOf (d0 : DNet) (d1 : Int) : Option ((List Int) × Int) :=
  ((m_spec_l13Pair d0 d1).bind fun y6 => (bif (y6.2 != 0) then some ([], y6.2) else (m_spec_NeighborsOf_L1 d0 y6 m_spec_NeighborsOf_A1 (d0.agents.length + 1) ([] : List Int) 0)))
set_option maxHeartbeats 2000000 in
theorem c_m_spec_NeighborsOf (d0 : DNet) (d1 : Int) (r : (List Int) × Int) (hm : m_spec_NeighborsOf d0 d1 = some r) (v0 : Value) (w : World) (hv0 : St netRd w v0 d0) :
    Calls Try.prog 29 #[v0, .int .i64 d1] w fun e w' => (∃ (v0 : Value), e = .returned (.tuple #[v0, .int .i64 r.2]) ∧ OwF 2 encI 1 w' w.heap.size v0 r.1) ∧ Below w.heap.size w w' := by
  obtain ⟨csa0, rfl, ⟨A1, n1, c1, rfl, ⟨h1, r1⟩⟩⟩ := hv0
  have e1 := h1.len; subst e1
  have q1 := len_le r1
  have T := Below.refl w.heap.size w
  unfold m_spec_NeighborsOf at hm
  refine enter 87 Try.func29 rfl rfl rfl ?_
  intro f hf
  have s0 : f 0 = .agg #[.slice A1 d0.agents.length c1] := hf 0 _ rfl
  have s1 : f 1 = .int .i64 d1 := hf 1 _ rfl
  refine wp_seq ?_
  refine wp_rl rfl ?_
  refine RL.box rfl s0 (fun w2 B3 hb4 szw2 => ?_)
  replace B3 : Blk w2 w.heap.size 33 #[.slice A1 d0.agents.length c1] := B3
  have GB3 : w.heap.size ≤ w.heap.size := T.size
  have T := Tt T hb4
  refine RL.y rfl (Y.assign (v := .slice none 0 0) rfl) ?_
  refine RL.y rfl (Y.assign (v := .int .i64 0) rfl) ?_
  refine RL.nil ?_
  refine then_n ?_
  refine wp_seq ?_
  refine wp_rl rfl ?_
  refine RL.y rfl (Y.move (v := .int .i64 d1) s1) ?_
  obtain ⟨y6, e7, hm⟩ := bnd hm
  refine RL.call rfl (am2 rfl rfl) (by kernel_rfl) ((c_m_spec_l13Pair d0 d1 _ e7 _ _ (ptBox (R := netRd) B3 ⟨_, _, _, rfl, ⟨SlAt.now agentRd_ok h1 (Nat.le_refl _) T, r1⟩⟩)).mono ?_)
  rintro _ w8 ⟨rfl, hb9⟩
  refine ⟨_, rfl, ?_⟩
  have szw8 := hb9.size
  have B3 := blkT B3 hb9
  have T := Tt T hb9
  refine RL.y rfl (Y.move (v := .tuple #[.agg #[.int .i64 y6.1.a, .int .i64 y6.1.b], .int .i64 y6.2]) rfl) ?_
  refine RL.y rfl (Y.extract (i := 0) rfl rfl) ?_
  refine RL.y rfl (Y.extract (i := 1) rfl rfl) ?_
  refine RL.alloc (z := .agg #[.int .i64 0, .int .i64 0]) rfl (by kernel_rfl) (fun w10 B11 hb12 szw10 => ?_)
  replace B11 : Blk w10 w8.heap.size 65 #[.int .i64 0, .int .i64 0] := B11
  have GB11 : w.heap.size ≤ w8.heap.size := T.size
  have Eob13_ob5 := Nat.ne_of_lt B3.lt
  have B3 := blkT B3 hb12
  have T := Tt T hb12
  refine RL.store (v := .agg #[.int .i64 y6.1.a, .int .i64 y6.1.b]) (cs' := #[.int .i64 y6.1.a, .int .i64 y6.1.b]) rfl rfl rfl B11 (by kernel_rfl) (by rfl) (by rfl) (by rfl) (fun w14 B15 ho16 => ?_)
  have szw14 := ho16.size
  have B3 := B3.only_ ho16 (by intro hin; simp at hin; exact Eob13_ob5 hin)
  have T := T.trans (ho16.below (by first | (simp; done) | (simp; omega)))
  refine RL.y rfl (Y.assign (v := .int .i64 y6.2) rfl) ?_
  refine RL.nil ?_
  refine then_n ?_
  refine wp_seq ?_
  refine wp_seq ?_
  refine wp_rs rfl ?_
  refine RQ.y rfl (Y.move (v := .int .i64 y6.2) rfl) ?_
  refine RQ.y rfl (Y.binI (v := .bool (y6.2 != 0)) rfl rfl rfl) ?_
  refine RQ.nil ?_
  refine then_n ?_
  rcases bcases (y6.2 != 0) with c17 | c17
  · replace hm := cF c17 hm
    refine cond_f rfl (vb rfl c17) ?_
    refine wp_skip ?_
    refine then_n ?_
    refine wp_seq ?_
    refine wp_rl rfl ?_
    refine RL.bslice (e := 2) (cells := #[]) rfl pm0 (by kernel_rfl) (fun w18 B19 hb20 szw18 => ?_)
    have ZB19 : w.heap.size ≤ w14.heap.size := T.size
    have No21_ob5 := litNe (n := 0) (c := 0) B3.lt
    have No21_ob13 := litNe (n := 0) (c := 0) B15.lt
    have B3 := blkT B3 hb20
    have B15 := blkT B15 hb20
    have T := Tt T hb20
    have G22 := OwF.lit (enc := encI) (sz := 1) (xs := ([] : List Int)) B19 ZB19 rfl rfl rfl rfl
    refine RL.y rfl (Y.assign (v := .slice (some ⟨w14.heap.size, 0, none⟩) 0 0) rfl) ?_
    refine RL.nil ?_
    refine then_n ?_
    refine wp_seq ?_
    refine wp_seq ?_
    refine wp_rs rfl ?_
    refine RQ.y rfl (Y.assign (v := .int .i64 0) rfl) ?_
    refine RQ.nil ?_
    refine then_n ?_
    refine wp_block ?_
    obtain ⟨K1, hK1, hm⟩ : ∃ K, K = m_spec_NeighborsOf_A1 ∧ m_spec_NeighborsOf_L1 d0 y6 K (d0.agents.length + 1) ([] : List Int) 0 = some r := ⟨_, rfl, hm⟩
    refine wp_loopX (fun g f w' => ∃ (xs26 : List Int) (i27 : Int) (uxs26 : Value), f 2 = .pointer (some ⟨w.heap.size, 0, none⟩) ∧ f 6 = .pointer (some ⟨w8.heap.size, 0, none⟩) ∧ f 8 = uxs26 ∧ OwF 2 encI 1 w' w.heap.size uxs26 xs26 ∧ f 9 = .int .i64 i27 ∧ 0 ≤ i27 ∧ Value.ownBlock uxs26 ≠ some w.heap.size ∧ Value.ownBlock uxs26 ≠ some w8.heap.size ∧ Blk w' w.heap.size 33 #[.slice A1 d0.agents.length c1] ∧ Blk w' w8.heap.size 65 #[.int .i64 y6.1.a, .int .i64 y6.1.b] ∧ Below w.heap.size w w' ∧ m_spec_NeighborsOf_L1 d0 y6 K1 g xs26 i27 = some r) 0 (fun f w' => ∃ (xs24 : List Int) (uxs24 : Value), f 8 = uxs24 ∧ OwF 2 encI 1 w' w.heap.size uxs24 xs24 ∧ Value.ownBlock uxs24 ≠ some w.heap.size ∧ Value.ownBlock uxs24 ≠ some w8.heap.size ∧ Blk w' w.heap.size 33 #[.slice A1 d0.agents.length c1] ∧ Blk w' w8.heap.size 65 #[.int .i64 y6.1.a, .int .i64 y6.1.b] ∧ Below w.heap.size w w' ∧ m_spec_NeighborsOf_A1 xs24 = some r) (d0.agents.length + 1) ⟨([] : List Int), 0, (.slice (some ⟨w14.heap.size, 0, none⟩) 0 0), rfl, rfl, rfl, G22, rfl, (by omega), (ap_ne (ne_ap No21_ob5)), (ap_ne (ne_ap No21_ob13)), B3, B15, T, hm⟩ ?_ ?_
    · rintro f w25 ⟨xs24, uxs24, s8_1x, Guxs24, Noxs24_ob5, Noxs24_ob13, B3, B15, T, hm⟩
      unfold m_spec_NeighborsOf_A1 at hm
      refine blk_hit (then_n ?_)
      refine wp_seq ?_
      refine wp_rs rfl ?_
      refine RQ.y rfl (Y.move (v := uxs24) s8_1x) ?_
      refine RQ.y rfl (Y.assign (v := uxs24) rfl) ?_
      refine RQ.y rfl (Y.assign (v := .int .i64 0) rfl) ?_
      refine RQ.nil ?_
      refine then_n ?_
      refine wp_ret ?_
      obtain rfl := Option.some.inj hm
      exact (ret2 rfl rfl rfl rfl ⟨⟨_, rfl, Guxs24⟩, T⟩)
    · rintro g f w28 ⟨xs26, i27, uxs26, s2_1, s6_1, s8_1, Guxs26, s9_1, nn9_1, Noxs26_ob5, Noxs26_ob13, B3, B15, T, hm⟩
      rcases g with _ | g
      · simp only [m_spec_NeighborsOf_L1] at hm; cases hm
      obtain ⟨rec1, hrec1, hm⟩ : ∃ z, z = m_spec_NeighborsOf_L1 d0 y6 K1 g ∧ m_spec_NeighborsOf_B1 d0 y6 z K1 xs26 i27 = some r := ⟨_, rfl, hm⟩
      unfold m_spec_NeighborsOf_B1 at hm
      refine wp_seq ?_
      refine wp_seq ?_
      refine wp_rs rfl ?_
      refine RQ.y rfl (Y.move (v := .int .i64 i27) s9_1) ?_
      refine RQ.y rfl (Y.fieldAddr (off := 0) s2_1 (by kernel_rfl)) ?_
      refine RQ.y rfl (Y.load (v := .slice A1 d0.agents.length c1) rfl (by kernel_rfl) (eqC (blkCell B3 (i := 0) rfl))) ?_
      refine RQ.y rfl (Y.len (by kernel_rfl) rfl) ?_
      refine RQ.y rfl (Y.binI (v := .bool (decide (i27 < (d0.agents.length : Int)))) rfl rfl rfl) ?_
      refine RQ.nil ?_
      refine then_n ?_
      rcases bcases (decide (i27 < (d0.agents.length : Int))) with c29 | c29
      · replace hm := cF c29 hm
        have pc29 := of_decide_eq_false c29
        refine cond_f rfl (vb rfl c29) ?_
        refine wp_exit ?_
        exact (then_x (then_x (hit_x ⟨_, rfl, ⟨xs26, (uxs26), s8_1, Guxs26, (ap_ne (ne_ap Noxs26_ob5)), (ap_ne (ne_ap Noxs26_ob13)), B3, B15, T, (by rw [hK1] at hm; exact hm)⟩⟩)))
      · replace hm := cT c29 hm
        have pc29 := of_decide_eq_true c29
        refine cond_t rfl (vb rfl c29) ?_
        refine wp_skip ?_
        refine then_n ?_
        refine wp_seq ?_
        refine wp_block ?_
        refine wp_seq ?_
        refine wp_rs rfl ?_
        refine RQ.y rfl (Y.fieldAddr (off := 0) s2_1 (by kernel_rfl)) ?_
        refine RQ.y rfl (Y.load (v := .slice A1 d0.agents.length c1) rfl (by kernel_rfl) (eqC (blkCell B3 (i := 0) rfl))) ?_
        refine RQ.y rfl (Y.move (v := .int .i64 i27) s9_1) ?_
        obtain ⟨x30, hx33, hm⟩ := bnd hm
        obtain ⟨k31, hk34, hl35, hx33⟩ := getI_some hx33
        obtain ⟨b37, o38, rfl, hbb37⟩ := h1.addr (by omega)
        obtain ⟨cs32, hRcs32, hc36⟩ := h1.el hx33
        have hScs32 := hRcs32
        obtain ⟨A39, n39, c39, A40, n40, c40, rfl, ⟨h39, r39⟩, ⟨h40, r40⟩⟩ := hRcs32
        have e39 := h39.len; subst e39
        have q39 := len_le r39
        have e40 := h40.len; subst e40
        have q40 := len_le r40
        refine RQ.y rfl (Y.indexAddr (m := k31) (sz := 5) rfl rfl hk34 hl35 (by kernel_rfl)) ?_
        refine RQ.y rfl (Y.assign (v := .pointer (some ⟨b37, o38 + k31 * 5, none⟩)) rfl) ?_
        refine RQ.nil ?_
        refine then_n ?_
        refine wp_seq ?_
        refine wp_rs rfl ?_
        refine RQ.y rfl (Y.assign (v := .bool false) rfl) ?_
        refine RQ.nil ?_
        refine then_n ?_
        refine wp_seq ?_
        refine wp_seq ?_
        refine wp_rs rfl ?_
        refine RQ.y rfl (Y.assign (v := .int .i64 0) rfl) ?_
        refine RQ.nil ?_
        refine then_n ?_
        refine wp_block ?_
        obtain ⟨K2, hK2, hm⟩ : ∃ K, K = (m_spec_NeighborsOf_A2 y6 rec1 xs26 i27) ∧ m_spec_NeighborsOf_L2 y6 x30 K (x30.ports.length + 1) false 0 = some r := ⟨_, rfl, hm⟩
        refine wp_loopX (fun g f w' => ∃ (b65 : Bool) (i66 : Int), f 2 = .pointer (some ⟨w.heap.size, 0, none⟩) ∧ f 6 = .pointer (some ⟨w8.heap.size, 0, none⟩) ∧ f 8 = uxs26 ∧ f 9 = .int .i64 i27 ∧ f 10 = .pointer (some ⟨b37, o38 + k31 * 5, none⟩) ∧ f 11 = .bool b65 ∧ f 12 = .int .i64 i66 ∧ 0 ≤ i66 ∧ Blk w' w.heap.size 33 #[.slice (some ⟨b37, o38, none⟩) d0.agents.length c1] ∧ Blk w' w8.heap.size 65 #[.int .i64 y6.1.a, .int .i64 y6.1.b] ∧ OwF 2 encI 1 w' w.heap.size uxs26 xs26 ∧ Below w.heap.size w w' ∧ m_spec_NeighborsOf_L2 y6 x30 K2 g b65 i66 = some r) 2 (fun f w' => ∃ (b41 : Bool), f 2 = .pointer (some ⟨w.heap.size, 0, none⟩) ∧ f 6 = .pointer (some ⟨w8.heap.size, 0, none⟩) ∧ f 8 = uxs26 ∧ f 9 = .int .i64 i27 ∧ f 11 = .bool b41 ∧ Blk w' w.heap.size 33 #[.slice (some ⟨b37, o38, none⟩) d0.agents.length c1] ∧ Blk w' w8.heap.size 65 #[.int .i64 y6.1.a, .int .i64 y6.1.b] ∧ OwF 2 encI 1 w' w.heap.size uxs26 xs26 ∧ Below w.heap.size w w' ∧ m_spec_NeighborsOf_A2 y6 rec1 xs26 i27 b41 = some r) (x30.ports.length + 1) ⟨false, 0, s2_1, s6_1, s8_1, s9_1, rfl, rfl, rfl, (by omega), B3, B15, Guxs26, T, hm⟩ ?_ ?_
        · rintro f w42 ⟨b41, s2_2x, s6_2x, s8_2x, s9_2x, s11_2x, B3, B15, Guxs26, T, hm⟩
          unfold m_spec_NeighborsOf_A2 at hm
          refine blk_hit (then_n ?_)
          refine wp_seq ?_
          refine wp_rs rfl ?_
          refine RQ.y rfl (Y.move (v := .bool b41) s11_2x) ?_
          refine RQ.y rfl (Y.move (v := .bool b41) rfl) ?_
          rcases bcases b41 with c43 | c43
          · replace hm := cF c43 hm
            refine RQ.skip (wantN (dj := 70) rfl (vb rfl c43) rfl) ?_
            refine RQ.skip (wantN (dj := 70) rfl (vb rfl c43) rfl) ?_
            refine RQ.skip (wantN (dj := 70) rfl (vb rfl c43) rfl) ?_
            refine RQ.skip (wantN (dj := 70) rfl (vb rfl c43) rfl) ?_
            refine RQ.y rfl (Y.pick (b := false) (v := .bool false) (vb rfl c43) rfl) ?_
            refine RQ.y rfl (Y.move (v := .bool false) rfl) ?_
            refine RQ.skip (wantN (dj := 76) rfl rfl rfl) ?_
            refine RQ.skip (wantN (dj := 76) rfl rfl rfl) ?_
            refine RQ.skip (wantN (dj := 76) rfl rfl rfl) ?_
            refine RQ.skip (wantN (dj := 76) rfl rfl rfl) ?_
            refine RQ.y rfl (Y.pick (b := false) (v := .bool false) rfl rfl) ?_
            refine RQ.nil ?_
            refine then_n ?_
            refine cond_f rfl rfl ?_
            refine wp_skip ?_
            refine blk_n (then_n ?_)
            refine wp_rs rfl ?_
            refine RQ.y rfl (Y.move (v := .int .i64 i27) s9_2x) ?_
            obtain ⟨s44, ks44, hm⟩ := bnd hm
            replace ks44 := ck_some ks44
            refine RQ.y rfl (Y.binI (v := .int .i64 s44) rfl rfl (by rw [binI_add ks44.2, ks44.1])) ?_
            refine RQ.y rfl (Y.assign (v := .int .i64 s44) rfl) ?_
            refine RQ.nil ?_
            exact (then_n ⟨g, _, Nat.lt_succ_self _, rfl, ⟨xs26, s44, (uxs26), s2_2x, s6_2x, s8_2x, Guxs26, rfl, (by omega), (ap_ne (ne_ap Noxs26_ob5)), (ap_ne (ne_ap Noxs26_ob13)), B3, B15, T, (by rw [← hrec1]; exact hm)⟩⟩)
          · replace hm := cT c43 hm
            refine RQ.y (wantT (dj := 70) rfl (vb rfl c43)) (Y.move (v := .int .i64 i27) s9_2x) ?_
            refine RQ.y (wantT (dj := 70) rfl (vb rfl c43)) (Y.fieldAddr (off := 0) s6_2x (by kernel_rfl)) ?_
            refine RQ.y (wantT (dj := 70) rfl (vb rfl c43)) (Y.load (v := .int .i64 y6.1.a) rfl (by kernel_rfl) (eqC (blkCell B15 (i := 0) rfl))) ?_
            refine RQ.y (wantT (dj := 70) rfl (vb rfl c43)) (Y.binI (v := .bool (i27 != y6.1.a)) rfl rfl rfl) ?_
            refine RQ.y rfl (Y.pick (b := true) (v := .bool (i27 != y6.1.a)) (vb rfl c43) rfl) ?_
            refine RQ.y rfl (Y.move (v := .bool (i27 != y6.1.a)) rfl) ?_
            rcases bcases (i27 != y6.1.a) with c45 | c45
            · replace hm := cF c45 hm
              refine RQ.skip (wantN (dj := 76) rfl (vb rfl c45) rfl) ?_
              refine RQ.skip (wantN (dj := 76) rfl (vb rfl c45) rfl) ?_
              refine RQ.skip (wantN (dj := 76) rfl (vb rfl c45) rfl) ?_
              refine RQ.skip (wantN (dj := 76) rfl (vb rfl c45) rfl) ?_
              refine RQ.y rfl (Y.pick (b := false) (v := .bool false) (vb rfl c45) rfl) ?_
              refine RQ.nil ?_
              refine then_n ?_
              refine cond_f rfl rfl ?_
              refine wp_skip ?_
              refine blk_n (then_n ?_)
              refine wp_rs rfl ?_
              refine RQ.y rfl (Y.move (v := .int .i64 i27) s9_2x) ?_
              obtain ⟨s46, ks46, hm⟩ := bnd hm
              replace ks46 := ck_some ks46
              refine RQ.y rfl (Y.binI (v := .int .i64 s46) rfl rfl (by rw [binI_add ks46.2, ks46.1])) ?_
              refine RQ.y rfl (Y.assign (v := .int .i64 s46) rfl) ?_
              refine RQ.nil ?_
              exact (then_n ⟨g, _, Nat.lt_succ_self _, rfl, ⟨xs26, s46, (uxs26), s2_2x, s6_2x, s8_2x, Guxs26, rfl, (by omega), (ap_ne (ne_ap Noxs26_ob5)), (ap_ne (ne_ap Noxs26_ob13)), B3, B15, T, (by rw [← hrec1]; exact hm)⟩⟩)
            · replace hm := cT c45 hm
              refine RQ.y (wantT (dj := 76) rfl (vb rfl c45)) (Y.move (v := .int .i64 i27) s9_2x) ?_
              refine RQ.y (wantT (dj := 76) rfl (vb rfl c45)) (Y.fieldAddr (off := 1) s6_2x (by kernel_rfl)) ?_
              refine RQ.y (wantT (dj := 76) rfl (vb rfl c45)) (Y.load (v := .int .i64 y6.1.b) rfl (by kernel_rfl) (eqC (blkCell B15 (i := 1) rfl))) ?_
              refine RQ.y (wantT (dj := 76) rfl (vb rfl c45)) (Y.binI (v := .bool (i27 != y6.1.b)) rfl rfl rfl) ?_
              refine RQ.y rfl (Y.pick (b := true) (v := .bool (i27 != y6.1.b)) (vb rfl c45) rfl) ?_
              refine RQ.nil ?_
              refine then_n ?_
              rcases bcases (i27 != y6.1.b) with c47 | c47
              · replace hm := cF c47 hm
                refine cond_f rfl (vb rfl c47) ?_
                refine wp_skip ?_
                refine blk_n (then_n ?_)
                refine wp_rs rfl ?_
                refine RQ.y rfl (Y.move (v := .int .i64 i27) s9_2x) ?_
                obtain ⟨s48, ks48, hm⟩ := bnd hm
                replace ks48 := ck_some ks48
                refine RQ.y rfl (Y.binI (v := .int .i64 s48) rfl rfl (by rw [binI_add ks48.2, ks48.1])) ?_
                refine RQ.y rfl (Y.assign (v := .int .i64 s48) rfl) ?_
                refine RQ.nil ?_
                exact (then_n ⟨g, _, Nat.lt_succ_self _, rfl, ⟨xs26, s48, (uxs26), s2_2x, s6_2x, s8_2x, Guxs26, rfl, (by omega), (ap_ne (ne_ap Noxs26_ob5)), (ap_ne (ne_ap Noxs26_ob13)), B3, B15, T, (by rw [← hrec1]; exact hm)⟩⟩)
              · replace hm := cT c47 hm
                refine cond_t rfl (vb rfl c47) ?_
                refine wp_rl rfl ?_
                refine RL.y rfl (Y.move (v := uxs26) s8_2x) ?_
                refine RL.y rfl (Y.move (v := .int .i64 i27) s9_2x) ?_
                refine RL.bslice (e := 2) (cells := #[.int .i64 i27]) rfl (pm1 rfl) (by kernel_rfl) (fun w49 B50 hb51 szw49 => ?_)
                have ZB50 : w.heap.size ≤ w42.heap.size := T.size
                have No52_ob5 := litNe (n := 1) (c := 1) B3.lt
                have No52_ob13 := litNe (n := 1) (c := 1) B15.lt
                have Do52_oxs26 := Dj.new (v := .slice (some ⟨w42.heap.size, 0, none⟩) 1 1) litGe (OwF.hi Guxs26)
                have B3 := blkT B3 hb51
                have B15 := blkT B15 hb51
                have Guxs26 := OwF.below Guxs26 hb51
                have T := Tt T hb51
                have G53 := OwF.lit (enc := encI) (sz := 1) (xs := [i27]) B50 ZB50 rfl rfl rfl rfl
                obtain ⟨_, m55, hm⟩ := bnd hm
                have hk56 := mustP_some m55
                refine RL.append fI app_int64 rfl rfl rfl Guxs26 (OwF.arg fI G53) T.size hk56 (fun v57 w58 G59 hgr60 hbl61 hnb62 => ?_)
                have szw58 := hbl61.size
                have No63_ob5 := ne_app hnb62 Noxs26_ob5 B3.lt
                have No63_ob13 := ne_app hnb62 Noxs26_ob13 B15.lt
                have B3 := Blk.kept B3 hgr60 Noxs26_ob5
                have B15 := Blk.kept B15 hgr60 Noxs26_ob13
                have T := T.trans hbl61
                refine RL.y rfl (Y.assign (v := v57) rfl) ?_
                refine RL.nil ?_
                refine blk_n (then_n ?_)
                refine wp_rs rfl ?_
                refine RQ.y rfl (Y.move (v := .int .i64 i27) s9_2x) ?_
                obtain ⟨s64, ks64, hm⟩ := bnd hm
                replace ks64 := ck_some ks64
                refine RQ.y rfl (Y.binI (v := .int .i64 s64) rfl rfl (by rw [binI_add ks64.2, ks64.1])) ?_
                refine RQ.y rfl (Y.assign (v := .int .i64 s64) rfl) ?_
                refine RQ.nil ?_
                exact (then_n ⟨g, _, Nat.lt_succ_self _, rfl, ⟨(xs26 ++ [i27]), s64, (v57), s2_2x, s6_2x, rfl, G59, rfl, (by omega), (ap_ne (ne_ap No63_ob5)), (ap_ne (ne_ap No63_ob13)), B3, B15, T, (by rw [← hrec1]; exact hm)⟩⟩)
        · rintro g f w67 ⟨b65, i66, s2_2, s6_2, s8_2, s9_2, s10_2, s11_2, s12_2, nn12_2, B3, B15, Guxs26, T, hm⟩
          rcases g with _ | g
          · simp only [m_spec_NeighborsOf_L2] at hm; cases hm
          obtain ⟨rec2, hrec2, hm⟩ : ∃ z, z = m_spec_NeighborsOf_L2 y6 x30 K2 g ∧ m_spec_NeighborsOf_B2 y6 x30 z K2 b65 i66 = some r := ⟨_, rfl, hm⟩
          unfold m_spec_NeighborsOf_B2 at hm
          refine wp_seq ?_
          refine wp_seq ?_
          refine wp_rs rfl ?_
          refine RQ.y rfl (Y.move (v := .int .i64 i66) s12_2) ?_
          refine RQ.y rfl (Y.move (v := .pointer (some ⟨b37, o38 + k31 * 5, none⟩)) s10_2) ?_
          refine RQ.y rfl (Y.nilCheck rfl) ?_
          refine RQ.y rfl (Y.fieldAddr (off := 4) rfl (by kernel_rfl)) ?_
          refine RQ.y rfl (Y.load (v := .slice A40 x30.ports.length c40) rfl (by kernel_rfl) (eqC (cellT T (hc36 4 _ rfl)))) ?_
          refine RQ.y rfl (Y.len (by kernel_rfl) rfl) ?_
          refine RQ.y rfl (Y.binI (v := .bool (decide (i66 < (x30.ports.length : Int)))) rfl rfl rfl) ?_
          refine RQ.nil ?_
          refine then_n ?_
          rcases bcases (decide (i66 < (x30.ports.length : Int))) with c68 | c68
          · replace hm := cF c68 hm
            have pc68 := of_decide_eq_false c68
            refine cond_f rfl (vb rfl c68) ?_
            refine wp_exit ?_
            exact (then_x (then_x (hit_x ⟨_, rfl, ⟨b65, s2_2, s6_2, s8_2, s9_2, s11_2, B3, B15, Guxs26, T, (by rw [hK2] at hm; exact hm)⟩⟩)))
          · replace hm := cT c68 hm
            have pc68 := of_decide_eq_true c68
            refine cond_t rfl (vb rfl c68) ?_
            refine wp_skip ?_
            refine then_n ?_
            refine wp_seq ?_
            refine wp_block ?_
            refine wp_rbd (by kernel_rfl) (by kernel_rfl) ?_
            refine RQ.y rfl (Y.move (v := .bool b65) s11_2) ?_
            refine RQ.y rfl (Y.move (v := .bool b65) rfl) ?_
            rcases bcases b65 with c69 | c69
            · replace hm := cF c69 hm
              refine RQ.y (wantT (dj := 43) rfl (vb rfl c69)) (Y.move (v := .pointer (some ⟨b37, o38 + k31 * 5, none⟩)) s10_2) ?_
              refine RQ.y (wantT (dj := 43) rfl (vb rfl c69)) (Y.nilCheck rfl) ?_
              refine RQ.y (wantT (dj := 43) rfl (vb rfl c69)) (Y.fieldAddr (off := 4) rfl (by kernel_rfl)) ?_
              refine RQ.y (wantT (dj := 43) rfl (vb rfl c69)) (Y.load (v := .slice A40 x30.ports.length c40) rfl (by kernel_rfl) (beC (cellT T (hc36 4 _ rfl)))) ?_
              refine RQ.y (wantT (dj := 43) rfl (vb rfl c69)) (Y.move (v := .int .i64 i66) s12_2) ?_
              obtain ⟨x70, hx73, hm⟩ := bnd hm
              obtain ⟨k71, hk74, hl75, hx73⟩ := getI_some hx73
              obtain ⟨b77, o78, rfl, hbb77⟩ := h40.addr (by omega)
              obtain ⟨cs72, hRcs72, hc76⟩ := h40.el hx73
              have hScs72 := hRcs72
              obtain rfl := hRcs72
              refine RQ.y (wantT (dj := 43) rfl (vb rfl c69)) (Y.indexAddr (m := k71) (sz := 2) rfl rfl hk74 hl75 (by kernel_rfl)) ?_
              refine RQ.y (wantT (dj := 43) rfl (vb rfl c69)) (Y.fieldAddr (off := 0) rfl (by kernel_rfl)) ?_
              refine RQ.y (wantT (dj := 43) rfl (vb rfl c69)) (Y.load (v := .int .i64 x70.agent) rfl (by kernel_rfl) (beC (cellT T (hc76 0 _ rfl)))) ?_
              refine RQ.y (wantT (dj := 43) rfl (vb rfl c69)) (Y.fieldAddr (off := 0) s6_2 (by kernel_rfl)) ?_
              refine RQ.y (wantT (dj := 43) rfl (vb rfl c69)) (Y.load (v := .int .i64 y6.1.a) rfl (by kernel_rfl) (beC (blkCell B15 (i := 0) rfl))) ?_
              refine RQ.y (wantT (dj := 43) rfl (vb rfl c69)) (Y.binI (v := .bool (x70.agent == y6.1.a)) rfl rfl rfl) ?_
              refine RQ.y rfl (Y.pick (b := false) (v := .bool (x70.agent == y6.1.a)) (vb rfl c69) rfl) ?_
              refine RQ.y rfl (Y.move (v := .bool (x70.agent == y6.1.a)) rfl) ?_
              rcases bcases (x70.agent == y6.1.a) with c79 | c79
              · replace hm := cF c79 hm
                refine RQ.y (wantT (dj := 56) rfl (vb rfl c79)) (Y.move (v := .pointer (some ⟨b37, o38 + k31 * 5, none⟩)) s10_2) ?_
                refine RQ.y (wantT (dj := 56) rfl (vb rfl c79)) (Y.nilCheck rfl) ?_
                refine RQ.y (wantT (dj := 56) rfl (vb rfl c79)) (Y.fieldAddr (off := 4) rfl (by kernel_rfl)) ?_
                refine RQ.y (wantT (dj := 56) rfl (vb rfl c79)) (Y.load (v := .slice (some ⟨b77, o78, none⟩) x30.ports.length c40) rfl (by kernel_rfl) (beC (cellT T (hc36 4 _ rfl)))) ?_
                refine RQ.y (wantT (dj := 56) rfl (vb rfl c79)) (Y.move (v := .int .i64 i66) s12_2) ?_
                obtain ⟨x80, hx83, hm⟩ := bnd hm
                obtain ⟨k81, hk84, hl85, hx83⟩ := getI_some hx83
                obtain ⟨cs82, hRcs82, hc86⟩ := h40.el hx83
                have hScs82 := hRcs82
                obtain rfl := hRcs82
                refine RQ.y (wantT (dj := 56) rfl (vb rfl c79)) (Y.indexAddr (m := k81) (sz := 2) rfl rfl hk84 hl85 (by kernel_rfl)) ?_
                refine RQ.y (wantT (dj := 56) rfl (vb rfl c79)) (Y.fieldAddr (off := 0) rfl (by kernel_rfl)) ?_
                refine RQ.y (wantT (dj := 56) rfl (vb rfl c79)) (Y.load (v := .int .i64 x80.agent) rfl (by kernel_rfl) (beC (cellT T (hc86 0 _ rfl)))) ?_
                refine RQ.y (wantT (dj := 56) rfl (vb rfl c79)) (Y.fieldAddr (off := 1) s6_2 (by kernel_rfl)) ?_
                refine RQ.y (wantT (dj := 56) rfl (vb rfl c79)) (Y.load (v := .int .i64 y6.1.b) rfl (by kernel_rfl) (beC (blkCell B15 (i := 1) rfl))) ?_
                refine RQ.y (wantT (dj := 56) rfl (vb rfl c79)) (Y.binI (v := .bool (x80.agent == y6.1.b)) rfl rfl rfl) ?_
                refine RQ.y rfl (Y.pick (b := false) (v := .bool (x80.agent == y6.1.b)) (vb rfl c79) rfl) ?_
                refine RQ.y rfl (Y.assign (v := .bool (x80.agent == y6.1.b)) rfl) ?_
                refine RQ.nil ?_
                intro w87 hb88
                have szw87 := hb88.size
                have B3 := blkT B3 hb88
                have B15 := blkT B15 hb88
                have Guxs26 := OwF.below Guxs26 hb88
                have T := Tt T hb88
                refine blk_n (then_n ?_)
                refine wp_rs rfl ?_
                refine RQ.y rfl (Y.move (v := .int .i64 i66) s12_2) ?_
                refine RQ.y rfl (Y.binI rfl rfl (binI_add (m := i66) (by omega))) ?_
                refine RQ.y rfl (Y.assign (v := .int .i64 (i66 + 1)) rfl) ?_
                refine RQ.nil ?_
                exact (then_n ⟨g, _, Nat.lt_succ_self _, rfl, ⟨(x80.agent == y6.1.b), (i66 + 1), s2_2, s6_2, s8_2, s9_2, s10_2, rfl, rfl, (by omega), B3, B15, Guxs26, T, (by rw [← hrec2]; exact hm)⟩⟩)
              · replace hm := cT c79 hm
                refine RQ.skip (wantN (dj := 56) rfl (vb rfl c79) rfl) ?_
                refine RQ.skip (wantN (dj := 56) rfl (vb rfl c79) rfl) ?_
                refine RQ.skip (wantN (dj := 56) rfl (vb rfl c79) rfl) ?_
                refine RQ.skip (wantN (dj := 56) rfl (vb rfl c79) rfl) ?_
                refine RQ.skip (wantN (dj := 56) rfl (vb rfl c79) rfl) ?_
                refine RQ.skip (wantN (dj := 56) rfl (vb rfl c79) rfl) ?_
                refine RQ.skip (wantN (dj := 56) rfl (vb rfl c79) rfl) ?_
                refine RQ.skip (wantN (dj := 56) rfl (vb rfl c79) rfl) ?_
                refine RQ.skip (wantN (dj := 56) rfl (vb rfl c79) rfl) ?_
                refine RQ.skip (wantN (dj := 56) rfl (vb rfl c79) rfl) ?_
                refine RQ.skip (wantN (dj := 56) rfl (vb rfl c79) rfl) ?_
                refine RQ.y rfl (Y.pick (b := true) (v := .bool true) (vb rfl c79) rfl) ?_
                refine RQ.y rfl (Y.assign (v := .bool true) rfl) ?_
                refine RQ.nil ?_
                intro w89 hb90
                have szw89 := hb90.size
                have B3 := blkT B3 hb90
                have B15 := blkT B15 hb90
                have Guxs26 := OwF.below Guxs26 hb90
                have T := Tt T hb90
                refine blk_n (then_n ?_)
                refine wp_rs rfl ?_
                refine RQ.y rfl (Y.move (v := .int .i64 i66) s12_2) ?_
                refine RQ.y rfl (Y.binI rfl rfl (binI_add (m := i66) (by omega))) ?_
                refine RQ.y rfl (Y.assign (v := .int .i64 (i66 + 1)) rfl) ?_
                refine RQ.nil ?_
                exact (then_n ⟨g, _, Nat.lt_succ_self _, rfl, ⟨true, (i66 + 1), s2_2, s6_2, s8_2, s9_2, s10_2, rfl, rfl, (by omega), B3, B15, Guxs26, T, (by rw [← hrec2]; exact hm)⟩⟩)
            · replace hm := cT c69 hm
              refine RQ.skip (wantN (dj := 43) rfl (vb rfl c69) rfl) ?_
              refine RQ.skip (wantN (dj := 43) rfl (vb rfl c69) rfl) ?_
              refine RQ.skip (wantN (dj := 43) rfl (vb rfl c69) rfl) ?_
              refine RQ.skip (wantN (dj := 43) rfl (vb rfl c69) rfl) ?_
              refine RQ.skip (wantN (dj := 43) rfl (vb rfl c69) rfl) ?_
              refine RQ.skip (wantN (dj := 43) rfl (vb rfl c69) rfl) ?_
              refine RQ.skip (wantN (dj := 43) rfl (vb rfl c69) rfl) ?_
              refine RQ.skip (wantN (dj := 43) rfl (vb rfl c69) rfl) ?_
              refine RQ.skip (wantN (dj := 43) rfl (vb rfl c69) rfl) ?_
              refine RQ.skip (wantN (dj := 43) rfl (vb rfl c69) rfl) ?_
              refine RQ.skip (wantN (dj := 43) rfl (vb rfl c69) rfl) ?_
              refine RQ.y rfl (Y.pick (b := true) (v := .bool true) (vb rfl c69) rfl) ?_
              refine RQ.y rfl (Y.move (v := .bool true) rfl) ?_
              refine RQ.skip (wantN (dj := 56) rfl rfl rfl) ?_
              refine RQ.skip (wantN (dj := 56) rfl rfl rfl) ?_
              refine RQ.skip (wantN (dj := 56) rfl rfl rfl) ?_
              refine RQ.skip (wantN (dj := 56) rfl rfl rfl) ?_
              refine RQ.skip (wantN (dj := 56) rfl rfl rfl) ?_
              refine RQ.skip (wantN (dj := 56) rfl rfl rfl) ?_
              refine RQ.skip (wantN (dj := 56) rfl rfl rfl) ?_
              refine RQ.skip (wantN (dj := 56) rfl rfl rfl) ?_
              refine RQ.skip (wantN (dj := 56) rfl rfl rfl) ?_
              refine RQ.skip (wantN (dj := 56) rfl rfl rfl) ?_
              refine RQ.skip (wantN (dj := 56) rfl rfl rfl) ?_
              refine RQ.y rfl (Y.pick (b := true) (v := .bool true) rfl rfl) ?_
              refine RQ.y rfl (Y.assign (v := .bool true) rfl) ?_
              refine RQ.nil ?_
              intro w91 hb92
              have szw91 := hb92.size
              have B3 := blkT B3 hb92
              have B15 := blkT B15 hb92
              have Guxs26 := OwF.below Guxs26 hb92
              have T := Tt T hb92
              refine blk_n (then_n ?_)
              refine wp_rs rfl ?_
              refine RQ.y rfl (Y.move (v := .int .i64 i66) s12_2) ?_
              refine RQ.y rfl (Y.binI rfl rfl (binI_add (m := i66) (by omega))) ?_
              refine RQ.y rfl (Y.assign (v := .int .i64 (i66 + 1)) rfl) ?_
              refine RQ.nil ?_
              exact (then_n ⟨g, _, Nat.lt_succ_self _, rfl, ⟨true, (i66 + 1), s2_2, s6_2, s8_2, s9_2, s10_2, rfl, rfl, (by omega), B3, B15, Guxs26, T, (by rw [← hrec2]; exact hm)⟩⟩)
  · replace hm := cT c17 hm
    refine cond_t rfl (vb rfl c17) ?_
    refine wp_seq ?_
    refine wp_rs rfl ?_
    refine RQ.y rfl (Y.move (v := .int .i64 y6.2) rfl) ?_
    refine RQ.y rfl (Y.assign (v := .slice none 0 0) rfl) ?_
    refine RQ.y rfl (Y.assign (v := .int .i64 y6.2) rfl) ?_
    refine RQ.nil ?_
    refine then_n ?_
    refine wp_ret ?_
    obtain rfl := Option.some.inj hm
    exact (then_r (ret2 rfl rfl rfl rfl ⟨⟨_, rfl, OwF.nil⟩, T⟩))
def m_slices_Concat_impl_Port_impl_Port_A2 (xs10 : List DPort) : Option (List DPort) :=
  some xs10
def m_slices_Concat_impl_Port_impl_Port_B2 (d0 : List (List DPort)) (rec2 : List DPort → Int → Option (List DPort)) (K2 : List DPort → Option (List DPort)) (xs12 : List DPort) (i13 : Int) : Option (List DPort) :=
  (bif (decide (i13 < (d0.length : Int))) then ((getI d0 i13).bind fun x16 => ((mustP (xs12.length + x16.length ≤ 4294967296)).bind fun _ => (rec2 (xs12 ++ x16) (i13 + 1)))) else (K2 xs12))
def m_slices_Concat_impl_Port_impl_Port_L2 (d0 : List (List DPort)) (K2 : List DPort → Option (List DPort)) : Nat → List DPort → Int → Option (List DPort)
  | 0, _, _ => none
  | g + 1, xs12, i13 => m_slices_Concat_impl_Port_impl_Port_B2 d0 (m_slices_Concat_impl_Port_impl_Port_L2 d0 K2 g) K2 xs12 i13
def m_slices_Concat_impl_Port_impl_Port_A1 (d0 : List (List DPort)) (i1 : Int) : Option (List DPort) :=
  ((growM i1).bind fun y3 => (m_slices_Concat_impl_Port_impl_Port_L2 d0 m_slices_Concat_impl_Port_impl_Port_A2 (d0.length + 1) y3 0))
def m_slices_Concat_impl_Port_impl_Port_B1 (d0 : List (List DPort)) (rec1 : Int → Int → Option (List DPort)) (K1 : Int → Option (List DPort)) (i36 : Int) (i37 : Int) : Option (List DPort) :=
  (bif (decide (i37 < (d0.length : Int))) then ((getI d0 i37).bind fun x40 => ((ck (i36 + (x40.length : Int))).bind fun s50 => (bif (decide (s50 < 0)) then none else (rec1 s50 (i37 + 1))))) else (K1 i36))
def m_slices_Concat_impl_Port_impl_Port_L1 (d0 : List (List DPort)) (K1 : Int → Option (List DPort)) : Nat → Int → Int → Option (List DPort)
  | 0, _, _ => none
  | g + 1, i36, i37 => m_slices_Concat_impl_Port_impl_Port_B1 d0 (m_slices_Concat_impl_Port_impl_Port_L1 d0 K1 g) K1 i36 i37
def m_slices_Concat_impl_Port_impl_Port (d0 : List (List DPort)) : Option (List DPort) :=
  (m_slices_Concat_impl_Port_impl_Port_L1 d0 (m_slices_Concat_impl_Port_impl_Port_A1 d0) (d0.length + 1) 0 0)
set_option maxHeartbeats 2000000 in
theorem c_m_slices_Concat_impl_Port_impl_Port (d0 : List (List DPort)) (r : List DPort) (hm : m_slices_Concat_impl_Port_impl_Port d0 = some r) (v0 : Value) (w : World) (hv0 : Sl (slRd portRd 2) 1 w v0 d0) :
    Calls Try.prog 53 #[v0] w fun e w' => (∃ (v0 : Value), e = .returned (v0) ∧ OwF 28 encPort 2 w' w.heap.size v0 r) ∧ Below w.heap.size w w' := by
  obtain ⟨Aa0, na0, ca0, rfl, ha0, ra0⟩ := hv0
  have ea0 := ha0.len; subst ea0
  have qa0 := len_le ra0
  have T := Below.refl w.heap.size w
  unfold m_slices_Concat_impl_Port_impl_Port at hm
  refine enter 36 Try.func53 rfl rfl rfl ?_
  intro f hf
  have s0 : f 0 = .slice Aa0 d0.length ca0 := hf 0 _ rfl
  refine wp_seq ?_
  refine wp_rs rfl ?_
  refine RQ.y rfl (Y.assign (v := .slice none 0 0) rfl) ?_
  refine RQ.nil ?_
  refine then_n ?_
  refine wp_seq ?_
  refine wp_rs rfl ?_
  refine RQ.y rfl (Y.assign (v := .int .i64 0) rfl) ?_
  refine RQ.nil ?_
  refine then_n ?_
  refine wp_seq ?_
  refine wp_seq ?_
  refine wp_rs rfl ?_
  refine RQ.y rfl (Y.move (v := .slice Aa0 d0.length ca0) s0) ?_
  refine RQ.y rfl (Y.len (by kernel_rfl) rfl) ?_
  refine RQ.y rfl (Y.move (v := .int .i64 0) rfl) ?_
  refine RQ.nil ?_
  refine then_n ?_
  refine wp_block ?_
  obtain ⟨K1, hK1, hm⟩ : ∃ K, K = (m_slices_Concat_impl_Port_impl_Port_A1 d0) ∧ m_slices_Concat_impl_Port_impl_Port_L1 d0 K (d0.length + 1) 0 0 = some r := ⟨_, rfl, hm⟩
  refine wp_loopX (fun g f w' => ∃ (i36 : Int) (i37 : Int), f 0 = .slice Aa0 d0.length ca0 ∧ f 9 = .slice Aa0 d0.length ca0 ∧ f 10 = .int .i64 (d0.length : Int) ∧ f 3 = .int .i64 i36 ∧ 0 ≤ i36 ∧ f 11 = .int .i64 i37 ∧ 0 ≤ i37 ∧ Below w.heap.size w w' ∧ m_slices_Concat_impl_Port_impl_Port_L1 d0 K1 g i36 i37 = some r) 0 (fun f w' => ∃ (i1 : Int), f 0 = .slice Aa0 d0.length ca0 ∧ f 3 = .int .i64 i1 ∧ 0 ≤ i1 ∧ Below w.heap.size w w' ∧ m_slices_Concat_impl_Port_impl_Port_A1 d0 i1 = some r) (d0.length + 1) ⟨0, 0, s0, rfl, rfl, rfl, (by omega), rfl, (by omega), T, hm⟩ ?_ ?_
  · rintro f w2 ⟨i1, s0_1x, s3_1x, nn3_1x, T, hm⟩
    unfold m_slices_Concat_impl_Port_impl_Port_A1 at hm
    refine blk_hit (then_n ?_)
    refine wp_seq ?_
    refine wp_rl rfl ?_
    refine RL.y rfl (Y.move (v := .int .i64 i1) s3_1x) ?_
    obtain ⟨y3, e4, hm⟩ := bnd hm
    refine RL.call rfl (am2 rfl rfl) (by kernel_rfl) ((c_Grow0 i1 _ e4  _ ).mono ?_)
    rintro _ w8 ⟨⟨v5, rfl, G6⟩, hb9⟩
    refine ⟨_, rfl, ?_⟩
    have szw8 := hb9.size
    have T0w8 := T.size
    have T := Tt T hb9
    replace G6 := OwF.mono G6 T0w8
    refine RL.y rfl (Y.assign (v := v5) rfl) ?_
    refine RL.nil ?_
    refine then_n ?_
    refine wp_seq ?_
    refine wp_seq ?_
    refine wp_rs rfl ?_
    refine RQ.y rfl (Y.move (v := .slice Aa0 d0.length ca0) s0_1x) ?_
    refine RQ.y rfl (Y.len (by kernel_rfl) rfl) ?_
    refine RQ.y rfl (Y.move (v := .int .i64 0) rfl) ?_
    refine RQ.nil ?_
    refine then_n ?_
    refine wp_block ?_
    obtain ⟨K2, hK2, hm⟩ : ∃ K, K = m_slices_Concat_impl_Port_impl_Port_A2 ∧ m_slices_Concat_impl_Port_impl_Port_L2 d0 K (d0.length + 1) y3 0 = some r := ⟨_, rfl, hm⟩
    refine wp_loopX (fun g f w' => ∃ (xs12 : List DPort) (i13 : Int) (uxs12 : Value), f 25 = .slice Aa0 d0.length ca0 ∧ f 26 = .int .i64 (d0.length : Int) ∧ f 6 = uxs12 ∧ OwF 28 encPort 2 w' w.heap.size uxs12 xs12 ∧ f 27 = .int .i64 i13 ∧ 0 ≤ i13 ∧ Below w.heap.size w w' ∧ m_slices_Concat_impl_Port_impl_Port_L2 d0 K2 g xs12 i13 = some r) 2 (fun f w' => ∃ (xs10 : List DPort) (uxs10 : Value), f 6 = uxs10 ∧ OwF 28 encPort 2 w' w.heap.size uxs10 xs10 ∧ Below w.heap.size w w' ∧ m_slices_Concat_impl_Port_impl_Port_A2 xs10 = some r) (d0.length + 1) ⟨y3, 0, (v5), rfl, rfl, rfl, G6, rfl, (by omega), T, hm⟩ ?_ ?_
    · rintro f w11 ⟨xs10, uxs10, s6_2x, Guxs10, T, hm⟩
      unfold m_slices_Concat_impl_Port_impl_Port_A2 at hm
      refine blk_hit (then_n ?_)
      refine wp_seq ?_
      refine wp_rs rfl ?_
      refine RQ.y rfl (Y.move (v := uxs10) s6_2x) ?_
      refine RQ.y rfl (Y.assign (v := uxs10) rfl) ?_
      refine RQ.nil ?_
      refine then_n ?_
      refine wp_ret ?_
      obtain rfl := Option.some.inj hm
      exact (ret1 rfl rfl rfl ⟨⟨_, rfl, Guxs10⟩, T⟩)
    · rintro g f w14 ⟨xs12, i13, uxs12, s25_2, s26_2, s6_2, Guxs12, s27_2, nn27_2, T, hm⟩
      rcases g with _ | g
      · simp only [m_slices_Concat_impl_Port_impl_Port_L2] at hm; cases hm
      obtain ⟨rec2, hrec2, hm⟩ : ∃ z, z = m_slices_Concat_impl_Port_impl_Port_L2 d0 K2 g ∧ m_slices_Concat_impl_Port_impl_Port_B2 d0 z K2 xs12 i13 = some r := ⟨_, rfl, hm⟩
      unfold m_slices_Concat_impl_Port_impl_Port_B2 at hm
      refine wp_seq ?_
      refine wp_rs rfl ?_
      refine RQ.y rfl (Y.binI (v := .bool (decide (i13 < (d0.length : Int)))) s27_2 s26_2 rfl) ?_
      refine RQ.nil ?_
      refine then_n ?_
      refine wp_seq ?_
      rcases bcases (decide (i13 < (d0.length : Int))) with c15 | c15
      · replace hm := cF c15 hm
        have pc15 := of_decide_eq_false c15
        refine cond_f rfl (vb rfl c15) ?_
        refine wp_exit ?_
        exact (then_x (then_x (hit_x ⟨_, rfl, ⟨xs12, (uxs12), s6_2, Guxs12, T, (by rw [hK2] at hm; exact hm)⟩⟩)))
      · replace hm := cT c15 hm
        have pc15 := of_decide_eq_true c15
        refine cond_t rfl (vb rfl c15) ?_
        refine wp_skip ?_
        refine then_n ?_
        refine wp_seq ?_
        refine wp_block ?_
        refine wp_seq ?_
        refine wp_rs rfl ?_
        obtain ⟨x16, hx19, hm⟩ := bnd hm
        obtain ⟨k17, hk20, hl21, hx19⟩ := getI_some hx19
        obtain ⟨b23, o24, rfl, hbb23⟩ := ha0.addr (by omega)
        obtain ⟨cs18, hRcs18, hc22⟩ := ha0.el hx19
        have hScs18 := hRcs18
        obtain ⟨A25, n25, c25, rfl, h25, r25⟩ := hRcs18
        have e25 := h25.len; subst e25
        have q25 := len_le r25
        refine RQ.y rfl (Y.indexAddr (m := k17) (sz := 1) s25_2 s27_2 hk20 hl21 (by kernel_rfl)) ?_
        refine RQ.y rfl (Y.load (v := .slice A25 x16.length c25) rfl (by kernel_rfl) (eqC (cellT T (hc22 0 _ rfl)))) ?_
        refine RQ.y rfl (Y.assign (v := .slice A25 x16.length c25) rfl) ?_
        refine RQ.nil ?_
        refine then_n ?_
        refine wp_rl rfl ?_
        refine RL.y rfl (Y.move (v := uxs12) s6_2) ?_
        refine RL.y rfl (Y.move (v := .slice A25 x16.length c25) rfl) ?_
        obtain ⟨_, m26, hm⟩ := bnd hm
        have hk27 := mustP_some m26
        refine RL.append fPort app_impl_Port rfl rfl rfl Guxs12 (slArg portRd_ok h25 r25 T) T.size hk27 (fun v28 w29 G30 hgr31 hbl32 hnb33 => ?_)
        have szw29 := hbl32.size
        have T := T.trans hbl32
        refine RL.y rfl (Y.assign (v := v28) rfl) ?_
        refine RL.nil ?_
        refine blk_n (then_n ?_)
        refine wp_rs rfl ?_
        refine RQ.y rfl (Y.binI s27_2 rfl (binI_add (m := i13) (by omega))) ?_
        refine RQ.y rfl (Y.move (v := .int .i64 (i13 + 1)) rfl) ?_
        refine RQ.nil ?_
        exact (then_n ⟨g, _, Nat.lt_succ_self _, rfl, ⟨(xs12 ++ x16), (i13 + 1), (v28), s25_2, s26_2, rfl, G30, rfl, (by omega), T, (by rw [← hrec2]; exact hm)⟩⟩)
  · rintro g f w38 ⟨i36, i37, s0_1, s9_1, s10_1, s3_1, nn3_1, s11_1, nn11_1, T, hm⟩
    rcases g with _ | g
    · simp only [m_slices_Concat_impl_Port_impl_Port_L1] at hm; cases hm
    obtain ⟨rec1, hrec1, hm⟩ : ∃ z, z = m_slices_Concat_impl_Port_impl_Port_L1 d0 K1 g ∧ m_slices_Concat_impl_Port_impl_Port_B1 d0 z K1 i36 i37 = some r := ⟨_, rfl, hm⟩
    unfold m_slices_Concat_impl_Port_impl_Port_B1 at hm
    refine wp_seq ?_
    refine wp_rs rfl ?_
    refine RQ.y rfl (Y.binI (v := .bool (decide (i37 < (d0.length : Int)))) s11_1 s10_1 rfl) ?_
    refine RQ.nil ?_
    refine then_n ?_
    refine wp_seq ?_
    rcases bcases (decide (i37 < (d0.length : Int))) with c39 | c39
    · replace hm := cF c39 hm
      have pc39 := of_decide_eq_false c39
      refine cond_f rfl (vb rfl c39) ?_
      refine wp_exit ?_
      exact (then_x (then_x (hit_x ⟨_, rfl, ⟨i36, s0_1, s3_1, (by omega), T, (by rw [hK1] at hm; exact hm)⟩⟩)))
    · replace hm := cT c39 hm
      have pc39 := of_decide_eq_true c39
      refine cond_t rfl (vb rfl c39) ?_
      refine wp_skip ?_
      refine then_n ?_
      refine wp_seq ?_
      refine wp_block ?_
      refine wp_seq ?_
      refine wp_rs rfl ?_
      obtain ⟨x40, hx43, hm⟩ := bnd hm
      obtain ⟨k41, hk44, hl45, hx43⟩ := getI_some hx43
      obtain ⟨b47, o48, rfl, hbb47⟩ := ha0.addr (by omega)
      obtain ⟨cs42, hRcs42, hc46⟩ := ha0.el hx43
      have hScs42 := hRcs42
      obtain ⟨A49, n49, c49, rfl, h49, r49⟩ := hRcs42
      have e49 := h49.len; subst e49
      have q49 := len_le r49
      refine RQ.y rfl (Y.indexAddr (m := k41) (sz := 1) s9_1 s11_1 hk44 hl45 (by kernel_rfl)) ?_
      refine RQ.y rfl (Y.load (v := .slice A49 x40.length c49) rfl (by kernel_rfl) (eqC (cellT T (hc46 0 _ rfl)))) ?_
      refine RQ.y rfl (Y.assign (v := .slice A49 x40.length c49) rfl) ?_
      refine RQ.nil ?_
      refine then_n ?_
      refine wp_seq ?_
      refine wp_rs rfl ?_
      refine RQ.y rfl (Y.move (v := .int .i64 i36) s3_1) ?_
      refine RQ.y rfl (Y.move (v := .slice A49 x40.length c49) rfl) ?_
      refine RQ.y rfl (Y.len (by kernel_rfl) rfl) ?_
      obtain ⟨s50, ks50, hm⟩ := bnd hm
      replace ks50 := ck_some ks50
      refine RQ.y rfl (Y.binI (v := .int .i64 s50) rfl rfl (by rw [binI_add ks50.2, ks50.1])) ?_
      refine RQ.y rfl (Y.assign (v := .int .i64 s50) rfl) ?_
      refine RQ.nil ?_
      refine then_n ?_
      refine wp_seq ?_
      refine wp_rs rfl ?_
      refine RQ.y rfl (Y.move (v := .int .i64 s50) rfl) ?_
      refine RQ.y rfl (Y.binI (v := .bool (decide (s50 < 0))) rfl rfl rfl) ?_
      refine RQ.nil ?_
      refine then_n ?_
      rcases bcases (decide (s50 < 0)) with c51 | c51
      · replace hm := cF c51 hm
        have pc51 := of_decide_eq_false c51
        refine cond_f rfl (vb rfl c51) ?_
        refine wp_skip ?_
        refine blk_n (then_n ?_)
        refine wp_rs rfl ?_
        refine RQ.y rfl (Y.binI s11_1 rfl (binI_add (m := i37) (by omega))) ?_
        refine RQ.y rfl (Y.move (v := .int .i64 (i37 + 1)) rfl) ?_
        refine RQ.nil ?_
        exact (then_n ⟨g, _, Nat.lt_succ_self _, rfl, ⟨s50, (i37 + 1), s0_1, s9_1, s10_1, rfl, (by omega), rfl, (by omega), T, (by rw [← hrec1]; exact hm)⟩⟩)
      · replace hm := cT c51 hm
        have pc51 := of_decide_eq_true c51
        refine cond_t rfl (vb rfl c51) ?_
        cases hm
def m_impl_NeighborsOf_A1 (xs55 : List Int) : Option ((List Int) × Int) :=
  ((mustP (xs55.length ≤ 4294967296)).bind fun _ => ((mustP ((srt xs55).length ≤ 4294967296)).bind fun _ => some ((cmpct (srt xs55)), 0)))
def m_impl_NeighborsOf_B1 (y6 : DPair × Int) (y46 : List DPort) (rec1 : List Int → Int → Option ((List Int) × Int)) (K1 : List Int → Option ((List Int) × Int)) (xs75 : List Int) (i76 : Int) : Option ((List Int) × Int) :=
  (bif (decide (i76 < (y46.length : Int))) then ((getI y46 i76).bind fun x79 => (bif (x79.agent != y6.1.a) then (bif (x79.agent != y6.1.b) then ((mustP (xs75.length + ([x79.agent]).length ≤ 4294967296)).bind fun _ => (rec1 (xs75 ++ [x79.agent]) (i76 + 1))) else (rec1 xs75 (i76 + 1))) else (rec1 xs75 (i76 + 1)))) else (K1 xs75))
def m_impl_NeighborsOf_L1 (y6 : DPair × Int) (y46 : List DPort) (K1 : List Int → Option ((List Int) × Int)) : Nat → List Int → Int → Option ((List Int) × Int)
  | 0, _, _ => none
  | g + 1, xs75, i76 => m_impl_NeighborsOf_B1 y6 y46 (m_impl_NeighborsOf_L1 y6 y46 K1 g) K1 xs75 i76
def m_impl_NeighborsOf (d0 : DNet) (d1 : Int) : Option ((List Int) × Int) :=
  ((m_impl_pairAt d0 d1).bind fun y6 => (bif (y6.2 != 0) then some ([], y6.2) else ((getI d0.agents y6.1.a).bind fun x20 => ((getI d0.agents y6.1.b).bind fun x31 => ((m_slices_Concat_impl_Port_impl_Port ([x20.ports, x31.ports])).bind fun y46 => (m_impl_NeighborsOf_L1 y6 y46 m_impl_NeighborsOf_A1 (y46.length + 1) ([]) 0))))))
set_option maxHeartbeats 2000000 in
theorem c_m_impl_NeighborsOf (d0 : DNet) (d1 : Int) (r : (List Int) × Int) (hm : m_impl_NeighborsOf d0 d1 = some r) (v0 : Value) (w : World) (hv0 : St netRd w v0 d0) :
    Calls Try.prog 30 #[v0, .int .i64 d1] w fun e w' => (∃ (v0 : Value), e = .returned (.tuple #[v0, .int .i64 r.2]) ∧ OwF 2 encI 1 w' w.heap.size v0 r.1) ∧ Below w.heap.size w w' := by
  obtain ⟨csa0, rfl, ⟨A1, n1, c1, rfl, ⟨h1, r1⟩⟩⟩ := hv0
  have e1 := h1.len; subst e1
  have q1 := len_le r1
  have T := Below.refl w.heap.size w
  unfold m_impl_NeighborsOf at hm
  refine enter 63 Try.func30 rfl rfl rfl ?_
  intro f hf
  have s0 : f 0 = .agg #[.slice A1 d0.agents.length c1] := hf 0 _ rfl
  have s1 : f 1 = .int .i64 d1 := hf 1 _ rfl
  refine wp_seq ?_
  refine wp_rl rfl ?_
  refine RL.box rfl s0 (fun w2 B3 hb4 szw2 => ?_)
  replace B3 : Blk w2 w.heap.size 33 #[.slice A1 d0.agents.length c1] := B3
  have GB3 : w.heap.size ≤ w.heap.size := T.size
  have T := Tt T hb4
  refine RL.y rfl (Y.assign (v := .slice none 0 0) rfl) ?_
  refine RL.y rfl (Y.assign (v := .int .i64 0) rfl) ?_
  refine RL.nil ?_
  refine then_n ?_
  refine wp_seq ?_
  refine wp_rl rfl ?_
  refine RL.y rfl (Y.loadN (cs := [.slice A1 d0.agents.length c1]) rfl (by kernel_rfl) (cells1 (eqC (blkCell B3 (i := 0) rfl)))) ?_
  refine RL.y rfl (Y.move (v := .int .i64 d1) s1) ?_
  obtain ⟨y6, e7, hm⟩ := bnd hm
  refine RL.call rfl (am2 rfl rfl) (by kernel_rfl) ((c_m_impl_pairAt d0 d1 _ e7 _ _ (stArg (R := netRd) ⟨_, _, _, rfl, ⟨SlAt.now agentRd_ok h1 (Nat.le_refl _) T, r1⟩⟩)).mono ?_)
  rintro _ w8 ⟨rfl, hb9⟩
  refine ⟨_, rfl, ?_⟩
  have szw8 := hb9.size
  have B3 := blkT B3 hb9
  have T := Tt T hb9
  refine RL.y rfl (Y.move (v := .tuple #[.agg #[.int .i64 y6.1.a, .int .i64 y6.1.b], .int .i64 y6.2]) rfl) ?_
  refine RL.y rfl (Y.extract (i := 0) rfl rfl) ?_
  refine RL.y rfl (Y.extract (i := 1) rfl rfl) ?_
  refine RL.alloc (z := .agg #[.int .i64 0, .int .i64 0]) rfl (by kernel_rfl) (fun w10 B11 hb12 szw10 => ?_)
  replace B11 : Blk w10 w8.heap.size 65 #[.int .i64 0, .int .i64 0] := B11
  have GB11 : w.heap.size ≤ w8.heap.size := T.size
  have Eob13_ob5 := Nat.ne_of_lt B3.lt
  have B3 := blkT B3 hb12
  have T := Tt T hb12
  refine RL.store (v := .agg #[.int .i64 y6.1.a, .int .i64 y6.1.b]) (cs' := #[.int .i64 y6.1.a, .int .i64 y6.1.b]) rfl rfl rfl B11 (by kernel_rfl) (by rfl) (by rfl) (by rfl) (fun w14 B15 ho16 => ?_)
  have szw14 := ho16.size
  have B3 := B3.only_ ho16 (by intro hin; simp at hin; exact Eob13_ob5 hin)
  have T := T.trans (ho16.below (by first | (simp; done) | (simp; omega)))
  refine RL.y rfl (Y.assign (v := .int .i64 y6.2) rfl) ?_
  refine RL.nil ?_
  refine then_n ?_
  refine wp_seq ?_
  refine wp_seq ?_
  refine wp_rs rfl ?_
  refine RQ.y rfl (Y.move (v := .int .i64 y6.2) rfl) ?_
  refine RQ.y rfl (Y.binI (v := .bool (y6.2 != 0)) rfl rfl rfl) ?_
  refine RQ.nil ?_
  refine then_n ?_
  rcases bcases (y6.2 != 0) with c17 | c17
  · replace hm := cF c17 hm
    refine cond_f rfl (vb rfl c17) ?_
    refine wp_skip ?_
    refine then_n ?_
    refine wp_seq ?_
    refine wp_rs rfl ?_
    refine RQ.y rfl (Y.assign (v := .slice none 0 0) rfl) ?_
    refine RQ.nil ?_
    refine then_n ?_
    refine wp_seq ?_
    refine wp_seq ?_
    refine wp_rg (fun w' => Below w.heap.size w w' ∧ Blk w' w.heap.size 33 #[.slice A1 d0.agents.length c1] ∧ Blk w' w8.heap.size 65 #[.int .i64 y6.1.a, .int .i64 y6.1.b]) [(0, true), (1, true), (2, true), (3, true), (4, true), (5, true), (6, true), (7, true), (8, true), (9, true), (10, true), (11, true), (12, true), (13, true), (17, true), (14, false), (15, false), (16, true)] (by kernel_rfl) (by kernel_rfl) (fun w18 hb19 szw18 => ?_)
    have B3 := blkT B3 hb19
    have B15 := blkT B15 hb19
    have T := Tt T hb19
    refine ⟨⟨T, B3, B15⟩, ?_⟩
    refine RG.y rfl rfl (Y.fieldAddr (off := 0) rfl (by kernel_rfl)) ?_
    refine RG.y rfl rfl (Y.load (v := .slice A1 d0.agents.length c1) rfl (by kernel_rfl) (fun w' hS => (blkCell hS.2.1 (i := 0) rfl))) ?_
    refine RG.y rfl rfl (Y.fieldAddr (off := 0) rfl (by kernel_rfl)) ?_
    refine RG.y rfl rfl (Y.load (v := .int .i64 y6.1.a) rfl (by kernel_rfl) (fun w' hS => (blkCell hS.2.2 (i := 0) rfl))) ?_
    obtain ⟨x20, hx23, hm⟩ := bnd hm
    obtain ⟨k21, hk24, hl25, hx23⟩ := getI_some hx23
    obtain ⟨b27, o28, rfl, hbb27⟩ := h1.addr (by omega)
    obtain ⟨cs22, hRcs22, hc26⟩ := h1.el hx23
    have hScs22 := hRcs22
    obtain ⟨A29, n29, c29, A30, n30, c30, rfl, ⟨h29, r29⟩, ⟨h30, r30⟩⟩ := hRcs22
    have e29 := h29.len; subst e29
    have q29 := len_le r29
    have e30 := h30.len; subst e30
    have q30 := len_le r30
    refine RG.y rfl rfl (Y.indexAddr (m := k21) (sz := 5) rfl rfl hk24 hl25 (by kernel_rfl)) ?_
    refine RG.y rfl rfl (Y.fieldAddr (off := 4) rfl (by kernel_rfl)) ?_
    refine RG.y rfl rfl (Y.load (v := .slice A30 x20.ports.length c30) rfl (by kernel_rfl) (fun w' hS => (cellT hS.1 (hc26 4 _ rfl)))) ?_
    refine RG.y rfl rfl (Y.fieldAddr (off := 0) rfl (by kernel_rfl)) ?_
    refine RG.y rfl rfl (Y.load (v := .slice (some ⟨b27, o28, none⟩) d0.agents.length c1) rfl (by kernel_rfl) (fun w' hS => (blkCell hS.2.1 (i := 0) rfl))) ?_
    refine RG.y rfl rfl (Y.fieldAddr (off := 1) rfl (by kernel_rfl)) ?_
    refine RG.y rfl rfl (Y.load (v := .int .i64 y6.1.b) rfl (by kernel_rfl) (fun w' hS => (blkCell hS.2.2 (i := 1) rfl))) ?_
    obtain ⟨x31, hx34, hm⟩ := bnd hm
    obtain ⟨k32, hk35, hl36, hx34⟩ := getI_some hx34
    obtain ⟨cs33, hRcs33, hc37⟩ := h1.el hx34
    have hScs33 := hRcs33
    obtain ⟨A38, n38, c38, A39, n39, c39, rfl, ⟨h38, r38⟩, ⟨h39, r39⟩⟩ := hRcs33
    have e38 := h38.len; subst e38
    have q38 := len_le r38
    have e39 := h39.len; subst e39
    have q39 := len_le r39
    refine RG.y rfl rfl (Y.indexAddr (m := k32) (sz := 5) rfl rfl hk35 hl36 (by kernel_rfl)) ?_
    refine RG.y rfl rfl (Y.fieldAddr (off := 4) rfl (by kernel_rfl)) ?_
    refine RG.y rfl rfl (Y.load (v := .slice A39 x31.ports.length c39) rfl (by kernel_rfl) (fun w' hS => (cellT hS.1 (hc37 4 _ rfl)))) ?_
    refine RG.y rfl rfl (Y.move (v := .int .i64 0) rfl) ?_
    refine RG.act rfl ?_
    refine RL.bslice (e := 79) (cells := #[.slice A30 x20.ports.length c30, .slice A39 x31.ports.length c39]) rfl (pm2 rfl rfl) (by kernel_rfl) (fun w40 B41 hb42 szw40 => ?_)
    have ZB41 : w.heap.size ≤ w18.heap.size := T.size
    have B3 := blkT B3 hb42
    have B15 := blkT B15 hb42
    have T := Tt T hb42
    have h44 := rdlit2 (R := portRd) (sz := 2) B41 (slArg portRd_ok h30 r30 T) (slArg portRd_ok h39 r39 T)
    refine RL.nil ⟨⟨T, B3, B15⟩, ?_⟩
    refine RG.act rfl ?_
    obtain ⟨y46, e47, hm⟩ := bnd hm
    refine RL.call rfl (am1 rfl) (by kernel_rfl) ((c_m_slices_Concat_impl_Port_impl_Port ([x20.ports, x31.ports]) _ e47 _ _ (slArg (slRd_ok portRd_ok) h44 (by decide) (Below.refl _ _))).mono ?_)
    rintro _ w51 ⟨⟨v48, rfl, G49⟩, hb52⟩
    refine ⟨_, rfl, ?_⟩
    have szw51 := hb52.size
    have T0w51 := T.size
    have Zo50_ob5 := ap_ne (Ap.new (OwF.flo G49) (one_hi B3.lt))
    have Zo50_ob13 := ap_ne (Ap.new (OwF.flo G49) (one_hi B15.lt))
    have B3 := blkT B3 hb52
    have B15 := blkT B15 hb52
    have T := Tt T hb52
    replace G49 := OwF.mono G49 T0w51
    refine RL.nil ⟨⟨T, B3, B15⟩, ?_⟩
    obtain ⟨A53, c54, rfl⟩ := OwF.form G49
    have qbA53 := OwF.bound G49
    refine RG.y rfl rfl (Y.len (by kernel_rfl) rfl) ?_
    refine RG.nil ?_
    refine then_n ?_
    refine wp_block ?_
    obtain ⟨K1, hK1, hm⟩ : ∃ K, K = m_impl_NeighborsOf_A1 ∧ m_impl_NeighborsOf_L1 y6 y46 K (y46.length + 1) ([]) 0 = some r := ⟨_, rfl, hm⟩
    refine wp_loopX (fun g f w' => ∃ (xs75 : List Int) (i76 : Int) (uxs75 : Value), f 6 = .pointer (some ⟨w8.heap.size, 0, none⟩) ∧ f 35 = .slice A53 y46.length c54 ∧ f 36 = .int .i64 (y46.length : Int) ∧ f 8 = uxs75 ∧ OwF 2 encI 1 w' w.heap.size uxs75 xs75 ∧ f 37 = .int .i64 i76 ∧ 0 ≤ i76 ∧ Dj uxs75 (.slice A53 y46.length c54) ∧ Value.ownBlock uxs75 ≠ some w8.heap.size ∧ Blk w' w8.heap.size 65 #[.int .i64 y6.1.a, .int .i64 y6.1.b] ∧ OwF 28 encPort 2 w' w.heap.size (.slice A53 y46.length c54) y46 ∧ Below w.heap.size w w' ∧ m_impl_NeighborsOf_L1 y6 y46 K1 g xs75 i76 = some r) 0 (fun f w' => ∃ (xs55 : List Int) (uxs55 : Value), f 8 = uxs55 ∧ OwF 2 encI 1 w' w.heap.size uxs55 xs55 ∧ Value.ownBlock uxs55 ≠ some w8.heap.size ∧ Blk w' w8.heap.size 65 #[.int .i64 y6.1.a, .int .i64 y6.1.b] ∧ Below w.heap.size w w' ∧ m_impl_NeighborsOf_A1 xs55 = some r) (y46.length + 1) ⟨([]), 0, (.slice none 0 0), rfl, rfl, rfl, rfl, OwF.nil, rfl, (by omega), Dj.nil, nilNe (b := w8.heap.size), B15, G49, T, hm⟩ ?_ ?_
    · rintro f w56 ⟨xs55, uxs55, s8_1x, Guxs55, Noxs55_ob13, B15, T, hm⟩
      unfold m_impl_NeighborsOf_A1 at hm
      refine blk_hit (then_n ?_)
      refine wp_seq ?_
      refine wp_rl rfl ?_
      refine RL.y rfl (Y.move (v := uxs55) s8_1x) ?_
      obtain ⟨_, m57, hm⟩ := bnd hm
      have hk58 := mustP_some m57
      refine RL.call rfl (am1 rfl) (by kernel_rfl) ((sort_own Guxs55 T.size hk58).mono ?_)
      rintro _ w59 ⟨rfl, G60, hgr61, hbl62⟩
      refine ⟨_, rfl, ?_⟩
      have szw59 := hbl62.size
      have B15 := Blk.kept B15 hgr61 Noxs55_ob13
      have T := T.trans hbl62
      refine RL.nil ?_
      refine then_n ?_
      refine wp_seq ?_
      refine wp_rl rfl ?_
      refine RL.y rfl (Y.move (v := uxs55) s8_1x) ?_
      obtain ⟨_, m66, hm⟩ := bnd hm
      have hk67 := mustP_some m66
      refine RL.call rfl (am1 rfl) (by kernel_rfl) ((compact_own G60 T.size hk67).mono ?_)
      rintro _ w68 ⟨⟨v72, rfl, G69, hnb73⟩, hgr70, hbl71⟩
      refine ⟨_, rfl, ?_⟩
      have szw68 := hbl71.size
      have T := T.trans hbl71
      refine RL.y rfl (Y.assign (v := v72) rfl) ?_
      refine RL.y rfl (Y.assign (v := .int .i64 0) rfl) ?_
      refine RL.nil ?_
      refine then_n ?_
      refine wp_ret ?_
      obtain rfl := Option.some.inj hm
      exact (ret2 rfl rfl rfl rfl ⟨⟨_, rfl, G69⟩, T⟩)
    · rintro g f w77 ⟨xs75, i76, uxs75, s6_1, s35_1, s36_1, s8_1, Guxs75, s37_1, nn37_1, Doxs75_o50, Noxs75_ob13, B15, G49, T, hm⟩
      rcases g with _ | g
      · simp only [m_impl_NeighborsOf_L1] at hm; cases hm
      obtain ⟨rec1, hrec1, hm⟩ : ∃ z, z = m_impl_NeighborsOf_L1 y6 y46 K1 g ∧ m_impl_NeighborsOf_B1 y6 y46 z K1 xs75 i76 = some r := ⟨_, rfl, hm⟩
      unfold m_impl_NeighborsOf_B1 at hm
      refine wp_seq ?_
      refine wp_rs rfl ?_
      refine RQ.y rfl (Y.binI (v := .bool (decide (i76 < (y46.length : Int)))) s37_1 s36_1 rfl) ?_
      refine RQ.nil ?_
      refine then_n ?_
      refine wp_seq ?_
      rcases bcases (decide (i76 < (y46.length : Int))) with c78 | c78
      · replace hm := cF c78 hm
        have pc78 := of_decide_eq_false c78
        refine cond_f rfl (vb rfl c78) ?_
        refine wp_exit ?_
        exact (then_x (then_x (hit_x ⟨_, rfl, ⟨xs75, (uxs75), s8_1, Guxs75, (ap_ne (ne_ap Noxs75_ob13)), B15, T, (by rw [hK1] at hm; exact hm)⟩⟩)))
      · replace hm := cT c78 hm
        have pc78 := of_decide_eq_true c78
        refine cond_t rfl (vb rfl c78) ?_
        refine wp_skip ?_
        refine then_n ?_
        refine wp_seq ?_
        refine wp_block ?_
        refine wp_seq ?_
        refine wp_rl rfl ?_
        obtain ⟨x79, hx81, hm⟩ := bnd hm
        obtain ⟨k80, hk82, hl83, hx81⟩ := getI_some hx81
        obtain ⟨b84, rfl⟩ := OwF.addr0 G49 (by omega)
        refine RL.y rfl (Y.indexAddr (m := k80) (sz := 2) s35_1 s37_1 hk82 hl83 (by kernel_rfl)) ?_
        refine RL.y rfl (Y.loadN (cs := [.int .i64 x79.agent, .int .i64 x79.slot]) rfl (by kernel_rfl) (cells2 (eqC (OwF.cell fPort G49 hx81 (j := 0) rfl)) (eqC (OwF.cell fPort G49 hx81 (j := 1) rfl)))) ?_
        refine RL.alloc (z := .agg #[.int .i64 0, .int .i64 0]) rfl (by kernel_rfl) (fun w85 B86 hb87 szw85 => ?_)
        replace B86 : Blk w85 w77.heap.size 28 #[.int .i64 0, .int .i64 0] := B86
        have GB86 : w.heap.size ≤ w77.heap.size := T.size
        have Eob88_ob13 := Nat.ne_of_lt B15.lt
        have No50_ob88 := OwF.far G49 (Nat.le_refl _)
        have Noxs75_ob88 := OwF.far Guxs75 (Nat.le_refl _)
        have B15 := blkT B15 hb87
        have G49 := OwF.below G49 hb87
        have Guxs75 := OwF.below Guxs75 hb87
        have T := Tt T hb87
        refine RL.store (v := .agg #[.int .i64 x79.agent, .int .i64 x79.slot]) (cs' := #[.int .i64 x79.agent, .int .i64 x79.slot]) rfl rfl rfl B86 (by kernel_rfl) (by rfl) (by rfl) (by rfl) (fun w89 B90 ho91 => ?_)
        have szw89 := ho91.size
        have B15 := B15.only_ ho91 (by intro hin; simp at hin; exact Eob88_ob13 hin)
        have G49 := OwF.only G49 ho91 No50_ob88
        have Guxs75 := OwF.only Guxs75 ho91 Noxs75_ob88
        have T := T.trans (ho91.below (by first | (simp; done) | (simp; omega)))
        refine RL.nil ?_
        refine then_n ?_
        refine wp_seq ?_
        refine wp_rs rfl ?_
        refine RQ.y rfl (Y.fieldAddr (off := 0) rfl (by kernel_rfl)) ?_
        refine RQ.y rfl (Y.load (v := .int .i64 x79.agent) rfl (by kernel_rfl) (eqC (blkCell B90 (i := 0) rfl))) ?_
        refine RQ.y rfl (Y.fieldAddr (off := 0) s6_1 (by kernel_rfl)) ?_
        refine RQ.y rfl (Y.load (v := .int .i64 y6.1.a) rfl (by kernel_rfl) (eqC (blkCell B15 (i := 0) rfl))) ?_
        refine RQ.y rfl (Y.binI (v := .bool (x79.agent != y6.1.a)) rfl rfl rfl) ?_
        refine RQ.y rfl (Y.move (v := .bool (x79.agent != y6.1.a)) rfl) ?_
        rcases bcases (x79.agent != y6.1.a) with c92 | c92
        · replace hm := cF c92 hm
          refine RQ.skip (wantN (dj := 46) rfl (vb rfl c92) rfl) ?_
          refine RQ.skip (wantN (dj := 46) rfl (vb rfl c92) rfl) ?_
          refine RQ.skip (wantN (dj := 46) rfl (vb rfl c92) rfl) ?_
          refine RQ.skip (wantN (dj := 46) rfl (vb rfl c92) rfl) ?_
          refine RQ.skip (wantN (dj := 46) rfl (vb rfl c92) rfl) ?_
          refine RQ.y rfl (Y.pick (b := false) (v := .bool false) (vb rfl c92) rfl) ?_
          refine RQ.nil ?_
          refine then_n ?_
          refine cond_f rfl rfl ?_
          refine wp_skip ?_
          refine blk_n (then_n ?_)
          refine wp_rs rfl ?_
          refine RQ.y rfl (Y.binI s37_1 rfl (binI_add (m := i76) (by omega))) ?_
          refine RQ.y rfl (Y.move (v := .int .i64 (i76 + 1)) rfl) ?_
          refine RQ.nil ?_
          exact (then_n ⟨g, _, Nat.lt_succ_self _, rfl, ⟨xs75, (i76 + 1), (uxs75), s6_1, s35_1, s36_1, s8_1, Guxs75, rfl, (by omega), (Ap.dj (Dj.ap Doxs75_o50)), (ap_ne (ne_ap Noxs75_ob13)), B15, G49, T, (by rw [← hrec1]; exact hm)⟩⟩)
        · replace hm := cT c92 hm
          refine RQ.y (wantT (dj := 46) rfl (vb rfl c92)) (Y.fieldAddr (off := 0) rfl (by kernel_rfl)) ?_
          refine RQ.y (wantT (dj := 46) rfl (vb rfl c92)) (Y.load (v := .int .i64 x79.agent) rfl (by kernel_rfl) (eqC (blkCell B90 (i := 0) rfl))) ?_
          refine RQ.y (wantT (dj := 46) rfl (vb rfl c92)) (Y.fieldAddr (off := 1) s6_1 (by kernel_rfl)) ?_
          refine RQ.y (wantT (dj := 46) rfl (vb rfl c92)) (Y.load (v := .int .i64 y6.1.b) rfl (by kernel_rfl) (eqC (blkCell B15 (i := 1) rfl))) ?_
          refine RQ.y (wantT (dj := 46) rfl (vb rfl c92)) (Y.binI (v := .bool (x79.agent != y6.1.b)) rfl rfl rfl) ?_
          refine RQ.y rfl (Y.pick (b := true) (v := .bool (x79.agent != y6.1.b)) (vb rfl c92) rfl) ?_
          refine RQ.nil ?_
          refine then_n ?_
          rcases bcases (x79.agent != y6.1.b) with c93 | c93
          · replace hm := cF c93 hm
            refine cond_f rfl (vb rfl c93) ?_
            refine wp_skip ?_
            refine blk_n (then_n ?_)
            refine wp_rs rfl ?_
            refine RQ.y rfl (Y.binI s37_1 rfl (binI_add (m := i76) (by omega))) ?_
            refine RQ.y rfl (Y.move (v := .int .i64 (i76 + 1)) rfl) ?_
            refine RQ.nil ?_
            exact (then_n ⟨g, _, Nat.lt_succ_self _, rfl, ⟨xs75, (i76 + 1), (uxs75), s6_1, s35_1, s36_1, s8_1, Guxs75, rfl, (by omega), (Ap.dj (Dj.ap Doxs75_o50)), (ap_ne (ne_ap Noxs75_ob13)), B15, G49, T, (by rw [← hrec1]; exact hm)⟩⟩)
          · replace hm := cT c93 hm
            refine cond_t rfl (vb rfl c93) ?_
            refine wp_rl rfl ?_
            refine RL.y rfl (Y.move (v := uxs75) s8_1) ?_
            refine RL.y rfl (Y.fieldAddr (off := 0) rfl (by kernel_rfl)) ?_
            refine RL.y rfl (Y.load (v := .int .i64 x79.agent) rfl (by kernel_rfl) (eqC (blkCell B90 (i := 0) rfl))) ?_
            refine RL.bslice (e := 2) (cells := #[.int .i64 x79.agent]) rfl (pm1 rfl) (by kernel_rfl) (fun w94 B95 hb96 szw94 => ?_)
            have ZB95 : w.heap.size ≤ w89.heap.size := T.size
            have No97_ob13 := litNe (n := 1) (c := 1) B15.lt
            have No97_ob88 := litNe (n := 1) (c := 1) B90.lt
            have Do97_o50 := Dj.new (v := .slice (some ⟨w89.heap.size, 0, none⟩) 1 1) litGe (OwF.hi G49)
            have Do97_oxs75 := Dj.new (v := .slice (some ⟨w89.heap.size, 0, none⟩) 1 1) litGe (OwF.hi Guxs75)
            have B15 := blkT B15 hb96
            have B90 := blkT B90 hb96
            have G49 := OwF.below G49 hb96
            have Guxs75 := OwF.below Guxs75 hb96
            have T := Tt T hb96
            have G98 := OwF.lit (enc := encI) (sz := 1) (xs := [x79.agent]) B95 ZB95 rfl rfl rfl rfl
            obtain ⟨_, m100, hm⟩ := bnd hm
            have hk101 := mustP_some m100
            refine RL.append fI app_int64 rfl rfl rfl Guxs75 (OwF.arg fI G98) T.size hk101 (fun v102 w103 G104 hgr105 hbl106 hnb107 => ?_)
            have szw103 := hbl106.size
            have No108_ob13 := ne_app hnb107 Noxs75_ob13 B15.lt
            have No108_ob88 := ne_app hnb107 Noxs75_ob88 B90.lt
            have Do108_o50 := Dj.app Doxs75_o50 hnb107 (OwF.hi G49)
            have B15 := Blk.kept B15 hgr105 Noxs75_ob13
            have B90 := Blk.kept B90 hgr105 Noxs75_ob88
            have G49 := OwF.keptD G49 hgr105 (Dj.symm Doxs75_o50)
            have T := T.trans hbl106
            refine RL.y rfl (Y.assign (v := v102) rfl) ?_
            refine RL.nil ?_
            refine blk_n (then_n ?_)
            refine wp_rs rfl ?_
            refine RQ.y rfl (Y.binI s37_1 rfl (binI_add (m := i76) (by omega))) ?_
            refine RQ.y rfl (Y.move (v := .int .i64 (i76 + 1)) rfl) ?_
            refine RQ.nil ?_
            exact (then_n ⟨g, _, Nat.lt_succ_self _, rfl, ⟨(xs75 ++ [x79.agent]), (i76 + 1), (v102), s6_1, s35_1, s36_1, rfl, G104, rfl, (by omega), (Ap.dj (Dj.ap Do108_o50)), (ap_ne (ne_ap No108_ob13)), B15, G49, T, (by rw [← hrec1]; exact hm)⟩⟩)
  · replace hm := cT c17 hm
    refine cond_t rfl (vb rfl c17) ?_
    refine wp_seq ?_
    refine wp_rs rfl ?_
    refine RQ.y rfl (Y.move (v := .int .i64 y6.2) rfl) ?_
    refine RQ.y rfl (Y.assign (v := .slice none 0 0) rfl) ?_
    refine RQ.y rfl (Y.assign (v := .int .i64 y6.2) rfl) ?_
    refine RQ.nil ?_
    refine then_n ?_
    refine wp_ret ?_
    obtain rfl := Option.some.inj hm
    exact (then_r (ret2 rfl rfl rfl rfl ⟨⟨_, rfl, OwF.nil⟩, T⟩))
end
section
open Go.RowKit
set_option linter.unusedVariables false
set_option linter.unusedSimpArgs false
theorem arr_get {zs : List Int} {j : Nat} (h : j < zs.length) : zs.toArray[j]! = zs[j] := by simp [h]
theorem compact_ok {zs : List Int} (hs : zs.Pairwise (· ≤ ·)) : ∀ m, m ≤ zs.length → (Lib.compactUpTo zs.toArray m).Pairwise (· < ·) ∧ ∀ x, x ∈ Lib.compactUpTo zs.toArray m ↔ ∃ (j : Nat) (h : j < zs.length), j < m ∧ zs[j] = x
  | 0, _ => by simp [Lib.compactUpTo]
  | m + 1, hm => by
    obtain ⟨h1, h2⟩ := compact_ok hs m (by omega)
    have hmono : ∀ (i j : Nat) (hi : i < zs.length) (hj : j < zs.length), i ≤ j → zs[i] ≤ zs[j] := fun i j hi hj hij => by
      by_cases e : i = j
      · subst e; exact Int.le_refl _
      · exact List.pairwise_iff_getElem.1 hs i j hi hj (by omega)
    rw [Lib.compactUpTo_succ]
    have hgm := arr_get (show m < zs.length by omega)
    by_cases hk : Lib.keeps zs.toArray m = true
    · rw [if_pos hk, hgm]
      refine ⟨?_, fun x => ?_⟩
      · rw [List.pairwise_append]
        refine ⟨h1, List.pairwise_singleton _ _, fun a ha b hb => ?_⟩
        rw [List.mem_singleton] at hb
        subst hb
        obtain ⟨j, hj, hjm, rfl⟩ := (h2 a).1 ha
        have hne : zs[m] ≠ zs[m - 1] := by
          unfold Lib.keeps at hk
          have := of_decide_eq_true hk
          rcases this with h0 | h0
          · omega
          · rwa [hgm, arr_get (show m - 1 < zs.length by omega)] at h0
        have l1 := hmono j (m - 1) hj (by omega) (by omega)
        have l2 := hmono (m - 1) m (by omega) (by omega) (by omega)
        omega
      · rw [List.mem_append, h2, List.mem_singleton]
        constructor
        · rintro (⟨j, hj, hjm, rfl⟩ | rfl)
          · exact ⟨j, hj, by omega, rfl⟩
          · exact ⟨m, by omega, by omega, rfl⟩
        · rintro ⟨j, hj, hjm, rfl⟩
          by_cases e : j = m
          · subst e; exact .inr rfl
          · exact .inl ⟨j, hj, by omega, rfl⟩
    · rw [if_neg hk, List.append_nil]
      refine ⟨h1, fun x => ?_⟩
      have hk' : ¬ (m = 0 ∨ zs.toArray[m]! ≠ zs.toArray[m - 1]!) := fun h => hk (by unfold Lib.keeps; exact decide_eq_true h)
      have hm0 : m ≠ 0 := fun h => hk' (.inl h)
      have he : zs[m] = zs[m - 1] := by
        by_cases e : zs[m] = zs[m - 1]
        · exact e
        · exact absurd (.inr (by rw [hgm, arr_get (show m - 1 < zs.length by omega)]; exact e)) hk'
      rw [h2]
      constructor
      · rintro ⟨j, hj, hjm, rfl⟩
        exact ⟨j, hj, by omega, rfl⟩
      · rintro ⟨j, hj, hjm, rfl⟩
        by_cases e : j = m
        · subst e; exact ⟨j - 1, by omega, by omega, he.symm⟩
        · exact ⟨j, hj, by omega, rfl⟩
theorem cmpct_srt (l : List Int) : (cmpct (srt l)).Pairwise (· < ·) ∧ ∀ x, x ∈ cmpct (srt l) ↔ x ∈ l := by
  have hs : (srt l).Pairwise (· ≤ ·) := by
    obtain ⟨h1, h2⟩ := insK_spec l l.length (Nat.le_refl _)
    rw [← insK_all]; exact h2
  obtain ⟨h1, h2⟩ := compact_ok hs (srt l).length (Nat.le_refl _)
  refine ⟨h1, fun x => ?_⟩
  unfold cmpct Lib.compact
  rw [h2, ← srt_mem]
  constructor
  · rintro ⟨j, hj, _, rfl⟩; exact List.getElem_mem hj
  · intro hx
    obtain ⟨j, hj, rfl⟩ := List.getElem_of_mem hx
    exact ⟨j, hj, hj, rfl⟩
theorem lt_unique {l m : List Int} (hl : l.Pairwise (· < ·)) (hm : m.Pairwise (· < ·)) (h : ∀ x, x ∈ l ↔ x ∈ m) : l = m := by
  have n1 : l.Nodup := List.nodup_iff_pairwise_ne.2 (hl.imp fun h => by omega)
  have n2 : m.Nodup := List.nodup_iff_pairwise_ne.2 (hm.imp fun h => by omega)
  have hp : l.Perm m := (List.perm_ext_iff_of_nodup n1 n2).2 h
  exact (srt_unique hp (hl.imp fun h => by omega)).trans (srt_unique (List.Perm.refl m) (hm.imp fun h => by omega)).symm
/-- The wires of a valid net are seen from both ends. -/
theorem Good.sym {xs : List DAgent} (G : Good xs) {i : Nat} {x : DAgent} (hx : xs[i]? = some x) {p : DPort} (hp : p ∈ x.ports) : ∃ (j : Nat) (y : DAgent), p.agent = (j : Int) ∧ xs[j]? = some y ∧ ∃ q ∈ y.ports, q.agent = (i : Int) := by
  obtain ⟨k, hk, rfl⟩ := List.getElem_of_mem hp
  have hpk := List.getElem?_eq_getElem hk
  have h := G.peer (hasPort_of hx hk)
  rw [peer_of hx hpk] at h
  obtain ⟨j, s, y, e, hy, hs, _⟩ := hasPort_at h.1
  have h2 := h.2.1
  rw [e] at h2
  rw [peer_of hy (List.getElem?_eq_getElem hs)] at h2
  exact ⟨j, y, by rw [e], hy, _, List.getElem_mem hs, by rw [h2]⟩
def nbF (a b : Int) (p : DPort) : Bool := p.agent == a || p.agent == b
def nbAt (xs : List DAgent) (a b : Int) (k : Nat) : List Int := if (agentAt xs (k : Int)).ports.any (nbF a b) = true ∧ (k : Int) ≠ a ∧ (k : Int) ≠ b then [(k : Int)] else []
def nbL (xs : List DAgent) (a b : Int) : List Int := (List.range' 0 xs.length).flatMap (nbAt xs a b)
theorem nbAt_le (xs : List DAgent) (a b : Int) (k : Nat) : (nbAt xs a b k).length ≤ 1 := by unfold nbAt; split <;> simp
theorem nbL_lt (xs : List DAgent) (a b : Int) : (nbL xs a b).Pairwise (· < ·) := by
  unfold nbL
  have key : ∀ d k0, ((List.range' k0 d).flatMap (nbAt xs a b)).Pairwise (· < ·) ∧ ∀ x ∈ (List.range' k0 d).flatMap (nbAt xs a b), (k0 : Int) ≤ x := by
    intro d
    induction d with
    | zero => intro k0; simp
    | succ d ih =>
      intro k0
      obtain ⟨h1, h2⟩ := ih (k0 + 1)
      rw [List.range'_succ, List.flatMap_cons]
      have hm : ∀ x ∈ nbAt xs a b k0, x = (k0 : Int) := fun x hx => by unfold nbAt at hx; split at hx <;> simp at hx; exact hx
      refine ⟨List.pairwise_append.2 ⟨?_, h1, fun x hx y hy => ?_⟩, fun x hx => ?_⟩
      · unfold nbAt; split <;> simp
      · have := hm x hx; have := h2 y hy; omega
      · rcases List.mem_append.1 hx with h | h
        · have := hm x h; omega
        · have := h2 x h; omega
  exact (key xs.length 0).1
theorem nbL_mem {xs : List DAgent} {a b x : Int} : x ∈ nbL xs a b ↔ ∃ (k : Nat) (y : DAgent), xs[k]? = some y ∧ x = (k : Int) ∧ y.ports.any (nbF a b) = true ∧ x ≠ a ∧ x ≠ b := by
  unfold nbL
  rw [List.mem_flatMap]
  constructor
  · rintro ⟨k, hk, hx⟩
    have hk : k < xs.length := by simpa using hk
    have hy := List.getElem?_eq_getElem hk
    unfold nbAt at hx
    rw [agentAt_nat hy] at hx
    split at hx
    · rename_i h
      simp at hx; subst hx
      exact ⟨k, _, hy, rfl, h⟩
    · simp at hx
  · rintro ⟨k, y, hy, rfl, h⟩
    have hk := lt_of_some hy
    refine ⟨k, by simpa using hk, ?_⟩
    unfold nbAt
    rw [agentAt_nat hy, if_pos h]
    simp
def nbI (a b : Int) (p : DPort) : List Int := if p.agent ≠ a ∧ p.agent ≠ b then [p.agent] else []
theorem nb_eq {xs : List DAgent} (G : Good xs) {i j : Nat} {x y : DAgent} (hx : xs[i]? = some x) (hy : xs[j]? = some y) : cmpct (srt ((x.ports ++ y.ports).flatMap (nbI (i : Int) (j : Int)))) = nbL xs (i : Int) (j : Int) := by
  obtain ⟨h1, h2⟩ := cmpct_srt ((x.ports ++ y.ports).flatMap (nbI (i : Int) (j : Int)))
  refine lt_unique h1 (nbL_lt xs _ _) fun z => ?_
  rw [h2, nbL_mem, List.mem_flatMap]
  constructor
  · rintro ⟨p, hp, hz⟩
    unfold nbI at hz
    split at hz
    · rename_i hne
      simp at hz; subst hz
      rcases List.mem_append.1 hp with hp | hp
      · obtain ⟨k, u, e, hu, q, hq, hqi⟩ := G.sym hx hp
        exact ⟨k, u, hu, e, List.any_eq_true.2 ⟨q, hq, by simp [nbF, hqi]⟩, hne⟩
      · obtain ⟨k, u, e, hu, q, hq, hqi⟩ := G.sym hy hp
        exact ⟨k, u, hu, e, List.any_eq_true.2 ⟨q, hq, by simp [nbF, hqi]⟩, hne⟩
    · simp at hz
  · rintro ⟨k, u, hu, rfl, hany, hne⟩
    obtain ⟨q, hq, hqe⟩ := List.any_eq_true.1 hany
    obtain ⟨m, v, e, hv, p, hp, hpk⟩ := G.sym hu hq
    have hin : p ∈ x.ports ++ y.ports := by
      simp only [nbF, Bool.or_eq_true, beq_iff_eq] at hqe
      rcases hqe with h | h
      · have : m = i := by omega
        subst this
        rw [hx] at hv; injection hv with hv; subst hv
        exact List.mem_append_left _ hp
      · have : m = j := by omega
        subst this
        rw [hy] at hv; injection hv with hv; subst hv
        exact List.mem_append_right _ hp
    refine ⟨p, hin, ?_⟩
    unfold nbI
    rw [hpk, if_pos hne]
    simp
noncomputable def neighborsOf (d : DNet) (k : Int) : List Int × Int :=
  if (pairNo d k).2 = 0 then (nbL d.agents (pairNo d k).1.a (pairNo d k).1.b, 0) else ([], (pairNo d k).2)
theorem nb_inner (y6 : DPair × Int) (x : DAgent) (K : Bool → Option (List Int × Int)) (hp : x.ports.length ≤ 1048576) : m_spec_NeighborsOf_L2 y6 x K (x.ports.length + 1) false 0 = K (x.ports.any (nbF y6.1.a y6.1.b)) := by
  have := traj (L := fun g (s : Bool × Int) => m_spec_NeighborsOf_L2 y6 x K g s.1 s.2) (st := fun j => ((x.ports.take j).any (nbF y6.1.a y6.1.b), (j : Int))) (n := x.ports.length) (r := K (x.ports.any (nbF y6.1.a y6.1.b)))
    (fun g j hj => by
      have hq := List.getElem?_eq_getElem hj
      simp -implicitDefEqProofs only [m_spec_NeighborsOf_L2, m_spec_NeighborsOf_B2, dlt hj, cond_true, getI_nat hq, Option.bind_some]
      rw [take_succ_some hq, List.any_append]
      have e1 : [x.ports[j]].any (nbF y6.1.a y6.1.b) = (x.ports[j].agent == y6.1.a || x.ports[j].agent == y6.1.b) := by simp [nbF]
      rw [e1]
      cases (x.ports.take j).any (nbF y6.1.a y6.1.b) with
      | true => simp only [cond_true, Bool.true_or, Int.natCast_add, Int.cast_ofNat_Int]
      | false =>
        rw [cond_false, Bool.false_or]
        cases x.ports[j].agent == y6.1.a with
        | true => simp only [cond_true, Bool.true_or, Int.natCast_add, Int.cast_ofNat_Int]
        | false => simp only [cond_false, Bool.false_or, Int.natCast_add, Int.cast_ofNat_Int])
    (fun g => by simp -implicitDefEqProofs only [m_spec_NeighborsOf_L2, m_spec_NeighborsOf_B2, dge, cond_false, List.take_length]) (x.ports.length + 1) (Nat.lt_succ_self _)
  simpa using this
theorem p_sNeighborsOf (d : DNet) (k : Int) (hs : Small d.agents) : m_spec_NeighborsOf d k = some (neighborsOf d k) := by
  unfold m_spec_NeighborsOf neighborsOf
  rw [p_sPair d k hs, Option.bind_some]
  by_cases h : (pairNo d k).2 = 0
  · have G : Good d.agents := (pairNo_in h).1
    have hl := G.len
    rw [show ((pairNo d k).2 != 0) = false by simpa using h, cond_false, if_pos h]
    generalize pairNo d k = y6
    obtain ⟨xs⟩ := d
    simp only at hl G ⊢
    have key := appI (L := m_spec_NeighborsOf_L1 ⟨xs⟩ y6 m_spec_NeighborsOf_A1) (f := nbAt xs y6.1.a y6.1.b) (n := xs.length) (M := 4294967296) (K := fun acc => some (acc, 0))
      (fun g k acc hk hM => by
        have hx := List.getElem?_eq_getElem hk
        simp -implicitDefEqProofs only [m_spec_NeighborsOf_L1, m_spec_NeighborsOf_B1, dlt hk, cond_true, getI_nat hx, Option.bind_some]
        rw [nb_inner _ _ _ (small_sz hs hx).2]
        unfold m_spec_NeighborsOf_A2
        have hc : ck ((k : Int) + 1) = some ((k : Int) + 1) := ck_ok (by omega)
        unfold nbAt at hM ⊢
        rw [agentAt_nat hx] at hM ⊢
        cases hany : xs[k].ports.any (nbF y6.1.a y6.1.b) with
        | false => rw [cond_false, hc, Option.bind_some, if_neg (by simp), List.append_nil]
        | true =>
          rw [cond_true]
          by_cases h1 : (k : Int) = y6.1.a
          · rw [show ((k : Int) != y6.1.a) = false by simp [h1], cond_false, hc, Option.bind_some, if_neg (fun h => h.2.1 h1), List.append_nil]
          · rw [show ((k : Int) != y6.1.a) = true by simp [h1], cond_true]
            by_cases h2 : (k : Int) = y6.1.b
            · rw [show ((k : Int) != y6.1.b) = false by simp [h2], cond_false, hc, Option.bind_some, if_neg (fun h => h.2.2 h2), List.append_nil]
            · rw [hany, if_pos ⟨rfl, h1, h2⟩] at hM
              rw [show ((k : Int) != y6.1.b) = true by simp [h2], cond_true, mustP_ok (by simpa using hM), Option.bind_some, hc, Option.bind_some, if_pos ⟨rfl, h1, h2⟩])
      (fun g acc => by simp -implicitDefEqProofs only [m_spec_NeighborsOf_L1, m_spec_NeighborsOf_B1, dge, cond_false, m_spec_NeighborsOf_A1])
      0 [] (xs.length + 1) (by omega) (by omega) (by
        have := flat_le (f := nbAt xs y6.1.a y6.1.b) (fun k => nbAt_le xs y6.1.a y6.1.b k) (List.range' 0 (xs.length - 0))
        rw [List.length_range'] at this
        simp only [List.length_nil]; omega)
    simpa [nbL] using key
  · rw [show ((pairNo d k).2 != 0) = true by simpa using h, cond_true, if_neg h]
theorem p_concat (p q : List DPort) (hp : p.length ≤ 1048576) (hq : q.length ≤ 1048576) : m_slices_Concat_impl_Port_impl_Port [p, q] = some (p ++ q) := by
  have g0 : getI [p, q] 0 = some p := rfl
  have g1 : getI [p, q] 1 = some q := rfl
  have c0 : decide ((0 : Int) < (([p, q].length : Nat) : Int)) = true := rfl
  have c1 : decide ((1 : Int) < (([p, q].length : Nat) : Int)) = true := rfl
  have c2 : decide ((2 : Int) < (([p, q].length : Nat) : Int)) = false := rfl
  unfold m_slices_Concat_impl_Port_impl_Port
  rw [show [p, q].length + 1 = 3 from rfl]
  simp -implicitDefEqProofs only [m_slices_Concat_impl_Port_impl_Port_L1, m_slices_Concat_impl_Port_impl_Port_B1]
  rw [c0, cond_true, g0, Option.bind_some, ck_ok (by omega), Option.bind_some, decide_eq_false (by omega), cond_false, show (0 : Int) + 1 = 1 from rfl, c1, cond_true, g1, Option.bind_some, ck_ok (by omega), Option.bind_some, decide_eq_false (by omega), cond_false, show (1 : Int) + 1 = 2 from rfl, c2, cond_false]
  unfold m_slices_Concat_impl_Port_impl_Port_A1 growM
  rw [mustP_ok (by omega), Option.bind_some, Option.bind_some, show [p, q].length + 1 = 3 from rfl]
  simp -implicitDefEqProofs only [m_slices_Concat_impl_Port_impl_Port_L2, m_slices_Concat_impl_Port_impl_Port_B2]
  rw [c0, cond_true, g0, Option.bind_some, mustP_ok (by simp; omega), Option.bind_some, show (0 : Int) + 1 = 1 from rfl, c1, cond_true, g1, Option.bind_some, mustP_ok (by simp; omega), Option.bind_some, show (1 : Int) + 1 = 2 from rfl, c2, cond_false]
  rfl
theorem nbI_le (a b : Int) (p : DPort) : (nbI a b p).length ≤ 1 := by unfold nbI; split <;> simp
theorem p_iNeighborsOf (d : DNet) (k : Int) (hs : Small d.agents) : m_impl_NeighborsOf d k = some (neighborsOf d k) := by
  unfold m_impl_NeighborsOf neighborsOf
  rw [p_iPair d k hs, Option.bind_some]
  by_cases h : (pairNo d k).2 = 0
  · obtain ⟨G, i, j, x, y, hp, _, hx, hy, _⟩ := pairNo_in h
    rw [show ((pairNo d k).2 != 0) = false by simpa using h, cond_false, if_pos h]
    have heq := nb_eq G hx hy
    rw [hp]
    simp only [getI_nat hx, getI_nat hy, Option.bind_some]
    have l1 := (small_sz hs hx).2
    have l2 := (small_sz hs hy).2
    rw [p_concat _ _ l1 l2, Option.bind_some]
    have hlen : (x.ports ++ y.ports).length ≤ 2097152 := by simp; omega
    generalize x.ports ++ y.ports = ps at hlen heq ⊢
    generalize pairNo d k = y6 at hp ⊢
    have key := (appL (L := fun g acc i' => m_impl_NeighborsOf_L1 y6 ps m_impl_NeighborsOf_A1 g acc i') (d := ps) (f := nbI (i : Int) (j : Int)) (B := 1) (M := 4294967296) (K := fun acc => m_impl_NeighborsOf_A1 acc)
      (fun p _ => nbI_le _ _ p)
      (fun g k p acc hq hM => by
        have hk := lt_of_some hq
        simp -implicitDefEqProofs only [m_impl_NeighborsOf_L1, m_impl_NeighborsOf_B1, dlt hk, cond_true, getI_nat hq, Option.bind_some]
        rw [hp]
        simp only
        unfold nbI at hM ⊢
        by_cases h1 : p.agent = (i : Int)
        · rw [show (p.agent != (i : Int)) = false by simp [h1], cond_false, if_neg (fun h => h.1 h1), List.append_nil]
        · rw [show (p.agent != (i : Int)) = true by simp [h1], cond_true]
          by_cases h2 : p.agent = (j : Int)
          · rw [show (p.agent != (j : Int)) = false by simp [h2], cond_false, if_neg (fun h => h.2 h2), List.append_nil]
          · rw [if_pos ⟨h1, h2⟩] at hM ⊢
            rw [show (p.agent != (j : Int)) = true by simp [h2], cond_true, mustP_ok (by simpa using hM), Option.bind_some])
      (fun g acc => by simp -implicitDefEqProofs only [m_impl_NeighborsOf_L1, m_impl_NeighborsOf_B1, dge, cond_false])
      [] (ps.length + 1) (by omega) (by simp; omega))
    obtain ⟨key, hb⟩ := key
    refine key.trans ?_
    simp only [List.length_nil, List.nil_append] at hb ⊢
    unfold m_impl_NeighborsOf_A1
    rw [mustP_ok (by omega), Option.bind_some, mustP_ok (by rw [srt_len]; omega), Option.bind_some, heq]
  · rw [show ((pairNo d k).2 != 0) = true by simpa using h, cond_true, if_neg h]
theorem neighborsOf_len (d : DNet) (k : Int) (hs : szNet d ≤ 1048576) : lenOk (neighborsOf d k).1 := by
  unfold neighborsOf lenOk
  split
  · rename_i h
    have hl := (pairNo_in h).1.len
    have := flat_le (f := nbAt d.agents (pairNo d k).1.a (pairNo d k).1.b) (fun q => nbAt_le d.agents _ _ q) (List.range' 0 d.agents.length)
    rw [List.length_range'] at this
    show (nbL _ _ _).length ≤ _
    unfold nbL
    omega
  · simp
end
section
open Go.RowKit
set_option linter.unusedVariables false
theorem specNeighborsOf_v (v : Value) (x : DNet) (k : Int) (w : World) {B : Nat} (h : RdT netRd w B v x) (hB : B ≤ w.heap.size) (hs : szNet x ≤ 1048576) :
    Calls Try.prog 29 #[v, .int .i64 k] w fun e w' => (∃ v', e = .returned (.tuple #[v', .int .i64 (neighborsOf x k).2]) ∧ OwS intOw 1 w' v' (neighborsOf x k).1 w.heap.size w'.heap.size) ∧ Below w.heap.size w w' :=
  (c_m_spec_NeighborsOf x k _ (p_sNeighborsOf x k hs) v w (h.more netRd_ok hB)).mono fun e w' ⟨⟨v', he, ho⟩, hb⟩ => ⟨⟨v', he, ho.own fI⟩, hb⟩
theorem implNeighborsOf_v (v : Value) (x : DNet) (k : Int) (w : World) {B : Nat} (h : RdT netRd w B v x) (hB : B ≤ w.heap.size) (hs : szNet x ≤ 1048576) :
    Calls Try.prog 30 #[v, .int .i64 k] w fun e w' => (∃ v', e = .returned (.tuple #[v', .int .i64 (neighborsOf x k).2]) ∧ OwS intOw 1 w' v' (neighborsOf x k).1 w.heap.size w'.heap.size) ∧ Below w.heap.size w w' :=
  (c_m_impl_NeighborsOf x k _ (p_iNeighborsOf x k hs) v w (h.more netRd_ok hB)).mono fun e w' ⟨⟨v', he, ho⟩, hb⟩ => ⟨⟨v', he, ho.own fI⟩, hb⟩
end
section
open Go.RowKit
set_option linter.unusedVariables false
def marksF {α : Type} (f : Nat → α) (s k n : Nat) : List α := (List.range n).map fun i => f (k + s * i)
theorem marksF_len {α : Type} (f : Nat → α) (s k n : Nat) : (marksF f s k n).length = n := by simp [marksF]
theorem marksF_succ {α : Type} (f : Nat → α) (s k n : Nat) : marksF f s k (n + 1) = marksF f s k n ++ [f (k + s * n)] := by simp [marksF, List.range_succ]
def mkPort (k : Nat) : DPort := (⟨(k : Int), (k : Int) + 1⟩ : DPort)
theorem mkPort_cells (k0 k : Nat) : [Value.int .i64 (mkPort (k0 + 2 * k)).agent, Value.int .i64 (mkPort (k0 + 2 * k)).slot] = [.int .i64 ((k0 : Int) + 2 * k), .int .i64 ((k0 : Int) + 2 * k + 1)] := by simp [mkPort]
set_option maxHeartbeats 2000000 in
theorem markPortS_c (A : Option Addr) (n c k0 : Nat) (xs : List DPort) (bs : List Nat) (w : World) (hx : OwAt portOw 2 w A n xs bs) (hnd : bs.Nodup) (hn : n ≤ 4294967296) (hk0 : k0 ≤ 4611686018427387904) :
    Calls Try.prog 76 #[.slice A n c, .int .i64 k0] w fun e w' => e = .returned (.int .i64 ((k0 + 2 * n : Nat) : Int)) ∧ OwAt portOw 2 w' A n (marksF mkPort 2 k0 n) bs ∧ Only bs w w' := by
  have lx := Lib.hid hx.len
  have hmid := Lib.hid hx.mid
  clear hx
  go_enter Try.func76, Try.ntmps76
  go_wp2
  go_loopw [1, 5] (fun kk i wr => ∃ k : Nat, k ≤ n ∧ i = .int .i64 k ∧ kk = .int .i64 ((k0 : Int) + 2 * k) ∧ Only bs w wr ∧ Hid (MidAt portOw 2 wr A (marksF mkPort 2 k0 k) (xs.drop k) bs)) (fun _ i _ => n - (intOf i).toNat)
  case atStart => exact ⟨0, by omega, rfl, by simp, Only.refl _ _, hmid.out⟩
  case round =>
    obtain ⟨k, hk, rfl, rfl, ho, hm⟩ := hrel
    by_cases hlt : k < n
    · obtain ⟨x, hxk⟩ : ∃ x, xs[k]? = some x := ⟨_, List.getElem?_eq_getElem (by have := lx.out; omega)⟩
      have hm := hm.out
      rw [drop_some hxk] at hm
      obtain ⟨b, o, cs, b1, bx, b2, rfl, hbs, hO, hc, h1, h2⟩ := hm.next
      obtain ⟨rfl, rfl⟩ := hO
      rw [marksF_len] at hc h2
      obtain ⟨hc0, hd0⟩ := hc 0 _ rfl
      obtain ⟨hc1, hd1⟩ := hc 1 _ rfl
      rw [Nat.add_zero] at hc0 hd0
      have HN := Lib.hid hbs
      have Hx := Lib.hid hxk
      have H1 := Lib.hid h1
      have H2 := Lib.hid h2
      clear hbs hxk h1 h2 hm hc
      go_wp2
      go_roundw
      case rel =>
        have hnd' := hnd
        rw [HN.out] at hnd'
        have hb : b ∉ b1 ∧ b ∉ b2 := by simpa using (List.nodup_cons.1 hnd').1
        have hlen : (marksF mkPort 2 k0 k).length = k := marksF_len _ _ _ _
        refine ⟨k + 1, by omega, by go_num, by go_num, ?_, ?_⟩
        · exact ((ho.setCell (by rw [HN.out]; simp) _).setCell (by rw [HN.out]; simp) _)
        rw [marksF_succ, HN.out]
        refine MidAt.step (o := o) rfl (ElAt.setRun portOw_ok (vs := [.int .i64 ((k0 : Int) + 2 * k), .int .i64 ((k0 : Int) + 2 * k + 1)]) (p := o + k * 2) H1.out hb.1 (Or.inr (by omega))) (cs := [.int .i64 ((k0 : Int) + 2 * k), .int .i64 ((k0 : Int) + 2 * k + 1)]) ⟨(mkPort_cells k0 k).symm, rfl⟩ ?_ ?_
        · rw [hlen]
          exact setRun_csAt (vs := [.int .i64 ((k0 : Int) + 2 * k), .int .i64 ((k0 : Int) + 2 * k + 1)]) (fun j hj => by
            match j, hj with
            | 0, _ => exact ⟨_, hc0⟩
            | 1, _ => exact ⟨_, hc1⟩
            | j + 2, hj => simp at hj; omega) (fun j hj => by
            match j, hj with
            | 0, _ => exact hd0
            | 1, _ => exact hd1
            | j + 2, hj => simp at hj; omega)
        · rw [hlen]
          exact ElAt.setRun portOw_ok (vs := [.int .i64 ((k0 : Int) + 2 * k), .int .i64 ((k0 : Int) + 2 * k + 1)]) (p := o + k * 2) H2.out hb.2 (Or.inl (by simp))
      case measure => simp [intOf]; omega
    · obtain rfl : n = k := by omega
      have hm := hm.out
      rw [List.drop_of_length_le (by have := lx.out; omega)] at hm
      have Hm := Lib.hid (hm.whole (n := n) (marksF_len _ _ _ _).symm)
      clear hm
      go_wp2
      go_ret
      exact ⟨rfl, Hm.out, ho⟩
end
section
open Go.RowKit
set_option linter.unusedVariables false
theorem Blk.only {w w' : World} {g lo hi : Nat} {t : TypeId} {cs : Array Value} (h : Blk w g t cs) (ho : OnlyIn lo hi w w') (hg : g < lo ∨ hi ≤ g) : Blk w' g t cs := (ho.block g hg).trans h
def cntA (x : DAgent) : Nat := 3 + x.data.length + 2 * x.ports.length
theorem cntL_agents (xs : List DAgent) : cntL cntA xs ≤ 3 * szAgentS xs := by
  unfold szAgentS cntL
  have : ∀ ys : List DAgent, (ys.map cntA).sum ≤ 3 * ys.length + 2 * (ys.map szAgent).sum := by
    intro ys
    induction ys with
    | nil => simp
    | cons y ys ih =>
      have e : szAgent y = y.data.length + y.ports.length := rfl
      simp only [List.map_cons, List.sum_cons, List.length_cons, cntA]
      omega
  have := this xs
  omega
theorem szAgent_mem {xs : List DAgent} {k : Nat} {x : DAgent} (h : xs[k]? = some x) (hs : szAgentS xs ≤ 1048576) : x.data.length ≤ 1048576 ∧ x.ports.length ≤ 1048576 := by
  have h1 : szAgent x ≤ (xs.map szAgent).sum := by
    have hm := List.mem_of_getElem? h
    clear h hs
    induction xs with
    | nil => cases hm
    | cons y ys ih =>
      rcases List.mem_cons.1 hm with rfl | h
      · simp
      · have := ih h; simp; omega
  have e : szAgent x = x.data.length + x.ports.length := rfl
  unfold szAgentS at hs
  omega
theorem set3_block {w : World} {b p j : Nat} {u0 u1 u2 : Value} (h : j ≠ b) : (((w.setCell ⟨b, p, none⟩ u0).setCell ⟨b, p + 1, none⟩ u1).setCell ⟨b, p + 2, none⟩ u2).heap[j]? = w.heap[j]? := by
  rw [Below.heap_setCell _ ⟨b, p + 2, none⟩ _ _ h, Below.heap_setCell _ ⟨b, p + 1, none⟩ _ _ h, Below.heap_setCell _ ⟨b, p, none⟩ _ _ h]
theorem set3_cell {w : World} {b p q : Nat} {u0 u1 u2 : Value} (h : p + 3 ≤ q) : (((w.setCell ⟨b, p, none⟩ u0).setCell ⟨b, p + 1, none⟩ u1).setCell ⟨b, p + 2, none⟩ u2).cell? ⟨b, q, none⟩ = w.cell? ⟨b, q, none⟩ := by
  rw [World.cell?_setCell_other _ _ _ _ (fun e => by injection e with _ e2; omega), World.cell?_setCell_other _ _ _ _ (fun e => by injection e with _ e2; omega), World.cell?_setCell_other _ _ _ _ (fun e => by injection e with _ e2; omega)]
/-- What lies ahead of the loop. -/
def Ahead (wr : World) (A : Option Addr) (k : Nat) (rest : List DAgent) (bs : List Nat) : Prop :=
  rest = [] ∨ ∃ b o b2, A = some ⟨b, o, none⟩ ∧ ElAt agentOw 5 wr b (o + k * 5) rest b2 ∧ b ∈ bs ∧ b ∉ b2 ∧ b2.Nodup ∧ ∀ j ∈ b2, j ∈ bs
set_option maxHeartbeats 4000000 in
theorem markAgentS_c (A : Option Addr) (n c k0 : Nat) (xs : List DAgent) (bs : List Nat) (w : World) (hx : OwAt agentOw 5 w A n xs bs) (hnd : bs.Nodup) (hs : szAgentS xs ≤ 1048576) (hk0 : k0 ≤ 4294967296) :
    Calls Try.prog 48 #[.slice A n c, .int .i64 k0] w fun e w' => e = .returned (.int .i64 ((k0 + cntL cntA xs : Nat) : Int)) ∧ Only bs w w' := by
  have lx := Lib.hid hx.len
  have hn : n ≤ 1048576 := by have := lx.out; unfold szAgentS at hs; omega
  have hcl := cntL_agents xs
  have hst := Lib.hid (show Ahead w A 0 xs bs by
    rcases hx.2 with ⟨e1, e2⟩ | ⟨b, o, b2, e1, e2, h⟩
    · exact .inl e1
    · rw [e2] at hnd ⊢
      exact .inr ⟨b, o, b2, e1, by simpa using h, by simp, (List.nodup_cons.1 hnd).1, (List.nodup_cons.1 hnd).2, fun j hj => by simp [hj]⟩)
  clear hx
  go_enter Try.func48, Try.ntmps48
  go_wp2_with fail
  go_loopw [1, 5] (fun kk i wr => ∃ k : Nat, k ≤ n ∧ i = .int .i64 k ∧ kk = .int .i64 ((k0 : Int) + (cntL cntA (xs.take k) : Nat)) ∧ Only bs w wr ∧ Hid (Ahead wr A k (xs.drop k) bs)) (fun _ i _ => n - (intOf i).toNat)
  case atStart => exact ⟨0, by omega, rfl, by simp [cntL], Only.refl _ _, hst.out⟩
  case round =>
    obtain ⟨k, hk, rfl, rfl, ho, hm⟩ := hrel
    by_cases hlt : k < n
    · obtain ⟨x, hxk⟩ : ∃ x, xs[k]? = some x := ⟨_, List.getElem?_eq_getElem (by have := lx.out; omega)⟩
      have hm := hm.out
      rw [drop_some hxk] at hm
      rcases hm with h0 | ⟨b, o, b2, rfl, hE, hbb, hb2, hn2, hin⟩
      · cases h0
      obtain ⟨cs, bx, b3, hO, hc, rfl, h2⟩ := hE
      obtain ⟨A1, n1, c1, A2, n2, c2, bd, bp, rfl, ⟨hd, rd⟩, ⟨hp, rp⟩, rfl⟩ := hO
      obtain ⟨hc0, hd0⟩ := hc 0 _ rfl
      obtain ⟨hc1, hd1⟩ := hc 1 _ rfl
      obtain ⟨hc2, hd2⟩ := hc 2 _ rfl
      obtain ⟨hc3, hd3⟩ := hc 3 _ rfl
      obtain ⟨hc4, hd4⟩ := hc 4 _ rfl
      rw [Nat.add_zero] at hc0 hd0
      have hsz := szAgent_mem hxk hs
      have hct := cntL_take (cnt := cntA) hxk
      have hcx : cntA x = 3 + x.data.length + 2 * x.ports.length := rfl
      have hcm := cntL_le (cnt := cntA) xs (k + 1)
      have hck := cntL_le (cnt := cntA) xs k
      have nb : b ∉ bd ∧ b ∉ bp ∧ b ∉ b3 := by simpa using hb2
      have hn2' := List.nodup_append.1 hn2
      have hn3 := List.nodup_append.1 hn2'.1
      have ld := Lib.hid hd.len
      have lp := Lib.hid hp.len
      have T0 : ∀ (u0 u1 u2 : Value), Touch b (o + k * 5) 5 (bd ++ bp) wr (((wr.setCell ⟨b, o + k * 5, none⟩ u0).setCell ⟨b, o + k * 5 + 1, none⟩ u1).setCell ⟨b, o + k * 5 + 2, none⟩ u2) := fun u0 u1 u2 =>
        ((Touch.refl.set (by omega) (by omega) _).set (by omega) (by omega) _).set (by omega) (by omega) _
      have HE := Lib.hid h2
      have HD := Lib.hid hd
      have HP := Lib.hid hp
      have HX := Lib.hid hxk
      have HT := Lib.hid T0
      have HI := Lib.hid hin
      have N1 := Lib.hid hn2'
      have N2 := Lib.hid hn3
      have NB := Lib.hid nb
      have HB := Lib.hid hb2
      have HL := Lib.hid hct
      clear h2 hd hp hxk T0 hin hn2' hn3 nb hb2 hc hn2 hct
      go_wp2_with fail
      have T3 := HT.out (.int .i64 ((k0 : Int) + (cntL cntA (xs.take k) : Nat))) (.int .i64 ((k0 : Int) + (cntL cntA (xs.take k) : Nat) + 1)) (.int .i64 ((k0 : Int) + (cntL cntA (xs.take k) : Nat) + 1 + 1))
      rw [show (k0 : Int) + (cntL cntA (xs.take k) : Nat) + 1 + 1 + 1 = ((k0 + cntL cntA (xs.take k) + 3 : Nat) : Int) from by omega]
      have OD : OwAt intOw 1 (((wr.setCell ⟨b, o + k * 5, none⟩ (.int .i64 ((k0 : Int) + (cntL cntA (xs.take k) : Nat)))).setCell ⟨b, o + k * 5 + 1, none⟩ (.int .i64 ((k0 : Int) + (cntL cntA (xs.take k) : Nat) + 1))).setCell ⟨b, o + k * 5 + 2, none⟩ (.int .i64 ((k0 : Int) + (cntL cntA (xs.take k) : Nat) + 1 + 1))) A1 n1 x.data bd :=
        HD.out.keep intOw_ok (fun j hj => set3_block (fun e => NB.out.1 (by rw [← e]; exact hj)))
      refine (markInt64S_c A1 n1 c1 (k0 + cntL cntA (xs.take k) + 3) x.data bd _ OD N2.out.1 (by have := ld.out; omega) (by omega)).mono ?_
      rintro e w4 ⟨rfl, _, o4⟩
      have hc4' : w4.cell? ⟨b, o + k * 5 + 4, none⟩ = some (.slice A2 n2 c2) := ((World.cell?_of_block (a := ⟨b, o + k * 5 + 4, none⟩) (o4.block b NB.out.1)).trans (set3_cell (by omega))).trans hc4
      go_wp2_with fail
      rw [show (k0 : Int) + (cntL cntA (xs.take k) : Nat) + 3 + (n1 : Nat) = ((k0 + cntL cntA (xs.take k) + 3 + n1 : Nat) : Int) from by omega]
      have OP : OwAt portOw 2 w4 A2 n2 x.ports bp := HP.out.keep portOw_ok (fun j hj => (o4.block j (fun hjd => N2.out.2.2 j hjd j hj rfl)).trans (set3_block (fun e => NB.out.2.1 (by rw [← e]; exact hj))))
      refine (markPortS_c A2 n2 c2 _ x.ports bp w4 OP N2.out.2.1 (by have := lp.out; omega) (by have := ld.out; omega)).mono ?_
      rintro e w5 ⟨rfl, _, o5⟩
      go_wp2_with fail
      go_roundw
      case rel =>
        have e1 := ld.out
        have e2 := lp.out
        have e3 := HL.out
        have OO : Only (b :: (bd ++ bp)) wr w5 := (T3.only_.trans (o4.mono (fun j hj => by simp [hj]))).trans (o5.mono (fun j hj => by simp [hj]))
        refine ⟨k + 1, by omega, by go_num, congrArg (Value.int .i64) (by omega), ho.trans (OO.mono (fun j hj => ?_)), .inr ⟨b, o, b3, rfl, ?_, hbb, NB.out.2.2, N1.out.2.1, fun j hj => HI.out j (by simp [hj])⟩⟩
        · rcases List.mem_cons.1 hj with rfl | hj
          · exact hbb
          · exact HI.out j (by simp only [List.mem_append] at hj ⊢; exact .inl hj)
        · rw [show o + (k + 1) * 5 = o + k * 5 + 5 by omega]
          refine ElAt.keepC agentOw_ok (w := wr) (fun q h1 h2 => ?_) (fun j hj => ?_) HE.out
          · have hw3 := T3.cell q (.inr (by omega))
            have hf3 := T3.frozen q
            refine ⟨?_, ?_⟩
            · exact ((World.cell?_of_block (a := ⟨b, q, none⟩) (o5.block b NB.out.2.1)).trans (World.cell?_of_block (a := ⟨b, q, none⟩) (o4.block b NB.out.1))).trans hw3
            · exact ((World.frozen?_of_block (a := ⟨b, q, none⟩) (o5.block b NB.out.2.1)).trans (World.frozen?_of_block (a := ⟨b, q, none⟩) (o4.block b NB.out.1))).trans hf3
          · exact OO.block j (fun hin => by
              rcases List.mem_cons.1 hin with rfl | hin
              · exact NB.out.2.2 hj
              · exact N1.out.2.2 j hin j hj rfl)
      case measure => simp [intOf]; omega
    · obtain rfl : n = k := by omega
      have hlast : xs.take n = xs := List.take_of_length_le (by have := lx.out; omega)
      rw [hlast]
      have HLast := Lib.hid hlast
      clear hlast
      go_wp2_with fail
      go_ret
      exact ⟨retI (by omega), ho⟩
theorem markNet_v (v : Value) (x : DNet) (w : World) (k : Int) (lo hi : Nat) (h : OwT netOw w v x lo hi) (hh : hi ≤ w.heap.size) (hs : szNet x ≤ 1048576) (h0 : 0 ≤ k) (hk : k ≤ 1048576) :
    Calls Try.prog 21 #[v, .int .i64 k] w fun e w' => ∃ m : Nat, e = .returned (.int .i64 (m : Int)) ∧ ∃ wb, Below w.heap.size w wb ∧ wb.heap.size = w'.heap.size ∧ OnlyIn lo hi wb w' := by
  obtain ⟨cs, bs, rfl, ⟨A1, n1, c1, b1, rfl, ⟨h1, r1⟩, rfl⟩, hnd, hb⟩ := h
  obtain ⟨k0, rfl⟩ := Int.eq_ofNat_of_zero_le h0
  have hA : ∀ o1, Below w.heap.size w (w.alloc o1) := fun o1 => (Below.refl _ _).alloc (Nat.le_refl _) _
  have HK := Lib.hid (show ∀ o1, OwAt agentOw 5 (w.alloc o1) A1 n1 x.agents bs from fun o1 => h1.keep agentOw_ok (fun j hj => (hA o1).block j (by have := hb j hj; omega)))
  have HN := Lib.hid hnd
  have HB := Lib.hid hb
  have HS : szAgentS x.agents ≤ 1048576 := hs
  have hcl := cntL_agents x.agents
  clear h1 hb hnd
  go_enter Try.func21, Try.ntmps21
  go_wp2_with fail
  refine (markAgentS_c A1 n1 c1 k0 x.agents bs _ (HK.out _) HN.out HS (by omega)).mono ?_
  rintro e w1 ⟨rfl, o1⟩
  go_wp2_with fail
  go_ret
  exact ⟨_, rfl, _, hA _, o1.size.symm, o1.in_ HB.out⟩
end
section
open Go.RowKit
set_option linter.unusedVariables false
set_option linter.unusedSimpArgs false
theorem szInt64S_v (v : Value) (xs : List Int) (left : Int) (w : World) {B : Nat} (h : RdS intRd 1 w B v xs) (hB : B ≤ w.heap.size) (h0 : 0 ≤ left) (h1 : left ≤ 1048576) :
    Calls Try.prog 85 #[v, .int .i64 left] w fun e w' => e = .returned (.int .i64 (szL left xs.length)) ∧ Below w.heap.size w w' := by
  obtain ⟨A, n, c, rfl, h, hnc, hcm⟩ := h
  have hr := Below.refl w.heap.size w
  have hl := h.len
  rw [← hl]
  unfold maxLen at hcm
  clear h hl
  by_cases hl : left - n < 0
  · have He := Lib.hid (szL_neg hl)
    go_enter Try.func85, Try.ntmps85
    go_wp2
    go_ret
    exact ⟨by rw [He.out]; rfl, hr⟩
  · have He := Lib.hid (szL_pos hl)
    go_enter Try.func85, Try.ntmps85
    go_wp2
    go_ret
    exact ⟨by rw [He.out]; rfl, hr⟩
theorem szPortS_v (v : Value) (xs : List DPort) (left : Int) (w : World) {B : Nat} (h : RdS portRd 2 w B v xs) (hB : B ≤ w.heap.size) (h0 : 0 ≤ left) (h1 : left ≤ 1048576) :
    Calls Try.prog 86 #[v, .int .i64 left] w fun e w' => e = .returned (.int .i64 (szL left xs.length)) ∧ Below w.heap.size w w' := by
  obtain ⟨A, n, c, rfl, h, hnc, hcm⟩ := h
  have hr := Below.refl w.heap.size w
  have hl := h.len
  rw [← hl]
  unfold maxLen at hcm
  clear h hl
  by_cases hl : left - n < 0
  · have He := Lib.hid (szL_neg hl)
    go_enter Try.func86, Try.ntmps86
    go_wp2
    go_ret
    exact ⟨by rw [He.out]; rfl, hr⟩
  · have He := Lib.hid (szL_pos hl)
    go_enter Try.func86, Try.ntmps86
    go_wp2
    go_ret
    exact ⟨by rw [He.out]; rfl, hr⟩
set_option maxHeartbeats 1000000 in
theorem szAgent_v (v : Value) (x : DAgent) (left : Int) (w : World) {B : Nat} (h : RdT agentRd w B v x) (hB : B ≤ w.heap.size) (h0 : 0 ≤ left) (h1 : left ≤ 1048576) :
    Calls Try.prog 59 #[v, .int .i64 left] w fun e w' => e = .returned (.int .i64 (szL left (szAgent x))) ∧ Below w.heap.size w w' := by
  obtain ⟨cs, rfl, A1, n1, c1, A2, n2, c2, rfl, ⟨g1, r1⟩, ⟨g2, r2⟩⟩ := h
  have hb : ∀ o1, Below w.heap.size w (w.alloc o1) := fun o1 => (Below.refl _ _).alloc (Nat.le_refl _) _
  obtain ⟨s0, es0⟩ : ∃ s : Nat, s = x.data.length := ⟨_, rfl⟩
  obtain ⟨s1, es1⟩ : ∃ s : Nat, s = x.ports.length := ⟨_, rfl⟩
  have Hs : Hid (szAgent x = s0 + s1) := by show _ = _; rw [es0, es1]; rfl
  have Es0 := Lib.hid es0
  have Es1 := Lib.hid es1
  clear es0 es1
  by_cases d0 : left - (s0 : Int) < 0
  · have He : Hid (szL left (szAgent x) = -1) := by show _ = _; rw [Hs.out, szL_neg (by omega)]
    go_enter Try.func59, Try.ntmps59
    go_wp2_with fail
    refine (szInt64S_v _ x.data (left) _ (B := B) ⟨A1, n1, c1, rfl, g1.below intRd_ok ((hb _).mono hB), r1⟩ (Nat.le_trans hB (hb _).size) (by omega) (by omega)).mono ?_
    rw [← Es0.out, szL_neg (by omega)]
    rintro e w1 ⟨rfl, q1⟩
    have T := (hb _).trans (q1.mono (hb _).size)
    have B1 := (Blk.new w _ _).below q1 (by simp)
    have z1 : w.heap.size + 1 ≤ w1.heap.size := by have := q1.size; simpa using this
    clear q1
    go_wp2_with fail
    go_ret
    exact ⟨by rw [He.out]; rfl, T⟩
  · skip
    by_cases d1 : left - s0 - (s1 : Int) < 0
    · have He : Hid (szL left (szAgent x) = -1) := by show _ = _; rw [Hs.out, szL_neg (by omega)]
      go_enter Try.func59, Try.ntmps59
      go_wp2_with fail
      refine (szInt64S_v _ x.data (left) _ (B := B) ⟨A1, n1, c1, rfl, g1.below intRd_ok ((hb _).mono hB), r1⟩ (Nat.le_trans hB (hb _).size) (by omega) (by omega)).mono ?_
      rw [← Es0.out, szL_pos (by omega)]
      rintro e w1 ⟨rfl, q1⟩
      have T := (hb _).trans (q1.mono (hb _).size)
      have B1 := (Blk.new w _ _).below q1 (by simp)
      have z1 : w.heap.size + 1 ≤ w1.heap.size := by have := q1.size; simpa using this
      clear q1
      have cB := B1.cell
      go_wp2_with fail
      clear cB
      refine (szPortS_v _ x.ports (left - s0) _ (B := B) ⟨A2, n2, c2, rfl, g2.below portRd_ok ((T).mono hB), r2⟩ (Nat.le_trans hB (T).size) (by omega) (by omega)).mono ?_
      rw [← Es1.out, szL_neg (by omega)]
      rintro e w2 ⟨rfl, q2⟩
      have T := T.trans (q2.mono T.size)
      have B1 := B1.below q2 (by omega)
      have z2 := Nat.le_trans z1 q2.size
      clear q2
      go_wp2_with fail
      go_ret
      exact ⟨by rw [He.out]; rfl, T⟩
    · skip
      have He : Hid (szL left (szAgent x) = left - s0 - s1) := by show _ = _; rw [Hs.out, szL_pos (by omega)]; try omega
      go_enter Try.func59, Try.ntmps59
      go_wp2_with fail
      refine (szInt64S_v _ x.data (left) _ (B := B) ⟨A1, n1, c1, rfl, g1.below intRd_ok ((hb _).mono hB), r1⟩ (Nat.le_trans hB (hb _).size) (by omega) (by omega)).mono ?_
      rw [← Es0.out, szL_pos (by omega)]
      rintro e w1 ⟨rfl, q1⟩
      have T := (hb _).trans (q1.mono (hb _).size)
      have B1 := (Blk.new w _ _).below q1 (by simp)
      have z1 : w.heap.size + 1 ≤ w1.heap.size := by have := q1.size; simpa using this
      clear q1
      have cB := B1.cell
      go_wp2_with fail
      clear cB
      refine (szPortS_v _ x.ports (left - s0) _ (B := B) ⟨A2, n2, c2, rfl, g2.below portRd_ok ((T).mono hB), r2⟩ (Nat.le_trans hB (T).size) (by omega) (by omega)).mono ?_
      rw [← Es1.out, szL_pos (by omega)]
      rintro e w2 ⟨rfl, q2⟩
      have T := T.trans (q2.mono T.size)
      have B1 := B1.below q2 (by omega)
      have z2 := Nat.le_trans z1 q2.size
      clear q2
      go_wp2_with fail
      go_ret
      exact ⟨by rw [He.out]; rfl, T⟩
theorem szAgentS_take {xs : List DAgent} {k : Nat} {x : DAgent} (h : xs[k]? = some x) : ((xs.take (k + 1)).map szAgent).sum = ((xs.take k).map szAgent).sum + szAgent x := by
  rw [take_succ_some h]; simp
theorem szAgentS_le (xs : List DAgent) (k : Nat) : ((xs.take k).map szAgent).sum ≤ (xs.map szAgent).sum := by
  have h : ((xs.take k ++ xs.drop k).map szAgent).sum = (xs.map szAgent).sum := by rw [List.take_append_drop]
  rw [List.map_append, List.sum_append] at h
  omega
set_option maxHeartbeats 1000000 in
theorem szAgentS_v (v : Value) (xs : List DAgent) (left : Int) (w : World) {B : Nat} (h : RdS agentRd 5 w B v xs) (hB : B ≤ w.heap.size) (h0 : 0 ≤ left) (h1 : left ≤ 1048576) :
    Calls Try.prog 34 #[v, .int .i64 left] w fun e w' => e = .returned (.int .i64 (szL left (szAgentS xs))) ∧ Below w.heap.size w w' := by
  obtain ⟨A, n, c, rfl, hx, hnc, hcm⟩ := h
  have hr := Below.refl w.heap.size w
  unfold maxLen at hcm
  have lx := Lib.hid hx.len
  by_cases hl : left - n < 0
  · have He : Hid (szL left (szAgentS xs) = -1) := szL_neg (by unfold szAgentS; rw [← lx.out]; omega)
    go_enter Try.func34, Try.ntmps34
    go_wp2
    go_ret
    exact ⟨by rw [He.out]; rfl, hr⟩
  · go_enter Try.func34, Try.ntmps34
    go_wp2
    go_loopw [1, 5] (fun s i wr => ∃ (k : Nat) (l : Int), k ≤ n ∧ i = .int .i64 k ∧ s = .int .i64 l ∧ 0 ≤ l ∧ l ≤ 1048576 ∧ Hid (l = left - n - (((xs.take k).map szAgent).sum : Nat)) ∧ Below w.heap.size w wr) (fun _ i _ => n - (intOf i).toNat)
    case atStart => exact ⟨0, left - n, by omega, rfl, rfl, by omega, by omega, by simp [Hid], hr⟩
    case round =>
      obtain ⟨k, s, hk, rfl, rfl, hs0, hs1, hs, hq⟩ := hrel
      by_cases hlt : k < n
      · obtain ⟨b, off, x, A1, n1, c1, A2, n2, c2, rfl, hb, hxk, hc0, hc1, hc2, hc3, hc4, ⟨g1, r1⟩, ⟨g2, r2⟩⟩ := (hx.below agentRd_ok (hq.mono hB)).agent hlt
        have Hxk := Lib.hid hxk
        clear hxk
        by_cases hd : s - (szAgent x : Int) < 0
        · have f := szL_neg hd
          have He : Hid (szL left (szAgentS xs) = -1) := szL_neg (by
            have e1 := szAgentS_le xs (k + 1)
            rw [szAgentS_take Hxk.out] at e1
            have e2 := hs.out
            have e3 := lx.out
            unfold szAgentS
            omega)
          go_wp2_with fail
          refine (szAgent_v _ x s _ (B := B) ⟨_, rfl, A1, n1, c1, A2, n2, c2, rfl, ⟨g1, r1⟩, ⟨g2, r2⟩⟩ (Nat.le_trans hB hq.size) hs0 hs1).mono ?_
          rintro e w1 ⟨rfl, q1⟩
          go_wp2_with fail
          go_ret
          exact ⟨by rw [He.out]; rfl, hq.trans (q1.mono hq.size)⟩
        · have f := szL_pos hd
          have Hn : Hid (s - (szAgent x : Int) = left - n - (((xs.take (k + 1)).map szAgent).sum : Nat)) := by
            have e1 := szAgentS_take Hxk.out
            have e2 := hs.out
            show _ = _
            rw [e1]
            omega
          go_wp2_with fail
          refine (szAgent_v _ x s _ (B := B) ⟨_, rfl, A1, n1, c1, A2, n2, c2, rfl, ⟨g1, r1⟩, ⟨g2, r2⟩⟩ (Nat.le_trans hB hq.size) hs0 hs1).mono ?_
          rintro e w1 ⟨rfl, q1⟩
          go_wp2_with fail
          go_roundw
          case rel => exact ⟨k + 1, s - (szAgent x : Int), by omega, by go_num, rfl, by omega, by omega, Hn.out, hq.trans (q1.mono hq.size)⟩
          case measure => simp [intOf]; omega
      · have He : Hid (szL left (szAgentS xs) = s) := by
          have e1 : xs.take k = xs := List.take_of_length_le (by have := lx.out; omega)
          have e2 := hs.out
          rw [e1] at e2
          have e3 := lx.out
          show _ = _
          rw [szL_pos (by unfold szAgentS; omega)]
          unfold szAgentS
          omega
        go_wp2_with fail
        go_ret
        exact ⟨by rw [He.out]; rfl, hq⟩
set_option maxHeartbeats 1000000 in
theorem szNet_v (v : Value) (x : DNet) (left : Int) (w : World) {B : Nat} (h : RdT netRd w B v x) (hB : B ≤ w.heap.size) (h0 : 0 ≤ left) (h1 : left ≤ 1048576) :
    Calls Try.prog 9 #[v, .int .i64 left] w fun e w' => e = .returned (.int .i64 (szL left (szNet x))) ∧ Below w.heap.size w w' := by
  obtain ⟨cs, rfl, A1, n1, c1, rfl, ⟨g1, r1⟩⟩ := h
  have hb : ∀ o1, Below w.heap.size w (w.alloc o1) := fun o1 => (Below.refl _ _).alloc (Nat.le_refl _) _
  obtain ⟨s0, es0⟩ : ∃ s : Nat, s = szAgentS x.agents := ⟨_, rfl⟩
  have Hs : Hid (szNet x = s0) := by show _ = _; rw [es0]; rfl
  have Es0 := Lib.hid es0
  clear es0
  by_cases d0 : left - (s0 : Int) < 0
  · have He : Hid (szL left (szNet x) = -1) := by show _ = _; rw [Hs.out, szL_neg (by omega)]
    go_enter Try.func9, Try.ntmps9
    go_wp2_with fail
    refine (szAgentS_v _ x.agents (left) _ (B := B) ⟨A1, n1, c1, rfl, g1.below agentRd_ok ((hb _).mono hB), r1⟩ (Nat.le_trans hB (hb _).size) (by omega) (by omega)).mono ?_
    rw [← Es0.out, szL_neg (by omega)]
    rintro e w1 ⟨rfl, q1⟩
    have T := (hb _).trans (q1.mono (hb _).size)
    have B1 := (Blk.new w _ _).below q1 (by simp)
    have z1 : w.heap.size + 1 ≤ w1.heap.size := by have := q1.size; simpa using this
    clear q1
    go_wp2_with fail
    go_ret
    exact ⟨by rw [He.out]; rfl, T⟩
  · skip
    have He : Hid (szL left (szNet x) = left - s0) := by show _ = _; rw [Hs.out, szL_pos (by omega)]; try omega
    go_enter Try.func9, Try.ntmps9
    go_wp2_with fail
    refine (szAgentS_v _ x.agents (left) _ (B := B) ⟨A1, n1, c1, rfl, g1.below agentRd_ok ((hb _).mono hB), r1⟩ (Nat.le_trans hB (hb _).size) (by omega) (by omega)).mono ?_
    rw [← Es0.out, szL_pos (by omega)]
    rintro e w1 ⟨rfl, q1⟩
    have T := (hb _).trans (q1.mono (hb _).size)
    have B1 := (Blk.new w _ _).below q1 (by simp)
    have z1 : w.heap.size + 1 ≤ w1.heap.size := by have := q1.size; simpa using this
    clear q1
    go_wp2_with fail
    go_ret
    exact ⟨by rw [He.out]; rfl, T⟩
end
section
open Go.RowKit
set_option linter.unusedVariables false
set_option linter.unusedSimpArgs false
theorem toPort_v (v : Value) (x : DPort) (w : World) {B : Nat} (h : RdT portRd w B v x) :
    Calls Try.prog 12 #[v] w fun e w' => e = .returned (.agg #[.int .i64 x.agent, .int .i64 x.slot]) ∧ Below w.heap.size w w' := by
  obtain ⟨cs, rfl, rfl⟩ := h
  go_enter Try.func12, Try.ntmps12
  go_wp2_with fail
  exact bodyPost_ret (v := .agg #[.int .i64 x.agent, .int .i64 x.slot]) (by simp [results, Try.results12, go_sem]) rfl ⟨rfl, (((Below.refl _ _).alloc (Nat.le_refl _) _).alloc (by simp) _).alloc (by simp; omega) _⟩
theorem info_PortS : (Try.prog.info? 28).map (fun i => (i.zero, i.size, i.bytes)) = some (some (.agg #[.int .i64 0, .int .i64 0]), 2, 16) := by kernel_rfl
set_option maxHeartbeats 1000000 in
theorem toPortS_v (v : Value) (xs : List DPort) (w : World) {B : Nat} (h : RdS portRd 2 w B v xs) (hB : B ≤ w.heap.size) (hs : xs.length ≤ 1048576) :
    Calls Try.prog 89 #[v] w fun e w' => Ret1 (fun v' => OwS portOw 2 w' v' xs w.heap.size w'.heap.size) e ∧ Below w.heap.size w w' := by
  obtain ⟨A, n, c, rfl, hx, hnc, hcm⟩ := h
  have lx := Lib.hid hx.len
  have hlen := hs
  have hn : n ≤ 1048576 := by have := lx.out; omega
  have hmk := run_make_sz 79 28 Try.underlying79 info_PortS n (by omega) (by omega)
  go_enter Try.func89, Try.ntmps89
  go_wp2
  clear hmk
  go_loopw [4] (fun i wr => ∃ k : Nat, k ≤ n ∧ i = .int .i64 k ∧ Below w.heap.size w wr ∧ w.heap.size + 1 ≤ wr.heap.size ∧ (∃ arr, Blk wr w.heap.size 28 arr ∧ Hid (arr.size = n * 2)) ∧ ∃ bs, ElAt portOw 2 wr w.heap.size 0 (xs.take k) bs ∧ bs.Nodup ∧ ∀ b ∈ bs, w.heap.size + 1 ≤ b ∧ b < wr.heap.size) (fun i _ => n - (intOf i).toNat)
  case atStart => exact ⟨0, by omega, rfl, (Below.refl _ _).alloc (Nat.le_refl _) _, by simp, ⟨_, Blk.new _ _ _, by simp [Hid, madeCells_size]⟩, [], rfl, List.nodup_nil, fun b hb => by simp at hb⟩
  case round =>
    obtain ⟨k, hk, rfl, hb, hzz, ⟨arr, BA, hasz⟩, bs, hel, hnd, hin⟩ := hrel
    by_cases hlt : k < n
    · obtain ⟨b, off, x, rfl, hlb, hxk, hc0, hc1⟩ := (hx.below portRd_ok (hb.mono hB)).port hlt
      have Hxk := Lib.hid hxk
      clear hxk
      go_wp2_with fail
      refine (toPort_v _ x _ (B := 0) ⟨_, rfl, rfl⟩).mono ?_
      rintro e w1 ⟨rfl, q1⟩
      obtain ⟨bl, HO, nd1, in1⟩ : ∃ bl, portOw w1 [.int .i64 x.agent, .int .i64 x.slot] x bl ∧ bl.Nodup ∧ ∀ b ∈ bl, wr.heap.size ≤ b ∧ b < w1.heap.size := ⟨[], ⟨rfl, rfl⟩, List.nodup_nil, fun b hb => by simp at hb⟩
      have BA := BA.below q1 (by omega)
      obtain ⟨z0, hz0⟩ := BA.some_ (i := k * 2) (by rw [hasz.out]; omega)
      obtain ⟨z1, hz1⟩ := BA.some_ (i := k * 2 + 1) (by rw [hasz.out]; omega)
      have fz := BA.frozen
      have zz := q1.size
      have Hel := Lib.hid (hel.keep portOw_ok (q1.block _ (by omega)) (fun k hk => q1.block k (hin k hk).2))
      clear hel
      have TB : ∀ y0 y1, Below w.heap.size w ((w1.setCell ⟨w.heap.size, k * 2, none⟩ y0).setCell ⟨w.heap.size, k * 2 + 1, none⟩ y1) := fun y0 y1 => (((hb.trans (q1.mono hb.size)).setCell (p := ⟨w.heap.size, k * 2, none⟩) (Nat.le_refl _) _).setCell (p := ⟨w.heap.size, k * 2 + 1, none⟩) (Nat.le_refl _) _)
      go_wp2_with fail
      go_roundw
      case rel =>
        refine ⟨k + 1, by omega, by go_num, TB _ _, by simp [World.setCell]; omega, ⟨_, ((BA.set_ (k * 2) _).set_ (k * 2 + 1) _), by simpa [Hid] using hasz⟩, bs ++ bl, ?_⟩
        rw [take_succ_some Hxk.out]
        have hlk : (xs.take k).length = k := by have := lx.out; simp; omega
        have h1 := ElAt.setRun portOw_ok (vs := [.int .i64 x.agent, .int .i64 x.slot]) (p := k * 2) Hel.out (fun hh => by have := hin _ hh; omega) (Or.inr (by rw [hlk]; omega))
        have hnn := nodup_two hnd nd1 hin in1 hzz zz
        refine ⟨ElAt.append h1 (ElAt.one (portOw_ok.keep (w' := setRun w1 w.heap.size (k * 2) [.int .i64 x.agent, .int .i64 x.slot]) (fun b hb => setRun_block (fun e => by have := in1 b hb; omega)) HO) ?_), hnn.1, fun b hb => by have := hnn.2 b hb; simp only [World.size_setCell]; exact this⟩
        rw [hlk, Nat.zero_add]
        exact setRun_csAt (vs := [.int .i64 x.agent, .int .i64 x.slot]) (fun j hj => by
          have hj : j < 2 := by simpa using hj
          match j, hj with
          | 0, _ => exact ⟨z0, hz0⟩
          | 1, _ => exact ⟨z1, hz1⟩) (fun j hj => fz _)
      case measure => simp [intOf]; omega
    · have hkn : k = n := by omega
      have e : xs.take k = xs := List.take_of_length_le (by have := lx.out; omega)
      rw [e] at hel
      have Hkn := Lib.hid hkn
      clear hkn e
      go_wp2
      go_ret
      exact ⟨⟨_, rfl, some ⟨w.heap.size, 0, none⟩, n, n, w.heap.size :: bs, rfl, ⟨lx.out, .inr ⟨_, _, bs, rfl, rfl, hel⟩⟩, List.nodup_cons.2 ⟨fun hh => by have := hin _ hh; omega, hnd⟩, fun b hb => by
        rcases List.mem_cons.1 hb with rfl | hb
        · omega
        · have := hin b hb; omega, Nat.le_refl _, by unfold maxLen; omega⟩, hb⟩
end
section
open Go.RowKit
set_option linter.unusedVariables false
set_option linter.unusedSimpArgs false
set_option maxHeartbeats 1000000 in
theorem toAgent_v (v : Value) (x : DAgent) (w : World) {B : Nat} (h : RdT agentRd w B v x) (hB : B ≤ w.heap.size) (hs : szAgent x ≤ 1048576) :
    Calls Try.prog 62 #[v] w fun e w' => Ret1 (fun v' => OwT agentOw w' v' x w.heap.size w'.heap.size) e ∧ Below w.heap.size w w' := by
  obtain ⟨cs, rfl, A1, n1, c1, A2, n2, c2, rfl, ⟨h1, r1⟩, ⟨h2, r2⟩⟩ := h
  unfold szAgent at hs
  have hb : ∀ o1 o2 o3, Below w.heap.size w (((w.alloc o1).alloc o2).alloc o3) := fun o1 o2 o3 => (((Below.refl _ _).alloc (Nat.le_refl _) _).alloc (by simp) _).alloc (by simp; omega) _
  go_enter Try.func62, Try.ntmps62
  go_wp2_with fail
  refine (toInt64S_v _ x.data _ (B := B) ⟨A1, n1, c1, rfl, h1.below intRd_ok ((hb _ _ _).mono hB), r1⟩ (Nat.le_trans hB (hb _ _ _).size) (by first | omega | (unfold lenOk; omega))).mono ?_
  rintro e w1 ⟨⟨v1, rfl, O1⟩, q1⟩
  have z1 : w.heap.size + 1 + 1 + 1 ≤ w1.heap.size := by have := q1.size; simpa using this
  have O1 := O1.wide (lo' := w.heap.size + 1 + 1 + 1) (hi' := w1.heap.size) (by simp) (Nat.le_refl _)
  obtain ⟨A1', m1, d1, bs1, rfl, ow1, nd1, in1, rr1⟩ := O1
  have T1 := (hb _ _ _).trans (q1.mono (hb _ _ _).size)
  have BB := blk3_0.below q1 (by simp <;> omega)
  have BR := blk3_1.below q1 (by simp <;> omega)
  have BO := blk3_2.below q1 (by simp <;> omega)
  clear q1
  have cB := BB.cell
  have cO := BO.cell
  have fO := BO.frozen
  go_wp2_with fail
  clear cB cO fO
  have T1 := T1.setCell (p := ⟨w.heap.size + 1 + 1, 3, none⟩) (by simp; omega) (.slice A1' m1 d1)
  have BB := BB.far (p := ⟨w.heap.size + 1 + 1, 3, none⟩) (by simp; omega) (.slice A1' m1 d1)
  have BR := BR.far (p := ⟨w.heap.size + 1 + 1, 3, none⟩) (by simp) (.slice A1' m1 d1)
  have BO := BO.set_ 3 (.slice A1' m1 d1)
  have ow1 := ow1.keep intOw_ok (w' := World.setCell w1 ⟨w.heap.size + 1 + 1, 3, none⟩ (.slice A1' m1 d1)) (fun k hk => Below.heap_setCell _ _ _ _ (by have := in1 k hk; simp; omega))
  refine (toPortS_v _ x.ports _ (B := B) ⟨A2, n2, c2, rfl, h2.below portRd_ok (T1.mono hB), r2⟩ (Nat.le_trans hB T1.size) (by first | omega | (unfold lenOk; omega))).mono ?_
  rintro e w2 ⟨⟨v2, rfl, O2⟩, q2⟩
  have z2 : w1.heap.size ≤ w2.heap.size := by have := q2.size; simpa using this
  have O2 := O2.wide (lo' := w1.heap.size) (hi' := w2.heap.size) (by simp) (Nat.le_refl _)
  obtain ⟨A2', m2, d2, bs2, rfl, ow2, nd2, in2, rr2⟩ := O2
  have T1 := T1.trans (q2.mono T1.size)
  have BB := BB.below q2 (by simp <;> omega)
  have BR := BR.below q2 (by simp <;> omega)
  have BO := BO.below q2 (by simp <;> omega)
  have ow1 := ow1.keep intOw_ok (w' := w2) (fun k hk => q2.block k (by have := in1 k hk; simp <;> omega))
  clear q2
  have cB := BB.cell
  have cO := BO.cell
  have fO := BO.frozen
  have cR := BR.cell
  have fR := BR.frozen
  go_wp2_with fail
  have hfin : ∀ w', OnlyIn (w.heap.size + 1) (w.heap.size + 1 + 1 + 1) w2 w' → (Ret1 (fun v' => OwT agentOw w' v' x w.heap.size w'.heap.size) (.returned (.agg #[.int .i64 x.kind, .int .i64 x.level, .int .i64 x.value, (.slice A1' m1 d1), (.slice A2' m2 d2)])) ∧ Below w.heap.size w w') := fun w' ho => by
    refine ⟨⟨_, rfl, [.int .i64 x.kind, .int .i64 x.level, .int .i64 x.value, (.slice A1' m1 d1), (.slice A2' m2 d2)], bs1 ++ bs2, rfl, ⟨A1', m1, d1, A2', m2, d2, bs1, bs2, rfl, ⟨ow1.keep intOw_ok (fun k hk => ho.block k (.inr (by have := in1 k hk; omega))), rr1⟩, ⟨ow2.keep portOw_ok (fun k hk => ho.block k (.inr (by have := in2 k hk; omega))), rr2⟩, rfl⟩, ?_⟩, T1.trans (ho.below.mono (by omega))⟩
    have h1 : bs1.Nodup ∧ ∀ b ∈ bs1, w.heap.size ≤ b ∧ b < w1.heap.size := ⟨nd1, fun b hb => by have := in1 b hb; omega⟩
    have h2 := nodup_two (lo := w.heap.size) (mid := w1.heap.size) (hi := w2.heap.size) h1.1 nd2 (fun b hb => by have := h1.2 b hb; omega) in2 (by omega) (by omega)
    exact ⟨h2.1, fun b hb => by have := h2.2 b hb; have := ho.size; omega⟩
  refine bodyPost_ret (v := .agg #[.int .i64 x.kind, .int .i64 x.level, .int .i64 x.value, (.slice A1' m1 d1), (.slice A2' m2 d2)]) (by simp [results, Try.results62, go_sem, cR]) rfl (hfin _ ?_)
  repeat (first | (with_reducible exact OnlyIn.refl _ _ _) | (with_reducible refine OnlyIn.setCell ?_ ⟨by simp, by simp⟩ _))
theorem szAgentS_el {xs : List DAgent} {k : Nat} {x : DAgent} (h : xs[k]? = some x) : szAgent x ≤ szAgentS xs := by
  have h1 := szAgentS_take h
  have h2 := szAgentS_le xs (k + 1)
  unfold szAgentS
  omega
theorem info_AgentS : (Try.prog.info? 81).map (fun i => (i.zero, i.size, i.bytes)) = some (some (.agg #[.int .i64 0, .int .i64 0, .int .i64 0, .slice none 0 0, .slice none 0 0]), 5, 72) := by kernel_rfl
set_option maxHeartbeats 1000000 in
theorem toAgentS_v (v : Value) (xs : List DAgent) (w : World) {B : Nat} (h : RdS agentRd 5 w B v xs) (hB : B ≤ w.heap.size) (hs : szAgentS xs ≤ 1048576) :
    Calls Try.prog 38 #[v] w fun e w' => Ret1 (fun v' => OwS agentOw 5 w' v' xs w.heap.size w'.heap.size) e ∧ Below w.heap.size w w' := by
  obtain ⟨A, n, c, rfl, hx, hnc, hcm⟩ := h
  have lx := Lib.hid hx.len
  have hlen : xs.length ≤ 1048576 := by unfold szAgentS at hs; omega
  have hn : n ≤ 1048576 := by have := lx.out; omega
  have hmk := run_make_sz 31 81 Try.underlying31 info_AgentS n (by omega) (by omega)
  go_enter Try.func38, Try.ntmps38
  go_wp2
  clear hmk
  go_loopw [4] (fun i wr => ∃ k : Nat, k ≤ n ∧ i = .int .i64 k ∧ Below w.heap.size w wr ∧ w.heap.size + 1 ≤ wr.heap.size ∧ (∃ arr, Blk wr w.heap.size 81 arr ∧ Hid (arr.size = n * 5)) ∧ ∃ bs, ElAt agentOw 5 wr w.heap.size 0 (xs.take k) bs ∧ bs.Nodup ∧ ∀ b ∈ bs, w.heap.size + 1 ≤ b ∧ b < wr.heap.size) (fun i _ => n - (intOf i).toNat)
  case atStart => exact ⟨0, by omega, rfl, (Below.refl _ _).alloc (Nat.le_refl _) _, by simp, ⟨_, Blk.new _ _ _, by simp [Hid, madeCells_size]⟩, [], rfl, List.nodup_nil, fun b hb => by simp at hb⟩
  case round =>
    obtain ⟨k, hk, rfl, hb, hzz, ⟨arr, BA, hasz⟩, bs, hel, hnd, hin⟩ := hrel
    by_cases hlt : k < n
    · obtain ⟨b, off, x, A1, n1, c1, A2, n2, c2, rfl, hlb, hxk, hc0, hc1, hc2, hc3, hc4, ⟨h1, r1⟩, ⟨h2, r2⟩⟩ := (hx.below agentRd_ok (hb.mono hB)).agent hlt
      have Hxk := Lib.hid hxk
      clear hxk
      go_wp2_with fail
      refine (toAgent_v _ x _ (B := B) ⟨_, rfl, A1, n1, c1, A2, n2, c2, rfl, ⟨h1, r1⟩, ⟨h2, r2⟩⟩ (Nat.le_trans hB hb.size) (by have := szAgentS_el Hxk.out; omega)).mono ?_
      rintro e w1 ⟨⟨v1, rfl, O1⟩, q1⟩
      obtain ⟨cs1, bl, rfl, HO, nd1, in1⟩ := O1
      have HO' := HO
      obtain ⟨A1', m1, d1, A2', m2, d2, b1, b2, rfl, _⟩ := HO'
      have BA := BA.below q1 (by omega)
      obtain ⟨z0, hz0⟩ := BA.some_ (i := k * 5) (by rw [hasz.out]; omega)
      obtain ⟨z1, hz1⟩ := BA.some_ (i := k * 5 + 1) (by rw [hasz.out]; omega)
      obtain ⟨z2, hz2⟩ := BA.some_ (i := k * 5 + 2) (by rw [hasz.out]; omega)
      obtain ⟨z3, hz3⟩ := BA.some_ (i := k * 5 + 3) (by rw [hasz.out]; omega)
      obtain ⟨z4, hz4⟩ := BA.some_ (i := k * 5 + 4) (by rw [hasz.out]; omega)
      have fz := BA.frozen
      have zz := q1.size
      have Hel := Lib.hid (hel.keep agentOw_ok (q1.block _ (by omega)) (fun k hk => q1.block k (hin k hk).2))
      clear hel
      have TB : ∀ y0 y1 y2 y3 y4, Below w.heap.size w (((((w1.setCell ⟨w.heap.size, k * 5, none⟩ y0).setCell ⟨w.heap.size, k * 5 + 1, none⟩ y1).setCell ⟨w.heap.size, k * 5 + 2, none⟩ y2).setCell ⟨w.heap.size, k * 5 + 3, none⟩ y3).setCell ⟨w.heap.size, k * 5 + 4, none⟩ y4) := fun y0 y1 y2 y3 y4 => ((((((hb.trans (q1.mono hb.size)).setCell (p := ⟨w.heap.size, k * 5, none⟩) (Nat.le_refl _) _).setCell (p := ⟨w.heap.size, k * 5 + 1, none⟩) (Nat.le_refl _) _).setCell (p := ⟨w.heap.size, k * 5 + 2, none⟩) (Nat.le_refl _) _).setCell (p := ⟨w.heap.size, k * 5 + 3, none⟩) (Nat.le_refl _) _).setCell (p := ⟨w.heap.size, k * 5 + 4, none⟩) (Nat.le_refl _) _)
      go_wp2_with fail
      go_roundw
      case rel =>
        refine ⟨k + 1, by omega, by go_num, TB _ _ _ _ _, by simp [World.setCell]; omega, ⟨_, (((((BA.set_ (k * 5) _).set_ (k * 5 + 1) _).set_ (k * 5 + 2) _).set_ (k * 5 + 3) _).set_ (k * 5 + 4) _), by simpa [Hid] using hasz⟩, bs ++ bl, ?_⟩
        rw [take_succ_some Hxk.out]
        have hlk : (xs.take k).length = k := by have := lx.out; simp; omega
        have h1 := ElAt.setRun agentOw_ok (vs := [.int .i64 x.kind, .int .i64 x.level, .int .i64 x.value, .slice A1' m1 d1, .slice A2' m2 d2]) (p := k * 5) Hel.out (fun hh => by have := hin _ hh; omega) (Or.inr (by rw [hlk]; omega))
        have hnn := nodup_two hnd nd1 hin in1 hzz zz
        refine ⟨ElAt.append h1 (ElAt.one (agentOw_ok.keep (w' := setRun w1 w.heap.size (k * 5) [.int .i64 x.kind, .int .i64 x.level, .int .i64 x.value, .slice A1' m1 d1, .slice A2' m2 d2]) (fun b hb => setRun_block (fun e => by have := in1 b hb; omega)) HO) ?_), hnn.1, fun b hb => by have := hnn.2 b hb; simp only [World.size_setCell]; exact this⟩
        rw [hlk, Nat.zero_add]
        exact setRun_csAt (vs := [.int .i64 x.kind, .int .i64 x.level, .int .i64 x.value, .slice A1' m1 d1, .slice A2' m2 d2]) (fun j hj => by
          have hj : j < 5 := by simpa using hj
          match j, hj with
          | 0, _ => exact ⟨z0, hz0⟩
          | 1, _ => exact ⟨z1, hz1⟩
          | 2, _ => exact ⟨z2, hz2⟩
          | 3, _ => exact ⟨z3, hz3⟩
          | 4, _ => exact ⟨z4, hz4⟩) (fun j hj => fz _)
      case measure => simp [intOf]; omega
    · have hkn : k = n := by omega
      have e : xs.take k = xs := List.take_of_length_le (by have := lx.out; omega)
      rw [e] at hel
      have Hkn := Lib.hid hkn
      clear hkn e
      go_wp2
      go_ret
      exact ⟨⟨_, rfl, some ⟨w.heap.size, 0, none⟩, n, n, w.heap.size :: bs, rfl, ⟨lx.out, .inr ⟨_, _, bs, rfl, rfl, hel⟩⟩, List.nodup_cons.2 ⟨fun hh => by have := hin _ hh; omega, hnd⟩, fun b hb => by
        rcases List.mem_cons.1 hb with rfl | hb
        · omega
        · have := hin b hb; omega, Nat.le_refl _, by unfold maxLen; omega⟩, hb⟩
set_option maxHeartbeats 1000000 in
theorem toNet_v (v : Value) (x : DNet) (w : World) {B : Nat} (h : RdT netRd w B v x) (hB : B ≤ w.heap.size) (hs : szNet x ≤ 1048576) :
    Calls Try.prog 11 #[v] w fun e w' => Ret1 (fun v' => OwT netOw w' v' x w.heap.size w'.heap.size) e ∧ Below w.heap.size w w' := by
  obtain ⟨cs, rfl, A1, n1, c1, rfl, ⟨h1, r1⟩⟩ := h
  unfold szNet at hs
  have hb : ∀ o1 o2 o3, Below w.heap.size w (((w.alloc o1).alloc o2).alloc o3) := fun o1 o2 o3 => (((Below.refl _ _).alloc (Nat.le_refl _) _).alloc (by simp) _).alloc (by simp; omega) _
  go_enter Try.func11, Try.ntmps11
  go_wp2_with fail
  refine (toAgentS_v _ x.agents _ (B := B) ⟨A1, n1, c1, rfl, h1.below agentRd_ok ((hb _ _ _).mono hB), r1⟩ (Nat.le_trans hB (hb _ _ _).size) (by first | omega | (unfold lenOk; omega))).mono ?_
  rintro e w1 ⟨⟨v1, rfl, O1⟩, q1⟩
  have z1 : w.heap.size + 1 + 1 + 1 ≤ w1.heap.size := by have := q1.size; simpa using this
  have O1 := O1.wide (lo' := w.heap.size + 1 + 1 + 1) (hi' := w1.heap.size) (by simp) (Nat.le_refl _)
  obtain ⟨A1', m1, d1, bs1, rfl, ow1, nd1, in1, rr1⟩ := O1
  have T1 := (hb _ _ _).trans (q1.mono (hb _ _ _).size)
  have BB := blk3_0.below q1 (by simp <;> omega)
  have BR := blk3_1.below q1 (by simp <;> omega)
  have BO := blk3_2.below q1 (by simp <;> omega)
  clear q1
  have cB := BB.cell
  have cO := BO.cell
  have fO := BO.frozen
  have cR := BR.cell
  have fR := BR.frozen
  go_wp2_with fail
  have hfin : ∀ w', OnlyIn (w.heap.size + 1) (w.heap.size + 1 + 1 + 1) w1 w' → (Ret1 (fun v' => OwT netOw w' v' x w.heap.size w'.heap.size) (.returned (.agg #[(.slice A1' m1 d1)])) ∧ Below w.heap.size w w') := fun w' ho => by
    refine ⟨⟨_, rfl, [(.slice A1' m1 d1)], bs1, rfl, ⟨A1', m1, d1, bs1, rfl, ⟨ow1.keep agentOw_ok (fun k hk => ho.block k (.inr (by have := in1 k hk; omega))), rr1⟩, rfl⟩, ?_⟩, T1.trans (ho.below.mono (by omega))⟩
    have h1 : bs1.Nodup ∧ ∀ b ∈ bs1, w.heap.size ≤ b ∧ b < w1.heap.size := ⟨nd1, fun b hb => by have := in1 b hb; omega⟩
    exact ⟨h1.1, fun b hb => by have := h1.2 b hb; have := ho.size; omega⟩
  refine bodyPost_ret (v := .agg #[(.slice A1' m1 d1)]) (by simp [results, Try.results11, go_sem, cR]) rfl (hfin _ ?_)
  repeat (first | (with_reducible exact OnlyIn.refl _ _ _) | (with_reducible refine OnlyIn.setCell ?_ ⟨by simp, by simp⟩ _))
end
section
open Go.RowKit
set_option linter.unusedVariables false
set_option linter.unusedSimpArgs false
set_option maxHeartbeats 1000000 in
theorem eqPort_v (v u : Value) (x y : DPort) (w : World) {B B' : Nat} (h : RdT portRd w B v x) (h' : RdT portRd w B' u y) (hB : B ≤ w.heap.size) (hB' : B' ≤ w.heap.size) :
    Calls Try.prog 14 #[v, u] w fun e w' => e = .returned (.bool (decide (x = y))) ∧ Below w.heap.size w w' := by
  obtain ⟨cs, rfl, rfl⟩ := h
  obtain ⟨cs, rfl, rfl⟩ := h'
  have hb : ∀ o1 o2, Below w.heap.size w ((w.alloc o1).alloc o2) := fun o1 o2 => ((Below.refl _ _).alloc (Nat.le_refl _) _).alloc (by simp) _
  by_cases e0 : x.agent = y.agent
  · have f0 : (x.agent != y.agent) = false := by simp [e0]
    by_cases e1 : x.slot = y.slot
    · have f1 : (x.slot != y.slot) = false := by simp [e1]
      have He : Hid (decide (x = y) = true) := decide_eq_true (by cases x; cases y; simp_all)
      clear e0 e1
      go_enter Try.func14, Try.ntmps14
      go_wp2_with fail
      go_ret
      exact ⟨by rw [He.out]; rfl, hb _ _⟩
    · have f1 : (x.slot != y.slot) = true := by simp [e1]
      have He : Hid (decide (x = y) = false) := decide_eq_false (by intro exy; exact e1 (by rw [exy]))
      clear e0 e1
      go_enter Try.func14, Try.ntmps14
      go_wp2_with fail
      go_ret
      exact ⟨by rw [He.out]; rfl, hb _ _⟩
  · have f0 : (x.agent != y.agent) = true := by simp [e0]
    have He : Hid (decide (x = y) = false) := decide_eq_false (by intro exy; exact e0 (by rw [exy]))
    clear e0
    go_enter Try.func14, Try.ntmps14
    go_wp2_with fail
    go_ret
    exact ⟨by rw [He.out]; rfl, hb _ _⟩
set_option maxHeartbeats 1000000 in
theorem eqPortS_v (v u : Value) (xs ys : List DPort) (w : World) {B B' : Nat} (h : RdS portRd 2 w B v xs) (h' : RdS portRd 2 w B' u ys) (hB : B ≤ w.heap.size) (hB' : B' ≤ w.heap.size) :
    Calls Try.prog 92 #[v, u] w fun e w' => e = .returned (.bool (eqL xs ys)) ∧ Below w.heap.size w w' := by
  obtain ⟨A, n, c, rfl, hx, hnc, hcm⟩ := h
  obtain ⟨C, m, d, rfl, hy, hmd, hdm⟩ := h'
  unfold maxLen at hcm hdm
  have lx := Lib.hid hx.len
  have ly := Lib.hid hy.len
  have hr := Below.refl w.heap.size w
  by_cases hnm : n = m
  · subst hnm
    go_enter Try.func92, Try.ntmps92
    go_wp2
    go_loopw [5] (fun i wr => ∃ k : Nat, k ≤ n ∧ i = .int .i64 k ∧ Hid (xs.take k = ys.take k) ∧ Below w.heap.size w wr) (fun i _ => n - (intOf i).toNat)
    case atStart => exact ⟨0, by omega, rfl, rfl, hr⟩
    case round =>
      obtain ⟨k, hk, rfl, ht, hq⟩ := hrel
      by_cases hlt : k < n
      · have hx' := hx.below portRd_ok (hq.mono hB)
        have hy' := hy.below portRd_ok (hq.mono hB')
        obtain ⟨b, off, x, rfl, hb, hxk, hc0, hc1⟩ := hx'.port hlt
        obtain ⟨b', off', y, rfl, hb', hyk, hc0', hc1'⟩ := hy'.port hlt
        have Hxk := Lib.hid hxk
        have Hyk := Lib.hid hyk
        clear hxk hyk hx' hy'
        have hzB : B ≤ wr.drew.heap.size := Nat.le_trans hB hq.size
        have hzB' : B' ≤ wr.drew.heap.size := Nat.le_trans hB' hq.size
        by_cases hxy : x = y
        · have hf : decide (x = y) = true := decide_eq_true hxy
          have Hxy := Lib.hid hxy
          clear hxy
          go_wp2_with fail
          go_region_with (go_at_call 14; refine (eqPort_v _ _ x y _ (B := 0) (B' := 0) ⟨_, rfl, rfl⟩ ⟨_, rfl, rfl⟩ (Nat.zero_le _) (Nat.zero_le _)).mono ?_; rintro e w1 ⟨rfl, hq1⟩)
          all_goals
            go_wp2_with fail
            go_roundw
            case rel => exact ⟨k + 1, by omega, by go_num, eqL_step Hxk.out Hyk.out ht.out Hxy.out, hq.drew.trans (hq1.mono hq.size)⟩
            case measure => simp [intOf]; omega
        · have hf : decide (x = y) = false := decide_eq_false hxy
          have Hno := Lib.hid (eqL_no Hxk.out Hyk.out hxy)
          clear hxy
          go_wp2_with fail
          go_region_with (go_at_call 14; refine (eqPort_v _ _ x y _ (B := 0) (B' := 0) ⟨_, rfl, rfl⟩ ⟨_, rfl, rfl⟩ (Nat.zero_le _) (Nat.zero_le _)).mono ?_; rintro e w1 ⟨rfl, hq1⟩)
          all_goals
            go_wp2_with fail
            go_ret
            exact ⟨by rw [Hno.out]; rfl, hq.drew.trans (hq1.mono hq.size)⟩
      · have Hyes := Lib.hid (eqL_yes (k := k) ht.out (by have := lx.out; omega) (by have := ly.out; omega))
        go_wp2
        go_ret
        exact ⟨by rw [Hyes.out]; rfl, hq⟩
  · have Hno := Lib.hid (eqL_len (xs := xs) (ys := ys) (by have := lx.out; have := ly.out; omega))
    have hf : ((n : Int) != (m : Int)) = true := by simp; omega
    go_enter Try.func92, Try.ntmps92
    go_wp2
    go_ret
    exact ⟨by rw [Hno.out]; rfl, hr⟩
end
section
open Go.RowKit
set_option linter.unusedVariables false
set_option linter.unusedSimpArgs false
set_option maxHeartbeats 1000000 in
theorem eqAgent_v (v u : Value) (x y : DAgent) (w : World) {B B' : Nat} (h : RdT agentRd w B v x) (h' : RdT agentRd w B' u y) (hB : B ≤ w.heap.size) (hB' : B' ≤ w.heap.size) :
    Calls Try.prog 67 #[v, u] w fun e w' => e = .returned (.bool (decide (x = y))) ∧ Below w.heap.size w w' := by
  obtain ⟨cs, rfl, A1, n1, c1, A2, n2, c2, rfl, ⟨h1, r1⟩, ⟨h2, r2⟩⟩ := h
  obtain ⟨cs, rfl, A1', n1', c1', A2', n2', c2', rfl, ⟨h1', r1'⟩, ⟨h2', r2'⟩⟩ := h'
  have hb : ∀ o1 o2, Below w.heap.size w ((w.alloc o1).alloc o2) := fun o1 o2 => ((Below.refl _ _).alloc (Nat.le_refl _) _).alloc (by simp) _
  by_cases e0 : x.kind = y.kind
  · have f0 : (x.kind != y.kind) = false := by simp [e0]
    by_cases e1 : x.level = y.level
    · have f1 : (x.level != y.level) = false := by simp [e1]
      by_cases e2 : x.value = y.value
      · have f2 : (x.value != y.value) = false := by simp [e2]
        by_cases e3 : x.data = y.data
        · have f3 : eqL x.data y.data = true := decide_eq_true e3
          by_cases e4 : x.ports = y.ports
          · have f4 : eqL x.ports y.ports = true := decide_eq_true e4
            have He : Hid (decide (x = y) = true) := decide_eq_true (by cases x; cases y; simp_all)
            clear e0 e1 e2 e3 e4
            go_enter Try.func67, Try.ntmps67
            go_wp2_with fail
            refine (eqInt64S_v _ _ x.data y.data _ (B := B) (B' := B') ⟨A1, n1, c1, rfl, h1.below intRd_ok ((hb _ _).mono hB), r1⟩ ⟨A1', n1', c1', rfl, h1'.below intRd_ok ((hb _ _).mono hB'), r1'⟩ (Nat.le_trans hB (hb _ _).size) (Nat.le_trans hB' (hb _ _).size)).mono ?_
            rintro e w1 ⟨rfl, q1⟩
            have T := (hb _ _).trans (q1.mono (hb _ _).size)
            have B1 := blk2_0.below q1 (by simp <;> omega)
            have B2 := blk2_1.below q1 (by simp <;> omega)
            have z1 : w.heap.size + 1 + 1 ≤ w1.heap.size := by have := q1.size; simpa using this
            clear q1
            have g1 := B1.cell
            have g2 := B2.cell
            go_wp2_with fail
            clear g1 g2
            refine (eqPortS_v _ _ x.ports y.ports _ (B := B) (B' := B') ⟨A2, n2, c2, rfl, h2.below portRd_ok ((T).mono hB), r2⟩ ⟨A2', n2', c2', rfl, h2'.below portRd_ok ((T).mono hB'), r2'⟩ (Nat.le_trans hB (T).size) (Nat.le_trans hB' (T).size)).mono ?_
            rintro e w2 ⟨rfl, q2⟩
            have T := T.trans (q2.mono T.size)
            have B1 := B1.below q2 (by omega)
            have B2 := B2.below q2 (by omega)
            have z2 := Nat.le_trans z1 q2.size
            clear q2
            go_wp2_with fail
            go_ret
            exact ⟨by rw [He.out]; rfl, T⟩
          · have f4 : eqL x.ports y.ports = false := decide_eq_false e4
            have He : Hid (decide (x = y) = false) := decide_eq_false (by intro exy; exact e4 (by rw [exy]))
            clear e0 e1 e2 e3 e4
            go_enter Try.func67, Try.ntmps67
            go_wp2_with fail
            refine (eqInt64S_v _ _ x.data y.data _ (B := B) (B' := B') ⟨A1, n1, c1, rfl, h1.below intRd_ok ((hb _ _).mono hB), r1⟩ ⟨A1', n1', c1', rfl, h1'.below intRd_ok ((hb _ _).mono hB'), r1'⟩ (Nat.le_trans hB (hb _ _).size) (Nat.le_trans hB' (hb _ _).size)).mono ?_
            rintro e w1 ⟨rfl, q1⟩
            have T := (hb _ _).trans (q1.mono (hb _ _).size)
            have B1 := blk2_0.below q1 (by simp <;> omega)
            have B2 := blk2_1.below q1 (by simp <;> omega)
            have z1 : w.heap.size + 1 + 1 ≤ w1.heap.size := by have := q1.size; simpa using this
            clear q1
            have g1 := B1.cell
            have g2 := B2.cell
            go_wp2_with fail
            clear g1 g2
            refine (eqPortS_v _ _ x.ports y.ports _ (B := B) (B' := B') ⟨A2, n2, c2, rfl, h2.below portRd_ok ((T).mono hB), r2⟩ ⟨A2', n2', c2', rfl, h2'.below portRd_ok ((T).mono hB'), r2'⟩ (Nat.le_trans hB (T).size) (Nat.le_trans hB' (T).size)).mono ?_
            rintro e w2 ⟨rfl, q2⟩
            have T := T.trans (q2.mono T.size)
            have B1 := B1.below q2 (by omega)
            have B2 := B2.below q2 (by omega)
            have z2 := Nat.le_trans z1 q2.size
            clear q2
            go_wp2_with fail
            go_ret
            exact ⟨by rw [He.out]; rfl, T⟩
        · have f3 : eqL x.data y.data = false := decide_eq_false e3
          have He : Hid (decide (x = y) = false) := decide_eq_false (by intro exy; exact e3 (by rw [exy]))
          clear e0 e1 e2 e3
          go_enter Try.func67, Try.ntmps67
          go_wp2_with fail
          refine (eqInt64S_v _ _ x.data y.data _ (B := B) (B' := B') ⟨A1, n1, c1, rfl, h1.below intRd_ok ((hb _ _).mono hB), r1⟩ ⟨A1', n1', c1', rfl, h1'.below intRd_ok ((hb _ _).mono hB'), r1'⟩ (Nat.le_trans hB (hb _ _).size) (Nat.le_trans hB' (hb _ _).size)).mono ?_
          rintro e w1 ⟨rfl, q1⟩
          have T := (hb _ _).trans (q1.mono (hb _ _).size)
          have B1 := blk2_0.below q1 (by simp <;> omega)
          have B2 := blk2_1.below q1 (by simp <;> omega)
          have z1 : w.heap.size + 1 + 1 ≤ w1.heap.size := by have := q1.size; simpa using this
          clear q1
          go_wp2_with fail
          go_ret
          exact ⟨by rw [He.out]; rfl, T⟩
      · have f2 : (x.value != y.value) = true := by simp [e2]
        have He : Hid (decide (x = y) = false) := decide_eq_false (by intro exy; exact e2 (by rw [exy]))
        clear e0 e1 e2
        go_enter Try.func67, Try.ntmps67
        go_wp2_with fail
        go_ret
        exact ⟨by rw [He.out]; rfl, hb _ _⟩
    · have f1 : (x.level != y.level) = true := by simp [e1]
      have He : Hid (decide (x = y) = false) := decide_eq_false (by intro exy; exact e1 (by rw [exy]))
      clear e0 e1
      go_enter Try.func67, Try.ntmps67
      go_wp2_with fail
      go_ret
      exact ⟨by rw [He.out]; rfl, hb _ _⟩
  · have f0 : (x.kind != y.kind) = true := by simp [e0]
    have He : Hid (decide (x = y) = false) := decide_eq_false (by intro exy; exact e0 (by rw [exy]))
    clear e0
    go_enter Try.func67, Try.ntmps67
    go_wp2_with fail
    go_ret
    exact ⟨by rw [He.out]; rfl, hb _ _⟩
set_option maxHeartbeats 1000000 in
theorem eqAgentS_v (v u : Value) (xs ys : List DAgent) (w : World) {B B' : Nat} (h : RdS agentRd 5 w B v xs) (h' : RdS agentRd 5 w B' u ys) (hB : B ≤ w.heap.size) (hB' : B' ≤ w.heap.size) :
    Calls Try.prog 42 #[v, u] w fun e w' => e = .returned (.bool (eqL xs ys)) ∧ Below w.heap.size w w' := by
  obtain ⟨A, n, c, rfl, hx, hnc, hcm⟩ := h
  obtain ⟨C, m, d, rfl, hy, hmd, hdm⟩ := h'
  unfold maxLen at hcm hdm
  have lx := Lib.hid hx.len
  have ly := Lib.hid hy.len
  have hr := Below.refl w.heap.size w
  by_cases hnm : n = m
  · subst hnm
    go_enter Try.func42, Try.ntmps42
    go_wp2
    go_loopw [5] (fun i wr => ∃ k : Nat, k ≤ n ∧ i = .int .i64 k ∧ Hid (xs.take k = ys.take k) ∧ Below w.heap.size w wr) (fun i _ => n - (intOf i).toNat)
    case atStart => exact ⟨0, by omega, rfl, rfl, hr⟩
    case round =>
      obtain ⟨k, hk, rfl, ht, hq⟩ := hrel
      by_cases hlt : k < n
      · have hx' := hx.below agentRd_ok (hq.mono hB)
        have hy' := hy.below agentRd_ok (hq.mono hB')
        obtain ⟨b, off, x, A1, n1, c1, A2, n2, c2, rfl, hb, hxk, hc0, hc1, hc2, hc3, hc4, ⟨h1, r1⟩, ⟨h2, r2⟩⟩ := hx'.agent hlt
        obtain ⟨b', off', y, A1', n1', c1', A2', n2', c2', rfl, hb', hyk, hc0', hc1', hc2', hc3', hc4', ⟨h1', r1'⟩, ⟨h2', r2'⟩⟩ := hy'.agent hlt
        have Hxk := Lib.hid hxk
        have Hyk := Lib.hid hyk
        clear hxk hyk hx' hy'
        have hzB : B ≤ wr.drew.heap.size := Nat.le_trans hB hq.size
        have hzB' : B' ≤ wr.drew.heap.size := Nat.le_trans hB' hq.size
        by_cases hxy : x = y
        · have hf : decide (x = y) = true := decide_eq_true hxy
          have Hxy := Lib.hid hxy
          clear hxy
          go_wp2_with fail
          go_region_with (go_at_call 67; refine (eqAgent_v _ _ x y _ (B := B) (B' := B') ⟨_, rfl, A1, n1, c1, A2, n2, c2, rfl, ⟨h1.drew intRd_ok, r1⟩, ⟨h2.drew portRd_ok, r2⟩⟩ ⟨_, rfl, A1', n1', c1', A2', n2', c2', rfl, ⟨h1'.drew intRd_ok, r1'⟩, ⟨h2'.drew portRd_ok, r2'⟩⟩ hzB hzB').mono ?_; rintro e w1 ⟨rfl, hq1⟩)
          all_goals
            go_wp2_with fail
            go_roundw
            case rel => exact ⟨k + 1, by omega, by go_num, eqL_step Hxk.out Hyk.out ht.out Hxy.out, hq.drew.trans (hq1.mono hq.size)⟩
            case measure => simp [intOf]; omega
        · have hf : decide (x = y) = false := decide_eq_false hxy
          have Hno := Lib.hid (eqL_no Hxk.out Hyk.out hxy)
          clear hxy
          go_wp2_with fail
          go_region_with (go_at_call 67; refine (eqAgent_v _ _ x y _ (B := B) (B' := B') ⟨_, rfl, A1, n1, c1, A2, n2, c2, rfl, ⟨h1.drew intRd_ok, r1⟩, ⟨h2.drew portRd_ok, r2⟩⟩ ⟨_, rfl, A1', n1', c1', A2', n2', c2', rfl, ⟨h1'.drew intRd_ok, r1'⟩, ⟨h2'.drew portRd_ok, r2'⟩⟩ hzB hzB').mono ?_; rintro e w1 ⟨rfl, hq1⟩)
          all_goals
            go_wp2_with fail
            go_ret
            exact ⟨by rw [Hno.out]; rfl, hq.drew.trans (hq1.mono hq.size)⟩
      · have Hyes := Lib.hid (eqL_yes (k := k) ht.out (by have := lx.out; omega) (by have := ly.out; omega))
        go_wp2
        go_ret
        exact ⟨by rw [Hyes.out]; rfl, hq⟩
  · have Hno := Lib.hid (eqL_len (xs := xs) (ys := ys) (by have := lx.out; have := ly.out; omega))
    have hf : ((n : Int) != (m : Int)) = true := by simp; omega
    go_enter Try.func42, Try.ntmps42
    go_wp2
    go_ret
    exact ⟨by rw [Hno.out]; rfl, hr⟩
set_option maxHeartbeats 1000000 in
theorem eqNet_v (v u : Value) (x y : DNet) (w : World) {B B' : Nat} (h : RdT netRd w B v x) (h' : RdT netRd w B' u y) (hB : B ≤ w.heap.size) (hB' : B' ≤ w.heap.size) :
    Calls Try.prog 15 #[v, u] w fun e w' => e = .returned (.bool (decide (x = y))) ∧ Below w.heap.size w w' := by
  obtain ⟨cs, rfl, A1, n1, c1, rfl, ⟨h1, r1⟩⟩ := h
  obtain ⟨cs, rfl, A1', n1', c1', rfl, ⟨h1', r1'⟩⟩ := h'
  have hb : ∀ o1 o2, Below w.heap.size w ((w.alloc o1).alloc o2) := fun o1 o2 => ((Below.refl _ _).alloc (Nat.le_refl _) _).alloc (by simp) _
  by_cases e0 : x.agents = y.agents
  · have f0 : eqL x.agents y.agents = true := decide_eq_true e0
    have He : Hid (decide (x = y) = true) := decide_eq_true (by cases x; cases y; simp_all)
    clear e0
    go_enter Try.func15, Try.ntmps15
    go_wp2_with fail
    refine (eqAgentS_v _ _ x.agents y.agents _ (B := B) (B' := B') ⟨A1, n1, c1, rfl, h1.below agentRd_ok ((hb _ _).mono hB), r1⟩ ⟨A1', n1', c1', rfl, h1'.below agentRd_ok ((hb _ _).mono hB'), r1'⟩ (Nat.le_trans hB (hb _ _).size) (Nat.le_trans hB' (hb _ _).size)).mono ?_
    rintro e w1 ⟨rfl, q1⟩
    have T := (hb _ _).trans (q1.mono (hb _ _).size)
    have B1 := blk2_0.below q1 (by simp <;> omega)
    have B2 := blk2_1.below q1 (by simp <;> omega)
    have z1 : w.heap.size + 1 + 1 ≤ w1.heap.size := by have := q1.size; simpa using this
    clear q1
    go_wp2_with fail
    go_ret
    exact ⟨by rw [He.out]; rfl, T⟩
  · have f0 : eqL x.agents y.agents = false := decide_eq_false e0
    have He : Hid (decide (x = y) = false) := decide_eq_false (by intro exy; exact e0 (by rw [exy]))
    clear e0
    go_enter Try.func15, Try.ntmps15
    go_wp2_with fail
    refine (eqAgentS_v _ _ x.agents y.agents _ (B := B) (B' := B') ⟨A1, n1, c1, rfl, h1.below agentRd_ok ((hb _ _).mono hB), r1⟩ ⟨A1', n1', c1', rfl, h1'.below agentRd_ok ((hb _ _).mono hB'), r1'⟩ (Nat.le_trans hB (hb _ _).size) (Nat.le_trans hB' (hb _ _).size)).mono ?_
    rintro e w1 ⟨rfl, q1⟩
    have T := (hb _ _).trans (q1.mono (hb _ _).size)
    have B1 := blk2_0.below q1 (by simp <;> omega)
    have B2 := blk2_1.below q1 (by simp <;> omega)
    have z1 : w.heap.size + 1 + 1 ≤ w1.heap.size := by have := q1.size; simpa using this
    clear q1
    go_wp2_with fail
    go_ret
    exact ⟨by rw [He.out]; rfl, T⟩
end
section
open Go.RowKit
set_option linter.unusedVariables false
set_option linter.unusedSimpArgs false
set_option maxRecDepth 100000
set_option maxHeartbeats 8000000 in
theorem walk_NeighborsOf (w : World) (v0 : Value) (x : DNet) (R0 : RdT netRd w w.heap.size v0 x) (k : Int) (wk : (Lit.int IntKind.i64 k).wf = true) :
    Calls Try.prog 7 #[v0, .int .i64 k] w fun e w' => e = .returned (.bool true) ∧ Below w.heap.size w w' := by
  obtain ⟨a0A0, a0n0, a0c0, rfl⟩ : ∃ a0A0 a0n0 a0c0, v0 = .agg #[.slice a0A0 a0n0 a0c0] := by obtain ⟨cs, rfl, ⟨A0, n0, c0, rfl, _⟩⟩ := R0; exact ⟨A0, n0, c0, rfl⟩
  by_cases d0 : (szNet x : Int) ≤ 1048576
  case neg =>
    have T := Below.refl w.heap.size w
    have T : Below w.heap.size w (w.alloc (.cells #[.slice a0A0 a0n0 a0c0] 24)) := T.alloc (by first | exact Nat.le_refl _ | (simp; done) | (simp; omega)) _
    have B0 : Blk (w.alloc (.cells #[.slice a0A0 a0n0 a0c0] 24)) (w.heap.size) 24 #[.slice a0A0 a0n0 a0c0] := by have := Blk.new w 24 #[.slice a0A0 a0n0 a0c0]; simpa using this
    have zb0 : (w.alloc (.cells #[.slice a0A0 a0n0 a0c0] 24)).heap.size = w.heap.size + 1 := by simp
    go_enter Try.func7, Try.ntmps7
    go_wp2_with fail
    refine (szNet_v _ x (1048576) _ (R0.below netRd_ok T) T.size (by omega) (by omega)).mono ?_
    rw [szL_neg (by omega)]
    rintro e w1 ⟨rfl, b1⟩
    have z1 := b1.size
    have B0 := B0.below b1 (by omega)
    have T := T.trans (b1.mono (by omega))
    have gB0 := B0.cell
    go_wp2_with fail
    go_ret
    exact ⟨rfl, T⟩
  have s0 : szNet x ≤ 1048576 := by omega
  have sr := neighborsOf_len x k s0
  have q_r : eqL ((neighborsOf x k).1) ((neighborsOf x k).1) = true := decide_eq_true rfl
  have T := Below.refl w.heap.size w
  have T : Below w.heap.size w (w.alloc (.cells #[.slice a0A0 a0n0 a0c0] 24)) := T.alloc (by first | exact Nat.le_refl _ | (simp; done) | (simp; omega)) _
  have B0 : Blk (w.alloc (.cells #[.slice a0A0 a0n0 a0c0] 24)) (w.heap.size) 24 #[.slice a0A0 a0n0 a0c0] := by have := Blk.new w 24 #[.slice a0A0 a0n0 a0c0]; simpa using this
  have zb0 : (w.alloc (.cells #[.slice a0A0 a0n0 a0c0] 24)).heap.size = w.heap.size + 1 := by simp
  go_enter Try.func7, Try.ntmps7
  go_wp2_with fail
  refine (szNet_v _ x (1048576) _ (R0.below netRd_ok T) T.size (by omega) (by omega)).mono ?_
  rw [szL_pos (by omega)]
  rintro e w1 ⟨rfl, b1⟩
  have z1 := b1.size
  have B0 := B0.below b1 (by omega)
  have T := T.trans (b1.mono (by omega))
  have gB0 := B0.cell
  go_wp2_with fail
  refine (toNet_v _ x _ (R0.below netRd_ok T) T.size s0).mono ?_
  rintro e w2 ⟨⟨t1, rfl, p2⟩, b2⟩
  have z2 := b2.size
  have B0 := B0.below b2 (by omega)
  have T := T.trans (b2.mono (by omega))
  clear gB0
  have gB0 := B0.cell
  go_wp2_with fail
  refine (specNeighborsOf_v _ x k _ (p2.reads (netOw_reads (w2).heap.size) (by omega)) (Nat.le_refl _) s0).mono ?_
  rintro e w3 ⟨⟨u4, rfl, G3⟩, b3⟩
  have z3 := b3.size
  have B0 := B0.below b3 (by omega)
  have p2 := p2.below netOw_ok b3 (by omega)
  have T := T.trans (b3.mono (by omega))
  clear gB0
  have gB0 := B0.cell
  clear p2
  go_wp2_with fail
  refine (toNet_v _ x _ (R0.below netRd_ok T) T.size s0).mono ?_
  rintro e w4 ⟨⟨t5, rfl, p6⟩, b4⟩
  have z4 := b4.size
  have B0 := B0.below b4 (by omega)
  have G3 := G3.below intOw_ok b4 (by omega)
  have T := T.trans (b4.mono (by omega))
  clear gB0
  have gB0 := B0.cell
  obtain ⟨l8A0, l8n0, l8c0, rfl⟩ : ∃ l8A0 l8n0 l8c0, t5 = .agg #[.slice l8A0 l8n0 l8c0] := by obtain ⟨cs, bs, rfl, ⟨A0, n0, c0, b0, rfl, _⟩, _⟩ := p6; exact ⟨A0, n0, c0, rfl⟩
  have b5 : Below w4.heap.size w4 (w4.alloc (.cells #[.slice l8A0 l8n0 l8c0] 33)) := (Below.refl _ _).alloc (Nat.le_refl _) _
  have z5 : (w4.alloc (.cells #[.slice l8A0 l8n0 l8c0] 33)).heap.size = w4.heap.size + 1 := World.size_alloc _ _
  have B0 := B0.below b5 (by omega)
  have G3 := G3.below intOw_ok b5 (by omega)
  have p6 := p6.below netOw_ok b5 (by omega)
  have T := T.trans (b5.mono (by omega))
  have X7 : Blk (w4.alloc (.cells #[.slice l8A0 l8n0 l8c0] 33)) w4.heap.size 33 #[.slice l8A0 l8n0 l8c0] := Blk.new _ _ _
  clear gB0
  have gB0 := B0.cell
  have gX7 := X7.cell
  go_wp2_with fail
  refine (implNeighborsOf_v _ x k _ (p6.reads (netOw_reads ((w4.alloc (.cells #[.slice l8A0 l8n0 l8c0] 33))).heap.size) (by omega)) (Nat.le_refl _) s0).mono ?_
  rintro e w6 ⟨⟨u10, rfl, G9⟩, b6⟩
  have z6 := b6.size
  have B0 := B0.below b6 (by omega)
  have X7 := X7.below b6 (by omega)
  have G3 := G3.below intOw_ok b6 (by omega)
  have p6 := p6.below netOw_ok b6 (by omega)
  have T := T.trans (b6.mono (by omega))
  clear gB0
  clear gX7
  have gB0 := B0.cell
  have gX7 := X7.cell
  go_wp2_with fail
  refine (eqInt64S_v _ _ _ _ _ (G9.reads (intOw_reads (w6).heap.size) (by omega)) (G3.reads (intOw_reads (w6).heap.size) (by omega)) (Nat.le_refl _) (Nat.le_refl _)).mono ?_
  rintro e w7 ⟨rfl, b7⟩
  have z7 := b7.size
  have B0 := B0.below b7 (by omega)
  have X7 := X7.below b7 (by omega)
  have G3 := G3.below intOw_ok b7 (by omega)
  have p6 := p6.below netOw_ok b7 (by omega)
  have G9 := G9.below intOw_ok b7 (by omega)
  have T := T.trans (b7.mono (by omega))
  clear gB0
  clear gX7
  have gB0 := B0.cell
  have gX7 := X7.cell
  go_wp2_with fail
  have T := T.drew
  have B0 := B0.drew
  have X7 := X7.drew
  have G3 := G3.keep intOw_ok (w' := w7.drew) (fun _ _ _ => rfl)
  have p6 := p6.keep netOw_ok (w' := w7.drew) (fun _ _ _ => rfl)
  have G9 := G9.keep intOw_ok (w' := w7.drew) (fun _ _ _ => rfl)
  have zd8 : w7.drew.heap.size = w7.heap.size := rfl
  go_region_held3 (fun w' => w'.cell? ⟨w4.heap.size, 0, none⟩ = some (.slice l8A0 l8n0 l8c0) ∧ w'.cell? ⟨w.heap.size, 0, none⟩ = some (.slice a0A0 a0n0 a0c0)) (exact ⟨gX7 0, gB0 0⟩) (first
    | (go_at_call 11; refine (toNet_v _ x _ (R0.below netRd_ok T) T.size s0).mono ?_; rintro e w9 ⟨⟨t11, rfl, p12⟩, b9⟩; have z9 := b9.size; have B0 := B0.below b9 (by omega); have X7 := X7.below b9 (by omega); have G3 := G3.below intOw_ok b9 (by omega); have p6 := p6.below netOw_ok b9 (by omega); have G9 := G9.below intOw_ok b9 (by omega); have T := T.trans (b9.mono (by omega)); clear gB0; clear gX7; have gB0 := B0.cell; have gX7 := X7.cell)
    | (go_at_call 15; refine (eqNet_v _ _ _ _ _ (p6.reads (netOw_reads (w9).heap.size) (by omega)) (p12.reads (netOw_reads (w9).heap.size) (by omega)) (Nat.le_refl _) (Nat.le_refl _)).mono ?_; rintro e w10 ⟨rfl, b10⟩; have z10 := b10.size; have B0 := B0.below b10 (by omega); have X7 := X7.below b10 (by omega); have G3 := G3.below intOw_ok b10 (by omega); have p6 := p6.below netOw_ok b10 (by omega); have G9 := G9.below intOw_ok b10 (by omega); have p12 := p12.below netOw_ok b10 (by omega); have T := T.trans (b10.mono (by omega)); clear gB0; clear gX7; have gB0 := B0.cell; have gX7 := X7.cell))
  go_wp2_with fail
  refine (markNet_v _ _ _ _ _ _ p6 (by omega) s0 (by omega) (by omega)).mono ?_
  rintro e w11 ⟨m13, rfl, wb11, b11, e11, b12⟩
  clear p6
  have z11 := b11.size
  have B0 := B0.below b11 (by omega)
  have X7 := X7.below b11 (by omega)
  have G3 := G3.below intOw_ok b11 (by omega)
  have G9 := G9.below intOw_ok b11 (by omega)
  have p12 := p12.below netOw_ok b11 (by omega)
  have T := T.trans (b11.mono (by omega))
  have z12 := Nat.le_of_eq e11
  have y12 := Nat.le_of_eq e11.symm
  have B0 := B0.only b12 (by omega)
  have X7 := X7.only b12 (by omega)
  have G3 := G3.only intOw_ok b12 (by omega)
  have G9 := G9.only intOw_ok b12 (by omega)
  have p12 := p12.only netOw_ok b12 (by omega)
  have T := T.trans (b12.below.mono (by omega))
  have hm13 : decide ((m13 : Int) < 0) = false := by simp
  clear gB0
  clear gX7
  have gB0 := B0.cell
  have gX7 := X7.cell
  go_wp2_with fail
  refine (eqInt64S_v _ _ _ _ _ (G9.reads (intOw_reads (w11).heap.size) (by omega)) (G3.reads (intOw_reads (w11).heap.size) (by omega)) (Nat.le_refl _) (Nat.le_refl _)).mono ?_
  rintro e w13 ⟨rfl, b13⟩
  have z13 := b13.size
  have B0 := B0.below b13 (by omega)
  have X7 := X7.below b13 (by omega)
  have G3 := G3.below intOw_ok b13 (by omega)
  have G9 := G9.below intOw_ok b13 (by omega)
  have p12 := p12.below netOw_ok b13 (by omega)
  have T := T.trans (b13.mono (by omega))
  clear gB0
  clear gX7
  have gB0 := B0.cell
  have gX7 := X7.cell
  go_wp2_with fail
  refine (markInt64S_v _ _ _ _ _ _ G9 sr (by omega) (by omega)).mono ?_
  rintro e w14 ⟨rfl, G9, b14⟩
  have z14 := Nat.le_of_eq b14.size
  have y14 := Nat.le_of_eq b14.size.symm
  have B0 := B0.only b14 (by omega)
  have X7 := X7.only b14 (by omega)
  have G3 := G3.only intOw_ok b14 (by omega)
  have p12 := p12.only netOw_ok b14 (by omega)
  have T := T.trans (b14.below.mono (by omega))
  clear gB0
  clear gX7
  have gB0 := B0.cell
  have gX7 := X7.cell
  go_wp2_with fail
  refine (heldInt64S_v _ (neighborsOf x k).1 _ _ (G9.reads (intOw_reads (w14).heap.size) (by omega)) sr (by omega) (by omega)).mono ?_
  rintro e w15 ⟨rfl, b15⟩
  have z15 := b15.size
  have B0 := B0.below b15 (by omega)
  have X7 := X7.below b15 (by omega)
  have G3 := G3.below intOw_ok b15 (by omega)
  have G9 := G9.below intOw_ok b15 (by omega)
  have p12 := p12.below netOw_ok b15 (by omega)
  have T := T.trans (b15.mono (by omega))
  clear gB0
  clear gX7
  have gB0 := B0.cell
  have gX7 := X7.cell
  go_wp2_with fail
  refine (toNet_v _ x _ (R0.below netRd_ok T) T.size s0).mono ?_
  rintro e w16 ⟨⟨t14, rfl, p15⟩, b16⟩
  have z16 := b16.size
  have B0 := B0.below b16 (by omega)
  have X7 := X7.below b16 (by omega)
  have G3 := G3.below intOw_ok b16 (by omega)
  have G9 := G9.below intOw_ok b16 (by omega)
  have p12 := p12.below netOw_ok b16 (by omega)
  have T := T.trans (b16.mono (by omega))
  clear gB0
  clear gX7
  have gB0 := B0.cell
  have gX7 := X7.cell
  go_wp2_with fail
  refine (implNeighborsOf_v _ x k _ (p15.reads (netOw_reads (w16).heap.size) (by omega)) (Nat.le_refl _) s0).mono ?_
  rintro e w17 ⟨⟨u17, rfl, G16⟩, b17⟩
  have z17 := b17.size
  have B0 := B0.below b17 (by omega)
  have X7 := X7.below b17 (by omega)
  have G3 := G3.below intOw_ok b17 (by omega)
  have G9 := G9.below intOw_ok b17 (by omega)
  have p12 := p12.below netOw_ok b17 (by omega)
  have p15 := p15.below netOw_ok b17 (by omega)
  have T := T.trans (b17.mono (by omega))
  clear gB0
  clear gX7
  have gB0 := B0.cell
  have gX7 := X7.cell
  clear p15
  go_wp2_with fail
  refine (eqInt64S_v _ _ _ _ _ (G16.reads (intOw_reads (w17).heap.size) (by omega)) (G3.reads (intOw_reads (w17).heap.size) (by omega)) (Nat.le_refl _) (Nat.le_refl _)).mono ?_
  rintro e w18 ⟨rfl, b18⟩
  have z18 := b18.size
  have B0 := B0.below b18 (by omega)
  have X7 := X7.below b18 (by omega)
  have G3 := G3.below intOw_ok b18 (by omega)
  have G9 := G9.below intOw_ok b18 (by omega)
  have p12 := p12.below netOw_ok b18 (by omega)
  have G16 := G16.below intOw_ok b18 (by omega)
  have T := T.trans (b18.mono (by omega))
  clear gB0
  clear gX7
  have gB0 := B0.cell
  have gX7 := X7.cell
  go_wp2_with fail
  refine (heldInt64S_v _ (neighborsOf x k).1 _ _ (G9.reads (intOw_reads (w18).heap.size) (by omega)) sr (by omega) (by omega)).mono ?_
  rintro e w19 ⟨rfl, b19⟩
  have z19 := b19.size
  have B0 := B0.below b19 (by omega)
  have X7 := X7.below b19 (by omega)
  have G3 := G3.below intOw_ok b19 (by omega)
  have G9 := G9.below intOw_ok b19 (by omega)
  have p12 := p12.below netOw_ok b19 (by omega)
  have G16 := G16.below intOw_ok b19 (by omega)
  have T := T.trans (b19.mono (by omega))
  clear gB0
  clear gX7
  have gB0 := B0.cell
  have gX7 := X7.cell
  go_wp2_with fail
  go_ret
  exact ⟨rfl, T⟩
end
section
open Go.RowKit Go.ChangeShapes Go.WideShapes Go.Deep Go.WideMaps
set_option linter.unusedVariables false
def Opens {α : Type} (P : Program) (t : TypeId) (R : Rd α) : Prop := ∀ (H : Type) (enc : TypeId × Value → H) (W : World) (fuel : Nat) (cs : List Value) (x : DataW H × List MemPlace),
  DataW.trod enc P W 0 (fun _ => true) true fuel t cs = some x → ∃ d, R W W.heap.size cs d
theorem opens_int {P : Program} {t : TypeId} (ht : P.underlying t = some (.int .i64)) : Opens P t intRd := fun H enc W fuel cs x h => by
  obtain ⟨n, hc, _, _⟩ := DataW.trod_int ht h
  exact ⟨n, hc⟩
theorem spot_none {w : World} {a : Addr} {v : Value} (h : w.cell? a = some v) : a.spot = none := by
  unfold World.cell? at h
  split at h
  · cases hs : a.spot with
    | none => rfl
    | some s => simp [hs] at h
  · simp at h
theorem opens_slice {α : Type} {P : Program} {t e : TypeId} {R : Rd α} {sz : Nat} (ht : P.underlying t = some (.slice e)) (hsz : P.cellsOf e = sz) (hpos : 0 < sz) (ok : RdOk R sz) (he : Opens P e R) : Opens P t (slRd R sz) := fun H enc W fuel cs x h => by
  rcases open_slice ht h with ⟨rfl, rfl⟩ | ⟨a, len, cap, m, n, D, Pl, rfl, hb, hl, hm, hmm, hx, hel⟩
  · exact ⟨[], none, 0, 0, rfl, SlAt.none_, Nat.le_refl _, Nat.zero_le _⟩
  · have hmc : len ≤ m := by rw [hmm]; simp; omega
    have hel' : ∀ i, i < len → ∃ p : List Value × α, R W W.heap.size p.1 p.2 ∧ ∀ j, j < sz → W.cell? (a.add (i * sz + j)) = p.1[j]? := fun i hi => by
      obtain ⟨cs', hc, htr⟩ := hel i (by omega)
      obtain ⟨d, hd⟩ := he H enc W n cs' (D i, Pl i) htr
      obtain ⟨_, hlen, hat⟩ := World.cells?_some hc
      exact ⟨(cs', d), hd, fun j hj => by
        have := hat j (by rw [hsz]; exact hj)
        rw [hsz, Go.Deep.add_add] at this
        exact this⟩
    rcases Nat.eq_zero_or_pos len with h0 | h0
    · subst h0
      exact ⟨[], some a, 0, cap, rfl, SlAt.none_, Nat.zero_le _, hm⟩
    · have hne : Nonempty (List Value × α) := let ⟨p, _⟩ := hel' 0 h0; ⟨p⟩
      have hf : ∃ f : Nat → List Value × α, ∀ i, i < len → R W W.heap.size (f i).1 (f i).2 ∧ ∀ j, j < sz → W.cell? (a.add (i * sz + j)) = (f i).1[j]? := by
        classical
        refine ⟨fun i => if hi : i < len then Classical.choose (hel' i hi) else Classical.choice hne, fun i hi => ?_⟩
        simp only [dif_pos hi]
        exact Classical.choose_spec (hel' i hi)
      obtain ⟨f, hf⟩ := hf
      have hc0 : ∃ v, W.cell? a = some v := by
        obtain ⟨hR, hc⟩ := hf 0 h0
        have hlR := ok.len hR
        have h1 := hc 0 hpos
        have h2 : a.add (0 * sz + 0) = a := by simp [Addr.add]
        rw [h2, List.getElem?_eq_getElem (by omega)] at h1
        exact ⟨_, h1⟩
      obtain ⟨v0, hv0⟩ := hc0
      have hsp := spot_none hv0
      have hbl := World.block_lt_of_cell? _ _ hv0
      have ea : a = ⟨a.block, a.off, none⟩ := by cases a; simp_all
      refine ⟨(List.range len).map fun i => (f i).2, some a, len, cap, rfl, ⟨by simp, fun _ => ⟨a.block, a.off, by rw [← ea], hbl, fun i x hx => ?_⟩⟩, hl, hm⟩
      have hi : i < len := by simpa using lt_of_some hx
      have hx' : (f i).2 = x := by simpa [hi] using hx
      subst hx'
      obtain ⟨hR, hc⟩ := hf i hi
      refine ⟨_, hR, fun j v hj => ?_⟩
      have hj' : j < sz := by have := lt_of_some hj; rw [ok.len hR] at this; exact this
      have h1 := hc j hj'
      rw [hj] at h1
      have e2 : a.add (i * sz + j) = ⟨a.block, a.off + i * sz + j, none⟩ := by
        rw [ea]; simp only [Addr.add_lit]; congr 1; omega
      rw [← e2]
      exact h1
/-- An argument's value as its cells. -/
theorem opens_arg {α : Type} {P : Program} {t : TypeId} {R : Rd α} (h : Opens P t R) {H : Type} {enc : TypeId × Value → H} {W : World} {v : Value} {d : DataW H} {ps : List MemPlace} (ht : DataW.Trod enc P W 0 (fun _ => true) true t v d ps) : ∃ x, R W W.heap.size v.cells.toList x := by
  obtain ⟨fuel, hf⟩ := ht
  exact h H enc W fuel _ _ hf
end
section
open Go.RowKit
theorem opens_ints : Opens Try.prog 41 (slRd intRd 1) := opens_slice Try.underlying41 (by kernel_rfl) (by decide) intRd_ok (opens_int Try.underlying2)
end
section
open Go.RowKit Go.ChangeShapes Go.WideShapes Go.Deep Go.WideMaps
set_option linter.unusedVariables false
set_option linter.unusedSimpArgs false
theorem trod_fields {P : Program} {t : TypeId} {fs : Array Field} {H : Type} {enc : TypeId × Value → H} {W : World} {fuel : Nat} {cs : List Value} {x : DataW H × List MemPlace} (ht : P.underlying t = some (.struct fs)) (h : DataW.trod enc P W 0 (fun _ => true) true fuel t cs = some x) :
    cs.length = P.cellsOf t ∧ ∃ n, ∀ (i : Nat) (f : Field), fs[i]? = some f → ∃ y, DataW.trod enc P W 0 (fun _ => true) true n f.type ((cs.drop f.offset).take (P.cellsOf f.type)) = some y := by
  obtain ⟨xs, n, _, _, hl, hlen, hf⟩ := DataW.trod_struct ht h
  refine ⟨hl, n, fun i f hi => ?_⟩
  have hlt : i < fs.size := (Array.getElem?_eq_some_iff.1 hi).1
  exact ⟨xs[i], by rw [hf i f hi]; exact List.getElem?_eq_getElem (by omega)⟩
/-- A struct argument. -/
theorem open_st {α : Type} {P : Program} {t : TypeId} {fs : Array Field} {R : Rd α} (h : Opens P t R) (ht : P.underlying t = some (.struct fs)) {r : Reach} {b0 : Nat} {H : Type} {enc : TypeId × Value → H} {W : World} {v : Value} {d : DataW H} {ps : List MemPlace}
    (hv : Value.okWide P W r b0 t v) (hd : DataW.Trod enc P W 0 (fun _ => true) true t v d ps) : ∃ x, RdT R W W.heap.size v x := by
  obtain ⟨cs, rfl, _⟩ := okWide_struct ht hv
  obtain ⟨x, hx⟩ := opens_arg h hd
  exact ⟨x, cs.toList, by simp, by simpa [Value.cells] using hx⟩
theorem len1 {α : Type} {l : List α} (h : l.length = 1) : ∃ a0, l = [a0] := by
  match l, h with
  | [a0], _ => exact ⟨a0, rfl⟩
theorem len2 {α : Type} {l : List α} (h : l.length = 2) : ∃ a0 a1, l = [a0, a1] := by
  match l, h with
  | [a0, a1], _ => exact ⟨a0, a1, rfl⟩
theorem len5 {α : Type} {l : List α} (h : l.length = 5) : ∃ a0 a1 a2 a3 a4, l = [a0, a1, a2, a3, a4] := by
  match l, h with
  | [a0, a1, a2, a3, a4], _ => exact ⟨a0, a1, a2, a3, a4, rfl⟩
theorem opens_Port : Opens Try.prog 26 portRd := fun H enc W fuel cs x h => by
  obtain ⟨hl, m, hf⟩ := trod_fields Try.underlying26 h
  replace hl : cs.length = 2 := hl.trans (by kernel_rfl)
  obtain ⟨a0, a1, rfl⟩ := len2 hl
  obtain ⟨y0, h0⟩ : ∃ y, DataW.trod enc Try.prog W 0 (fun _ => true) true m 2 (([a0, a1].drop 0).take (Try.prog.cellsOf 2)) = some y := hf 0 _ rfl
  have k0 : Try.prog.cellsOf 2 = 1 := by kernel_rfl
  rw [k0] at h0; simp only [List.drop_zero, List.drop_succ_cons, List.take_succ_cons, List.take_zero] at h0
  obtain ⟨d0, e0⟩ := opens_int Try.underlying2 H enc W _ _ _ h0
  unfold intRd at e0; simp only [List.cons.injEq, and_true] at e0
  obtain ⟨y1, h1⟩ : ∃ y, DataW.trod enc Try.prog W 0 (fun _ => true) true m 2 (([a0, a1].drop 1).take (Try.prog.cellsOf 2)) = some y := hf 1 _ rfl
  have k1 : Try.prog.cellsOf 2 = 1 := by kernel_rfl
  rw [k1] at h1; simp only [List.drop_zero, List.drop_succ_cons, List.take_succ_cons, List.take_zero] at h1
  obtain ⟨d1, e1⟩ := opens_int Try.underlying2 H enc W _ _ _ h1
  unfold intRd at e1; simp only [List.cons.injEq, and_true] at e1
  subst e0; subst e1
  exact ⟨⟨d0, d1⟩, rfl⟩
theorem opens_PortS : Opens Try.prog 88 (slRd portRd 2) := opens_slice Try.underlying88 (by kernel_rfl) (by decide) portRd_ok opens_Port
theorem opens_Agent : Opens Try.prog 90 agentRd := fun H enc W fuel cs x h => by
  obtain ⟨hl, m, hf⟩ := trod_fields Try.underlying90 h
  replace hl : cs.length = 5 := hl.trans (by kernel_rfl)
  obtain ⟨a0, a1, a2, a3, a4, rfl⟩ := len5 hl
  obtain ⟨y0, h0⟩ : ∃ y, DataW.trod enc Try.prog W 0 (fun _ => true) true m 2 (([a0, a1, a2, a3, a4].drop 0).take (Try.prog.cellsOf 2)) = some y := hf 0 _ rfl
  have k0 : Try.prog.cellsOf 2 = 1 := by kernel_rfl
  rw [k0] at h0; simp only [List.drop_zero, List.drop_succ_cons, List.take_succ_cons, List.take_zero] at h0
  obtain ⟨d0, e0⟩ := opens_int Try.underlying2 H enc W _ _ _ h0
  unfold intRd at e0; simp only [List.cons.injEq, and_true] at e0
  obtain ⟨y1, h1⟩ : ∃ y, DataW.trod enc Try.prog W 0 (fun _ => true) true m 2 (([a0, a1, a2, a3, a4].drop 1).take (Try.prog.cellsOf 2)) = some y := hf 1 _ rfl
  have k1 : Try.prog.cellsOf 2 = 1 := by kernel_rfl
  rw [k1] at h1; simp only [List.drop_zero, List.drop_succ_cons, List.take_succ_cons, List.take_zero] at h1
  obtain ⟨d1, e1⟩ := opens_int Try.underlying2 H enc W _ _ _ h1
  unfold intRd at e1; simp only [List.cons.injEq, and_true] at e1
  obtain ⟨y2, h2⟩ : ∃ y, DataW.trod enc Try.prog W 0 (fun _ => true) true m 2 (([a0, a1, a2, a3, a4].drop 2).take (Try.prog.cellsOf 2)) = some y := hf 2 _ rfl
  have k2 : Try.prog.cellsOf 2 = 1 := by kernel_rfl
  rw [k2] at h2; simp only [List.drop_zero, List.drop_succ_cons, List.take_succ_cons, List.take_zero] at h2
  obtain ⟨d2, e2⟩ := opens_int Try.underlying2 H enc W _ _ _ h2
  unfold intRd at e2; simp only [List.cons.injEq, and_true] at e2
  obtain ⟨y3, h3⟩ : ∃ y, DataW.trod enc Try.prog W 0 (fun _ => true) true m 41 (([a0, a1, a2, a3, a4].drop 3).take (Try.prog.cellsOf 41)) = some y := hf 3 _ rfl
  have k3 : Try.prog.cellsOf 41 = 1 := by kernel_rfl
  rw [k3] at h3; simp only [List.drop_zero, List.drop_succ_cons, List.take_succ_cons, List.take_zero] at h3
  obtain ⟨d3, A3, n3, c3, e3, g3, r3⟩ := opens_ints H enc W _ _ _ h3
  simp only [List.cons.injEq, and_true] at e3
  obtain ⟨y4, h4⟩ : ∃ y, DataW.trod enc Try.prog W 0 (fun _ => true) true m 88 (([a0, a1, a2, a3, a4].drop 4).take (Try.prog.cellsOf 88)) = some y := hf 4 _ rfl
  have k4 : Try.prog.cellsOf 88 = 1 := by kernel_rfl
  rw [k4] at h4; simp only [List.drop_zero, List.drop_succ_cons, List.take_succ_cons, List.take_zero] at h4
  obtain ⟨d4, A4, n4, c4, e4, g4, r4⟩ := opens_PortS H enc W _ _ _ h4
  simp only [List.cons.injEq, and_true] at e4
  subst e0; subst e1; subst e2; subst e3; subst e4
  exact ⟨⟨d0, d1, d2, d3, d4⟩, A3, n3, c3, A4, n4, c4, rfl, ⟨g3, r3⟩, ⟨g4, r4⟩⟩
theorem opens_AgentS : Opens Try.prog 22 (slRd agentRd 5) := opens_slice Try.underlying22 (by kernel_rfl) (by decide) agentRd_ok opens_Agent
theorem opens_Net : Opens Try.prog 24 netRd := fun H enc W fuel cs x h => by
  obtain ⟨hl, m, hf⟩ := trod_fields Try.underlying24 h
  replace hl : cs.length = 1 := hl.trans (by kernel_rfl)
  obtain ⟨a0, rfl⟩ := len1 hl
  obtain ⟨y0, h0⟩ : ∃ y, DataW.trod enc Try.prog W 0 (fun _ => true) true m 22 (([a0].drop 0).take (Try.prog.cellsOf 22)) = some y := hf 0 _ rfl
  have k0 : Try.prog.cellsOf 22 = 1 := by kernel_rfl
  rw [k0] at h0; simp only [List.drop_zero, List.drop_succ_cons, List.take_succ_cons, List.take_zero] at h0
  obtain ⟨d0, A0, n0, c0, e0, g0, r0⟩ := opens_AgentS H enc W _ _ _ h0
  simp only [List.cons.injEq, and_true] at e0
  subst e0
  exact ⟨⟨d0⟩, A0, n0, c0, rfl, ⟨g0, r0⟩⟩
end
section
open Go.ChangeShapes Go.WideShapes Go.ChangeAt Go.RowKit Go.WideElems
set_option linter.unusedVariables false
theorem own : ownKnob Try.prog.godebug = none := by kernel_rfl
theorem laid : laidOutB Try.prog = true := by kernel_rfl
section
variable {H : Type} {enc : TypeId × Value → H}
theorem trodAll_stays {W W' : World} {sp : Nat → Bool} (hb : Below W.heap.size W W') : ∀ (ts : List TypeId) (vs : List Value) (ds : List (DataW H)) (ps : List MemPlace),
    (∀ t ∈ ts, Try.prog.readableRec t = true ∧ t < Try.prog.types.size) → DataW.TrodAll enc Try.prog W 0 (fun _ => true) true ts vs ds ps →
    (∀ x ∈ ps, x.block < W.heap.size) → (∀ x ∈ ps, sp x.block = true) → DataW.TrodAll enc Try.prog W' 0 sp true ts vs ds ps
  | [], [], [], ps, _, h, _, _ => h
  | t :: ts, v :: vs, d :: ds, ps, hts, h, hlt, hsp => by
    obtain ⟨p, q, h1, h2, rfl⟩ := h
    have ht := hts t (by simp)
    exact ⟨p, q, Trod_stays laid ht.1 ht.2 h1 (fun x hx => hb.same (hlt x (by simp [hx]))) (fun x hx => hsp x (by simp [hx])),
      trodAll_stays hb ts vs ds q (fun t' h' => hts t' (by simp [h'])) h2 (fun x hx => hlt x (by simp [hx])) (fun x hx => hsp x (by simp [hx])), rfl⟩
  | [], _ :: _, _, _, _, h, _, _ => h.elim
  | [], [], _ :: _, _, _, h, _, _ => h.elim
  | _ :: _, [], _, _, _, h, _, _ => h.elim
  | _ :: _, _ :: _, [], _, _, h, _, _ => h.elim
theorem post_law {f : Func} {s : ChangeSpec} {W W' : World} {args : Array Value} {ds : List (DataW H)} {before : List MemPlace}
    (hv : s.vars = []) (hr1 : f.resultTypes = #[4])
    (hp0 : (f.params.toList.all fun t => Try.prog.readableRec t && decide (t < Try.prog.types.size)) = true)
    (hres : (s.fn H (ds ++ [])).results = [.lit (.bool true)]) (hargs : (s.fn H (ds ++ [])).args = ds) (hvars : (s.fn H (ds ++ [])).vars = [])
    (hW : DataW.Whole enc Try.prog f.params.toList s.vars false W args.toList ds [] before)
    (hb : Below W.heap.size W W') :
    s.post enc Try.prog f false true false false W args (.bool true) W' := by
  have hp : ∀ t ∈ f.params.toList, Try.prog.readableRec t = true ∧ t < Try.prog.types.size := fun t ht => by simpa using List.all_eq_true.1 hp0 t ht
  have hlt : ∀ p ∈ before, p.block < W.heap.size := fun p hp => hW.lt p hp
  have hold : ∀ p ∈ before, (fun b => decide (b < W.heap.size)) p.block = true := fun p hp => by simpa using hlt p hp
  have hWh := hW
  obtain ⟨p, q, hA, hV, rfl, hfz, _⟩ := hWh
  rw [hv] at hV
  obtain rfl : q = [] := hV
  rw [List.append_nil] at hlt hold
  have hA' : ∀ sp : Nat → Bool, (∀ x ∈ p, sp x.block = true) → DataW.TrodAll enc Try.prog W' 0 sp true f.params.toList args.toList ds p := fun sp hsp =>
    trodAll_stays hb _ _ _ _ hp hA hlt hsp
  rw [List.append_nil] at hW
  refine ⟨ds, [], p, [], p, [], hW, ?_, ?_, ?_, World.keptBut_mono (fun x hx => ⟨hx, ?_⟩) (hb.frame (· ∈ p)), fun h => by cases h⟩
  · rw [hres, hr1]
    exact trodAll_cons_mk (shut_bool Try.underlying4 _) trodAll_mk0
  · rw [hargs]
    exact hA' _ hold
  · rw [hvars, hv]
    rfl
  · simp [hx]
end
end
end Go.Proofs.Ytebioddcnldjkaa
