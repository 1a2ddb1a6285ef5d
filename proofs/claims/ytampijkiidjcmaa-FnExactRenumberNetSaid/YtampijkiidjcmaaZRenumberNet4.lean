/- Lemmas of the proof of RenumberNet, part 4. No condition. -/
import Derived.Test.YtampijkiidjcmaaZRenumberNet3
namespace Go.Proofs.Ytampijkiidjcmaa
section
open Go.RowKit
set_option linter.unusedVariables false
set_option linter.unusedSimpArgs false
set_option maxRecDepth 100000
def m_spec_l11Order_A2 : Option Bool :=
  some true
def m_spec_l11Order_B2 (d0 : List Int) (d1 : Int) (rec2 : List Bool → Int → Option Bool) (K2 : Option Bool) (xs22 : List Bool) (i23 : Int) : Option Bool :=
  (bif (decide (i23 < (d0.length : Int))) then ((getI d0 i23).bind fun x26 => ((ck (d1 - 1)).bind fun s33 => (bif (inR x26 0 s33) then ((getI d0 i23).bind fun x37 => ((getI xs22 x37).bind fun x46 => (bif x46 then some false else ((getI d0 i23).bind fun x55 => ((getI xs22 x55).bind fun x62 => (rec2 (setI xs22 x55 true) (i23 + 1))))))) else some false))) else (K2))
def m_spec_l11Order_L2 (d0 : List Int) (d1 : Int) (K2 : Option Bool) : Nat → List Bool → Int → Option Bool
  | 0, _, _ => none
  | g + 1, xs22, i23 => m_spec_l11Order_B2 d0 d1 (m_spec_l11Order_L2 d0 d1 K2 g) K2 xs22 i23
def m_spec_l11Order_A1 (d0 : List Int) (d1 : Int) (xs19 : List Bool) : Option Bool :=
  (m_spec_l11Order_L2 d0 d1 m_spec_l11Order_A2 (d0.length + 1) xs19 0)
def m_spec_l11Order_B1 (rec1 : List Bool → Int → Option Bool) (K1 : List Bool → Option Bool) (xs73 : List Bool) (i74 : Int) : Option Bool :=
  (bif (decide (i74 > 0)) then ((mustP (xs73.length + ([false]).length ≤ 4294967296)).bind fun _ => ((ck (i74 - 1)).bind fun s92 => (rec1 (xs73 ++ [false]) s92))) else (K1 xs73))
def m_spec_l11Order_L1 (K1 : List Bool → Option Bool) : Nat → List Bool → Int → Option Bool
  | 0, _, _ => none
  | g + 1, xs73, i74 => m_spec_l11Order_B1 (m_spec_l11Order_L1 K1 g) K1 xs73 i74
def m_spec_l11Order (d0 : List Int) (d1 : Int) : Option Bool :=
  (bif ((d0.length : Int) != d1) then some false else (bif (decide (d1 < 1)) then some false else ((getI d0 0).bind fun x3 => (bif (x3 != 0) then some false else (m_spec_l11Order_L1 (m_spec_l11Order_A1 d0 d1) (d1.toNat + 2) ([] : List Bool) d1)))))
set_option maxHeartbeats 2000000 in
theorem c_m_spec_l11Order (d0 : List Int) (d1 : Int) (r : Bool) (hm : m_spec_l11Order d0 d1 = some r) (v0 : Value) (w : World) (hv0 : Sl intRd 1 w v0 d0) :
    Calls Try.prog 82 #[v0, .int .i64 d1] w fun e w' => e = .returned (.bool r) ∧ Below w.heap.size w w' := by
  obtain ⟨Aa0, na0, ca0, rfl, ha0, ra0⟩ := hv0
  have ea0 := ha0.len; subst ea0
  have qa0 := len_le ra0
  have T := Below.refl w.heap.size w
  unfold m_spec_l11Order at hm
  refine enter 60 Try.func82 rfl rfl rfl ?_
  intro f hf
  have s0 : f 0 = .slice Aa0 d0.length ca0 := hf 0 _ rfl
  have s1 : f 1 = .int .i64 d1 := hf 1 _ rfl
  refine wp_seq ?_
  refine wp_rs rfl ?_
  refine RQ.y rfl (Y.assign (v := .bool false) rfl) ?_
  refine RQ.nil ?_
  refine then_n ?_
  refine wp_seq ?_
  refine wp_seq ?_
  refine wp_rs rfl ?_
  refine RQ.y rfl (Y.move (v := .slice Aa0 d0.length ca0) s0) ?_
  refine RQ.y rfl (Y.len (by kernel_rfl) rfl) ?_
  refine RQ.y rfl (Y.move (v := .int .i64 d1) s1) ?_
  refine RQ.y rfl (Y.binI (v := .bool ((d0.length : Int) != d1)) rfl rfl rfl) ?_
  refine RQ.y rfl (Y.move (v := .bool ((d0.length : Int) != d1)) rfl) ?_
  rcases bcases ((d0.length : Int) != d1) with c1 | c1
  · replace hm := cF c1 hm
    refine RQ.y (wantT (dj := 12) rfl (vb rfl c1)) (Y.move (v := .int .i64 d1) s1) ?_
    refine RQ.y (wantT (dj := 12) rfl (vb rfl c1)) (Y.binI (v := .bool (decide (d1 < 1))) rfl rfl rfl) ?_
    refine RQ.y rfl (Y.pick (b := false) (v := .bool (decide (d1 < 1))) (vb rfl c1) rfl) ?_
    refine RQ.y rfl (Y.move (v := .bool (decide (d1 < 1))) rfl) ?_
    rcases bcases (decide (d1 < 1)) with c2 | c2
    · replace hm := cF c2 hm
      have pc2 := of_decide_eq_false c2
      refine RQ.y (wantT (dj := 16) rfl (vb rfl c2)) (Y.move (v := .slice Aa0 d0.length ca0) s0) ?_
      obtain ⟨x3, hx6, hm⟩ := bnd hm
      obtain ⟨k4, hk7, hl8, hx6⟩ := getI_some hx6
      obtain ⟨b10, o11, rfl, hbb10⟩ := ha0.addr (by omega)
      obtain ⟨cs5, hRcs5, hc9⟩ := ha0.el hx6
      have hScs5 := hRcs5
      obtain rfl := hRcs5
      refine RQ.y (wantT (dj := 16) rfl (vb rfl c2)) (Y.indexAddr (m := k4) (sz := 1) rfl rfl hk7 hl8 (by kernel_rfl)) ?_
      refine RQ.y (wantT (dj := 16) rfl (vb rfl c2)) (Y.load (v := .int .i64 x3) rfl (by kernel_rfl) (eqC (cellT T (hc9 0 _ rfl)))) ?_
      refine RQ.y (wantT (dj := 16) rfl (vb rfl c2)) (Y.binI (v := .bool (x3 != 0)) rfl rfl rfl) ?_
      refine RQ.y rfl (Y.pick (b := false) (v := .bool (x3 != 0)) (vb rfl c2) rfl) ?_
      refine RQ.nil ?_
      refine then_n ?_
      rcases bcases (x3 != 0) with c12 | c12
      · replace hm := cF c12 hm
        refine cond_f rfl (vb rfl c12) ?_
        refine wp_skip ?_
        refine then_n ?_
        refine wp_seq ?_
        refine wp_rl rfl ?_
        refine RL.bslice (e := 4) (cells := #[]) rfl pm0 (by kernel_rfl) (fun w13 B14 hb15 szw13 => ?_)
        have ZB14 : w.heap.size ≤ w.heap.size := T.size
        have T := Tt T hb15
        have G17 := OwF.lit (enc := encB) (sz := 1) (xs := ([] : List Bool)) B14 ZB14 rfl rfl rfl rfl
        refine RL.y rfl (Y.assign (v := .slice (some ⟨w.heap.size, 0, none⟩) 0 0) rfl) ?_
        refine RL.nil ?_
        refine then_n ?_
        refine wp_seq ?_
        refine wp_seq ?_
        refine wp_rs rfl ?_
        refine RQ.y rfl (Y.move (v := .int .i64 d1) s1) ?_
        refine RQ.y rfl (Y.assign (v := .int .i64 d1) rfl) ?_
        refine RQ.nil ?_
        refine then_n ?_
        refine wp_block ?_
        obtain ⟨K1, hK1, hm⟩ : ∃ K, K = (m_spec_l11Order_A1 d0 d1) ∧ m_spec_l11Order_L1 K (d1.toNat + 2) ([] : List Bool) d1 = some r := ⟨_, rfl, hm⟩
        refine wp_loopX (fun g f w' => ∃ (xs73 : List Bool) (i74 : Int) (uxs73 : Value), f 0 = .slice (some ⟨b10, o11, none⟩) d0.length ca0 ∧ f 1 = .int .i64 d1 ∧ f 5 = uxs73 ∧ OwF 4 encB 1 w' w.heap.size uxs73 xs73 ∧ f 6 = .int .i64 i74 ∧ Below w.heap.size w w' ∧ m_spec_l11Order_L1 K1 g xs73 i74 = some r) 0 (fun f w' => ∃ (xs19 : List Bool) (uxs19 : Value), f 0 = .slice (some ⟨b10, o11, none⟩) d0.length ca0 ∧ f 1 = .int .i64 d1 ∧ f 5 = uxs19 ∧ OwF 4 encB 1 w' w.heap.size uxs19 xs19 ∧ Below w.heap.size w w' ∧ m_spec_l11Order_A1 d0 d1 xs19 = some r) (d1.toNat + 2) ⟨([] : List Bool), d1, (.slice (some ⟨w.heap.size, 0, none⟩) 0 0), s0, s1, rfl, G17, rfl, T, hm⟩ ?_ ?_
        · rintro f w20 ⟨xs19, uxs19, s0_1x, s1_1x, s5_1x, Guxs19, T, hm⟩
          unfold m_spec_l11Order_A1 at hm
          refine blk_hit (then_n ?_)
          refine wp_seq ?_
          refine wp_seq ?_
          refine wp_rs rfl ?_
          refine RQ.y rfl (Y.assign (v := .int .i64 0) rfl) ?_
          refine RQ.nil ?_
          refine then_n ?_
          refine wp_block ?_
          obtain ⟨K2, hK2, hm⟩ : ∃ K, K = m_spec_l11Order_A2 ∧ m_spec_l11Order_L2 d0 d1 K (d0.length + 1) xs19 0 = some r := ⟨_, rfl, hm⟩
          refine wp_loopX (fun g f w' => ∃ (xs22 : List Bool) (i23 : Int) (uxs22 : Value), f 0 = .slice (some ⟨b10, o11, none⟩) d0.length ca0 ∧ f 1 = .int .i64 d1 ∧ f 5 = uxs22 ∧ OwF 4 encB 1 w' w.heap.size uxs22 xs22 ∧ f 7 = .int .i64 i23 ∧ 0 ≤ i23 ∧ Below w.heap.size w w' ∧ m_spec_l11Order_L2 d0 d1 K2 g xs22 i23 = some r) 2 (fun f w' => Below w.heap.size w w' ∧ m_spec_l11Order_A2  = some r) (d0.length + 1) ⟨xs19, 0, (uxs19), s0_1x, s1_1x, s5_1x, Guxs19, rfl, (by omega), T, hm⟩ ?_ ?_
          · rintro f w21 ⟨T, hm⟩
            unfold m_spec_l11Order_A2 at hm
            refine blk_hit (then_n ?_)
            refine wp_seq ?_
            refine wp_rs rfl ?_
            refine RQ.y rfl (Y.assign (v := .bool true) rfl) ?_
            refine RQ.nil ?_
            refine then_n ?_
            refine wp_ret ?_
            obtain rfl := Option.some.inj hm
            exact (ret1 rfl rfl rfl ⟨rfl, T⟩)
          · rintro g f w24 ⟨xs22, i23, uxs22, s0_2, s1_2, s5_2, Guxs22, s7_2, nn7_2, T, hm⟩
            rcases g with _ | g
            · simp only [m_spec_l11Order_L2] at hm; cases hm
            obtain ⟨rec2, hrec2, hm⟩ : ∃ z, z = m_spec_l11Order_L2 d0 d1 K2 g ∧ m_spec_l11Order_B2 d0 d1 z K2 xs22 i23 = some r := ⟨_, rfl, hm⟩
            unfold m_spec_l11Order_B2 at hm
            refine wp_seq ?_
            refine wp_seq ?_
            refine wp_rs rfl ?_
            refine RQ.y rfl (Y.move (v := .int .i64 i23) s7_2) ?_
            refine RQ.y rfl (Y.move (v := .slice (some ⟨b10, o11, none⟩) d0.length ca0) s0_2) ?_
            refine RQ.y rfl (Y.len (by kernel_rfl) rfl) ?_
            refine RQ.y rfl (Y.binI (v := .bool (decide (i23 < (d0.length : Int)))) rfl rfl rfl) ?_
            refine RQ.nil ?_
            refine then_n ?_
            rcases bcases (decide (i23 < (d0.length : Int))) with c25 | c25
            · replace hm := cF c25 hm
              have pc25 := of_decide_eq_false c25
              refine cond_f rfl (vb rfl c25) ?_
              refine wp_exit ?_
              exact (then_x (then_x (hit_x ⟨_, rfl, ⟨T, (by rw [hK2] at hm; exact hm)⟩⟩)))
            · replace hm := cT c25 hm
              have pc25 := of_decide_eq_true c25
              refine cond_t rfl (vb rfl c25) ?_
              refine wp_skip ?_
              refine then_n ?_
              refine wp_seq ?_
              refine wp_block ?_
              refine wp_seq ?_
              refine wp_seq ?_
              refine wp_rb rfl ?_
              refine RQ.y rfl (Y.move (v := .slice (some ⟨b10, o11, none⟩) d0.length ca0) s0_2) ?_
              refine RQ.y rfl (Y.move (v := .int .i64 i23) s7_2) ?_
              obtain ⟨x26, hx29, hm⟩ := bnd hm
              obtain ⟨k27, hk30, hl31, hx29⟩ := getI_some hx29
              obtain ⟨cs28, hRcs28, hc32⟩ := ha0.el hx29
              have hScs28 := hRcs28
              obtain rfl := hRcs28
              refine RQ.y rfl (Y.indexAddr (m := k27) (sz := 1) rfl rfl hk30 hl31 (by kernel_rfl)) ?_
              refine RQ.y rfl (Y.load (v := .int .i64 x26) rfl (by kernel_rfl) (beC (cellT T (hc32 0 _ rfl)))) ?_
              refine RQ.y rfl (Y.move (v := .int .i64 d1) s1_2) ?_
              obtain ⟨s33, ks33, hm⟩ := bnd hm
              replace ks33 := ck_some ks33
              refine RQ.y rfl (Y.binI (v := .int .i64 s33) rfl rfl (by rw [binI_sub ks33.2, ks33.1])) ?_
              refine RQ.call rfl (am3 rfl rfl rfl) (by kernel_rfl) (v := .bool (inR x26 0 s33)) (bel (K := fun _ => True) fun w' hb' => (callB (spec_l00In x26 0 s33 w'))) ?_
              refine RQ.y rfl (Y.not (b' := (!(inR x26 0 s33))) rfl rfl) ?_
              refine RQ.y rfl (Y.move (v := .bool (!(inR x26 0 s33))) rfl) ?_
              rcases bcases (inR x26 0 s33) with c34 | c34
              · replace hm := cF c34 hm
                refine RQ.skip (wantN (dj := 45) rfl (vbn rfl c34 rfl) rfl) ?_
                refine RQ.skip (wantN (dj := 45) rfl (vbn rfl c34 rfl) rfl) ?_
                refine RQ.skip (wantN (dj := 45) rfl (vbn rfl c34 rfl) rfl) ?_
                refine RQ.skip (wantN (dj := 45) rfl (vbn rfl c34 rfl) rfl) ?_
                refine RQ.skip (wantN (dj := 45) rfl (vbn rfl c34 rfl) rfl) ?_
                refine RQ.skip (wantN (dj := 45) rfl (vbn rfl c34 rfl) rfl) ?_
                refine RQ.skip (wantN (dj := 45) rfl (vbn rfl c34 rfl) rfl) ?_
                refine RQ.y rfl (Y.pick (b := true) (v := .bool true) (vbn rfl c34 rfl) rfl) ?_
                refine RQ.nil ?_
                intro w35 hb36
                have szw35 := hb36.size
                have Guxs22 := OwF.below Guxs22 hb36
                have T := Tt T hb36
                refine then_n ?_
                refine cond_t rfl rfl ?_
                refine wp_seq ?_
                refine wp_rs rfl ?_
                refine RQ.y rfl (Y.assign (v := .bool false) rfl) ?_
                refine RQ.nil ?_
                refine then_n ?_
                refine wp_ret ?_
                obtain rfl := Option.some.inj hm
                exact (then_r (blk_r (then_r (then_r (hit_r (blk_r (then_r (ret1 rfl rfl rfl ⟨rfl, T⟩))))))))
              · replace hm := cT c34 hm
                refine RQ.y (wantT (dj := 45) rfl (vbn rfl c34 rfl)) (Y.move (v := uxs22) s5_2) ?_
                refine RQ.y (wantT (dj := 45) rfl (vbn rfl c34 rfl)) (Y.move (v := .slice (some ⟨b10, o11, none⟩) d0.length ca0) s0_2) ?_
                refine RQ.y (wantT (dj := 45) rfl (vbn rfl c34 rfl)) (Y.move (v := .int .i64 i23) s7_2) ?_
                obtain ⟨x37, hx40, hm⟩ := bnd hm
                obtain ⟨k38, hk41, hl42, hx40⟩ := getI_some hx40
                obtain ⟨cs39, hRcs39, hc43⟩ := ha0.el hx40
                have hScs39 := hRcs39
                obtain rfl := hRcs39
                refine RQ.y (wantT (dj := 45) rfl (vbn rfl c34 rfl)) (Y.indexAddr (m := k38) (sz := 1) rfl rfl hk41 hl42 (by kernel_rfl)) ?_
                refine RQ.y (wantT (dj := 45) rfl (vbn rfl c34 rfl)) (Y.load (v := .int .i64 x37) rfl (by kernel_rfl) (beC (cellT T (hc43 0 _ rfl)))) ?_
                obtain ⟨A44, c45, rfl⟩ := OwF.form Guxs22
                have qbA44 := OwF.bound Guxs22
                obtain ⟨x46, hx48, hm⟩ := bnd hm
                obtain ⟨k47, hk49, hl50, hx48⟩ := getI_some hx48
                obtain ⟨b51, rfl⟩ := OwF.addr0 Guxs22 (by omega)
                refine RQ.y (wantT (dj := 45) rfl (vbn rfl c34 rfl)) (Y.indexAddr (m := k47) (sz := 1) rfl rfl hk49 hl50 (by kernel_rfl)) ?_
                refine RQ.y (wantT (dj := 45) rfl (vbn rfl c34 rfl)) (Y.load (v := .bool x46) rfl (by kernel_rfl) (beC (OwF.cell fB Guxs22 hx48 (j := 0) rfl))) ?_
                refine RQ.y rfl (Y.pick (b := false) (v := .bool x46) (vbn rfl c34 rfl) rfl) ?_
                refine RQ.nil ?_
                intro w52 hb53
                have szw52 := hb53.size
                have Guxs22 := OwF.below Guxs22 hb53
                have T := Tt T hb53
                refine then_n ?_
                rcases bcases x46 with c54 | c54
                · replace hm := cF c54 hm
                  refine cond_f rfl (vb rfl c54) ?_
                  refine wp_skip ?_
                  refine then_n ?_
                  refine wp_rl rfl ?_
                  refine RL.y rfl (Y.move (v := .slice (some ⟨b51, 0, none⟩) xs22.length c45) s5_2) ?_
                  refine RL.y rfl (Y.move (v := .slice (some ⟨b10, o11, none⟩) d0.length ca0) s0_2) ?_
                  refine RL.y rfl (Y.move (v := .int .i64 i23) s7_2) ?_
                  obtain ⟨x55, hx58, hm⟩ := bnd hm
                  obtain ⟨k56, hk59, hl60, hx58⟩ := getI_some hx58
                  obtain ⟨cs57, hRcs57, hc61⟩ := ha0.el hx58
                  have hScs57 := hRcs57
                  obtain rfl := hRcs57
                  refine RL.y rfl (Y.indexAddr (m := k56) (sz := 1) rfl rfl hk59 hl60 (by kernel_rfl)) ?_
                  refine RL.y rfl (Y.load (v := .int .i64 x55) rfl (by kernel_rfl) (eqC (cellT T (hc61 0 _ rfl)))) ?_
                  obtain ⟨x62, hx64, hm⟩ := bnd hm
                  obtain ⟨k63, hk65, hl66, hx64⟩ := getI_some hx64
                  refine RL.y rfl (Y.indexAddr (m := k63) (sz := 1) rfl rfl hk65 hl66 (by kernel_rfl)) ?_
                  refine RL.storeF (k := k63) (a := true) fB rfl rfl rfl Guxs22 hl66 rfl (by kernel_rfl) (fun w67 G68 ho69 => ?_)
                  have szw67 := ho69.size
                  have T := T.trans (ho69.below (by intro b hb; simp at hb; subst hb; exact OwF.lo_ Guxs22 _ rfl))
                  have G68 : OwF 4 encB 1 w67 w.heap.size (.slice (some ⟨b51, 0, none⟩) xs22.length c45) (setI xs22 x55 true) := by rw [hk65, setI_nat]; exact G68
                  have hx70 : (setI xs22 x55 true)[k63]? = some true := setI_at hk65 hl66
                  have hl71 := lt_of_some hx70
                  refine RL.nil ?_
                  refine blk_n (then_n ?_)
                  refine wp_rs rfl ?_
                  refine RQ.y rfl (Y.move (v := .int .i64 i23) s7_2) ?_
                  refine RQ.y rfl (Y.binI rfl rfl (binI_add (m := i23) (by omega))) ?_
                  refine RQ.y rfl (Y.assign (v := .int .i64 (i23 + 1)) rfl) ?_
                  refine RQ.nil ?_
                  exact (then_n ⟨g, _, Nat.lt_succ_self _, rfl, ⟨(setI xs22 x55 true), (i23 + 1), (.slice (some ⟨b51, 0, none⟩) xs22.length c45), s0_2, s1_2, s5_2, G68, rfl, (by omega), T, (by rw [← hrec2]; exact hm)⟩⟩)
                · replace hm := cT c54 hm
                  refine cond_t rfl (vb rfl c54) ?_
                  refine wp_seq ?_
                  refine wp_rs rfl ?_
                  refine RQ.y rfl (Y.assign (v := .bool false) rfl) ?_
                  refine RQ.nil ?_
                  refine then_n ?_
                  refine wp_ret ?_
                  obtain rfl := Option.some.inj hm
                  exact (then_r (blk_r (then_r (then_r (hit_r (blk_r (then_r (ret1 rfl rfl rfl ⟨rfl, T⟩))))))))
        · rintro g f w75 ⟨xs73, i74, uxs73, s0_1, s1_1, s5_1, Guxs73, s6_1, T, hm⟩
          rcases g with _ | g
          · simp only [m_spec_l11Order_L1] at hm; cases hm
          obtain ⟨rec1, hrec1, hm⟩ : ∃ z, z = m_spec_l11Order_L1 K1 g ∧ m_spec_l11Order_B1 z K1 xs73 i74 = some r := ⟨_, rfl, hm⟩
          unfold m_spec_l11Order_B1 at hm
          refine wp_seq ?_
          refine wp_seq ?_
          refine wp_rs rfl ?_
          refine RQ.y rfl (Y.move (v := .int .i64 i74) s6_1) ?_
          refine RQ.y rfl (Y.binI (v := .bool (decide (i74 > 0))) rfl rfl rfl) ?_
          refine RQ.nil ?_
          refine then_n ?_
          rcases bcases (decide (i74 > 0)) with c76 | c76
          · replace hm := cF c76 hm
            have pc76 := of_decide_eq_false c76
            refine cond_f rfl (vb rfl c76) ?_
            refine wp_exit ?_
            exact (then_x (then_x (hit_x ⟨_, rfl, ⟨xs73, (uxs73), s0_1, s1_1, s5_1, Guxs73, T, (by rw [hK1] at hm; exact hm)⟩⟩)))
          · replace hm := cT c76 hm
            have pc76 := of_decide_eq_true c76
            refine cond_t rfl (vb rfl c76) ?_
            refine wp_skip ?_
            refine then_n ?_
            refine wp_seq ?_
            refine wp_block ?_
            refine wp_rl rfl ?_
            refine RL.y rfl (Y.move (v := uxs73) s5_1) ?_
            refine RL.bslice (e := 4) (cells := #[.bool false]) rfl (pm1 rfl) (by kernel_rfl) (fun w77 B78 hb79 szw77 => ?_)
            have ZB78 : w.heap.size ≤ w75.heap.size := T.size
            have Do80_oxs73 := Dj.new (v := .slice (some ⟨w75.heap.size, 0, none⟩) 1 1) litGe (OwF.hi Guxs73)
            have Guxs73 := OwF.below Guxs73 hb79
            have T := Tt T hb79
            have G81 := OwF.lit (enc := encB) (sz := 1) (xs := [false]) B78 ZB78 rfl rfl rfl rfl
            obtain ⟨_, m83, hm⟩ := bnd hm
            have hk84 := mustP_some m83
            refine RL.append fB app_bool rfl rfl rfl Guxs73 (OwF.arg fB G81) T.size hk84 (fun v85 w86 G87 hgr88 hbl89 hnb90 => ?_)
            have szw86 := hbl89.size
            have T := T.trans hbl89
            refine RL.y rfl (Y.assign (v := v85) rfl) ?_
            refine RL.nil ?_
            refine blk_n (then_n ?_)
            refine wp_rs rfl ?_
            refine RQ.y rfl (Y.move (v := .int .i64 i74) s6_1) ?_
            obtain ⟨s92, ks92, hm⟩ := bnd hm
            replace ks92 := ck_some ks92
            refine RQ.y rfl (Y.binI (v := .int .i64 s92) rfl rfl (by rw [binI_sub ks92.2, ks92.1])) ?_
            refine RQ.y rfl (Y.assign (v := .int .i64 s92) rfl) ?_
            refine RQ.nil ?_
            exact (then_n ⟨g, _, Nat.lt_succ_self _, rfl, ⟨(xs73 ++ [false]), s92, (v85), s0_1, s1_1, rfl, G87, rfl, T, (by rw [← hrec1]; exact hm)⟩⟩)
      · replace hm := cT c12 hm
        refine cond_t rfl (vb rfl c12) ?_
        refine wp_seq ?_
        refine wp_rs rfl ?_
        refine RQ.y rfl (Y.assign (v := .bool false) rfl) ?_
        refine RQ.nil ?_
        refine then_n ?_
        refine wp_ret ?_
        obtain rfl := Option.some.inj hm
        exact (then_r (ret1 rfl rfl rfl ⟨rfl, T⟩))
    · replace hm := cT c2 hm
      have pc2 := of_decide_eq_true c2
      refine RQ.skip (wantN (dj := 16) rfl (vb rfl c2) rfl) ?_
      refine RQ.skip (wantN (dj := 16) rfl (vb rfl c2) rfl) ?_
      refine RQ.skip (wantN (dj := 16) rfl (vb rfl c2) rfl) ?_
      refine RQ.skip (wantN (dj := 16) rfl (vb rfl c2) rfl) ?_
      refine RQ.y rfl (Y.pick (b := true) (v := .bool true) (vb rfl c2) rfl) ?_
      refine RQ.nil ?_
      refine then_n ?_
      refine cond_t rfl rfl ?_
      refine wp_seq ?_
      refine wp_rs rfl ?_
      refine RQ.y rfl (Y.assign (v := .bool false) rfl) ?_
      refine RQ.nil ?_
      refine then_n ?_
      refine wp_ret ?_
      obtain rfl := Option.some.inj hm
      exact (then_r (ret1 rfl rfl rfl ⟨rfl, T⟩))
  · replace hm := cT c1 hm
    refine RQ.skip (wantN (dj := 12) rfl (vb rfl c1) rfl) ?_
    refine RQ.skip (wantN (dj := 12) rfl (vb rfl c1) rfl) ?_
    refine RQ.y rfl (Y.pick (b := true) (v := .bool true) (vb rfl c1) rfl) ?_
    refine RQ.y rfl (Y.move (v := .bool true) rfl) ?_
    refine RQ.skip (wantN (dj := 16) rfl rfl rfl) ?_
    refine RQ.skip (wantN (dj := 16) rfl rfl rfl) ?_
    refine RQ.skip (wantN (dj := 16) rfl rfl rfl) ?_
    refine RQ.skip (wantN (dj := 16) rfl rfl rfl) ?_
    refine RQ.y rfl (Y.pick (b := true) (v := .bool true) rfl rfl) ?_
    refine RQ.nil ?_
    refine then_n ?_
    refine cond_t rfl rfl ?_
    refine wp_seq ?_
    refine wp_rs rfl ?_
    refine RQ.y rfl (Y.assign (v := .bool false) rfl) ?_
    refine RQ.nil ?_
    refine then_n ?_
    refine wp_ret ?_
    obtain rfl := Option.some.inj hm
    exact (then_r (ret1 rfl rfl rfl ⟨rfl, T⟩))
def m_spec_l11Renumber_A2 (z22 : DNet) : Option DNet :=
  some z22
def m_spec_l11Renumber_A3 (rec2 : Int → DNet → Option DNet) (i29 : Int) (z30 : DNet) (z76 : DAgent) : Option DNet :=
  ((mustP (z30.agents.length + ([z76]).length ≤ 4294967296)).bind fun _ => ((ck (i29 + 1)).bind fun s124 => (rec2 s124 (⟨(z30.agents ++ [z76])⟩ : DNet))))
def m_spec_l11Renumber_B3 (xs13 : List Int) (rec3 : Int → DAgent → Option DNet) (K3 : DAgent → Option DNet) (i125 : Int) (z126 : DAgent) : Option DNet :=
  (bif (decide (i125 < (z126.ports.length : Int))) then ((getI z126.ports i125).bind fun x133 => ((getI xs13 x133.agent).bind fun x141 => ((getI z126.ports i125).bind fun x147 => (rec3 (i125 + 1) (⟨z126.kind, z126.level, z126.value, z126.data, (setI z126.ports i125 (⟨x141, x147.slot⟩ : DPort))⟩ : DAgent))))) else (K3 z126))
def m_spec_l11Renumber_L3 (xs13 : List Int) (K3 : DAgent → Option DNet) : Nat → Int → DAgent → Option DNet
  | 0, _, _ => none
  | g + 1, i125, z126 => m_spec_l11Renumber_B3 xs13 (m_spec_l11Renumber_L3 xs13 K3 g) K3 i125 z126
def m_spec_l11Renumber_B2 (d0 : DNet) (d1 : List Int) (xs13 : List Int) (rec2 : Int → DNet → Option DNet) (K2 : DNet → Option DNet) (i29 : Int) (z30 : DNet) : Option DNet :=
  (bif (decide (i29 < (d1.length : Int))) then ((getI d1 i29).bind fun x35 => ((getI d0.agents x35).bind fun x44 => ((m_spec_l11OwnAgent x44).bind fun y55 => (m_spec_l11Renumber_L3 xs13 (m_spec_l11Renumber_A3 rec2 i29 z30) (y55.ports.length + 1) 0 y55)))) else (K2 z30))
def m_spec_l11Renumber_L2 (d0 : DNet) (d1 : List Int) (xs13 : List Int) (K2 : DNet → Option DNet) : Nat → Int → DNet → Option DNet
  | 0, _, _ => none
  | g + 1, i29, z30 => m_spec_l11Renumber_B2 d0 d1 xs13 (m_spec_l11Renumber_L2 d0 d1 xs13 K2 g) K2 i29 z30
def m_spec_l11Renumber_A1 (d0 : DNet) (d1 : List Int) (xs13 : List Int) : Option DNet :=
  (m_spec_l11Renumber_L2 d0 d1 xs13 m_spec_l11Renumber_A2 (d1.length + 1) 0 (⟨[]⟩ : DNet))
def m_spec_l11Renumber_B1 (d1 : List Int) (rec1 : List Int → Int → Option DNet) (K1 : List Int → Option DNet) (xs262 : List Int) (i263 : Int) : Option DNet :=
  (bif (decide (i263 < (d1.length : Int))) then ((getI d1 i263).bind fun x266 => ((getI xs262 x266).bind fun x277 => (rec1 (setI xs262 x266 i263) (i263 + 1)))) else (K1 xs262))
def m_spec_l11Renumber_L1 (d1 : List Int) (K1 : List Int → Option DNet) : Nat → List Int → Int → Option DNet
  | 0, _, _ => none
  | g + 1, xs262, i263 => m_spec_l11Renumber_B1 d1 (m_spec_l11Renumber_L1 d1 K1 g) K1 xs262 i263
def m_spec_l11Renumber (d0 : DNet) (d1 : List Int) : Option DNet :=
  ((m_spec_l00Own d1).bind fun y6 => (m_spec_l11Renumber_L1 d1 (m_spec_l11Renumber_A1 d0 d1) (d1.length + 1) y6 0))
set_option maxHeartbeats 2000000 in
theorem c_m_spec_l11Renumber (d0 : DNet) (d1 : List Int) (r : DNet) (hm : m_spec_l11Renumber d0 d1 = some r) (v0 : Value) (v1 : Value) (w : World) (hv0 : Pt netRd w v0 d0) (hv1 : Sl intRd 1 w v1 d1) :
    Calls Try.prog 83 #[v0, v1] w fun e w' => (∃ (v0 : Value) (bs0 : List Nat), e = .returned (.agg #[v0]) ∧ OwN 89 agentOw 5 w' w.heap.size v0 r.agents bs0) ∧ Below w.heap.size w w' := by
  obtain ⟨ba0, oa0, csa0, rfl, hba0, hRa0, hca0⟩ := hv0
  have hSa0 := hRa0
  obtain ⟨A1, n1, c1, rfl, ⟨h1, r1⟩⟩ := hRa0
  have e1 := h1.len; subst e1
  have q1 := len_le r1
  obtain ⟨Aa1, na1, ca1, rfl, ha1, ra1⟩ := hv1
  have ea1 := ha1.len; subst ea1
  have qa1 := len_le ra1
  have T := Below.refl w.heap.size w
  unfold m_spec_l11Renumber at hm
  refine enter 71 Try.func83 rfl rfl rfl ?_
  intro f hf
  have s0 : f 0 = .pointer (some ⟨ba0, oa0, none⟩) := hf 0 _ rfl
  have s1 : f 1 = .slice Aa1 d1.length ca1 := hf 1 _ rfl
  refine wp_seq ?_
  refine wp_rl rfl ?_
  refine RL.alloc (z := .agg #[.slice none 0 0]) rfl (by kernel_rfl) (fun w2 B3 hb4 szw2 => ?_)
  replace B3 : Blk w2 w.heap.size 30 #[.slice none 0 0] := B3
  have GB3 : w.heap.size ≤ w.heap.size := T.size
  have T := Tt T hb4
  refine RL.nil ?_
  refine then_n ?_
  refine wp_seq ?_
  refine wp_rl rfl ?_
  refine RL.y rfl (Y.move (v := .slice Aa1 d1.length ca1) s1) ?_
  obtain ⟨y6, e7, hm⟩ := bnd hm
  refine RL.call rfl (am1 rfl) (by kernel_rfl) ((c_m_spec_l00Own d1 _ e7 _ _ (slArg intRd_ok ha1 ra1 T)).mono ?_)
  rintro _ w11 ⟨⟨v8, rfl, G9⟩, hb12⟩
  refine ⟨_, rfl, ?_⟩
  have szw11 := hb12.size
  have T0w11 := T.size
  have Zo10_ob5 := ap_ne (Ap.new (OwF.flo G9) (one_hi B3.lt))
  have B3 := blkT B3 hb12
  have T := Tt T hb12
  replace G9 := OwF.mono G9 T0w11
  refine RL.y rfl (Y.assign (v := v8) rfl) ?_
  refine RL.nil ?_
  refine then_n ?_
  refine wp_seq ?_
  refine wp_seq ?_
  refine wp_rs rfl ?_
  refine RQ.y rfl (Y.assign (v := .int .i64 0) rfl) ?_
  refine RQ.nil ?_
  refine then_n ?_
  refine wp_block ?_
  obtain ⟨K1, hK1, hm⟩ : ∃ K, K = (m_spec_l11Renumber_A1 d0 d1) ∧ m_spec_l11Renumber_L1 d1 K (d1.length + 1) y6 0 = some r := ⟨_, rfl, hm⟩
  refine wp_loopX (fun g f w' => ∃ (xs262 : List Int) (i263 : Int) (uxs262 : Value), f 0 = .pointer (some ⟨ba0, oa0, none⟩) ∧ f 1 = .slice Aa1 d1.length ca1 ∧ f 4 = .pointer (some ⟨w.heap.size, 0, none⟩) ∧ f 5 = uxs262 ∧ OwF 2 encI 1 w' w.heap.size uxs262 xs262 ∧ f 6 = .int .i64 i263 ∧ 0 ≤ i263 ∧ Value.ownBlock uxs262 ≠ some w.heap.size ∧ Blk w' w.heap.size 30 #[.slice none 0 0] ∧ Below w.heap.size w w' ∧ m_spec_l11Renumber_L1 d1 K1 g xs262 i263 = some r) 0 (fun f w' => ∃ (xs13 : List Int) (uxs13 : Value), f 0 = .pointer (some ⟨ba0, oa0, none⟩) ∧ f 1 = .slice Aa1 d1.length ca1 ∧ f 4 = .pointer (some ⟨w.heap.size, 0, none⟩) ∧ f 5 = uxs13 ∧ OwF 2 encI 1 w' w.heap.size uxs13 xs13 ∧ Value.ownBlock uxs13 ≠ some w.heap.size ∧ Blk w' w.heap.size 30 #[.slice none 0 0] ∧ Below w.heap.size w w' ∧ m_spec_l11Renumber_A1 d0 d1 xs13 = some r) (d1.length + 1) ⟨y6, 0, (v8), s0, s1, rfl, rfl, G9, rfl, (by omega), (ap_ne (ne_ap Zo10_ob5)), B3, T, hm⟩ ?_ ?_
  · rintro f w14 ⟨xs13, uxs13, s0_1x, s1_1x, s4_1x, s5_1x, Guxs13, Noxs13_ob5, B3, T, hm⟩
    unfold m_spec_l11Renumber_A1 at hm
    refine blk_hit (then_n ?_)
    refine wp_seq ?_
    refine wp_rl rfl ?_
    refine RL.y rfl (Y.build0 (cells := #[.slice none 0 0])  (by kernel_rfl) (by kernel_rfl)) ?_
    refine RL.alloc (z := .agg #[.slice none 0 0]) rfl (by kernel_rfl) (fun w15 B16 hb17 szw15 => ?_)
    replace B16 : Blk w15 w14.heap.size 30 #[.slice none 0 0] := B16
    have GB16 : w.heap.size ≤ w14.heap.size := T.size
    have Eob18_ob5 := Nat.ne_of_lt B3.lt
    have Noxs13_ob18 := OwF.far Guxs13 (Nat.le_refl _)
    have B3 := blkT B3 hb17
    have Guxs13 := OwF.below Guxs13 hb17
    have T := Tt T hb17
    refine RL.store (v := .agg #[.slice none 0 0]) (cs' := #[.slice none 0 0]) rfl rfl rfl B16 (by kernel_rfl) (by rfl) (by rfl) (by rfl) (fun w19 B20 ho21 => ?_)
    have szw19 := ho21.size
    have B3 := B3.only_ ho21 (by intro hin; simp at hin; exact Eob18_ob5 hin)
    have Guxs13 := OwF.only Guxs13 ho21 Noxs13_ob18
    have T := T.trans (ho21.below (by first | (simp; done) | (simp; omega)))
    refine RL.nil ?_
    refine then_n ?_
    refine wp_seq ?_
    refine wp_seq ?_
    refine wp_rs rfl ?_
    refine RQ.y rfl (Y.assign (v := .int .i64 0) rfl) ?_
    refine RQ.nil ?_
    refine then_n ?_
    refine wp_block ?_
    obtain ⟨K2, hK2, hm⟩ : ∃ K, K = m_spec_l11Renumber_A2 ∧ m_spec_l11Renumber_L2 d0 d1 xs13 K (d1.length + 1) 0 (⟨[]⟩ : DNet) = some r := ⟨_, rfl, hm⟩
    refine wp_loopX (fun g f w' => ∃ (i29 : Int) (z30 : DNet) (uz30_0 : Value) (bsz30_0 : List Nat), f 0 = .pointer (some ⟨ba0, oa0, none⟩) ∧ f 1 = .slice Aa1 d1.length ca1 ∧ f 4 = .pointer (some ⟨w.heap.size, 0, none⟩) ∧ f 5 = uxs13 ∧ f 7 = .pointer (some ⟨w14.heap.size, 0, none⟩) ∧ f 8 = .int .i64 i29 ∧ 0 ≤ i29 ∧ Blk w' w14.heap.size 30 #[uz30_0] ∧ OwN 89 agentOw 5 w' w.heap.size uz30_0 z30.agents bsz30_0 ∧ Ap bsz30_0 (fb uxs13) ∧ Ap bsz30_0 [w.heap.size] ∧ Ap bsz30_0 [w14.heap.size] ∧ Blk w' w.heap.size 30 #[.slice none 0 0] ∧ OwF 2 encI 1 w' w.heap.size uxs13 xs13 ∧ Below w.heap.size w w' ∧ m_spec_l11Renumber_L2 d0 d1 xs13 K2 g i29 z30 = some r) 2 (fun f w' => ∃ (z22 : DNet) (uz22_0 : Value) (bsz22_0 : List Nat), f 4 = .pointer (some ⟨w.heap.size, 0, none⟩) ∧ f 7 = .pointer (some ⟨w14.heap.size, 0, none⟩) ∧ Blk w' w14.heap.size 30 #[uz22_0] ∧ OwN 89 agentOw 5 w' w.heap.size uz22_0 z22.agents bsz22_0 ∧ Ap bsz22_0 [w.heap.size] ∧ Ap bsz22_0 [w14.heap.size] ∧ Blk w' w.heap.size 30 #[.slice none 0 0] ∧ Below w.heap.size w w' ∧ m_spec_l11Renumber_A2 z22 = some r) (d1.length + 1) ⟨0, (⟨[]⟩ : DNet), (.slice none 0 0), [], s0_1x, s1_1x, s4_1x, s5_1x, rfl, rfl, (by omega), B20, OwN.nil, Ap.nil, Ap.nil, Ap.nil, B3, Guxs13, T, hm⟩ ?_ ?_
    · rintro f w23 ⟨z22, uz22_0, bsz22_0, s4_2x, s7_2x, Bz22, Guz22_0, Noz22_0_ob5, Noz22_0_ob18, B3, T, hm⟩
      unfold m_spec_l11Renumber_A2 at hm
      refine blk_hit (then_n ?_)
      refine wp_seq ?_
      refine wp_rl rfl ?_
      refine RL.y rfl (Y.loadN (cs := [uz22_0]) s7_2x (by kernel_rfl) (cells1 (eqC (blkCell Bz22 (i := 0) rfl)))) ?_
      obtain ⟨A24, c25, rfl⟩ := OwN.form Guz22_0
      have qbA24 := OwN.bound Guz22_0
      refine RL.store (v := .agg #[.slice A24 z22.agents.length c25]) (cs' := #[.slice A24 z22.agents.length c25]) rfl s4_2x rfl B3 (by kernel_rfl) (by rfl) (by rfl) (by rfl) (fun w26 B27 ho28 => ?_)
      have szw26 := ho28.size
      have Bz22 := Bz22.only_ ho28 (by intro hin; simp at hin; exact Eob18_ob5.symm hin)
      have Guz22_0 := OwN.only agentOw_ok Guz22_0 ho28 (Ap.one Noz22_0_ob5)
      have T := T.trans (ho28.below (by first | (simp; done) | (simp; omega)))
      refine RL.nil ?_
      refine then_n ?_
      refine wp_ret ?_
      obtain rfl := Option.some.inj hm
      exact (retc (cs := [.slice A24 z22.agents.length c25]) rfl rfl s4_2x (by kernel_rfl) (blkCells B27) ⟨⟨_, _, rfl, Guz22_0⟩, T⟩)
    · rintro g f w31 ⟨i29, z30, uz30_0, bsz30_0, s0_2, s1_2, s4_2, s5_2, s7_2, s8_2, nn8_2, Bz30, Guz30_0, Doz30_0_oxs13, Noz30_0_ob5, Noz30_0_ob18, B3, Guxs13, T, hm⟩
      rcases g with _ | g
      · simp only [m_spec_l11Renumber_L2] at hm; cases hm
      obtain ⟨rec2, hrec2, hm⟩ : ∃ z, z = m_spec_l11Renumber_L2 d0 d1 xs13 K2 g ∧ m_spec_l11Renumber_B2 d0 d1 xs13 z K2 i29 z30 = some r := ⟨_, rfl, hm⟩
      unfold m_spec_l11Renumber_B2 at hm
      refine wp_seq ?_
      refine wp_seq ?_
      refine wp_rs rfl ?_
      refine RQ.y rfl (Y.move (v := .int .i64 i29) s8_2) ?_
      refine RQ.y rfl (Y.move (v := .slice Aa1 d1.length ca1) s1_2) ?_
      refine RQ.y rfl (Y.len (by kernel_rfl) rfl) ?_
      refine RQ.y rfl (Y.binI (v := .bool (decide (i29 < (d1.length : Int)))) rfl rfl rfl) ?_
      refine RQ.nil ?_
      refine then_n ?_
      rcases bcases (decide (i29 < (d1.length : Int))) with c32 | c32
      · replace hm := cF c32 hm
        have pc32 := of_decide_eq_false c32
        refine cond_f rfl (vb rfl c32) ?_
        refine wp_exit ?_
        exact (then_x (then_x (hit_x ⟨_, rfl, ⟨z30, (uz30_0), bsz30_0, s4_2, s7_2, Bz30, Guz30_0, Noz30_0_ob5, Noz30_0_ob18, B3, T, (by rw [hK2] at hm; exact hm)⟩⟩)))
      · replace hm := cT c32 hm
        have pc32 := of_decide_eq_true c32
        refine cond_t rfl (vb rfl c32) ?_
        refine wp_skip ?_
        refine then_n ?_
        refine wp_seq ?_
        refine wp_block ?_
        refine wp_seq ?_
        refine wp_rgt (fun w' => Below w.heap.size w w') (.q 0 (.q 1 (.q 2 (.q 3 (.q 4 (.q 5 (.q 6 (.q 7 (.q 8 (.two 9 (.a 10 (.a 11 .nil)) 10 (.a 9 (.a 11 .nil)))))))))))) (by kernel_rfl) (by kernel_rfl) (fun w33 hb34 szw33 => ?_)
        have B3 := blkT B3 hb34
        have Bz30 := blkT Bz30 hb34
        have Guxs13 := OwF.below Guxs13 hb34
        have Guz30_0 := OwN.below agentOw_ok Guz30_0 hb34
        have T := Tt T hb34
        refine ⟨T, ?_⟩
        refine RT.y rfl rfl (Y.move (v := .pointer (some ⟨ba0, oa0, none⟩)) s0_2) ?_
        refine RT.y rfl rfl (Y.nilCheck rfl) ?_
        refine RT.y rfl rfl (Y.fieldAddr (off := 0) rfl (by kernel_rfl)) ?_
        refine RT.y rfl rfl (Y.load (v := .slice A1 d0.agents.length c1) rfl (by kernel_rfl) (fun w' hS => (cellT hS (hca0 0 _ rfl)))) ?_
        refine RT.y rfl rfl (Y.move (v := .slice Aa1 d1.length ca1) s1_2) ?_
        refine RT.y rfl rfl (Y.move (v := .int .i64 i29) s8_2) ?_
        obtain ⟨x35, hx38, hm⟩ := bnd hm
        obtain ⟨k36, hk39, hl40, hx38⟩ := getI_some hx38
        obtain ⟨b42, o43, rfl, hbb42⟩ := ha1.addr (by omega)
        obtain ⟨cs37, hRcs37, hc41⟩ := ha1.el hx38
        have hScs37 := hRcs37
        obtain rfl := hRcs37
        refine RT.y rfl rfl (Y.indexAddr (m := k36) (sz := 1) rfl rfl hk39 hl40 (by kernel_rfl)) ?_
        refine RT.y rfl rfl (Y.load (v := .int .i64 x35) rfl (by kernel_rfl) (fun w' hS => (cellT hS (hc41 0 _ rfl)))) ?_
        obtain ⟨x44, hx47, hm⟩ := bnd hm
        obtain ⟨k45, hk48, hl49, hx47⟩ := getI_some hx47
        obtain ⟨b51, o52, rfl, hbb51⟩ := h1.addr (by omega)
        obtain ⟨cs46, hRcs46, hc50⟩ := h1.el hx47
        have hScs46 := hRcs46
        obtain ⟨A53, n53, c53, A54, n54, c54, rfl, ⟨h53, r53⟩, ⟨h54, r54⟩⟩ := hRcs46
        have e53 := h53.len; subst e53
        have q53 := len_le r53
        have e54 := h54.len; subst e54
        have q54 := len_le r54
        refine RT.y rfl rfl (Y.indexAddr (m := k45) (sz := 5) rfl rfl hk48 hl49 (by kernel_rfl)) ?_
        refine RT.both rfl rfl ?_ ?_
        · obtain ⟨y55, e56, hm⟩ := bnd hm
          refine RL.call rfl (am1 rfl) (by kernel_rfl) ((c_m_spec_l11OwnAgent x44 _ e56 _ _ (ptArg agentRd_ok hbb51 hScs46 hc50 T)).mono ?_)
          rintro _ w63 ⟨⟨v57, v60, rfl, G58, G61, Ro59_o62⟩, hb64⟩
          refine ⟨_, rfl, ?_⟩
          have szw63 := hb64.size
          have T0w63 := T.size
          have Zo59_ob5 := ap_ne (Ap.new (OwF.flo G58) (one_hi B3.lt))
          have Zo59_ob18 := ap_ne (Ap.new (OwF.flo G58) (one_hi Bz30.lt))
          have Zo59_oxs13 := Ap.dj (Ap.new (OwF.flo G58) (OwF.fhi Guxs13))
          have Zo59_oz30_0 : Ap (fb v57) bsz30_0 := (Ap.new (OwF.flo G58) (OwN.hi Guz30_0))
          have Zo62_ob5 := ap_ne (Ap.new (OwF.flo G61) (one_hi B3.lt))
          have Zo62_ob18 := ap_ne (Ap.new (OwF.flo G61) (one_hi Bz30.lt))
          have Zo62_oxs13 := Ap.dj (Ap.new (OwF.flo G61) (OwF.fhi Guxs13))
          have Zo62_oz30_0 : Ap (fb v60) bsz30_0 := (Ap.new (OwF.flo G61) (OwN.hi Guz30_0))
          have B3 := blkT B3 hb64
          have Bz30 := blkT Bz30 hb64
          have Guxs13 := OwF.below Guxs13 hb64
          have Guz30_0 := OwN.below agentOw_ok Guz30_0 hb64
          have T := Tt T hb64
          replace G58 := OwF.mono G58 T0w63
          replace G61 := OwF.mono G61 T0w63
          refine RL.nil ⟨T, ?_⟩
          refine RT.act rfl ?_
          refine RL.alloc (z := .agg #[.int .i64 0, .int .i64 0, .int .i64 0, .slice none 0 0, .slice none 0 0]) rfl (by kernel_rfl) (fun w65 B66 hb67 szw65 => ?_)
          replace B66 : Blk w65 w63.heap.size 89 #[.int .i64 0, .int .i64 0, .int .i64 0, .slice none 0 0, .slice none 0 0] := B66
          have GB66 : w.heap.size ≤ w63.heap.size := T.size
          have Eob68_ob5 := Nat.ne_of_lt B3.lt
          have Eob68_ob18 := Nat.ne_of_lt Bz30.lt
          have Noxs13_ob68 := OwF.far Guxs13 (Nat.le_refl _)
          have Noz30_0_ob68 := Ap.far (OwN.hi Guz30_0)
          have No59_ob68 := OwF.far G58 (Nat.le_refl _)
          have No62_ob68 := OwF.far G61 (Nat.le_refl _)
          have B3 := blkT B3 hb67
          have Bz30 := blkT Bz30 hb67
          have Guxs13 := OwF.below Guxs13 hb67
          have Guz30_0 := OwN.below agentOw_ok Guz30_0 hb67
          have G58 := OwF.below G58 hb67
          have G61 := OwF.below G61 hb67
          have T := Tt T hb67
          refine RL.nil ⟨T, ?_⟩
          refine RT.act rfl ?_
          obtain ⟨A69, c70, rfl⟩ := OwF.form G58
          have qbA69 := OwF.bound G58
          obtain ⟨A71, c72, rfl⟩ := OwF.form G61
          have qbA71 := OwF.bound G61
          refine RL.store (v := .agg #[.int .i64 y55.kind, .int .i64 y55.level, .int .i64 y55.value, .slice A69 y55.data.length c70, .slice A71 y55.ports.length c72]) (cs' := #[.int .i64 y55.kind, .int .i64 y55.level, .int .i64 y55.value, .slice A69 y55.data.length c70, .slice A71 y55.ports.length c72]) rfl rfl rfl B66 (by kernel_rfl) (by rfl) (by rfl) (by rfl) (fun w73 B74 ho75 => ?_)
          have szw73 := ho75.size
          have B3 := B3.only_ ho75 (by intro hin; simp at hin; exact Eob68_ob5 hin)
          have Bz30 := Bz30.only_ ho75 (by intro hin; simp at hin; exact Eob68_ob18 hin)
          have Guxs13 := OwF.only Guxs13 ho75 Noxs13_ob68
          have Guz30_0 := OwN.only agentOw_ok Guz30_0 ho75 (Ap.one Noz30_0_ob68)
          have G58 := OwF.only G58 ho75 No59_ob68
          have G61 := OwF.only G61 ho75 No62_ob68
          have T := T.trans (ho75.below (by first | (simp; done) | (simp; omega)))
          refine RL.nil ⟨T, ?_⟩
          refine RT.nil_ ?_
          refine then_n ?_
          refine wp_seq ?_
          refine wp_seq ?_
          refine wp_rs rfl ?_
          refine RQ.y rfl (Y.assign (v := .int .i64 0) rfl) ?_
          refine RQ.nil ?_
          refine then_n ?_
          refine wp_block ?_
          obtain ⟨K3, hK3, hm⟩ : ∃ K, K = (m_spec_l11Renumber_A3 rec2 i29 z30) ∧ m_spec_l11Renumber_L3 xs13 K (y55.ports.length + 1) 0 y55 = some r := ⟨_, rfl, hm⟩
          refine wp_loopX (fun g f w' => ∃ (i125 : Int) (z126 : DAgent) (uz126_0 : Value) (uz126_1 : Value), f 0 = .pointer (some ⟨ba0, oa0, none⟩) ∧ f 1 = .slice (some ⟨b42, o43, none⟩) d1.length ca1 ∧ f 4 = .pointer (some ⟨w.heap.size, 0, none⟩) ∧ f 5 = uxs13 ∧ f 7 = .pointer (some ⟨w14.heap.size, 0, none⟩) ∧ f 8 = .int .i64 i29 ∧ f 9 = .pointer (some ⟨w63.heap.size, 0, none⟩) ∧ f 10 = .int .i64 i125 ∧ 0 ≤ i125 ∧ Blk w' w63.heap.size 89 #[.int .i64 z126.kind, .int .i64 z126.level, .int .i64 z126.value, uz126_0, uz126_1] ∧ OwF 2 encI 1 w' w.heap.size uz126_0 z126.data ∧ OwF 53 encPort 2 w' w.heap.size uz126_1 z126.ports ∧ Dj uz126_0 uxs13 ∧ Ap (fb uz126_0) bsz30_0 ∧ Value.ownBlock uz126_0 ≠ some w.heap.size ∧ Value.ownBlock uz126_0 ≠ some w14.heap.size ∧ Value.ownBlock uz126_0 ≠ some w63.heap.size ∧ Dj uz126_1 uz126_0 ∧ Dj uz126_1 uxs13 ∧ Ap (fb uz126_1) bsz30_0 ∧ Value.ownBlock uz126_1 ≠ some w.heap.size ∧ Value.ownBlock uz126_1 ≠ some w14.heap.size ∧ Value.ownBlock uz126_1 ≠ some w63.heap.size ∧ Blk w' w.heap.size 30 #[.slice none 0 0] ∧ Blk w' w14.heap.size 30 #[uz30_0] ∧ OwF 2 encI 1 w' w.heap.size uxs13 xs13 ∧ OwN 89 agentOw 5 w' w.heap.size uz30_0 z30.agents bsz30_0 ∧ Below w.heap.size w w' ∧ m_spec_l11Renumber_L3 xs13 K3 g i125 z126 = some r) 4 (fun f w' => ∃ (z76 : DAgent) (uz76_0 : Value) (uz76_1 : Value), f 0 = .pointer (some ⟨ba0, oa0, none⟩) ∧ f 1 = .slice (some ⟨b42, o43, none⟩) d1.length ca1 ∧ f 4 = .pointer (some ⟨w.heap.size, 0, none⟩) ∧ f 5 = uxs13 ∧ f 7 = .pointer (some ⟨w14.heap.size, 0, none⟩) ∧ f 8 = .int .i64 i29 ∧ f 9 = .pointer (some ⟨w63.heap.size, 0, none⟩) ∧ Blk w' w63.heap.size 89 #[.int .i64 z76.kind, .int .i64 z76.level, .int .i64 z76.value, uz76_0, uz76_1] ∧ OwF 2 encI 1 w' w.heap.size uz76_0 z76.data ∧ OwF 53 encPort 2 w' w.heap.size uz76_1 z76.ports ∧ Dj uz76_0 uxs13 ∧ Ap (fb uz76_0) bsz30_0 ∧ Value.ownBlock uz76_0 ≠ some w.heap.size ∧ Value.ownBlock uz76_0 ≠ some w14.heap.size ∧ Value.ownBlock uz76_0 ≠ some w63.heap.size ∧ Dj uz76_1 uz76_0 ∧ Dj uz76_1 uxs13 ∧ Ap (fb uz76_1) bsz30_0 ∧ Value.ownBlock uz76_1 ≠ some w.heap.size ∧ Value.ownBlock uz76_1 ≠ some w14.heap.size ∧ Value.ownBlock uz76_1 ≠ some w63.heap.size ∧ Blk w' w.heap.size 30 #[.slice none 0 0] ∧ Blk w' w14.heap.size 30 #[uz30_0] ∧ OwF 2 encI 1 w' w.heap.size uxs13 xs13 ∧ OwN 89 agentOw 5 w' w.heap.size uz30_0 z30.agents bsz30_0 ∧ Below w.heap.size w w' ∧ m_spec_l11Renumber_A3 rec2 i29 z30 z76 = some r) (y55.ports.length + 1) ⟨0, y55, (.slice A69 y55.data.length c70), (.slice A71 y55.ports.length c72), s0_2, s1_2, s4_2, s5_2, s7_2, s8_2, rfl, rfl, (by omega), B74, G58, G61, (Ap.dj (Dj.ap Zo59_oxs13)), Zo59_oz30_0, (ap_ne (ne_ap Zo59_ob5)), (ap_ne (ne_ap Zo59_ob18)), (ap_ne (ne_ap No59_ob68)), (Ap.dj (Ap.symm (Dj.ap Ro59_o62))), (Ap.dj (Dj.ap Zo62_oxs13)), Zo62_oz30_0, (ap_ne (ne_ap Zo62_ob5)), (ap_ne (ne_ap Zo62_ob18)), (ap_ne (ne_ap No62_ob68)), B3, Bz30, Guxs13, Guz30_0, T, hm⟩ ?_ ?_
          · rintro f w77 ⟨z76, uz76_0, uz76_1, s0_3x, s1_3x, s4_3x, s5_3x, s7_3x, s8_3x, s9_3x, Bz76, Guz76_0, Guz76_1, Doz76_0_oxs13, Doz76_0_oz30_0, Noz76_0_ob5, Noz76_0_ob18, Noz76_0_ob68, Doz76_1_oz76_0, Doz76_1_oxs13, Doz76_1_oz30_0, Noz76_1_ob5, Noz76_1_ob18, Noz76_1_ob68, B3, Bz30, Guxs13, Guz30_0, T, hm⟩
            unfold m_spec_l11Renumber_A3 at hm
            refine blk_hit (then_n ?_)
            refine wp_rl rfl ?_
            refine RL.y rfl (Y.fieldAddr (off := 0) s7_3x (by kernel_rfl)) ?_
            refine RL.y rfl (Y.load (v := uz30_0) rfl (by kernel_rfl) (eqC (blkCell Bz30 (i := 0) rfl))) ?_
            refine RL.y rfl (Y.loadN (cs := [.int .i64 z76.kind, .int .i64 z76.level, .int .i64 z76.value, uz76_0, uz76_1]) s9_3x (by kernel_rfl) (cells5 (eqC (blkCell Bz76 (i := 0) rfl)) (eqC (blkCell Bz76 (i := 1) rfl)) (eqC (blkCell Bz76 (i := 2) rfl)) (eqC (blkCell Bz76 (i := 3) rfl)) (eqC (blkCell Bz76 (i := 4) rfl)))) ?_
            obtain ⟨A82, c83, rfl⟩ := OwF.form Guz76_0
            have qbA82 := OwF.bound Guz76_0
            obtain ⟨A84, c85, rfl⟩ := OwF.form Guz76_1
            have qbA84 := OwF.bound Guz76_1
            refine RL.bslice (e := 89) (cells := #[.int .i64 z76.kind, .int .i64 z76.level, .int .i64 z76.value, .slice A82 z76.data.length c83, .slice A84 z76.ports.length c85]) rfl (pm1 rfl) (by kernel_rfl) (fun w78 B79 hb80 szw78 => ?_)
            have ZB79 : w.heap.size ≤ w77.heap.size := T.size
            have q86 := OwF.fboth Guz76_0 (Nat.le_refl _)
            have q87 := OwF.fboth Guz76_1 (Nat.le_refl _)
            have z88 := Ap.cons (Ap.farL (one_hi B3.lt)) (Ap.append (ne_ap Noz76_0_ob5) (ne_ap Noz76_1_ob5))
            have z89 := Ap.cons (Ap.farL (one_hi Bz30.lt)) (Ap.append (ne_ap Noz76_0_ob18) (ne_ap Noz76_1_ob18))
            have z90 := Ap.cons (Ap.farL (one_hi Bz76.lt)) (Ap.append (ne_ap Noz76_0_ob68) (ne_ap Noz76_1_ob68))
            have z91 := Ap.cons (Ap.farL (OwF.fhi Guxs13)) (Ap.append (Dj.ap Doz76_0_oxs13) (Dj.ap Doz76_1_oxs13))
            have z92 := Ap.cons (Ap.farL (OwN.hi Guz30_0)) (Ap.append Doz76_0_oz30_0 Doz76_1_oz30_0)
            have B3 := blkT B3 hb80
            have Bz30 := blkT Bz30 hb80
            have Bz76 := blkT Bz76 hb80
            have Guxs13 := OwF.below Guxs13 hb80
            have Guz30_0 := OwN.below agentOw_ok Guz30_0 hb80
            have Guz76_0 := OwF.below Guz76_0 hb80
            have Guz76_1 := OwF.below Guz76_1 hb80
            have T := Tt T hb80
            obtain ⟨l94, a93, nd95, sb96, r97⟩ := OwF.own2 fI Guz76_0
            obtain ⟨l99, a98, nd100, sb101, r102⟩ := OwF.own2 fPort Guz76_1
            have G103 : OwN 89 agentOw 5 w78 w.heap.size (.slice (some ⟨w77.heap.size, 0, none⟩) 1 1) [z76] (w77.heap.size :: ((fb (.slice A82 z76.data.length c83)) ++ (fb (.slice A84 z76.ports.length c85)))) := OwN.lit1 (b1 := (l94 ++ l99)) B79 ZB79 ⟨_, _, _, _, _, _, l94, l99, rfl, ⟨a93, r97⟩, ⟨a98, r102⟩, rfl⟩ agentOw_ok (nodup2 nd95 nd100 sb96 sb101 (Ap.symm (Dj.ap Doz76_1_oz76_0))) (sub2 sb96 sb101) (all2 q86 q87)
            obtain ⟨_, m105, hm⟩ := bnd hm
            have hk106 := mustP_some m105
            refine RL.appendN agentOw_ok agentOw_one (by decide) app_impl_Agent rfl rfl rfl Guz30_0 G103 (Ap.symm z92) T.size hk106 (fun v107 w108 bs109 G110 hgr111 hbl112 hnb113 => ?_)
            have szw108 := hbl112.size
            have z115 := Ap.app hnb113 Noz30_0_ob5 z88 (one_hi B3.lt)
            have z116 := Ap.app hnb113 Noz30_0_ob18 z89 (one_hi Bz30.lt)
            have z117 := Ap.app hnb113 Noz30_0_ob68 z90 (one_hi Bz76.lt)
            have z118 := Ap.app hnb113 Doz30_0_oxs13 z91 (OwF.fhi Guxs13)
            have B3 := Blk.kept B3 hgr111 (OwN.neB Guz30_0 Noz30_0_ob5)
            have Bz30 := Blk.kept Bz30 hgr111 (OwN.neB Guz30_0 Noz30_0_ob18)
            have Bz76 := Blk.kept Bz76 hgr111 (OwN.neB Guz30_0 Noz30_0_ob68)
            have Guxs13 := OwF.keptD Guxs13 hgr111 (OwN.dj Guz30_0 Doz30_0_oxs13)
            have T := T.trans hbl112
            refine RL.y rfl (Y.fieldAddr (off := 0) s7_3x (by kernel_rfl)) ?_
            obtain ⟨A119, c120, rfl⟩ := OwN.form G110
            have qbA119 := OwN.bound G110
            refine RL.store (v := .slice A119 ((z30.agents ++ [z76]).length) c120) (cs' := #[.slice A119 ((z30.agents ++ [z76]).length) c120]) rfl rfl rfl Bz30 (by kernel_rfl) (by rfl) (by rfl) (by rfl) (fun w121 B122 ho123 => ?_)
            have szw121 := ho123.size
            have B3 := B3.only_ ho123 (by intro hin; simp at hin; exact Eob18_ob5 hin)
            have Bz76 := Bz76.only_ ho123 (by intro hin; simp at hin; exact Eob68_ob18.symm hin)
            have Guxs13 := OwF.only Guxs13 ho123 Noxs13_ob18
            have G110 := OwN.only agentOw_ok G110 ho123 (Ap.one z116)
            have T := T.trans (ho123.below (by first | (simp; done) | (simp; omega)))
            refine RL.nil ?_
            refine blk_n (then_n ?_)
            refine wp_rs rfl ?_
            refine RQ.y rfl (Y.move (v := .int .i64 i29) s8_3x) ?_
            obtain ⟨s124, ks124, hm⟩ := bnd hm
            replace ks124 := ck_some ks124
            refine RQ.y rfl (Y.binI (v := .int .i64 s124) rfl rfl (by rw [binI_add ks124.2, ks124.1])) ?_
            refine RQ.y rfl (Y.assign (v := .int .i64 s124) rfl) ?_
            refine RQ.nil ?_
            exact (then_n ⟨g, _, Nat.lt_succ_self _, rfl, ⟨s124, (⟨(z30.agents ++ [z76])⟩ : DNet), (.slice A119 ((z30.agents ++ [z76]).length) c120), bs109, s0_3x, s1_3x, s4_3x, s5_3x, s7_3x, rfl, (by omega), B122, G110, z118, z115, z116, B3, Guxs13, T, (by rw [← hrec2]; exact hm)⟩⟩)
          · rintro g f w127 ⟨i125, z126, uz126_0, uz126_1, s0_3, s1_3, s4_3, s5_3, s7_3, s8_3, s9_3, s10_3, nn10_3, Bz126, Guz126_0, Guz126_1, Doz126_0_oxs13, Doz126_0_oz30_0, Noz126_0_ob5, Noz126_0_ob18, Noz126_0_ob68, Doz126_1_oz126_0, Doz126_1_oxs13, Doz126_1_oz30_0, Noz126_1_ob5, Noz126_1_ob18, Noz126_1_ob68, B3, Bz30, Guxs13, Guz30_0, T, hm⟩
            rcases g with _ | g
            · simp only [m_spec_l11Renumber_L3] at hm; cases hm
            obtain ⟨rec3, hrec3, hm⟩ : ∃ z, z = m_spec_l11Renumber_L3 xs13 K3 g ∧ m_spec_l11Renumber_B3 xs13 z K3 i125 z126 = some r := ⟨_, rfl, hm⟩
            unfold m_spec_l11Renumber_B3 at hm
            refine wp_seq ?_
            refine wp_seq ?_
            refine wp_rs rfl ?_
            refine RQ.y rfl (Y.move (v := .int .i64 i125) s10_3) ?_
            refine RQ.y rfl (Y.fieldAddr (off := 4) s9_3 (by kernel_rfl)) ?_
            refine RQ.y rfl (Y.load (v := uz126_1) rfl (by kernel_rfl) (eqC (blkCell Bz126 (i := 4) rfl))) ?_
            obtain ⟨A128, c129, rfl⟩ := OwF.form Guz126_1
            have qbA128 := OwF.bound Guz126_1
            refine RQ.y rfl (Y.len (by kernel_rfl) rfl) ?_
            refine RQ.y rfl (Y.binI (v := .bool (decide (i125 < (z126.ports.length : Int)))) rfl rfl rfl) ?_
            refine RQ.nil ?_
            refine then_n ?_
            rcases bcases (decide (i125 < (z126.ports.length : Int))) with c130 | c130
            · replace hm := cF c130 hm
              have pc130 := of_decide_eq_false c130
              refine cond_f rfl (vb rfl c130) ?_
              refine wp_exit ?_
              exact (then_x (then_x (hit_x ⟨_, rfl, ⟨z126, (uz126_0), (.slice A128 z126.ports.length c129), s0_3, s1_3, s4_3, s5_3, s7_3, s8_3, s9_3, Bz126, Guz126_0, Guz126_1, (Ap.dj (Dj.ap Doz126_0_oxs13)), Doz126_0_oz30_0, (ap_ne (ne_ap Noz126_0_ob5)), (ap_ne (ne_ap Noz126_0_ob18)), (ap_ne (ne_ap Noz126_0_ob68)), (Ap.dj (Dj.ap Doz126_1_oz126_0)), (Ap.dj (Dj.ap Doz126_1_oxs13)), Doz126_1_oz30_0, (ap_ne (ne_ap Noz126_1_ob5)), (ap_ne (ne_ap Noz126_1_ob18)), (ap_ne (ne_ap Noz126_1_ob68)), B3, Bz30, Guxs13, Guz30_0, T, (by rw [hK3] at hm; exact hm)⟩⟩)))
            · replace hm := cT c130 hm
              have pc130 := of_decide_eq_true c130
              refine cond_t rfl (vb rfl c130) ?_
              refine wp_skip ?_
              refine then_n ?_
              refine wp_seq ?_
              refine wp_block ?_
              refine wp_rg (fun w' => Below w.heap.size w w' ∧ Blk w' w63.heap.size 89 #[.int .i64 z126.kind, .int .i64 z126.level, .int .i64 z126.value, uz126_0, .slice A128 z126.ports.length c129] ∧ OwF 2 encI 1 w' w.heap.size uxs13 xs13) [(0, true), (1, true), (2, true), (3, true), (4, true), (5, true), (6, true), (7, true), (8, true), (9, false), (10, true), (11, true), (12, true), (13, true), (14, false)] (by kernel_rfl) (by kernel_rfl) (fun w131 hb132 szw131 => ?_)
              have B3 := blkT B3 hb132
              have Bz30 := blkT Bz30 hb132
              have Bz126 := blkT Bz126 hb132
              have Guxs13 := OwF.below Guxs13 hb132
              have Guz30_0 := OwN.below agentOw_ok Guz30_0 hb132
              have Guz126_0 := OwF.below Guz126_0 hb132
              have Guz126_1 := OwF.below Guz126_1 hb132
              have T := Tt T hb132
              refine ⟨⟨T, Bz126, Guxs13⟩, ?_⟩
              refine RG.y rfl rfl (Y.fieldAddr (off := 4) s9_3 (by kernel_rfl)) ?_
              refine RG.y rfl rfl (Y.load (v := .slice A128 z126.ports.length c129) rfl (by kernel_rfl) (fun w' hS => (blkCell hS.2.1 (i := 4) rfl))) ?_
              refine RG.y rfl rfl (Y.move (v := .int .i64 i125) s10_3) ?_
              refine RG.y rfl rfl (Y.move (v := uxs13) s5_3) ?_
              refine RG.y rfl rfl (Y.fieldAddr (off := 4) s9_3 (by kernel_rfl)) ?_
              refine RG.y rfl rfl (Y.load (v := .slice A128 z126.ports.length c129) rfl (by kernel_rfl) (fun w' hS => (blkCell hS.2.1 (i := 4) rfl))) ?_
              refine RG.y rfl rfl (Y.move (v := .int .i64 i125) s10_3) ?_
              obtain ⟨x133, hx135, hm⟩ := bnd hm
              obtain ⟨k134, hk136, hl137, hx135⟩ := getI_some hx135
              obtain ⟨b138, rfl⟩ := OwF.addr0 Guz126_1 (by omega)
              refine RG.y rfl rfl (Y.indexAddr (m := k134) (sz := 2) rfl rfl hk136 hl137 (by kernel_rfl)) ?_
              refine RG.y rfl rfl (Y.fieldAddr (off := 0) rfl (by kernel_rfl)) ?_
              refine RG.act rfl ?_
              refine RL.y rfl (Y.load (v := .int .i64 x133.agent) rfl (by kernel_rfl) (eqC (OwF.cell fPort Guz126_1 hx135 (j := 0) rfl))) ?_
              refine RL.nil ⟨⟨T, Bz126, Guxs13⟩, ?_⟩
              obtain ⟨A139, c140, rfl⟩ := OwF.form Guxs13
              have qbA139 := OwF.bound Guxs13
              obtain ⟨x141, hx143, hm⟩ := bnd hm
              obtain ⟨k142, hk144, hl145, hx143⟩ := getI_some hx143
              obtain ⟨b146, rfl⟩ := OwF.addr0 Guxs13 (by omega)
              refine RG.y rfl rfl (Y.indexAddr (m := k142) (sz := 1) rfl rfl hk144 hl145 (by kernel_rfl)) ?_
              refine RG.y rfl rfl (Y.load (v := .int .i64 x141) rfl (by kernel_rfl) (fun w' hS => (OwF.cell fI hS.2.2 hx143 (j := 0) rfl))) ?_
              obtain ⟨x147, hx149, hm⟩ := bnd hm
              obtain ⟨k148, hk150, hl151, hx149⟩ := getI_some hx149
              refine RG.y rfl rfl (Y.indexAddr (m := k148) (sz := 2) rfl rfl hk150 hl151 (by kernel_rfl)) ?_
              refine RG.y rfl rfl (Y.fieldAddr (off := 0) rfl (by kernel_rfl)) ?_
              refine RG.act rfl ?_
              refine RL.storeFj (k := k148) (j := 0) (a := x147) (a' := (⟨x141, x147.slot⟩ : DPort)) fPort rfl rfl rfl Guz126_1 hx149 (by decide) rfl rfl rfl (by kernel_rfl) (fun w152 G153 ho154 => ?_)
              have szw152 := ho154.size
              have B3 := Blk.only_ B3 ho154 (fun e => Noz126_1_ob5 (by simp at e; rw [e]; rfl))
              have Bz30 := Blk.only_ Bz30 ho154 (fun e => Noz126_1_ob18 (by simp at e; rw [e]; rfl))
              have Bz126 := Blk.only_ Bz126 ho154 (fun e => Noz126_1_ob68 (by simp at e; rw [e]; rfl))
              have Guxs13 := OwF.only Guxs13 ho154 (fun e => (Dj.symm Doz126_1_oxs13) _ e rfl)
              have Guz30_0 := OwN.only agentOw_ok Guz30_0 ho154 ((show Ap bsz30_0 [b138] from (Ap.symm Doz126_1_oz30_0)).one)
              have Guz126_0 := OwF.only Guz126_0 ho154 (fun e => (Dj.symm Doz126_1_oz126_0) _ e rfl)
              have T := T.trans (ho154.below (by intro b hb; simp at hb; subst hb; exact OwF.lo_ Guz126_1 _ rfl))
              have G153 : OwF 53 encPort 2 w152 w.heap.size (.slice (some ⟨b138, 0, none⟩) z126.ports.length c129) (setI z126.ports i125 (⟨x141, x147.slot⟩ : DPort)) := by rw [hk150, setI_nat]; exact G153
              have hx155 : (setI z126.ports i125 (⟨x141, x147.slot⟩ : DPort))[k148]? = some (⟨x141, x147.slot⟩ : DPort) := setI_at hk150 hl151
              have hl156 := lt_of_some hx155
              refine RL.nil ⟨⟨T, Bz126, Guxs13⟩, ?_⟩
              refine RG.nil ?_
              refine blk_n (then_n ?_)
              refine wp_rs rfl ?_
              refine RQ.y rfl (Y.move (v := .int .i64 i125) s10_3) ?_
              refine RQ.y rfl (Y.binI rfl rfl (binI_add (m := i125) (by omega))) ?_
              refine RQ.y rfl (Y.assign (v := .int .i64 (i125 + 1)) rfl) ?_
              refine RQ.nil ?_
              exact (then_n ⟨g, _, Nat.lt_succ_self _, rfl, ⟨(i125 + 1), (⟨z126.kind, z126.level, z126.value, z126.data, (setI z126.ports i125 (⟨x141, x147.slot⟩ : DPort))⟩ : DAgent), (uz126_0), (.slice (some ⟨b138, 0, none⟩) z126.ports.length c129), s0_3, s1_3, s4_3, s5_3, s7_3, s8_3, s9_3, rfl, (by omega), Bz126, Guz126_0, G153, (Ap.dj (Dj.ap Doz126_0_oxs13)), Doz126_0_oz30_0, (ap_ne (ne_ap Noz126_0_ob5)), (ap_ne (ne_ap Noz126_0_ob18)), (ap_ne (ne_ap Noz126_0_ob68)), (Ap.dj (Dj.ap Doz126_1_oz126_0)), (Ap.dj (Dj.ap Doz126_1_oxs13)), Doz126_1_oz30_0, (ap_ne (ne_ap Noz126_1_ob5)), (ap_ne (ne_ap Noz126_1_ob18)), (ap_ne (ne_ap Noz126_1_ob68)), B3, Bz30, Guxs13, Guz30_0, T, (by rw [← hrec3]; exact hm)⟩⟩)
        · refine RL.alloc (z := .agg #[.int .i64 0, .int .i64 0, .int .i64 0, .slice none 0 0, .slice none 0 0]) rfl (by kernel_rfl) (fun w158 B159 hb160 szw158 => ?_)
          replace B159 : Blk w158 w33.heap.size 89 #[.int .i64 0, .int .i64 0, .int .i64 0, .slice none 0 0, .slice none 0 0] := B159
          have GB159 : w.heap.size ≤ w33.heap.size := T.size
          have Eob161_ob5 := Nat.ne_of_lt B3.lt
          have Eob161_ob18 := Nat.ne_of_lt Bz30.lt
          have Noxs13_ob161 := OwF.far Guxs13 (Nat.le_refl _)
          have Noz30_0_ob161 := Ap.far (OwN.hi Guz30_0)
          have B3 := blkT B3 hb160
          have Bz30 := blkT Bz30 hb160
          have Guxs13 := OwF.below Guxs13 hb160
          have Guz30_0 := OwN.below agentOw_ok Guz30_0 hb160
          have T := Tt T hb160
          refine RL.nil ⟨T, ?_⟩
          refine RT.act rfl ?_
          obtain ⟨y162, e163, hm⟩ := bnd hm
          refine RL.call rfl (am1 rfl) (by kernel_rfl) ((c_m_spec_l11OwnAgent x44 _ e163 _ _ (ptArg agentRd_ok hbb51 hScs46 hc50 T)).mono ?_)
          rintro _ w170 ⟨⟨v164, v167, rfl, G165, G168, Ro166_o169⟩, hb171⟩
          refine ⟨_, rfl, ?_⟩
          have szw170 := hb171.size
          have T0w170 := T.size
          have Zo166_ob5 := ap_ne (Ap.new (OwF.flo G165) (one_hi B3.lt))
          have Zo166_ob18 := ap_ne (Ap.new (OwF.flo G165) (one_hi Bz30.lt))
          have Zo166_ob161 := ap_ne (Ap.new (OwF.flo G165) (one_hi B159.lt))
          have Zo166_oxs13 := Ap.dj (Ap.new (OwF.flo G165) (OwF.fhi Guxs13))
          have Zo166_oz30_0 : Ap (fb v164) bsz30_0 := (Ap.new (OwF.flo G165) (OwN.hi Guz30_0))
          have Zo169_ob5 := ap_ne (Ap.new (OwF.flo G168) (one_hi B3.lt))
          have Zo169_ob18 := ap_ne (Ap.new (OwF.flo G168) (one_hi Bz30.lt))
          have Zo169_ob161 := ap_ne (Ap.new (OwF.flo G168) (one_hi B159.lt))
          have Zo169_oxs13 := Ap.dj (Ap.new (OwF.flo G168) (OwF.fhi Guxs13))
          have Zo169_oz30_0 : Ap (fb v167) bsz30_0 := (Ap.new (OwF.flo G168) (OwN.hi Guz30_0))
          have B3 := blkT B3 hb171
          have Bz30 := blkT Bz30 hb171
          have B159 := blkT B159 hb171
          have Guxs13 := OwF.below Guxs13 hb171
          have Guz30_0 := OwN.below agentOw_ok Guz30_0 hb171
          have T := Tt T hb171
          replace G165 := OwF.mono G165 T0w170
          replace G168 := OwF.mono G168 T0w170
          refine RL.nil ⟨T, ?_⟩
          refine RT.act rfl ?_
          obtain ⟨A172, c173, rfl⟩ := OwF.form G165
          have qbA172 := OwF.bound G165
          obtain ⟨A174, c175, rfl⟩ := OwF.form G168
          have qbA174 := OwF.bound G168
          refine RL.store (v := .agg #[.int .i64 y162.kind, .int .i64 y162.level, .int .i64 y162.value, .slice A172 y162.data.length c173, .slice A174 y162.ports.length c175]) (cs' := #[.int .i64 y162.kind, .int .i64 y162.level, .int .i64 y162.value, .slice A172 y162.data.length c173, .slice A174 y162.ports.length c175]) rfl rfl rfl B159 (by kernel_rfl) (by rfl) (by rfl) (by rfl) (fun w176 B177 ho178 => ?_)
          have szw176 := ho178.size
          have B3 := B3.only_ ho178 (by intro hin; simp at hin; exact Eob161_ob5 hin)
          have Bz30 := Bz30.only_ ho178 (by intro hin; simp at hin; exact Eob161_ob18 hin)
          have Guxs13 := OwF.only Guxs13 ho178 Noxs13_ob161
          have Guz30_0 := OwN.only agentOw_ok Guz30_0 ho178 (Ap.one Noz30_0_ob161)
          have G165 := OwF.only G165 ho178 Zo166_ob161
          have G168 := OwF.only G168 ho178 Zo169_ob161
          have T := T.trans (ho178.below (by first | (simp; done) | (simp; omega)))
          refine RL.nil ⟨T, ?_⟩
          refine RT.nil_ ?_
          refine then_n ?_
          refine wp_seq ?_
          refine wp_seq ?_
          refine wp_rs rfl ?_
          refine RQ.y rfl (Y.assign (v := .int .i64 0) rfl) ?_
          refine RQ.nil ?_
          refine then_n ?_
          refine wp_block ?_
          obtain ⟨K3, hK3, hm⟩ : ∃ K, K = (m_spec_l11Renumber_A3 rec2 i29 z30) ∧ m_spec_l11Renumber_L3 xs13 K (y162.ports.length + 1) 0 y162 = some r := ⟨_, rfl, hm⟩
          refine wp_loopX (fun g f w' => ∃ (i228 : Int) (z229 : DAgent) (uz229_0 : Value) (uz229_1 : Value), f 0 = .pointer (some ⟨ba0, oa0, none⟩) ∧ f 1 = .slice (some ⟨b42, o43, none⟩) d1.length ca1 ∧ f 4 = .pointer (some ⟨w.heap.size, 0, none⟩) ∧ f 5 = uxs13 ∧ f 7 = .pointer (some ⟨w14.heap.size, 0, none⟩) ∧ f 8 = .int .i64 i29 ∧ f 9 = .pointer (some ⟨w33.heap.size, 0, none⟩) ∧ f 10 = .int .i64 i228 ∧ 0 ≤ i228 ∧ Blk w' w33.heap.size 89 #[.int .i64 z229.kind, .int .i64 z229.level, .int .i64 z229.value, uz229_0, uz229_1] ∧ OwF 2 encI 1 w' w.heap.size uz229_0 z229.data ∧ OwF 53 encPort 2 w' w.heap.size uz229_1 z229.ports ∧ Dj uz229_0 uxs13 ∧ Ap (fb uz229_0) bsz30_0 ∧ Value.ownBlock uz229_0 ≠ some w.heap.size ∧ Value.ownBlock uz229_0 ≠ some w14.heap.size ∧ Value.ownBlock uz229_0 ≠ some w33.heap.size ∧ Dj uz229_1 uz229_0 ∧ Dj uz229_1 uxs13 ∧ Ap (fb uz229_1) bsz30_0 ∧ Value.ownBlock uz229_1 ≠ some w.heap.size ∧ Value.ownBlock uz229_1 ≠ some w14.heap.size ∧ Value.ownBlock uz229_1 ≠ some w33.heap.size ∧ Blk w' w.heap.size 30 #[.slice none 0 0] ∧ Blk w' w14.heap.size 30 #[uz30_0] ∧ OwF 2 encI 1 w' w.heap.size uxs13 xs13 ∧ OwN 89 agentOw 5 w' w.heap.size uz30_0 z30.agents bsz30_0 ∧ Below w.heap.size w w' ∧ m_spec_l11Renumber_L3 xs13 K3 g i228 z229 = some r) 4 (fun f w' => ∃ (z179 : DAgent) (uz179_0 : Value) (uz179_1 : Value), f 0 = .pointer (some ⟨ba0, oa0, none⟩) ∧ f 1 = .slice (some ⟨b42, o43, none⟩) d1.length ca1 ∧ f 4 = .pointer (some ⟨w.heap.size, 0, none⟩) ∧ f 5 = uxs13 ∧ f 7 = .pointer (some ⟨w14.heap.size, 0, none⟩) ∧ f 8 = .int .i64 i29 ∧ f 9 = .pointer (some ⟨w33.heap.size, 0, none⟩) ∧ Blk w' w33.heap.size 89 #[.int .i64 z179.kind, .int .i64 z179.level, .int .i64 z179.value, uz179_0, uz179_1] ∧ OwF 2 encI 1 w' w.heap.size uz179_0 z179.data ∧ OwF 53 encPort 2 w' w.heap.size uz179_1 z179.ports ∧ Dj uz179_0 uxs13 ∧ Ap (fb uz179_0) bsz30_0 ∧ Value.ownBlock uz179_0 ≠ some w.heap.size ∧ Value.ownBlock uz179_0 ≠ some w14.heap.size ∧ Value.ownBlock uz179_0 ≠ some w33.heap.size ∧ Dj uz179_1 uz179_0 ∧ Dj uz179_1 uxs13 ∧ Ap (fb uz179_1) bsz30_0 ∧ Value.ownBlock uz179_1 ≠ some w.heap.size ∧ Value.ownBlock uz179_1 ≠ some w14.heap.size ∧ Value.ownBlock uz179_1 ≠ some w33.heap.size ∧ Blk w' w.heap.size 30 #[.slice none 0 0] ∧ Blk w' w14.heap.size 30 #[uz30_0] ∧ OwF 2 encI 1 w' w.heap.size uxs13 xs13 ∧ OwN 89 agentOw 5 w' w.heap.size uz30_0 z30.agents bsz30_0 ∧ Below w.heap.size w w' ∧ m_spec_l11Renumber_A3 rec2 i29 z30 z179 = some r) (y162.ports.length + 1) ⟨0, y162, (.slice A172 y162.data.length c173), (.slice A174 y162.ports.length c175), s0_2, s1_2, s4_2, s5_2, s7_2, s8_2, rfl, rfl, (by omega), B177, G165, G168, (Ap.dj (Dj.ap Zo166_oxs13)), Zo166_oz30_0, (ap_ne (ne_ap Zo166_ob5)), (ap_ne (ne_ap Zo166_ob18)), (ap_ne (ne_ap Zo166_ob161)), (Ap.dj (Ap.symm (Dj.ap Ro166_o169))), (Ap.dj (Dj.ap Zo169_oxs13)), Zo169_oz30_0, (ap_ne (ne_ap Zo169_ob5)), (ap_ne (ne_ap Zo169_ob18)), (ap_ne (ne_ap Zo169_ob161)), B3, Bz30, Guxs13, Guz30_0, T, hm⟩ ?_ ?_
          · rintro f w180 ⟨z179, uz179_0, uz179_1, s0_3x, s1_3x, s4_3x, s5_3x, s7_3x, s8_3x, s9_3x, Bz179, Guz179_0, Guz179_1, Doz179_0_oxs13, Doz179_0_oz30_0, Noz179_0_ob5, Noz179_0_ob18, Noz179_0_ob161, Doz179_1_oz179_0, Doz179_1_oxs13, Doz179_1_oz30_0, Noz179_1_ob5, Noz179_1_ob18, Noz179_1_ob161, B3, Bz30, Guxs13, Guz30_0, T, hm⟩
            unfold m_spec_l11Renumber_A3 at hm
            refine blk_hit (then_n ?_)
            refine wp_rl rfl ?_
            refine RL.y rfl (Y.fieldAddr (off := 0) s7_3x (by kernel_rfl)) ?_
            refine RL.y rfl (Y.load (v := uz30_0) rfl (by kernel_rfl) (eqC (blkCell Bz30 (i := 0) rfl))) ?_
            refine RL.y rfl (Y.loadN (cs := [.int .i64 z179.kind, .int .i64 z179.level, .int .i64 z179.value, uz179_0, uz179_1]) s9_3x (by kernel_rfl) (cells5 (eqC (blkCell Bz179 (i := 0) rfl)) (eqC (blkCell Bz179 (i := 1) rfl)) (eqC (blkCell Bz179 (i := 2) rfl)) (eqC (blkCell Bz179 (i := 3) rfl)) (eqC (blkCell Bz179 (i := 4) rfl)))) ?_
            obtain ⟨A185, c186, rfl⟩ := OwF.form Guz179_0
            have qbA185 := OwF.bound Guz179_0
            obtain ⟨A187, c188, rfl⟩ := OwF.form Guz179_1
            have qbA187 := OwF.bound Guz179_1
            refine RL.bslice (e := 89) (cells := #[.int .i64 z179.kind, .int .i64 z179.level, .int .i64 z179.value, .slice A185 z179.data.length c186, .slice A187 z179.ports.length c188]) rfl (pm1 rfl) (by kernel_rfl) (fun w181 B182 hb183 szw181 => ?_)
            have ZB182 : w.heap.size ≤ w180.heap.size := T.size
            have q189 := OwF.fboth Guz179_0 (Nat.le_refl _)
            have q190 := OwF.fboth Guz179_1 (Nat.le_refl _)
            have z191 := Ap.cons (Ap.farL (one_hi B3.lt)) (Ap.append (ne_ap Noz179_0_ob5) (ne_ap Noz179_1_ob5))
            have z192 := Ap.cons (Ap.farL (one_hi Bz30.lt)) (Ap.append (ne_ap Noz179_0_ob18) (ne_ap Noz179_1_ob18))
            have z193 := Ap.cons (Ap.farL (one_hi Bz179.lt)) (Ap.append (ne_ap Noz179_0_ob161) (ne_ap Noz179_1_ob161))
            have z194 := Ap.cons (Ap.farL (OwF.fhi Guxs13)) (Ap.append (Dj.ap Doz179_0_oxs13) (Dj.ap Doz179_1_oxs13))
            have z195 := Ap.cons (Ap.farL (OwN.hi Guz30_0)) (Ap.append Doz179_0_oz30_0 Doz179_1_oz30_0)
            have B3 := blkT B3 hb183
            have Bz30 := blkT Bz30 hb183
            have Bz179 := blkT Bz179 hb183
            have Guxs13 := OwF.below Guxs13 hb183
            have Guz30_0 := OwN.below agentOw_ok Guz30_0 hb183
            have Guz179_0 := OwF.below Guz179_0 hb183
            have Guz179_1 := OwF.below Guz179_1 hb183
            have T := Tt T hb183
            obtain ⟨l197, a196, nd198, sb199, r200⟩ := OwF.own2 fI Guz179_0
            obtain ⟨l202, a201, nd203, sb204, r205⟩ := OwF.own2 fPort Guz179_1
            have G206 : OwN 89 agentOw 5 w181 w.heap.size (.slice (some ⟨w180.heap.size, 0, none⟩) 1 1) [z179] (w180.heap.size :: ((fb (.slice A185 z179.data.length c186)) ++ (fb (.slice A187 z179.ports.length c188)))) := OwN.lit1 (b1 := (l197 ++ l202)) B182 ZB182 ⟨_, _, _, _, _, _, l197, l202, rfl, ⟨a196, r200⟩, ⟨a201, r205⟩, rfl⟩ agentOw_ok (nodup2 nd198 nd203 sb199 sb204 (Ap.symm (Dj.ap Doz179_1_oz179_0))) (sub2 sb199 sb204) (all2 q189 q190)
            obtain ⟨_, m208, hm⟩ := bnd hm
            have hk209 := mustP_some m208
            refine RL.appendN agentOw_ok agentOw_one (by decide) app_impl_Agent rfl rfl rfl Guz30_0 G206 (Ap.symm z195) T.size hk209 (fun v210 w211 bs212 G213 hgr214 hbl215 hnb216 => ?_)
            have szw211 := hbl215.size
            have z218 := Ap.app hnb216 Noz30_0_ob5 z191 (one_hi B3.lt)
            have z219 := Ap.app hnb216 Noz30_0_ob18 z192 (one_hi Bz30.lt)
            have z220 := Ap.app hnb216 Noz30_0_ob161 z193 (one_hi Bz179.lt)
            have z221 := Ap.app hnb216 Doz30_0_oxs13 z194 (OwF.fhi Guxs13)
            have B3 := Blk.kept B3 hgr214 (OwN.neB Guz30_0 Noz30_0_ob5)
            have Bz30 := Blk.kept Bz30 hgr214 (OwN.neB Guz30_0 Noz30_0_ob18)
            have Bz179 := Blk.kept Bz179 hgr214 (OwN.neB Guz30_0 Noz30_0_ob161)
            have Guxs13 := OwF.keptD Guxs13 hgr214 (OwN.dj Guz30_0 Doz30_0_oxs13)
            have T := T.trans hbl215
            refine RL.y rfl (Y.fieldAddr (off := 0) s7_3x (by kernel_rfl)) ?_
            obtain ⟨A222, c223, rfl⟩ := OwN.form G213
            have qbA222 := OwN.bound G213
            refine RL.store (v := .slice A222 ((z30.agents ++ [z179]).length) c223) (cs' := #[.slice A222 ((z30.agents ++ [z179]).length) c223]) rfl rfl rfl Bz30 (by kernel_rfl) (by rfl) (by rfl) (by rfl) (fun w224 B225 ho226 => ?_)
            have szw224 := ho226.size
            have B3 := B3.only_ ho226 (by intro hin; simp at hin; exact Eob18_ob5 hin)
            have Bz179 := Bz179.only_ ho226 (by intro hin; simp at hin; exact Eob161_ob18.symm hin)
            have Guxs13 := OwF.only Guxs13 ho226 Noxs13_ob18
            have G213 := OwN.only agentOw_ok G213 ho226 (Ap.one z219)
            have T := T.trans (ho226.below (by first | (simp; done) | (simp; omega)))
            refine RL.nil ?_
            refine blk_n (then_n ?_)
            refine wp_rs rfl ?_
            refine RQ.y rfl (Y.move (v := .int .i64 i29) s8_3x) ?_
            obtain ⟨s227, ks227, hm⟩ := bnd hm
            replace ks227 := ck_some ks227
            refine RQ.y rfl (Y.binI (v := .int .i64 s227) rfl rfl (by rw [binI_add ks227.2, ks227.1])) ?_
            refine RQ.y rfl (Y.assign (v := .int .i64 s227) rfl) ?_
            refine RQ.nil ?_
            exact (then_n ⟨g, _, Nat.lt_succ_self _, rfl, ⟨s227, (⟨(z30.agents ++ [z179])⟩ : DNet), (.slice A222 ((z30.agents ++ [z179]).length) c223), bs212, s0_3x, s1_3x, s4_3x, s5_3x, s7_3x, rfl, (by omega), B225, G213, z221, z218, z219, B3, Guxs13, T, (by rw [← hrec2]; exact hm)⟩⟩)
          · rintro g f w230 ⟨i228, z229, uz229_0, uz229_1, s0_3, s1_3, s4_3, s5_3, s7_3, s8_3, s9_3, s10_3, nn10_3, Bz229, Guz229_0, Guz229_1, Doz229_0_oxs13, Doz229_0_oz30_0, Noz229_0_ob5, Noz229_0_ob18, Noz229_0_ob161, Doz229_1_oz229_0, Doz229_1_oxs13, Doz229_1_oz30_0, Noz229_1_ob5, Noz229_1_ob18, Noz229_1_ob161, B3, Bz30, Guxs13, Guz30_0, T, hm⟩
            rcases g with _ | g
            · simp only [m_spec_l11Renumber_L3] at hm; cases hm
            obtain ⟨rec3, hrec3, hm⟩ : ∃ z, z = m_spec_l11Renumber_L3 xs13 K3 g ∧ m_spec_l11Renumber_B3 xs13 z K3 i228 z229 = some r := ⟨_, rfl, hm⟩
            unfold m_spec_l11Renumber_B3 at hm
            refine wp_seq ?_
            refine wp_seq ?_
            refine wp_rs rfl ?_
            refine RQ.y rfl (Y.move (v := .int .i64 i228) s10_3) ?_
            refine RQ.y rfl (Y.fieldAddr (off := 4) s9_3 (by kernel_rfl)) ?_
            refine RQ.y rfl (Y.load (v := uz229_1) rfl (by kernel_rfl) (eqC (blkCell Bz229 (i := 4) rfl))) ?_
            obtain ⟨A231, c232, rfl⟩ := OwF.form Guz229_1
            have qbA231 := OwF.bound Guz229_1
            refine RQ.y rfl (Y.len (by kernel_rfl) rfl) ?_
            refine RQ.y rfl (Y.binI (v := .bool (decide (i228 < (z229.ports.length : Int)))) rfl rfl rfl) ?_
            refine RQ.nil ?_
            refine then_n ?_
            rcases bcases (decide (i228 < (z229.ports.length : Int))) with c233 | c233
            · replace hm := cF c233 hm
              have pc233 := of_decide_eq_false c233
              refine cond_f rfl (vb rfl c233) ?_
              refine wp_exit ?_
              exact (then_x (then_x (hit_x ⟨_, rfl, ⟨z229, (uz229_0), (.slice A231 z229.ports.length c232), s0_3, s1_3, s4_3, s5_3, s7_3, s8_3, s9_3, Bz229, Guz229_0, Guz229_1, (Ap.dj (Dj.ap Doz229_0_oxs13)), Doz229_0_oz30_0, (ap_ne (ne_ap Noz229_0_ob5)), (ap_ne (ne_ap Noz229_0_ob18)), (ap_ne (ne_ap Noz229_0_ob161)), (Ap.dj (Dj.ap Doz229_1_oz229_0)), (Ap.dj (Dj.ap Doz229_1_oxs13)), Doz229_1_oz30_0, (ap_ne (ne_ap Noz229_1_ob5)), (ap_ne (ne_ap Noz229_1_ob18)), (ap_ne (ne_ap Noz229_1_ob161)), B3, Bz30, Guxs13, Guz30_0, T, (by rw [hK3] at hm; exact hm)⟩⟩)))
            · replace hm := cT c233 hm
              have pc233 := of_decide_eq_true c233
              refine cond_t rfl (vb rfl c233) ?_
              refine wp_skip ?_
              refine then_n ?_
              refine wp_seq ?_
              refine wp_block ?_
              refine wp_rg (fun w' => Below w.heap.size w w' ∧ Blk w' w33.heap.size 89 #[.int .i64 z229.kind, .int .i64 z229.level, .int .i64 z229.value, uz229_0, .slice A231 z229.ports.length c232] ∧ OwF 2 encI 1 w' w.heap.size uxs13 xs13) [(0, true), (1, true), (2, true), (3, true), (4, true), (5, true), (6, true), (7, true), (8, true), (9, false), (10, true), (11, true), (12, true), (13, true), (14, false)] (by kernel_rfl) (by kernel_rfl) (fun w234 hb235 szw234 => ?_)
              have B3 := blkT B3 hb235
              have Bz30 := blkT Bz30 hb235
              have Bz229 := blkT Bz229 hb235
              have Guxs13 := OwF.below Guxs13 hb235
              have Guz30_0 := OwN.below agentOw_ok Guz30_0 hb235
              have Guz229_0 := OwF.below Guz229_0 hb235
              have Guz229_1 := OwF.below Guz229_1 hb235
              have T := Tt T hb235
              refine ⟨⟨T, Bz229, Guxs13⟩, ?_⟩
              refine RG.y rfl rfl (Y.fieldAddr (off := 4) s9_3 (by kernel_rfl)) ?_
              refine RG.y rfl rfl (Y.load (v := .slice A231 z229.ports.length c232) rfl (by kernel_rfl) (fun w' hS => (blkCell hS.2.1 (i := 4) rfl))) ?_
              refine RG.y rfl rfl (Y.move (v := .int .i64 i228) s10_3) ?_
              refine RG.y rfl rfl (Y.move (v := uxs13) s5_3) ?_
              refine RG.y rfl rfl (Y.fieldAddr (off := 4) s9_3 (by kernel_rfl)) ?_
              refine RG.y rfl rfl (Y.load (v := .slice A231 z229.ports.length c232) rfl (by kernel_rfl) (fun w' hS => (blkCell hS.2.1 (i := 4) rfl))) ?_
              refine RG.y rfl rfl (Y.move (v := .int .i64 i228) s10_3) ?_
              obtain ⟨x236, hx238, hm⟩ := bnd hm
              obtain ⟨k237, hk239, hl240, hx238⟩ := getI_some hx238
              obtain ⟨b241, rfl⟩ := OwF.addr0 Guz229_1 (by omega)
              refine RG.y rfl rfl (Y.indexAddr (m := k237) (sz := 2) rfl rfl hk239 hl240 (by kernel_rfl)) ?_
              refine RG.y rfl rfl (Y.fieldAddr (off := 0) rfl (by kernel_rfl)) ?_
              refine RG.act rfl ?_
              refine RL.y rfl (Y.load (v := .int .i64 x236.agent) rfl (by kernel_rfl) (eqC (OwF.cell fPort Guz229_1 hx238 (j := 0) rfl))) ?_
              refine RL.nil ⟨⟨T, Bz229, Guxs13⟩, ?_⟩
              obtain ⟨A242, c243, rfl⟩ := OwF.form Guxs13
              have qbA242 := OwF.bound Guxs13
              obtain ⟨x244, hx246, hm⟩ := bnd hm
              obtain ⟨k245, hk247, hl248, hx246⟩ := getI_some hx246
              obtain ⟨b249, rfl⟩ := OwF.addr0 Guxs13 (by omega)
              refine RG.y rfl rfl (Y.indexAddr (m := k245) (sz := 1) rfl rfl hk247 hl248 (by kernel_rfl)) ?_
              refine RG.y rfl rfl (Y.load (v := .int .i64 x244) rfl (by kernel_rfl) (fun w' hS => (OwF.cell fI hS.2.2 hx246 (j := 0) rfl))) ?_
              obtain ⟨x250, hx252, hm⟩ := bnd hm
              obtain ⟨k251, hk253, hl254, hx252⟩ := getI_some hx252
              refine RG.y rfl rfl (Y.indexAddr (m := k251) (sz := 2) rfl rfl hk253 hl254 (by kernel_rfl)) ?_
              refine RG.y rfl rfl (Y.fieldAddr (off := 0) rfl (by kernel_rfl)) ?_
              refine RG.act rfl ?_
              refine RL.storeFj (k := k251) (j := 0) (a := x250) (a' := (⟨x244, x250.slot⟩ : DPort)) fPort rfl rfl rfl Guz229_1 hx252 (by decide) rfl rfl rfl (by kernel_rfl) (fun w255 G256 ho257 => ?_)
              have szw255 := ho257.size
              have B3 := Blk.only_ B3 ho257 (fun e => Noz229_1_ob5 (by simp at e; rw [e]; rfl))
              have Bz30 := Blk.only_ Bz30 ho257 (fun e => Noz229_1_ob18 (by simp at e; rw [e]; rfl))
              have Bz229 := Blk.only_ Bz229 ho257 (fun e => Noz229_1_ob161 (by simp at e; rw [e]; rfl))
              have Guxs13 := OwF.only Guxs13 ho257 (fun e => (Dj.symm Doz229_1_oxs13) _ e rfl)
              have Guz30_0 := OwN.only agentOw_ok Guz30_0 ho257 ((show Ap bsz30_0 [b241] from (Ap.symm Doz229_1_oz30_0)).one)
              have Guz229_0 := OwF.only Guz229_0 ho257 (fun e => (Dj.symm Doz229_1_oz229_0) _ e rfl)
              have T := T.trans (ho257.below (by intro b hb; simp at hb; subst hb; exact OwF.lo_ Guz229_1 _ rfl))
              have G256 : OwF 53 encPort 2 w255 w.heap.size (.slice (some ⟨b241, 0, none⟩) z229.ports.length c232) (setI z229.ports i228 (⟨x244, x250.slot⟩ : DPort)) := by rw [hk253, setI_nat]; exact G256
              have hx258 : (setI z229.ports i228 (⟨x244, x250.slot⟩ : DPort))[k251]? = some (⟨x244, x250.slot⟩ : DPort) := setI_at hk253 hl254
              have hl259 := lt_of_some hx258
              refine RL.nil ⟨⟨T, Bz229, Guxs13⟩, ?_⟩
              refine RG.nil ?_
              refine blk_n (then_n ?_)
              refine wp_rs rfl ?_
              refine RQ.y rfl (Y.move (v := .int .i64 i228) s10_3) ?_
              refine RQ.y rfl (Y.binI rfl rfl (binI_add (m := i228) (by omega))) ?_
              refine RQ.y rfl (Y.assign (v := .int .i64 (i228 + 1)) rfl) ?_
              refine RQ.nil ?_
              exact (then_n ⟨g, _, Nat.lt_succ_self _, rfl, ⟨(i228 + 1), (⟨z229.kind, z229.level, z229.value, z229.data, (setI z229.ports i228 (⟨x244, x250.slot⟩ : DPort))⟩ : DAgent), (uz229_0), (.slice (some ⟨b241, 0, none⟩) z229.ports.length c232), s0_3, s1_3, s4_3, s5_3, s7_3, s8_3, s9_3, rfl, (by omega), Bz229, Guz229_0, G256, (Ap.dj (Dj.ap Doz229_0_oxs13)), Doz229_0_oz30_0, (ap_ne (ne_ap Noz229_0_ob5)), (ap_ne (ne_ap Noz229_0_ob18)), (ap_ne (ne_ap Noz229_0_ob161)), (Ap.dj (Dj.ap Doz229_1_oz229_0)), (Ap.dj (Dj.ap Doz229_1_oxs13)), Doz229_1_oz30_0, (ap_ne (ne_ap Noz229_1_ob5)), (ap_ne (ne_ap Noz229_1_ob18)), (ap_ne (ne_ap Noz229_1_ob161)), B3, Bz30, Guxs13, Guz30_0, T, (by rw [← hrec3]; exact hm)⟩⟩)
  · rintro g f w264 ⟨xs262, i263, uxs262, s0_1, s1_1, s4_1, s5_1, Guxs262, s6_1, nn6_1, Noxs262_ob5, B3, T, hm⟩
    rcases g with _ | g
    · simp only [m_spec_l11Renumber_L1] at hm; cases hm
    obtain ⟨rec1, hrec1, hm⟩ : ∃ z, z = m_spec_l11Renumber_L1 d1 K1 g ∧ m_spec_l11Renumber_B1 d1 z K1 xs262 i263 = some r := ⟨_, rfl, hm⟩
    unfold m_spec_l11Renumber_B1 at hm
    refine wp_seq ?_
    refine wp_seq ?_
    refine wp_rs rfl ?_
    refine RQ.y rfl (Y.move (v := .int .i64 i263) s6_1) ?_
    refine RQ.y rfl (Y.move (v := .slice Aa1 d1.length ca1) s1_1) ?_
    refine RQ.y rfl (Y.len (by kernel_rfl) rfl) ?_
    refine RQ.y rfl (Y.binI (v := .bool (decide (i263 < (d1.length : Int)))) rfl rfl rfl) ?_
    refine RQ.nil ?_
    refine then_n ?_
    rcases bcases (decide (i263 < (d1.length : Int))) with c265 | c265
    · replace hm := cF c265 hm
      have pc265 := of_decide_eq_false c265
      refine cond_f rfl (vb rfl c265) ?_
      refine wp_exit ?_
      exact (then_x (then_x (hit_x ⟨_, rfl, ⟨xs262, (uxs262), s0_1, s1_1, s4_1, s5_1, Guxs262, (ap_ne (ne_ap Noxs262_ob5)), B3, T, (by rw [hK1] at hm; exact hm)⟩⟩)))
    · replace hm := cT c265 hm
      have pc265 := of_decide_eq_true c265
      refine cond_t rfl (vb rfl c265) ?_
      refine wp_skip ?_
      refine then_n ?_
      refine wp_seq ?_
      refine wp_block ?_
      refine wp_rl rfl ?_
      refine RL.y rfl (Y.move (v := uxs262) s5_1) ?_
      refine RL.y rfl (Y.move (v := .slice Aa1 d1.length ca1) s1_1) ?_
      refine RL.y rfl (Y.move (v := .int .i64 i263) s6_1) ?_
      obtain ⟨x266, hx269, hm⟩ := bnd hm
      obtain ⟨k267, hk270, hl271, hx269⟩ := getI_some hx269
      obtain ⟨b273, o274, rfl, hbb273⟩ := ha1.addr (by omega)
      obtain ⟨cs268, hRcs268, hc272⟩ := ha1.el hx269
      have hScs268 := hRcs268
      obtain rfl := hRcs268
      refine RL.y rfl (Y.indexAddr (m := k267) (sz := 1) rfl rfl hk270 hl271 (by kernel_rfl)) ?_
      refine RL.y rfl (Y.load (v := .int .i64 x266) rfl (by kernel_rfl) (eqC (cellT T (hc272 0 _ rfl)))) ?_
      refine RL.y rfl (Y.move (v := .int .i64 i263) s6_1) ?_
      obtain ⟨A275, c276, rfl⟩ := OwF.form Guxs262
      have qbA275 := OwF.bound Guxs262
      obtain ⟨x277, hx279, hm⟩ := bnd hm
      obtain ⟨k278, hk280, hl281, hx279⟩ := getI_some hx279
      obtain ⟨b282, rfl⟩ := OwF.addr0 Guxs262 (by omega)
      refine RL.y rfl (Y.indexAddr (m := k278) (sz := 1) rfl rfl hk280 hl281 (by kernel_rfl)) ?_
      refine RL.storeF (k := k278) (a := i263) fI rfl rfl rfl Guxs262 hl281 rfl (by kernel_rfl) (fun w283 G284 ho285 => ?_)
      have szw283 := ho285.size
      have B3 := Blk.only_ B3 ho285 (fun e => Noxs262_ob5 (by simp at e; rw [e]; rfl))
      have T := T.trans (ho285.below (by intro b hb; simp at hb; subst hb; exact OwF.lo_ Guxs262 _ rfl))
      have G284 : OwF 2 encI 1 w283 w.heap.size (.slice (some ⟨b282, 0, none⟩) xs262.length c276) (setI xs262 x266 i263) := by rw [hk280, setI_nat]; exact G284
      have hx286 : (setI xs262 x266 i263)[k278]? = some i263 := setI_at hk280 hl281
      have hl287 := lt_of_some hx286
      refine RL.nil ?_
      refine blk_n (then_n ?_)
      refine wp_rs rfl ?_
      refine RQ.y rfl (Y.move (v := .int .i64 i263) s6_1) ?_
      refine RQ.y rfl (Y.binI rfl rfl (binI_add (m := i263) (by omega))) ?_
      refine RQ.y rfl (Y.assign (v := .int .i64 (i263 + 1)) rfl) ?_
      refine RQ.nil ?_
      exact (then_n ⟨g, _, Nat.lt_succ_self _, rfl, ⟨(setI xs262 x266 i263), (i263 + 1), (.slice (some ⟨b282, 0, none⟩) xs262.length c276), s0_1, s1_1, s4_1, s5_1, G284, rfl, (by omega), (ap_ne (ne_ap Noxs262_ob5)), B3, T, (by rw [← hrec1]; exact hm)⟩⟩)
def m_spec_RenumberNet (d0 : DNet) (d1 : List Int) : Option (DNet × Int) :=
  ((m_spec_l11Ok d0).bind fun y10 => (bif y10 then ((m_spec_l11Order d1 (d0.agents.length : Int)).bind fun y18 => (bif y18 then ((m_spec_l11Renumber d0 d1).bind fun y26 => some (y26, 0)) else some ((⟨[]⟩ : DNet), 2))) else some ((⟨[]⟩ : DNet), 1)))
set_option maxHeartbeats 2000000 in
theorem c_m_spec_RenumberNet (d0 : DNet) (d1 : List Int) (r : DNet × Int) (hm : m_spec_RenumberNet d0 d1 = some r) (v0 : Value) (v1 : Value) (w : World) (hv0 : St netRd w v0 d0) (hv1 : Sl intRd 1 w v1 d1) :
    Calls Try.prog 31 #[v0, v1] w fun e w' => (∃ (v0 : Value) (bs0 : List Nat), e = .returned (.tuple #[.agg #[v0], .int .i64 r.2]) ∧ OwN 89 agentOw 5 w' w.heap.size v0 r.1.agents bs0) ∧ Below w.heap.size w w' := by
  obtain ⟨csa0, rfl, ⟨A1, n1, c1, rfl, ⟨h1, r1⟩⟩⟩ := hv0
  have e1 := h1.len; subst e1
  have q1 := len_le r1
  obtain ⟨Aa1, na1, ca1, rfl, ha1, ra1⟩ := hv1
  have ea1 := ha1.len; subst ea1
  have qa1 := len_le ra1
  have T := Below.refl w.heap.size w
  unfold m_spec_RenumberNet at hm
  refine enter 18 Try.func31 rfl rfl rfl ?_
  intro f hf
  have s0 : f 0 = .agg #[.slice A1 d0.agents.length c1] := hf 0 _ rfl
  have s1 : f 1 = .slice Aa1 d1.length ca1 := hf 1 _ rfl
  refine wp_seq ?_
  refine wp_rl rfl ?_
  refine RL.box rfl s0 (fun w2 B3 hb4 szw2 => ?_)
  replace B3 : Blk w2 w.heap.size 30 #[.slice A1 d0.agents.length c1] := B3
  have GB3 : w.heap.size ≤ w.heap.size := T.size
  have T := Tt T hb4
  refine RL.alloc (z := .agg #[.slice none 0 0]) rfl (by kernel_rfl) (fun w6 B7 hb8 szw6 => ?_)
  replace B7 : Blk w6 w2.heap.size 30 #[.slice none 0 0] := B7
  have GB7 : w.heap.size ≤ w2.heap.size := T.size
  have Eob9_ob5 := Nat.ne_of_lt B3.lt
  have B3 := blkT B3 hb8
  have T := Tt T hb8
  refine RL.y rfl (Y.assign (v := .int .i64 0) rfl) ?_
  refine RL.nil ?_
  refine then_n ?_
  refine wp_seq ?_
  refine wp_seq ?_
  refine wp_rb rfl ?_
  obtain ⟨y10, e11, hm⟩ := bnd hm
  refine RQ.call rfl (am1 rfl) (by kernel_rfl) (v := .bool y10) (bel (K := fun _ => True) fun w' hb' => (c_m_spec_l11Ok d0 _ e11 _ w' (ptBox (R := netRd) (blkT B3 hb') ⟨_, _, _, rfl, ⟨SlAt.now agentRd_ok h1 (Nat.le_refl _) (Tt T hb'), r1⟩⟩))) ?_
  refine RQ.y rfl (Y.not (b' := (!y10)) rfl rfl) ?_
  refine RQ.nil ?_
  intro w12 hb13
  have szw12 := hb13.size
  have B3 := blkT B3 hb13
  have B7 := blkT B7 hb13
  have T := Tt T hb13
  refine then_n ?_
  rcases bcases y10 with c14 | c14
  · replace hm := cF c14 hm
    refine cond_t rfl (vbn rfl c14 rfl) ?_
    refine wp_seq ?_
    refine wp_rl rfl ?_
    refine RL.y rfl (Y.build0 (cells := #[.slice none 0 0])  (by kernel_rfl) (by kernel_rfl)) ?_
    refine RL.store (v := .agg #[.slice none 0 0]) (cs' := #[.slice none 0 0]) rfl rfl rfl B7 (by kernel_rfl) (by rfl) (by rfl) (by rfl) (fun w15 B16 ho17 => ?_)
    have szw15 := ho17.size
    have B3 := B3.only_ ho17 (by intro hin; simp at hin; exact Eob9_ob5 hin)
    have T := T.trans (ho17.below (by first | (simp; done) | (simp; omega)))
    refine RL.y rfl (Y.assign (v := .int .i64 1) rfl) ?_
    refine RL.nil ?_
    refine then_n ?_
    refine wp_ret ?_
    obtain rfl := Option.some.inj hm
    exact (then_r (retct (cs := [.slice none 0 0]) rfl rfl rfl rfl (by kernel_rfl) (blkCells B16) ⟨⟨_, _, rfl, OwN.nil⟩, T⟩))
  · replace hm := cT c14 hm
    refine cond_f rfl (vbn rfl c14 rfl) ?_
    refine wp_skip ?_
    refine then_n ?_
    refine wp_seq ?_
    refine wp_seq ?_
    refine wp_rb rfl ?_
    refine RQ.y rfl (Y.move (v := .slice Aa1 d1.length ca1) s1) ?_
    refine RQ.y rfl (Y.fieldAddr (off := 0) rfl (by kernel_rfl)) ?_
    refine RQ.y rfl (Y.load (v := .slice A1 d0.agents.length c1) rfl (by kernel_rfl) (beC (blkCell B3 (i := 0) rfl))) ?_
    refine RQ.y rfl (Y.len (by kernel_rfl) rfl) ?_
    obtain ⟨y18, e19, hm⟩ := bnd hm
    refine RQ.call rfl (am2 rfl rfl) (by kernel_rfl) (v := .bool y18) (bel (K := fun _ => True) fun w' hb' => (c_m_spec_l11Order d1 (d0.agents.length : Int) _ e19 _ w' (slArg intRd_ok ha1 ra1 (Tt T hb')))) ?_
    refine RQ.y rfl (Y.not (b' := (!y18)) rfl rfl) ?_
    refine RQ.nil ?_
    intro w20 hb21
    have szw20 := hb21.size
    have B3 := blkT B3 hb21
    have B7 := blkT B7 hb21
    have T := Tt T hb21
    refine then_n ?_
    rcases bcases y18 with c22 | c22
    · replace hm := cF c22 hm
      refine cond_t rfl (vbn rfl c22 rfl) ?_
      refine wp_seq ?_
      refine wp_rl rfl ?_
      refine RL.y rfl (Y.build0 (cells := #[.slice none 0 0])  (by kernel_rfl) (by kernel_rfl)) ?_
      refine RL.store (v := .agg #[.slice none 0 0]) (cs' := #[.slice none 0 0]) rfl rfl rfl B7 (by kernel_rfl) (by rfl) (by rfl) (by rfl) (fun w23 B24 ho25 => ?_)
      have szw23 := ho25.size
      have B3 := B3.only_ ho25 (by intro hin; simp at hin; exact Eob9_ob5 hin)
      have T := T.trans (ho25.below (by first | (simp; done) | (simp; omega)))
      refine RL.y rfl (Y.assign (v := .int .i64 2) rfl) ?_
      refine RL.nil ?_
      refine then_n ?_
      refine wp_ret ?_
      obtain rfl := Option.some.inj hm
      exact (then_r (retct (cs := [.slice none 0 0]) rfl rfl rfl rfl (by kernel_rfl) (blkCells B24) ⟨⟨_, _, rfl, OwN.nil⟩, T⟩))
    · replace hm := cT c22 hm
      refine cond_f rfl (vbn rfl c22 rfl) ?_
      refine wp_skip ?_
      refine then_n ?_
      refine wp_seq ?_
      refine wp_rl rfl ?_
      refine RL.y rfl (Y.move (v := .slice Aa1 d1.length ca1) s1) ?_
      obtain ⟨y26, e27, hm⟩ := bnd hm
      refine RL.call rfl (am2 rfl rfl) (by kernel_rfl) ((c_m_spec_l11Renumber d0 d1 _ e27 _ _ _ (ptBox (R := netRd) B3 ⟨_, _, _, rfl, ⟨SlAt.now agentRd_ok h1 (Nat.le_refl _) T, r1⟩⟩) (slArg intRd_ok ha1 ra1 T)).mono ?_)
      rintro _ w32 ⟨⟨v28, bs31, rfl, G29⟩, hb33⟩
      refine ⟨_, rfl, ?_⟩
      have szw32 := hb33.size
      have T0w32 := T.size
      have Zo30_ob5 : Ap bs31 [w.heap.size] := (Ap.new (OwN.lo_ G29) (one_hi B3.lt))
      have Zo30_ob9 : Ap bs31 [w2.heap.size] := (Ap.new (OwN.lo_ G29) (one_hi B7.lt))
      have B3 := blkT B3 hb33
      have B7 := blkT B7 hb33
      have T := Tt T hb33
      replace G29 := OwN.mono G29 T0w32
      obtain ⟨A34, c35, rfl⟩ := OwN.form G29
      have qbA34 := OwN.bound G29
      refine RL.store (v := .agg #[.slice A34 y26.agents.length c35]) (cs' := #[.slice A34 y26.agents.length c35]) rfl rfl rfl B7 (by kernel_rfl) (by rfl) (by rfl) (by rfl) (fun w36 B37 ho38 => ?_)
      have szw36 := ho38.size
      have B3 := B3.only_ ho38 (by intro hin; simp at hin; exact Eob9_ob5 hin)
      have G29 := OwN.only agentOw_ok G29 ho38 (Ap.one Zo30_ob9)
      have T := T.trans (ho38.below (by first | (simp; done) | (simp; omega)))
      refine RL.y rfl (Y.assign (v := .int .i64 0) rfl) ?_
      refine RL.nil ?_
      refine then_n ?_
      refine wp_ret ?_
      obtain rfl := Option.some.inj hm
      exact (retct (cs := [.slice A34 y26.agents.length c35]) rfl rfl rfl rfl (by kernel_rfl) (blkCells B37) ⟨⟨_, _, rfl, G29⟩, T⟩)
def m_impl_isOrder_A1 : Option Bool :=
  some true
def m_impl_isOrder_B1 (d0 : List Int) (d1 : Int) (rec1 : List Bool → Int → Option Bool) (K1 : Option Bool) (xs10 : List Bool) (i11 : Int) : Option Bool :=
  (bif (decide (i11 < (d0.length : Int))) then ((getI d0 i11).bind fun x14 => (bif (decide (x14 < 0)) then some false else (bif (decide (x14 ≥ d1)) then some false else ((getI xs10 x14).bind fun x27 => (bif x27 then some false else ((getI xs10 x14).bind fun x34 => (rec1 (setI xs10 x14 true) (i11 + 1)))))))) else (K1))
def m_impl_isOrder_L1 (d0 : List Int) (d1 : Int) (K1 : Option Bool) : Nat → List Bool → Int → Option Bool
  | 0, _, _ => none
  | g + 1, xs10, i11 => m_impl_isOrder_B1 d0 d1 (m_impl_isOrder_L1 d0 d1 K1 g) K1 xs10 i11
def m_impl_isOrder (d0 : List Int) (d1 : Int) : Option Bool :=
  (bif ((d0.length : Int) != d1) then some false else ((mustP (0 ≤ d1 ∧ d1.toNat ≤ 4294967296)).bind fun _ => (m_impl_isOrder_L1 d0 d1 m_impl_isOrder_A1 (d0.length + 1) (List.replicate d1.toNat false) 0)))
set_option maxHeartbeats 2000000 in
theorem c_m_impl_isOrder (d0 : List Int) (d1 : Int) (r : Bool) (hm : m_impl_isOrder d0 d1 = some r) (v0 : Value) (w : World) (hv0 : Sl intRd 1 w v0 d0) :
    Calls Try.prog 84 #[v0, .int .i64 d1] w fun e w' => e = .returned (.bool r) ∧ Below w.heap.size w w' := by
  obtain ⟨Aa0, na0, ca0, rfl, ha0, ra0⟩ := hv0
  have ea0 := ha0.len; subst ea0
  have qa0 := len_le ra0
  have T := Below.refl w.heap.size w
  unfold m_impl_isOrder at hm
  refine enter 37 Try.func84 rfl rfl rfl ?_
  intro f hf
  have s0 : f 0 = .slice Aa0 d0.length ca0 := hf 0 _ rfl
  have s1 : f 1 = .int .i64 d1 := hf 1 _ rfl
  refine wp_seq ?_
  refine wp_rs rfl ?_
  refine RQ.y rfl (Y.assign (v := .bool false) rfl) ?_
  refine RQ.nil ?_
  refine then_n ?_
  refine wp_seq ?_
  refine wp_seq ?_
  refine wp_rs rfl ?_
  refine RQ.y rfl (Y.move (v := .slice Aa0 d0.length ca0) s0) ?_
  refine RQ.y rfl (Y.len (by kernel_rfl) rfl) ?_
  refine RQ.y rfl (Y.move (v := .int .i64 d1) s1) ?_
  refine RQ.y rfl (Y.binI (v := .bool ((d0.length : Int) != d1)) rfl rfl rfl) ?_
  refine RQ.nil ?_
  refine then_n ?_
  rcases bcases ((d0.length : Int) != d1) with c1 | c1
  · replace hm := cF c1 hm
    refine cond_f rfl (vb rfl c1) ?_
    refine wp_skip ?_
    refine then_n ?_
    refine wp_seq ?_
    refine wp_rl rfl ?_
    refine RL.y rfl (Y.move (v := .int .i64 d1) s1) ?_
    obtain ⟨_, m2, hm⟩ := bnd hm
    have hk3 := mustP_some m2
    refine RL.make (enc := encB) (z0 := false) (n := d1.toNat) app_bool (by decide) rfl rfl (toN hk3.1 rfl) (toN hk3.1 rfl) hk3.2 (fun w4 G5 hb6 szw4 => ?_)
    replace G5 := OwF.mono G5 T.size
    have T := Tt T hb6
    refine RL.y rfl (Y.assign (v := .slice (some ⟨w.heap.size, 0, none⟩) d1.toNat d1.toNat) rfl) ?_
    refine RL.nil ?_
    refine then_n ?_
    refine wp_seq ?_
    refine wp_seq ?_
    refine wp_rs rfl ?_
    refine RQ.y rfl (Y.move (v := .slice Aa0 d0.length ca0) s0) ?_
    refine RQ.y rfl (Y.len (by kernel_rfl) rfl) ?_
    refine RQ.y rfl (Y.move (v := .int .i64 0) rfl) ?_
    refine RQ.nil ?_
    refine then_n ?_
    refine wp_block ?_
    obtain ⟨K1, hK1, hm⟩ : ∃ K, K = m_impl_isOrder_A1 ∧ m_impl_isOrder_L1 d0 d1 K (d0.length + 1) (List.replicate d1.toNat false) 0 = some r := ⟨_, rfl, hm⟩
    refine wp_loopX (fun g f w' => ∃ (xs10 : List Bool) (i11 : Int) (uxs10 : Value), f 1 = .int .i64 d1 ∧ f 14 = .slice Aa0 d0.length ca0 ∧ f 15 = .int .i64 (d0.length : Int) ∧ f 5 = uxs10 ∧ OwF 4 encB 1 w' w.heap.size uxs10 xs10 ∧ f 16 = .int .i64 i11 ∧ 0 ≤ i11 ∧ Below w.heap.size w w' ∧ m_impl_isOrder_L1 d0 d1 K1 g xs10 i11 = some r) 0 (fun f w' => Below w.heap.size w w' ∧ m_impl_isOrder_A1  = some r) (d0.length + 1) ⟨(List.replicate d1.toNat false), 0, (.slice (some ⟨w.heap.size, 0, none⟩) d1.toNat d1.toNat), s1, rfl, rfl, rfl, G5, rfl, (by omega), T, hm⟩ ?_ ?_
    · rintro f w9 ⟨T, hm⟩
      unfold m_impl_isOrder_A1 at hm
      refine blk_hit (then_n ?_)
      refine wp_seq ?_
      refine wp_rs rfl ?_
      refine RQ.y rfl (Y.assign (v := .bool true) rfl) ?_
      refine RQ.nil ?_
      refine then_n ?_
      refine wp_ret ?_
      obtain rfl := Option.some.inj hm
      exact (ret1 rfl rfl rfl ⟨rfl, T⟩)
    · rintro g f w12 ⟨xs10, i11, uxs10, s1_1, s14_1, s15_1, s5_1, Guxs10, s16_1, nn16_1, T, hm⟩
      rcases g with _ | g
      · simp only [m_impl_isOrder_L1] at hm; cases hm
      obtain ⟨rec1, hrec1, hm⟩ : ∃ z, z = m_impl_isOrder_L1 d0 d1 K1 g ∧ m_impl_isOrder_B1 d0 d1 z K1 xs10 i11 = some r := ⟨_, rfl, hm⟩
      unfold m_impl_isOrder_B1 at hm
      refine wp_seq ?_
      refine wp_rs rfl ?_
      refine RQ.y rfl (Y.binI (v := .bool (decide (i11 < (d0.length : Int)))) s16_1 s15_1 rfl) ?_
      refine RQ.nil ?_
      refine then_n ?_
      refine wp_seq ?_
      rcases bcases (decide (i11 < (d0.length : Int))) with c13 | c13
      · replace hm := cF c13 hm
        have pc13 := of_decide_eq_false c13
        refine cond_f rfl (vb rfl c13) ?_
        refine wp_exit ?_
        exact (then_x (then_x (hit_x ⟨_, rfl, ⟨T, (by rw [hK1] at hm; exact hm)⟩⟩)))
      · replace hm := cT c13 hm
        have pc13 := of_decide_eq_true c13
        refine cond_t rfl (vb rfl c13) ?_
        refine wp_skip ?_
        refine then_n ?_
        refine wp_seq ?_
        refine wp_block ?_
        refine wp_seq ?_
        refine wp_rs rfl ?_
        obtain ⟨x14, hx17, hm⟩ := bnd hm
        obtain ⟨k15, hk18, hl19, hx17⟩ := getI_some hx17
        obtain ⟨b21, o22, rfl, hbb21⟩ := ha0.addr (by omega)
        obtain ⟨cs16, hRcs16, hc20⟩ := ha0.el hx17
        have hScs16 := hRcs16
        obtain rfl := hRcs16
        refine RQ.y rfl (Y.indexAddr (m := k15) (sz := 1) s14_1 s16_1 hk18 hl19 (by kernel_rfl)) ?_
        refine RQ.y rfl (Y.load (v := .int .i64 x14) rfl (by kernel_rfl) (eqC (cellT T (hc20 0 _ rfl)))) ?_
        refine RQ.y rfl (Y.assign (v := .int .i64 x14) rfl) ?_
        refine RQ.nil ?_
        refine then_n ?_
        refine wp_seq ?_
        refine wp_seq ?_
        refine wp_rs rfl ?_
        refine RQ.y rfl (Y.move (v := .int .i64 x14) rfl) ?_
        refine RQ.y rfl (Y.binI (v := .bool (decide (x14 < 0))) rfl rfl rfl) ?_
        refine RQ.y rfl (Y.move (v := .bool (decide (x14 < 0))) rfl) ?_
        rcases bcases (decide (x14 < 0)) with c23 | c23
        · replace hm := cF c23 hm
          have pc23 := of_decide_eq_false c23
          refine RQ.y (wantT (dj := 22) rfl (vb rfl c23)) (Y.move (v := .int .i64 x14) rfl) ?_
          refine RQ.y (wantT (dj := 22) rfl (vb rfl c23)) (Y.move (v := .int .i64 d1) s1_1) ?_
          refine RQ.y (wantT (dj := 22) rfl (vb rfl c23)) (Y.binI (v := .bool (decide (x14 ≥ d1))) rfl rfl rfl) ?_
          refine RQ.y rfl (Y.pick (b := false) (v := .bool (decide (x14 ≥ d1))) (vb rfl c23) rfl) ?_
          refine RQ.y rfl (Y.move (v := .bool (decide (x14 ≥ d1))) rfl) ?_
          rcases bcases (decide (x14 ≥ d1)) with c24 | c24
          · replace hm := cF c24 hm
            have pc24 := of_decide_eq_false c24
            refine RQ.y (wantT (dj := 27) rfl (vb rfl c24)) (Y.move (v := uxs10) s5_1) ?_
            refine RQ.y (wantT (dj := 27) rfl (vb rfl c24)) (Y.move (v := .int .i64 x14) rfl) ?_
            obtain ⟨A25, c26, rfl⟩ := OwF.form Guxs10
            have qbA25 := OwF.bound Guxs10
            obtain ⟨x27, hx29, hm⟩ := bnd hm
            obtain ⟨k28, hk30, hl31, hx29⟩ := getI_some hx29
            obtain ⟨b32, rfl⟩ := OwF.addr0 Guxs10 (by omega)
            refine RQ.y (wantT (dj := 27) rfl (vb rfl c24)) (Y.indexAddr (m := k28) (sz := 1) rfl rfl hk30 hl31 (by kernel_rfl)) ?_
            refine RQ.y (wantT (dj := 27) rfl (vb rfl c24)) (Y.load (v := .bool x27) rfl (by kernel_rfl) (eqC (OwF.cell fB Guxs10 hx29 (j := 0) rfl))) ?_
            refine RQ.y rfl (Y.pick (b := false) (v := .bool x27) (vb rfl c24) rfl) ?_
            refine RQ.nil ?_
            refine then_n ?_
            rcases bcases x27 with c33 | c33
            · replace hm := cF c33 hm
              refine cond_f rfl (vb rfl c33) ?_
              refine wp_skip ?_
              refine then_n ?_
              refine wp_rl rfl ?_
              refine RL.y rfl (Y.move (v := .slice (some ⟨b32, 0, none⟩) xs10.length c26) s5_1) ?_
              refine RL.y rfl (Y.move (v := .int .i64 x14) rfl) ?_
              obtain ⟨x34, hx36, hm⟩ := bnd hm
              obtain ⟨k35, hk37, hl38, hx36⟩ := getI_some hx36
              refine RL.y rfl (Y.indexAddr (m := k35) (sz := 1) rfl rfl hk37 hl38 (by kernel_rfl)) ?_
              refine RL.storeF (k := k35) (a := true) fB rfl rfl rfl Guxs10 hl38 rfl (by kernel_rfl) (fun w39 G40 ho41 => ?_)
              have szw39 := ho41.size
              have T := T.trans (ho41.below (by intro b hb; simp at hb; subst hb; exact OwF.lo_ Guxs10 _ rfl))
              have G40 : OwF 4 encB 1 w39 w.heap.size (.slice (some ⟨b32, 0, none⟩) xs10.length c26) (setI xs10 x14 true) := by rw [hk37, setI_nat]; exact G40
              have hx42 : (setI xs10 x14 true)[k35]? = some true := setI_at hk37 hl38
              have hl43 := lt_of_some hx42
              refine RL.nil ?_
              refine blk_n (then_n ?_)
              refine wp_rs rfl ?_
              refine RQ.y rfl (Y.binI s16_1 rfl (binI_add (m := i11) (by omega))) ?_
              refine RQ.y rfl (Y.move (v := .int .i64 (i11 + 1)) rfl) ?_
              refine RQ.nil ?_
              exact (then_n ⟨g, _, Nat.lt_succ_self _, rfl, ⟨(setI xs10 x14 true), (i11 + 1), (.slice (some ⟨b32, 0, none⟩) xs10.length c26), s1_1, s14_1, s15_1, s5_1, G40, rfl, (by omega), T, (by rw [← hrec1]; exact hm)⟩⟩)
            · replace hm := cT c33 hm
              refine cond_t rfl (vb rfl c33) ?_
              refine wp_seq ?_
              refine wp_rs rfl ?_
              refine RQ.y rfl (Y.assign (v := .bool false) rfl) ?_
              refine RQ.nil ?_
              refine then_n ?_
              refine wp_ret ?_
              obtain rfl := Option.some.inj hm
              exact (then_r (blk_r (then_r (then_r (hit_r (blk_r (then_r (ret1 rfl rfl rfl ⟨rfl, T⟩))))))))
          · replace hm := cT c24 hm
            have pc24 := of_decide_eq_true c24
            refine RQ.skip (wantN (dj := 27) rfl (vb rfl c24) rfl) ?_
            refine RQ.skip (wantN (dj := 27) rfl (vb rfl c24) rfl) ?_
            refine RQ.skip (wantN (dj := 27) rfl (vb rfl c24) rfl) ?_
            refine RQ.skip (wantN (dj := 27) rfl (vb rfl c24) rfl) ?_
            refine RQ.y rfl (Y.pick (b := true) (v := .bool true) (vb rfl c24) rfl) ?_
            refine RQ.nil ?_
            refine then_n ?_
            refine cond_t rfl rfl ?_
            refine wp_seq ?_
            refine wp_rs rfl ?_
            refine RQ.y rfl (Y.assign (v := .bool false) rfl) ?_
            refine RQ.nil ?_
            refine then_n ?_
            refine wp_ret ?_
            obtain rfl := Option.some.inj hm
            exact (then_r (blk_r (then_r (then_r (hit_r (blk_r (then_r (ret1 rfl rfl rfl ⟨rfl, T⟩))))))))
        · replace hm := cT c23 hm
          have pc23 := of_decide_eq_true c23
          refine RQ.skip (wantN (dj := 22) rfl (vb rfl c23) rfl) ?_
          refine RQ.skip (wantN (dj := 22) rfl (vb rfl c23) rfl) ?_
          refine RQ.skip (wantN (dj := 22) rfl (vb rfl c23) rfl) ?_
          refine RQ.y rfl (Y.pick (b := true) (v := .bool true) (vb rfl c23) rfl) ?_
          refine RQ.y rfl (Y.move (v := .bool true) rfl) ?_
          refine RQ.skip (wantN (dj := 27) rfl rfl rfl) ?_
          refine RQ.skip (wantN (dj := 27) rfl rfl rfl) ?_
          refine RQ.skip (wantN (dj := 27) rfl rfl rfl) ?_
          refine RQ.skip (wantN (dj := 27) rfl rfl rfl) ?_
          refine RQ.y rfl (Y.pick (b := true) (v := .bool true) rfl rfl) ?_
          refine RQ.nil ?_
          refine then_n ?_
          refine cond_t rfl rfl ?_
          refine wp_seq ?_
          refine wp_rs rfl ?_
          refine RQ.y rfl (Y.assign (v := .bool false) rfl) ?_
          refine RQ.nil ?_
          refine then_n ?_
          refine wp_ret ?_
          obtain rfl := Option.some.inj hm
          exact (then_r (blk_r (then_r (then_r (hit_r (blk_r (then_r (ret1 rfl rfl rfl ⟨rfl, T⟩))))))))
  · replace hm := cT c1 hm
    refine cond_t rfl (vb rfl c1) ?_
    refine wp_seq ?_
    refine wp_rs rfl ?_
    refine RQ.y rfl (Y.assign (v := .bool false) rfl) ?_
    refine RQ.nil ?_
    refine then_n ?_
    refine wp_ret ?_
    obtain rfl := Option.some.inj hm
    exact (then_r (ret1 rfl rfl rfl ⟨rfl, T⟩))
def m_impl_Net_renumber_A2 (z16 : DNet) : Option DNet :=
  some z16
def m_impl_Net_renumber_A3 (rec2 : Int → DNet → Option DNet) (i23 : Int) (z24 : DNet) (z68 : DAgent) : Option DNet :=
  ((mustP (z24.agents.length + ([z68]).length ≤ 4294967296)).bind fun _ => ((ck (i23 + 1)).bind fun s116 => (rec2 s116 (⟨(z24.agents ++ [z68])⟩ : DNet))))
def m_impl_Net_renumber_B3 (z10 : MapM Int Int) (y47 : DAgent) (rec3 : Int → DAgent → Option DNet) (K3 : DAgent → Option DNet) (i117 : Int) (z118 : DAgent) : Option DNet :=
  (bif (decide (i117 < (y47.ports.length : Int))) then ((getI z118.ports i117).bind fun x125 => ((ck x125.agent).bind fun _ => ((getI z118.ports i117).bind fun x132 => (rec3 (i117 + 1) (⟨z118.kind, z118.level, z118.value, z118.data, (setI z118.ports i117 (⟨(z10.look x125.agent 0), x132.slot⟩ : DPort))⟩ : DAgent))))) else (K3 z118))
def m_impl_Net_renumber_L3 (z10 : MapM Int Int) (y47 : DAgent) (K3 : DAgent → Option DNet) : Nat → Int → DAgent → Option DNet
  | 0, _, _ => none
  | g + 1, i117, z118 => m_impl_Net_renumber_B3 z10 y47 (m_impl_Net_renumber_L3 z10 y47 K3 g) K3 i117 z118
def m_impl_Net_renumber_B2 (d0 : DNet) (d1 : List Int) (z10 : MapM Int Int) (rec2 : Int → DNet → Option DNet) (K2 : DNet → Option DNet) (i23 : Int) (z24 : DNet) : Option DNet :=
  (bif (decide (i23 < (d1.length : Int))) then ((getI d1 i23).bind fun x27 => ((getI d0.agents x27).bind fun x36 => ((m_impl_copyAgent x36).bind fun y47 => (m_impl_Net_renumber_L3 z10 y47 (m_impl_Net_renumber_A3 rec2 i23 z24) (y47.ports.length + 1) 0 y47)))) else (K2 z24))
def m_impl_Net_renumber_L2 (d0 : DNet) (d1 : List Int) (z10 : MapM Int Int) (K2 : DNet → Option DNet) : Nat → Int → DNet → Option DNet
  | 0, _, _ => none
  | g + 1, i23, z24 => m_impl_Net_renumber_B2 d0 d1 z10 (m_impl_Net_renumber_L2 d0 d1 z10 K2 g) K2 i23 z24
def m_impl_Net_renumber_A1 (d0 : DNet) (d1 : List Int) (z10 : MapM Int Int) : Option DNet :=
  (m_impl_Net_renumber_L2 d0 d1 z10 m_impl_Net_renumber_A2 (d1.length + 1) 0 (⟨[]⟩ : DNet))
def m_impl_Net_renumber_B1 (d1 : List Int) (rec1 : Int → MapM Int Int → Option DNet) (K1 : MapM Int Int → Option DNet) (i144 : Int) (z145 : MapM Int Int) : Option DNet :=
  (bif (decide (i144 < (d1.length : Int))) then ((getI d1 i144).bind fun x148 => ((ck x148).bind fun _ => ((mustP (z145.n ≤ 4294967296)).bind fun _ => (rec1 (i144 + 1) (z145.put x148 i144))))) else (K1 z145))
def m_impl_Net_renumber_L1 (d1 : List Int) (K1 : MapM Int Int → Option DNet) : Nat → Int → MapM Int Int → Option DNet
  | 0, _, _ => none
  | g + 1, i144, z145 => m_impl_Net_renumber_B1 d1 (m_impl_Net_renumber_L1 d1 K1 g) K1 i144 z145
def m_impl_Net_renumber (d0 : DNet) (d1 : List Int) : Option DNet :=
  (m_impl_Net_renumber_L1 d1 (m_impl_Net_renumber_A1 d0 d1) (d1.length + 1) 0 (MapM.empty : MapM Int Int))
set_option maxHeartbeats 2000000 in
theorem c_m_impl_Net_renumber (d0 : DNet) (d1 : List Int) (r : DNet) (hm : m_impl_Net_renumber d0 d1 = some r) (v0 : Value) (v1 : Value) (w : World) (hv0 : Pt netRd w v0 d0) (hv1 : Sl intRd 1 w v1 d1) :
    Calls Try.prog 85 #[v0, v1] w fun e w' => (∃ (v0 : Value) (bs0 : List Nat), e = .returned (.agg #[v0]) ∧ OwN 89 agentOw 5 w' w.heap.size v0 r.agents bs0) ∧ Below w.heap.size w w' := by
  obtain ⟨ba0, oa0, csa0, rfl, hba0, hRa0, hca0⟩ := hv0
  have hSa0 := hRa0
  obtain ⟨A1, n1, c1, rfl, ⟨h1, r1⟩⟩ := hRa0
  have e1 := h1.len; subst e1
  have q1 := len_le r1
  obtain ⟨Aa1, na1, ca1, rfl, ha1, ra1⟩ := hv1
  have ea1 := ha1.len; subst ea1
  have qa1 := len_le ra1
  have T := Below.refl w.heap.size w
  unfold m_impl_Net_renumber at hm
  refine enter 67 Try.func85 rfl rfl rfl ?_
  intro f hf
  have s0 : f 0 = .pointer (some ⟨ba0, oa0, none⟩) := hf 0 _ rfl
  have s1 : f 1 = .slice Aa1 d1.length ca1 := hf 1 _ rfl
  refine wp_seq ?_
  refine wp_rl rfl ?_
  refine RL.alloc (z := .agg #[.slice none 0 0]) rfl (by kernel_rfl) (fun w2 B3 hb4 szw2 => ?_)
  replace B3 : Blk w2 w.heap.size 30 #[.slice none 0 0] := B3
  have GB3 : w.heap.size ≤ w.heap.size := T.size
  have T := Tt T hb4
  refine RL.nil ?_
  refine then_n ?_
  refine wp_seq ?_
  refine wp_rl rfl ?_
  refine RL.makeMap (κ := Int) (β := Int) 2 litI encVI rfl (fun w6 B7 hb8 szw6 => ?_)
  replace B7 := OwM.lower B7 T.size
  have Eob9_ob5 := Nat.ne_of_lt B3.lt
  have B3 := blkT B3 hb8
  have T := Tt T hb8
  refine RL.y rfl (Y.assign (v := .map (some w2.heap.size)) rfl) ?_
  refine RL.nil ?_
  refine then_n ?_
  refine wp_seq ?_
  refine wp_seq ?_
  refine wp_rs rfl ?_
  refine RQ.y rfl (Y.move (v := .slice Aa1 d1.length ca1) s1) ?_
  refine RQ.y rfl (Y.len (by kernel_rfl) rfl) ?_
  refine RQ.y rfl (Y.move (v := .int .i64 0) rfl) ?_
  refine RQ.nil ?_
  refine then_n ?_
  refine wp_block ?_
  obtain ⟨K1, hK1, hm⟩ : ∃ K, K = (m_impl_Net_renumber_A1 d0 d1) ∧ m_impl_Net_renumber_L1 d1 K (d1.length + 1) 0 (MapM.empty : MapM Int Int) = some r := ⟨_, rfl, hm⟩
  refine wp_loopX (fun g f w' => ∃ (i144 : Int) (z145 : MapM Int Int), f 0 = .pointer (some ⟨ba0, oa0, none⟩) ∧ f 1 = .slice Aa1 d1.length ca1 ∧ f 4 = .pointer (some ⟨w.heap.size, 0, none⟩) ∧ f 5 = .map (some w2.heap.size) ∧ f 14 = .slice Aa1 d1.length ca1 ∧ f 15 = .int .i64 (d1.length : Int) ∧ f 16 = .int .i64 i144 ∧ 0 ≤ i144 ∧ OwM Try.prog 2 litI encVI w' w.heap.size w2.heap.size z145 ∧ Blk w' w.heap.size 30 #[.slice none 0 0] ∧ Below w.heap.size w w' ∧ m_impl_Net_renumber_L1 d1 K1 g i144 z145 = some r) 0 (fun f w' => ∃ (z10 : MapM Int Int), f 0 = .pointer (some ⟨ba0, oa0, none⟩) ∧ f 1 = .slice Aa1 d1.length ca1 ∧ f 4 = .pointer (some ⟨w.heap.size, 0, none⟩) ∧ f 5 = .map (some w2.heap.size) ∧ OwM Try.prog 2 litI encVI w' w.heap.size w2.heap.size z10 ∧ Blk w' w.heap.size 30 #[.slice none 0 0] ∧ Below w.heap.size w w' ∧ m_impl_Net_renumber_A1 d0 d1 z10 = some r) (d1.length + 1) ⟨0, (MapM.empty : MapM Int Int), s0, s1, rfl, rfl, rfl, rfl, rfl, (by omega), B7, B3, T, hm⟩ ?_ ?_
  · rintro f w11 ⟨z10, s0_1x, s1_1x, s4_1x, s5_1x, Bz10, B3, T, hm⟩
    unfold m_impl_Net_renumber_A1 at hm
    refine blk_hit (then_n ?_)
    refine wp_seq ?_
    refine wp_rl rfl ?_
    refine RL.alloc (z := .agg #[.slice none 0 0]) rfl (by kernel_rfl) (fun w12 B13 hb14 szw12 => ?_)
    replace B13 : Blk w12 w11.heap.size 30 #[.slice none 0 0] := B13
    have GB13 : w.heap.size ≤ w11.heap.size := T.size
    have Eob15_ob5 := Nat.ne_of_lt B3.lt
    have Eob15_ob9 := Nat.ne_of_lt Bz10.lt
    have B3 := blkT B3 hb14
    have Bz10 := OwM.below Bz10 hb14
    have T := Tt T hb14
    refine RL.nil ?_
    refine then_n ?_
    refine wp_seq ?_
    refine wp_seq ?_
    refine wp_rs rfl ?_
    refine RQ.y rfl (Y.move (v := .slice Aa1 d1.length ca1) s1_1x) ?_
    refine RQ.y rfl (Y.len (by kernel_rfl) rfl) ?_
    refine RQ.y rfl (Y.move (v := .int .i64 0) rfl) ?_
    refine RQ.nil ?_
    refine then_n ?_
    refine wp_block ?_
    obtain ⟨K2, hK2, hm⟩ : ∃ K, K = m_impl_Net_renumber_A2 ∧ m_impl_Net_renumber_L2 d0 d1 z10 K (d1.length + 1) 0 (⟨[]⟩ : DNet) = some r := ⟨_, rfl, hm⟩
    refine wp_loopX (fun g f w' => ∃ (i23 : Int) (z24 : DNet) (uz24_0 : Value) (bsz24_0 : List Nat), f 0 = .pointer (some ⟨ba0, oa0, none⟩) ∧ f 4 = .pointer (some ⟨w.heap.size, 0, none⟩) ∧ f 5 = .map (some w2.heap.size) ∧ f 8 = .pointer (some ⟨w11.heap.size, 0, none⟩) ∧ f 25 = .slice Aa1 d1.length ca1 ∧ f 26 = .int .i64 (d1.length : Int) ∧ f 27 = .int .i64 i23 ∧ 0 ≤ i23 ∧ Blk w' w11.heap.size 30 #[uz24_0] ∧ OwN 89 agentOw 5 w' w.heap.size uz24_0 z24.agents bsz24_0 ∧ Ap bsz24_0 [w.heap.size] ∧ Ap bsz24_0 [w2.heap.size] ∧ Ap bsz24_0 [w11.heap.size] ∧ Blk w' w.heap.size 30 #[.slice none 0 0] ∧ OwM Try.prog 2 litI encVI w' w.heap.size w2.heap.size z10 ∧ Below w.heap.size w w' ∧ m_impl_Net_renumber_L2 d0 d1 z10 K2 g i23 z24 = some r) 2 (fun f w' => ∃ (z16 : DNet) (uz16_0 : Value) (bsz16_0 : List Nat), f 4 = .pointer (some ⟨w.heap.size, 0, none⟩) ∧ f 8 = .pointer (some ⟨w11.heap.size, 0, none⟩) ∧ Blk w' w11.heap.size 30 #[uz16_0] ∧ OwN 89 agentOw 5 w' w.heap.size uz16_0 z16.agents bsz16_0 ∧ Ap bsz16_0 [w.heap.size] ∧ Ap bsz16_0 [w2.heap.size] ∧ Ap bsz16_0 [w11.heap.size] ∧ Blk w' w.heap.size 30 #[.slice none 0 0] ∧ OwM Try.prog 2 litI encVI w' w.heap.size w2.heap.size z10 ∧ Below w.heap.size w w' ∧ m_impl_Net_renumber_A2 z16 = some r) (d1.length + 1) ⟨0, (⟨[]⟩ : DNet), (.slice none 0 0), [], s0_1x, s4_1x, s5_1x, rfl, rfl, rfl, rfl, (by omega), B13, OwN.nil, Ap.nil, Ap.nil, Ap.nil, B3, Bz10, T, hm⟩ ?_ ?_
    · rintro f w17 ⟨z16, uz16_0, bsz16_0, s4_2x, s8_2x, Bz16, Guz16_0, Noz16_0_ob5, Noz16_0_ob9, Noz16_0_ob15, B3, Bz10, T, hm⟩
      unfold m_impl_Net_renumber_A2 at hm
      refine blk_hit (then_n ?_)
      refine wp_seq ?_
      refine wp_rl rfl ?_
      refine RL.y rfl (Y.loadN (cs := [uz16_0]) s8_2x (by kernel_rfl) (cells1 (eqC (blkCell Bz16 (i := 0) rfl)))) ?_
      obtain ⟨A18, c19, rfl⟩ := OwN.form Guz16_0
      have qbA18 := OwN.bound Guz16_0
      refine RL.store (v := .agg #[.slice A18 z16.agents.length c19]) (cs' := #[.slice A18 z16.agents.length c19]) rfl s4_2x rfl B3 (by kernel_rfl) (by rfl) (by rfl) (by rfl) (fun w20 B21 ho22 => ?_)
      have szw20 := ho22.size
      have Bz10 := Bz10.only ho22 (by intro hin; simp at hin; exact Eob9_ob5.symm hin)
      have Bz16 := Bz16.only_ ho22 (by intro hin; simp at hin; exact Eob15_ob5.symm hin)
      have Guz16_0 := OwN.only agentOw_ok Guz16_0 ho22 (Ap.one Noz16_0_ob5)
      have T := T.trans (ho22.below (by first | (simp; done) | (simp; omega)))
      refine RL.nil ?_
      refine then_n ?_
      refine wp_ret ?_
      obtain rfl := Option.some.inj hm
      exact (retc (cs := [.slice A18 z16.agents.length c19]) rfl rfl s4_2x (by kernel_rfl) (blkCells B21) ⟨⟨_, _, rfl, Guz16_0⟩, T⟩)
    · rintro g f w25 ⟨i23, z24, uz24_0, bsz24_0, s0_2, s4_2, s5_2, s8_2, s25_2, s26_2, s27_2, nn27_2, Bz24, Guz24_0, Noz24_0_ob5, Noz24_0_ob9, Noz24_0_ob15, B3, Bz10, T, hm⟩
      rcases g with _ | g
      · simp only [m_impl_Net_renumber_L2] at hm; cases hm
      obtain ⟨rec2, hrec2, hm⟩ : ∃ z, z = m_impl_Net_renumber_L2 d0 d1 z10 K2 g ∧ m_impl_Net_renumber_B2 d0 d1 z10 z K2 i23 z24 = some r := ⟨_, rfl, hm⟩
      unfold m_impl_Net_renumber_B2 at hm
      refine wp_seq ?_
      refine wp_rs rfl ?_
      refine RQ.y rfl (Y.binI (v := .bool (decide (i23 < (d1.length : Int)))) s27_2 s26_2 rfl) ?_
      refine RQ.nil ?_
      refine then_n ?_
      refine wp_seq ?_
      rcases bcases (decide (i23 < (d1.length : Int))) with c26 | c26
      · replace hm := cF c26 hm
        have pc26 := of_decide_eq_false c26
        refine cond_f rfl (vb rfl c26) ?_
        refine wp_exit ?_
        exact (then_x (then_x (hit_x ⟨_, rfl, ⟨z24, (uz24_0), bsz24_0, s4_2, s8_2, Bz24, Guz24_0, Noz24_0_ob5, Noz24_0_ob9, Noz24_0_ob15, B3, Bz10, T, (by rw [hK2] at hm; exact hm)⟩⟩)))
      · replace hm := cT c26 hm
        have pc26 := of_decide_eq_true c26
        refine cond_t rfl (vb rfl c26) ?_
        refine wp_skip ?_
        refine then_n ?_
        refine wp_seq ?_
        refine wp_block ?_
        refine wp_seq ?_
        refine wp_rs rfl ?_
        obtain ⟨x27, hx30, hm⟩ := bnd hm
        obtain ⟨k28, hk31, hl32, hx30⟩ := getI_some hx30
        obtain ⟨b34, o35, rfl, hbb34⟩ := ha1.addr (by omega)
        obtain ⟨cs29, hRcs29, hc33⟩ := ha1.el hx30
        have hScs29 := hRcs29
        obtain rfl := hRcs29
        refine RQ.y rfl (Y.indexAddr (m := k28) (sz := 1) s25_2 s27_2 hk31 hl32 (by kernel_rfl)) ?_
        refine RQ.y rfl (Y.load (v := .int .i64 x27) rfl (by kernel_rfl) (eqC (cellT T (hc33 0 _ rfl)))) ?_
        refine RQ.y rfl (Y.assign (v := .int .i64 x27) rfl) ?_
        refine RQ.nil ?_
        refine then_n ?_
        refine wp_seq ?_
        refine wp_rl rfl ?_
        refine RL.y rfl (Y.move (v := .pointer (some ⟨ba0, oa0, none⟩)) s0_2) ?_
        refine RL.y rfl (Y.nilCheck rfl) ?_
        refine RL.y rfl (Y.fieldAddr (off := 0) rfl (by kernel_rfl)) ?_
        refine RL.y rfl (Y.load (v := .slice A1 d0.agents.length c1) rfl (by kernel_rfl) (eqC (cellT T (hca0 0 _ rfl)))) ?_
        refine RL.y rfl (Y.move (v := .int .i64 x27) rfl) ?_
        obtain ⟨x36, hx39, hm⟩ := bnd hm
        obtain ⟨k37, hk40, hl41, hx39⟩ := getI_some hx39
        obtain ⟨b43, o44, rfl, hbb43⟩ := h1.addr (by omega)
        obtain ⟨cs38, hRcs38, hc42⟩ := h1.el hx39
        have hScs38 := hRcs38
        obtain ⟨A45, n45, c45, A46, n46, c46, rfl, ⟨h45, r45⟩, ⟨h46, r46⟩⟩ := hRcs38
        have e45 := h45.len; subst e45
        have q45 := len_le r45
        have e46 := h46.len; subst e46
        have q46 := len_le r46
        refine RL.y rfl (Y.indexAddr (m := k37) (sz := 5) rfl rfl hk40 hl41 (by kernel_rfl)) ?_
        refine RL.y rfl (Y.loadN (cs := [.int .i64 x36.kind, .int .i64 x36.level, .int .i64 x36.value, .slice A45 x36.data.length c45, .slice A46 x36.ports.length c46]) rfl (by kernel_rfl) (cells5 (eqC (cellT T (hc42 0 _ rfl))) (eqC (cellT T (hc42 1 _ rfl))) (eqC (cellT T (hc42 2 _ rfl))) (eqC (cellT T (hc42 3 _ rfl))) (eqC (cellT T (hc42 4 _ rfl))))) ?_
        obtain ⟨y47, e48, hm⟩ := bnd hm
        refine RL.call rfl (am1 rfl) (by kernel_rfl) ((c_m_impl_copyAgent x36 _ e48 _ _ (stArg (R := agentRd) ⟨_, _, _, _, _, _, rfl, ⟨SlAt.now intRd_ok h45 (Nat.le_refl _) T, r45⟩, ⟨SlAt.now portRd_ok h46 (Nat.le_refl _) T, r46⟩⟩)).mono ?_)
        rintro _ w55 ⟨⟨v49, v52, rfl, G50, G53, Ro51_o54⟩, hb56⟩
        refine ⟨_, rfl, ?_⟩
        have szw55 := hb56.size
        have T0w55 := T.size
        have Zo51_ob5 := ap_ne (Ap.new (OwF.flo G50) (one_hi B3.lt))
        have Zo51_ob9 := ap_ne (Ap.new (OwF.flo G50) (one_hi Bz10.lt))
        have Zo51_ob15 := ap_ne (Ap.new (OwF.flo G50) (one_hi Bz24.lt))
        have Zo51_oz24_0 : Ap (fb v49) bsz24_0 := (Ap.new (OwF.flo G50) (OwN.hi Guz24_0))
        have Zo54_ob5 := ap_ne (Ap.new (OwF.flo G53) (one_hi B3.lt))
        have Zo54_ob9 := ap_ne (Ap.new (OwF.flo G53) (one_hi Bz10.lt))
        have Zo54_ob15 := ap_ne (Ap.new (OwF.flo G53) (one_hi Bz24.lt))
        have Zo54_oz24_0 : Ap (fb v52) bsz24_0 := (Ap.new (OwF.flo G53) (OwN.hi Guz24_0))
        have B3 := blkT B3 hb56
        have Bz10 := OwM.below Bz10 hb56
        have Bz24 := blkT Bz24 hb56
        have Guz24_0 := OwN.below agentOw_ok Guz24_0 hb56
        have T := Tt T hb56
        replace G50 := OwF.mono G50 T0w55
        replace G53 := OwF.mono G53 T0w55
        refine RL.alloc (z := .agg #[.int .i64 0, .int .i64 0, .int .i64 0, .slice none 0 0, .slice none 0 0]) rfl (by kernel_rfl) (fun w57 B58 hb59 szw57 => ?_)
        replace B58 : Blk w57 w55.heap.size 89 #[.int .i64 0, .int .i64 0, .int .i64 0, .slice none 0 0, .slice none 0 0] := B58
        have GB58 : w.heap.size ≤ w55.heap.size := T.size
        have Eob60_ob5 := Nat.ne_of_lt B3.lt
        have Eob60_ob9 := Nat.ne_of_lt Bz10.lt
        have Eob60_ob15 := Nat.ne_of_lt Bz24.lt
        have Noz24_0_ob60 := Ap.far (OwN.hi Guz24_0)
        have No51_ob60 := OwF.far G50 (Nat.le_refl _)
        have No54_ob60 := OwF.far G53 (Nat.le_refl _)
        have B3 := blkT B3 hb59
        have Bz10 := OwM.below Bz10 hb59
        have Bz24 := blkT Bz24 hb59
        have Guz24_0 := OwN.below agentOw_ok Guz24_0 hb59
        have G50 := OwF.below G50 hb59
        have G53 := OwF.below G53 hb59
        have T := Tt T hb59
        obtain ⟨A61, c62, rfl⟩ := OwF.form G50
        have qbA61 := OwF.bound G50
        obtain ⟨A63, c64, rfl⟩ := OwF.form G53
        have qbA63 := OwF.bound G53
        refine RL.store (v := .agg #[.int .i64 y47.kind, .int .i64 y47.level, .int .i64 y47.value, .slice A61 y47.data.length c62, .slice A63 y47.ports.length c64]) (cs' := #[.int .i64 y47.kind, .int .i64 y47.level, .int .i64 y47.value, .slice A61 y47.data.length c62, .slice A63 y47.ports.length c64]) rfl rfl rfl B58 (by kernel_rfl) (by rfl) (by rfl) (by rfl) (fun w65 B66 ho67 => ?_)
        have szw65 := ho67.size
        have B3 := B3.only_ ho67 (by intro hin; simp at hin; exact Eob60_ob5 hin)
        have Bz10 := Bz10.only ho67 (by intro hin; simp at hin; exact Eob60_ob9 hin)
        have Bz24 := Bz24.only_ ho67 (by intro hin; simp at hin; exact Eob60_ob15 hin)
        have Guz24_0 := OwN.only agentOw_ok Guz24_0 ho67 (Ap.one Noz24_0_ob60)
        have G50 := OwF.only G50 ho67 No51_ob60
        have G53 := OwF.only G53 ho67 No54_ob60
        have T := T.trans (ho67.below (by first | (simp; done) | (simp; omega)))
        refine RL.nil ?_
        refine then_n ?_
        refine wp_seq ?_
        refine wp_seq ?_
        refine wp_rs rfl ?_
        refine RQ.y rfl (Y.fieldAddr (off := 4) rfl (by kernel_rfl)) ?_
        refine RQ.y rfl (Y.load (v := .slice A63 y47.ports.length c64) rfl (by kernel_rfl) (eqC (blkCell B66 (i := 4) rfl))) ?_
        refine RQ.y rfl (Y.len (by kernel_rfl) rfl) ?_
        refine RQ.y rfl (Y.move (v := .int .i64 0) rfl) ?_
        refine RQ.nil ?_
        refine then_n ?_
        refine wp_block ?_
        obtain ⟨K3, hK3, hm⟩ : ∃ K, K = (m_impl_Net_renumber_A3 rec2 i23 z24) ∧ m_impl_Net_renumber_L3 z10 y47 K (y47.ports.length + 1) 0 y47 = some r := ⟨_, rfl, hm⟩
        refine wp_loopX (fun g f w' => ∃ (i117 : Int) (z118 : DAgent) (uz118_0 : Value) (uz118_1 : Value), f 0 = .pointer (some ⟨ba0, oa0, none⟩) ∧ f 4 = .pointer (some ⟨w.heap.size, 0, none⟩) ∧ f 5 = .map (some w2.heap.size) ∧ f 8 = .pointer (some ⟨w11.heap.size, 0, none⟩) ∧ f 11 = .pointer (some ⟨w55.heap.size, 0, none⟩) ∧ f 25 = .slice (some ⟨b34, o35, none⟩) d1.length ca1 ∧ f 26 = .int .i64 (d1.length : Int) ∧ f 27 = .int .i64 i23 ∧ f 41 = .int .i64 (y47.ports.length : Int) ∧ f 42 = .int .i64 i117 ∧ 0 ≤ i117 ∧ Blk w' w55.heap.size 89 #[.int .i64 z118.kind, .int .i64 z118.level, .int .i64 z118.value, uz118_0, uz118_1] ∧ OwF 2 encI 1 w' w.heap.size uz118_0 z118.data ∧ OwF 53 encPort 2 w' w.heap.size uz118_1 z118.ports ∧ Ap (fb uz118_0) bsz24_0 ∧ Value.ownBlock uz118_0 ≠ some w.heap.size ∧ Value.ownBlock uz118_0 ≠ some w2.heap.size ∧ Value.ownBlock uz118_0 ≠ some w11.heap.size ∧ Value.ownBlock uz118_0 ≠ some w55.heap.size ∧ Dj uz118_1 uz118_0 ∧ Ap (fb uz118_1) bsz24_0 ∧ Value.ownBlock uz118_1 ≠ some w.heap.size ∧ Value.ownBlock uz118_1 ≠ some w2.heap.size ∧ Value.ownBlock uz118_1 ≠ some w11.heap.size ∧ Value.ownBlock uz118_1 ≠ some w55.heap.size ∧ Blk w' w.heap.size 30 #[.slice none 0 0] ∧ OwM Try.prog 2 litI encVI w' w.heap.size w2.heap.size z10 ∧ Blk w' w11.heap.size 30 #[uz24_0] ∧ OwN 89 agentOw 5 w' w.heap.size uz24_0 z24.agents bsz24_0 ∧ Below w.heap.size w w' ∧ m_impl_Net_renumber_L3 z10 y47 K3 g i117 z118 = some r) 4 (fun f w' => ∃ (z68 : DAgent) (uz68_0 : Value) (uz68_1 : Value), f 0 = .pointer (some ⟨ba0, oa0, none⟩) ∧ f 4 = .pointer (some ⟨w.heap.size, 0, none⟩) ∧ f 5 = .map (some w2.heap.size) ∧ f 8 = .pointer (some ⟨w11.heap.size, 0, none⟩) ∧ f 11 = .pointer (some ⟨w55.heap.size, 0, none⟩) ∧ f 25 = .slice (some ⟨b34, o35, none⟩) d1.length ca1 ∧ f 26 = .int .i64 (d1.length : Int) ∧ f 27 = .int .i64 i23 ∧ Blk w' w55.heap.size 89 #[.int .i64 z68.kind, .int .i64 z68.level, .int .i64 z68.value, uz68_0, uz68_1] ∧ OwF 2 encI 1 w' w.heap.size uz68_0 z68.data ∧ OwF 53 encPort 2 w' w.heap.size uz68_1 z68.ports ∧ Ap (fb uz68_0) bsz24_0 ∧ Value.ownBlock uz68_0 ≠ some w.heap.size ∧ Value.ownBlock uz68_0 ≠ some w2.heap.size ∧ Value.ownBlock uz68_0 ≠ some w11.heap.size ∧ Value.ownBlock uz68_0 ≠ some w55.heap.size ∧ Dj uz68_1 uz68_0 ∧ Ap (fb uz68_1) bsz24_0 ∧ Value.ownBlock uz68_1 ≠ some w.heap.size ∧ Value.ownBlock uz68_1 ≠ some w2.heap.size ∧ Value.ownBlock uz68_1 ≠ some w11.heap.size ∧ Value.ownBlock uz68_1 ≠ some w55.heap.size ∧ Blk w' w.heap.size 30 #[.slice none 0 0] ∧ OwM Try.prog 2 litI encVI w' w.heap.size w2.heap.size z10 ∧ Blk w' w11.heap.size 30 #[uz24_0] ∧ OwN 89 agentOw 5 w' w.heap.size uz24_0 z24.agents bsz24_0 ∧ Below w.heap.size w w' ∧ m_impl_Net_renumber_A3 rec2 i23 z24 z68 = some r) (y47.ports.length + 1) ⟨0, y47, (.slice A61 y47.data.length c62), (.slice A63 y47.ports.length c64), s0_2, s4_2, s5_2, s8_2, rfl, s25_2, s26_2, s27_2, rfl, rfl, (by omega), B66, G50, G53, Zo51_oz24_0, (ap_ne (ne_ap Zo51_ob5)), (ap_ne (ne_ap Zo51_ob9)), (ap_ne (ne_ap Zo51_ob15)), (ap_ne (ne_ap No51_ob60)), (Ap.dj (Ap.symm (Dj.ap Ro51_o54))), Zo54_oz24_0, (ap_ne (ne_ap Zo54_ob5)), (ap_ne (ne_ap Zo54_ob9)), (ap_ne (ne_ap Zo54_ob15)), (ap_ne (ne_ap No54_ob60)), B3, Bz10, Bz24, Guz24_0, T, hm⟩ ?_ ?_
        · rintro f w69 ⟨z68, uz68_0, uz68_1, s0_3x, s4_3x, s5_3x, s8_3x, s11_3x, s25_3x, s26_3x, s27_3x, Bz68, Guz68_0, Guz68_1, Doz68_0_oz24_0, Noz68_0_ob5, Noz68_0_ob9, Noz68_0_ob15, Noz68_0_ob60, Doz68_1_oz68_0, Doz68_1_oz24_0, Noz68_1_ob5, Noz68_1_ob9, Noz68_1_ob15, Noz68_1_ob60, B3, Bz10, Bz24, Guz24_0, T, hm⟩
          unfold m_impl_Net_renumber_A3 at hm
          refine blk_hit (then_n ?_)
          refine wp_rl rfl ?_
          refine RL.y rfl (Y.fieldAddr (off := 0) s8_3x (by kernel_rfl)) ?_
          refine RL.y rfl (Y.load (v := uz24_0) rfl (by kernel_rfl) (eqC (blkCell Bz24 (i := 0) rfl))) ?_
          refine RL.y rfl (Y.loadN (cs := [.int .i64 z68.kind, .int .i64 z68.level, .int .i64 z68.value, uz68_0, uz68_1]) s11_3x (by kernel_rfl) (cells5 (eqC (blkCell Bz68 (i := 0) rfl)) (eqC (blkCell Bz68 (i := 1) rfl)) (eqC (blkCell Bz68 (i := 2) rfl)) (eqC (blkCell Bz68 (i := 3) rfl)) (eqC (blkCell Bz68 (i := 4) rfl)))) ?_
          obtain ⟨A74, c75, rfl⟩ := OwF.form Guz68_0
          have qbA74 := OwF.bound Guz68_0
          obtain ⟨A76, c77, rfl⟩ := OwF.form Guz68_1
          have qbA76 := OwF.bound Guz68_1
          refine RL.bslice (e := 89) (cells := #[.int .i64 z68.kind, .int .i64 z68.level, .int .i64 z68.value, .slice A74 z68.data.length c75, .slice A76 z68.ports.length c77]) rfl (pm1 rfl) (by kernel_rfl) (fun w70 B71 hb72 szw70 => ?_)
          have ZB71 : w.heap.size ≤ w69.heap.size := T.size
          have q78 := OwF.fboth Guz68_0 (Nat.le_refl _)
          have q79 := OwF.fboth Guz68_1 (Nat.le_refl _)
          have z80 := Ap.cons (Ap.farL (one_hi B3.lt)) (Ap.append (ne_ap Noz68_0_ob5) (ne_ap Noz68_1_ob5))
          have z81 := Ap.cons (Ap.farL (one_hi Bz10.lt)) (Ap.append (ne_ap Noz68_0_ob9) (ne_ap Noz68_1_ob9))
          have z82 := Ap.cons (Ap.farL (one_hi Bz24.lt)) (Ap.append (ne_ap Noz68_0_ob15) (ne_ap Noz68_1_ob15))
          have z83 := Ap.cons (Ap.farL (one_hi Bz68.lt)) (Ap.append (ne_ap Noz68_0_ob60) (ne_ap Noz68_1_ob60))
          have z84 := Ap.cons (Ap.farL (OwN.hi Guz24_0)) (Ap.append Doz68_0_oz24_0 Doz68_1_oz24_0)
          have B3 := blkT B3 hb72
          have Bz10 := OwM.below Bz10 hb72
          have Bz24 := blkT Bz24 hb72
          have Bz68 := blkT Bz68 hb72
          have Guz24_0 := OwN.below agentOw_ok Guz24_0 hb72
          have Guz68_0 := OwF.below Guz68_0 hb72
          have Guz68_1 := OwF.below Guz68_1 hb72
          have T := Tt T hb72
          obtain ⟨l86, a85, nd87, sb88, r89⟩ := OwF.own2 fI Guz68_0
          obtain ⟨l91, a90, nd92, sb93, r94⟩ := OwF.own2 fPort Guz68_1
          have G95 : OwN 89 agentOw 5 w70 w.heap.size (.slice (some ⟨w69.heap.size, 0, none⟩) 1 1) [z68] (w69.heap.size :: ((fb (.slice A74 z68.data.length c75)) ++ (fb (.slice A76 z68.ports.length c77)))) := OwN.lit1 (b1 := (l86 ++ l91)) B71 ZB71 ⟨_, _, _, _, _, _, l86, l91, rfl, ⟨a85, r89⟩, ⟨a90, r94⟩, rfl⟩ agentOw_ok (nodup2 nd87 nd92 sb88 sb93 (Ap.symm (Dj.ap Doz68_1_oz68_0))) (sub2 sb88 sb93) (all2 q78 q79)
          obtain ⟨_, m97, hm⟩ := bnd hm
          have hk98 := mustP_some m97
          refine RL.appendN agentOw_ok agentOw_one (by decide) app_impl_Agent rfl rfl rfl Guz24_0 G95 (Ap.symm z84) T.size hk98 (fun v99 w100 bs101 G102 hgr103 hbl104 hnb105 => ?_)
          have szw100 := hbl104.size
          have z107 := Ap.app hnb105 Noz24_0_ob5 z80 (one_hi B3.lt)
          have z108 := Ap.app hnb105 Noz24_0_ob9 z81 (one_hi Bz10.lt)
          have z109 := Ap.app hnb105 Noz24_0_ob15 z82 (one_hi Bz24.lt)
          have z110 := Ap.app hnb105 Noz24_0_ob60 z83 (one_hi Bz68.lt)
          have B3 := Blk.kept B3 hgr103 (OwN.neB Guz24_0 Noz24_0_ob5)
          have Bz10 := OwM.grown Bz10 hgr103 (OwN.neB Guz24_0 Noz24_0_ob9)
          have Bz24 := Blk.kept Bz24 hgr103 (OwN.neB Guz24_0 Noz24_0_ob15)
          have Bz68 := Blk.kept Bz68 hgr103 (OwN.neB Guz24_0 Noz24_0_ob60)
          have T := T.trans hbl104
          refine RL.y rfl (Y.fieldAddr (off := 0) s8_3x (by kernel_rfl)) ?_
          obtain ⟨A111, c112, rfl⟩ := OwN.form G102
          have qbA111 := OwN.bound G102
          refine RL.store (v := .slice A111 ((z24.agents ++ [z68]).length) c112) (cs' := #[.slice A111 ((z24.agents ++ [z68]).length) c112]) rfl rfl rfl Bz24 (by kernel_rfl) (by rfl) (by rfl) (by rfl) (fun w113 B114 ho115 => ?_)
          have szw113 := ho115.size
          have B3 := B3.only_ ho115 (by intro hin; simp at hin; exact Eob15_ob5 hin)
          have Bz10 := Bz10.only ho115 (by intro hin; simp at hin; exact Eob15_ob9 hin)
          have Bz68 := Bz68.only_ ho115 (by intro hin; simp at hin; exact Eob60_ob15.symm hin)
          have G102 := OwN.only agentOw_ok G102 ho115 (Ap.one z109)
          have T := T.trans (ho115.below (by first | (simp; done) | (simp; omega)))
          refine RL.nil ?_
          refine blk_n (then_n ?_)
          refine wp_rs rfl ?_
          obtain ⟨s116, ks116, hm⟩ := bnd hm
          replace ks116 := ck_some ks116
          refine RQ.y rfl (Y.binI (v := .int .i64 s116) s27_3x rfl (by rw [binI_add ks116.2, ks116.1])) ?_
          refine RQ.y rfl (Y.move (v := .int .i64 s116) rfl) ?_
          refine RQ.nil ?_
          exact (then_n ⟨g, _, Nat.lt_succ_self _, rfl, ⟨s116, (⟨(z24.agents ++ [z68])⟩ : DNet), (.slice A111 ((z24.agents ++ [z68]).length) c112), bs101, s0_3x, s4_3x, s5_3x, s8_3x, s25_3x, s26_3x, rfl, (by omega), B114, G102, z107, z108, z109, B3, Bz10, T, (by rw [← hrec2]; exact hm)⟩⟩)
        · rintro g f w119 ⟨i117, z118, uz118_0, uz118_1, s0_3, s4_3, s5_3, s8_3, s11_3, s25_3, s26_3, s27_3, s41_3, s42_3, nn42_3, Bz118, Guz118_0, Guz118_1, Doz118_0_oz24_0, Noz118_0_ob5, Noz118_0_ob9, Noz118_0_ob15, Noz118_0_ob60, Doz118_1_oz118_0, Doz118_1_oz24_0, Noz118_1_ob5, Noz118_1_ob9, Noz118_1_ob15, Noz118_1_ob60, B3, Bz10, Bz24, Guz24_0, T, hm⟩
          rcases g with _ | g
          · simp only [m_impl_Net_renumber_L3] at hm; cases hm
          obtain ⟨rec3, hrec3, hm⟩ : ∃ z, z = m_impl_Net_renumber_L3 z10 y47 K3 g ∧ m_impl_Net_renumber_B3 z10 y47 z K3 i117 z118 = some r := ⟨_, rfl, hm⟩
          unfold m_impl_Net_renumber_B3 at hm
          refine wp_seq ?_
          refine wp_rs rfl ?_
          refine RQ.y rfl (Y.binI (v := .bool (decide (i117 < (y47.ports.length : Int)))) s42_3 s41_3 rfl) ?_
          refine RQ.nil ?_
          refine then_n ?_
          refine wp_seq ?_
          rcases bcases (decide (i117 < (y47.ports.length : Int))) with c120 | c120
          · replace hm := cF c120 hm
            have pc120 := of_decide_eq_false c120
            refine cond_f rfl (vb rfl c120) ?_
            refine wp_exit ?_
            exact (then_x (then_x (hit_x ⟨_, rfl, ⟨z118, (uz118_0), (uz118_1), s0_3, s4_3, s5_3, s8_3, s11_3, s25_3, s26_3, s27_3, Bz118, Guz118_0, Guz118_1, Doz118_0_oz24_0, (ap_ne (ne_ap Noz118_0_ob5)), (ap_ne (ne_ap Noz118_0_ob9)), (ap_ne (ne_ap Noz118_0_ob15)), (ap_ne (ne_ap Noz118_0_ob60)), (Ap.dj (Dj.ap Doz118_1_oz118_0)), Doz118_1_oz24_0, (ap_ne (ne_ap Noz118_1_ob5)), (ap_ne (ne_ap Noz118_1_ob9)), (ap_ne (ne_ap Noz118_1_ob15)), (ap_ne (ne_ap Noz118_1_ob60)), B3, Bz10, Bz24, Guz24_0, T, (by rw [hK3] at hm; exact hm)⟩⟩)))
          · replace hm := cT c120 hm
            have pc120 := of_decide_eq_true c120
            refine cond_t rfl (vb rfl c120) ?_
            refine wp_skip ?_
            refine then_n ?_
            refine wp_seq ?_
            refine wp_block ?_
            refine wp_seq ?_
            refine wp_rs rfl ?_
            refine RQ.y rfl (Y.move (v := .int .i64 i117) s42_3) ?_
            refine RQ.y rfl (Y.assign (v := .int .i64 i117) rfl) ?_
            refine RQ.nil ?_
            refine then_n ?_
            refine wp_rg (fun w' => Below w.heap.size w w' ∧ OwM Try.prog 2 litI encVI w' w.heap.size w2.heap.size z10 ∧ Blk w' w55.heap.size 89 #[.int .i64 z118.kind, .int .i64 z118.level, .int .i64 z118.value, uz118_0, uz118_1]) [(0, true), (1, true), (2, true), (3, true), (4, true), (5, true), (6, true), (7, true), (8, true), (9, false), (10, true), (11, true), (12, true), (13, false)] (by kernel_rfl) (by kernel_rfl) (fun w121 hb122 szw121 => ?_)
            have B3 := blkT B3 hb122
            have Bz10 := OwM.below Bz10 hb122
            have Bz24 := blkT Bz24 hb122
            have Bz118 := blkT Bz118 hb122
            have Guz24_0 := OwN.below agentOw_ok Guz24_0 hb122
            have Guz118_0 := OwF.below Guz118_0 hb122
            have Guz118_1 := OwF.below Guz118_1 hb122
            have T := Tt T hb122
            refine ⟨⟨T, Bz10, Bz118⟩, ?_⟩
            refine RG.y rfl rfl (Y.fieldAddr (off := 4) s11_3 (by kernel_rfl)) ?_
            refine RG.y rfl rfl (Y.load (v := uz118_1) rfl (by kernel_rfl) (fun w' hS => (blkCell hS.2.2 (i := 4) rfl))) ?_
            refine RG.y rfl rfl (Y.move (v := .int .i64 i117) rfl) ?_
            refine RG.y rfl rfl (Y.move (v := .map (some w2.heap.size)) s5_3) ?_
            refine RG.y rfl rfl (Y.fieldAddr (off := 4) s11_3 (by kernel_rfl)) ?_
            refine RG.y rfl rfl (Y.load (v := uz118_1) rfl (by kernel_rfl) (fun w' hS => (blkCell hS.2.2 (i := 4) rfl))) ?_
            refine RG.y rfl rfl (Y.move (v := .int .i64 i117) rfl) ?_
            obtain ⟨A123, c124, rfl⟩ := OwF.form Guz118_1
            have qbA123 := OwF.bound Guz118_1
            obtain ⟨x125, hx127, hm⟩ := bnd hm
            obtain ⟨k126, hk128, hl129, hx127⟩ := getI_some hx127
            obtain ⟨b130, rfl⟩ := OwF.addr0 Guz118_1 (by omega)
            refine RG.y rfl rfl (Y.indexAddr (m := k126) (sz := 2) rfl rfl hk128 hl129 (by kernel_rfl)) ?_
            refine RG.y rfl rfl (Y.fieldAddr (off := 0) rfl (by kernel_rfl)) ?_
            refine RG.act rfl ?_
            refine RL.y rfl (Y.load (v := .int .i64 x125.agent) rfl (by kernel_rfl) (eqC (OwF.cell fPort Guz118_1 hx127 (j := 0) rfl))) ?_
            refine RL.nil ⟨⟨T, Bz10, Bz118⟩, ?_⟩
            obtain ⟨_, kc131, hm⟩ := bnd hm
            replace kc131 := (ck_some kc131).2
            refine RG.y rfl rfl (Y.look (zb := 0) (a := x125.agent) mt_int64_int64 rfl rfl kc131 (fun w' hS => hS.2.1)) ?_
            obtain ⟨x132, hx134, hm⟩ := bnd hm
            obtain ⟨k133, hk135, hl136, hx134⟩ := getI_some hx134
            refine RG.y rfl rfl (Y.indexAddr (m := k133) (sz := 2) rfl rfl hk135 hl136 (by kernel_rfl)) ?_
            refine RG.y rfl rfl (Y.fieldAddr (off := 0) rfl (by kernel_rfl)) ?_
            refine RG.act rfl ?_
            refine RL.storeFj (k := k133) (j := 0) (a := x132) (a' := (⟨(z10.look x125.agent 0), x132.slot⟩ : DPort)) fPort rfl rfl rfl Guz118_1 hx134 (by decide) rfl rfl rfl (by kernel_rfl) (fun w137 G138 ho139 => ?_)
            have szw137 := ho139.size
            have B3 := Blk.only_ B3 ho139 (fun e => Noz118_1_ob5 (by simp at e; rw [e]; rfl))
            have Bz10 := OwM.only Bz10 ho139 (fun e => Noz118_1_ob9 (by simp at e; rw [e]; rfl))
            have Bz24 := Blk.only_ Bz24 ho139 (fun e => Noz118_1_ob15 (by simp at e; rw [e]; rfl))
            have Bz118 := Blk.only_ Bz118 ho139 (fun e => Noz118_1_ob60 (by simp at e; rw [e]; rfl))
            have Guz24_0 := OwN.only agentOw_ok Guz24_0 ho139 ((show Ap bsz24_0 [b130] from (Ap.symm Doz118_1_oz24_0)).one)
            have Guz118_0 := OwF.only Guz118_0 ho139 (fun e => (Dj.symm Doz118_1_oz118_0) _ e rfl)
            have T := T.trans (ho139.below (by intro b hb; simp at hb; subst hb; exact OwF.lo_ Guz118_1 _ rfl))
            have G138 : OwF 53 encPort 2 w137 w.heap.size (.slice (some ⟨b130, 0, none⟩) z118.ports.length c124) (setI z118.ports i117 (⟨(z10.look x125.agent 0), x132.slot⟩ : DPort)) := by rw [hk135, setI_nat]; exact G138
            have hx140 : (setI z118.ports i117 (⟨(z10.look x125.agent 0), x132.slot⟩ : DPort))[k133]? = some (⟨(z10.look x125.agent 0), x132.slot⟩ : DPort) := setI_at hk135 hl136
            have hl141 := lt_of_some hx140
            refine RL.nil ⟨⟨T, Bz10, Bz118⟩, ?_⟩
            refine RG.nil ?_
            refine blk_n (then_n ?_)
            refine wp_rs rfl ?_
            refine RQ.y rfl (Y.binI s42_3 rfl (binI_add (m := i117) (by omega))) ?_
            refine RQ.y rfl (Y.move (v := .int .i64 (i117 + 1)) rfl) ?_
            refine RQ.nil ?_
            exact (then_n ⟨g, _, Nat.lt_succ_self _, rfl, ⟨(i117 + 1), (⟨z118.kind, z118.level, z118.value, z118.data, (setI z118.ports i117 (⟨(z10.look x125.agent 0), x132.slot⟩ : DPort))⟩ : DAgent), (uz118_0), (.slice (some ⟨b130, 0, none⟩) z118.ports.length c124), s0_3, s4_3, s5_3, s8_3, s11_3, s25_3, s26_3, s27_3, s41_3, rfl, (by omega), Bz118, Guz118_0, G138, Doz118_0_oz24_0, (ap_ne (ne_ap Noz118_0_ob5)), (ap_ne (ne_ap Noz118_0_ob9)), (ap_ne (ne_ap Noz118_0_ob15)), (ap_ne (ne_ap Noz118_0_ob60)), (Ap.dj (Dj.ap Doz118_1_oz118_0)), Doz118_1_oz24_0, (ap_ne (ne_ap Noz118_1_ob5)), (ap_ne (ne_ap Noz118_1_ob9)), (ap_ne (ne_ap Noz118_1_ob15)), (ap_ne (ne_ap Noz118_1_ob60)), B3, Bz10, Bz24, Guz24_0, T, (by rw [← hrec3]; exact hm)⟩⟩)
  · rintro g f w146 ⟨i144, z145, s0_1, s1_1, s4_1, s5_1, s14_1, s15_1, s16_1, nn16_1, Bz145, B3, T, hm⟩
    rcases g with _ | g
    · simp only [m_impl_Net_renumber_L1] at hm; cases hm
    obtain ⟨rec1, hrec1, hm⟩ : ∃ z, z = m_impl_Net_renumber_L1 d1 K1 g ∧ m_impl_Net_renumber_B1 d1 z K1 i144 z145 = some r := ⟨_, rfl, hm⟩
    unfold m_impl_Net_renumber_B1 at hm
    refine wp_seq ?_
    refine wp_rs rfl ?_
    refine RQ.y rfl (Y.binI (v := .bool (decide (i144 < (d1.length : Int)))) s16_1 s15_1 rfl) ?_
    refine RQ.nil ?_
    refine then_n ?_
    refine wp_seq ?_
    rcases bcases (decide (i144 < (d1.length : Int))) with c147 | c147
    · replace hm := cF c147 hm
      have pc147 := of_decide_eq_false c147
      refine cond_f rfl (vb rfl c147) ?_
      refine wp_exit ?_
      exact (then_x (then_x (hit_x ⟨_, rfl, ⟨z145, s0_1, s1_1, s4_1, s5_1, Bz145, B3, T, (by rw [hK1] at hm; exact hm)⟩⟩)))
    · replace hm := cT c147 hm
      have pc147 := of_decide_eq_true c147
      refine cond_t rfl (vb rfl c147) ?_
      refine wp_skip ?_
      refine then_n ?_
      refine wp_seq ?_
      refine wp_block ?_
      refine wp_seq ?_
      refine wp_rs rfl ?_
      refine RQ.y rfl (Y.move (v := .int .i64 i144) s16_1) ?_
      obtain ⟨x148, hx151, hm⟩ := bnd hm
      obtain ⟨k149, hk152, hl153, hx151⟩ := getI_some hx151
      obtain ⟨b155, o156, rfl, hbb155⟩ := ha1.addr (by omega)
      obtain ⟨cs150, hRcs150, hc154⟩ := ha1.el hx151
      have hScs150 := hRcs150
      obtain rfl := hRcs150
      refine RQ.y rfl (Y.indexAddr (m := k149) (sz := 1) s14_1 s16_1 hk152 hl153 (by kernel_rfl)) ?_
      refine RQ.y rfl (Y.load (v := .int .i64 x148) rfl (by kernel_rfl) (eqC (cellT T (hc154 0 _ rfl)))) ?_
      refine RQ.y rfl (Y.assign (v := .int .i64 i144) rfl) ?_
      refine RQ.y rfl (Y.assign (v := .int .i64 x148) rfl) ?_
      refine RQ.nil ?_
      refine then_n ?_
      refine wp_rl rfl ?_
      refine RL.y rfl (Y.move (v := .map (some w2.heap.size)) s5_1) ?_
      refine RL.y rfl (Y.move (v := .int .i64 x148) rfl) ?_
      refine RL.y rfl (Y.move (v := .int .i64 i144) rfl) ?_
      obtain ⟨_, kc157, hm⟩ := bnd hm
      replace kc157 := (ck_some kc157).2
      obtain ⟨_, m158, hm⟩ := bnd hm
      have hk159 := mustP_some m158
      refine RL.mapSet (a := x148) (v := i144) (enc := encVI) mt_int64_int64 rfl rfl rfl rfl kc157 Bz145 hk159 (fun w160 B161 ho162 => ?_)
      have szw160 := ho162.size
      have B3 := B3.only_ ho162 (by intro hin; simp at hin; exact Eob9_ob5 hin)
      have T := T.trans (ho162.below (by intro b hb; simp at hb; subst hb; exact Bz145.1))
      refine RL.nil ?_
      refine blk_n (then_n ?_)
      refine wp_rs rfl ?_
      refine RQ.y rfl (Y.binI s16_1 rfl (binI_add (m := i144) (by omega))) ?_
      refine RQ.y rfl (Y.move (v := .int .i64 (i144 + 1)) rfl) ?_
      refine RQ.nil ?_
      exact (then_n ⟨g, _, Nat.lt_succ_self _, rfl, ⟨(i144 + 1), (z145.put x148 i144), s0_1, s1_1, s4_1, s5_1, s14_1, s15_1, rfl, (by omega), B161, B3, T, (by rw [← hrec1]; exact hm)⟩⟩)
def m_impl_RenumberNet (d0 : DNet) (d1 : List Int) : Option (DNet × Int) :=
  ((m_impl_ValidNet d0).bind fun y10 => (bif y10 then ((m_impl_isOrder d1 (d0.agents.length : Int)).bind fun y18 => (bif y18 then ((getI d1 0).bind fun x26 => (bif (x26 != 0) then some ((⟨[]⟩ : DNet), 2) else ((m_impl_Net_renumber d0 d1).bind fun y38 => some (y38, 0)))) else some ((⟨[]⟩ : DNet), 2))) else some ((⟨[]⟩ : DNet), 1)))
set_option maxHeartbeats 2000000 in
theorem c_m_impl_RenumberNet (d0 : DNet) (d1 : List Int) (r : DNet × Int) (hm : m_impl_RenumberNet d0 d1 = some r) (v0 : Value) (v1 : Value) (w : World) (hv0 : St netRd w v0 d0) (hv1 : Sl intRd 1 w v1 d1) :
    Calls Try.prog 33 #[v0, v1] w fun e w' => (∃ (v0 : Value) (bs0 : List Nat), e = .returned (.tuple #[.agg #[v0], .int .i64 r.2]) ∧ OwN 89 agentOw 5 w' w.heap.size v0 r.1.agents bs0) ∧ Below w.heap.size w w' := by
  obtain ⟨csa0, rfl, ⟨A1, n1, c1, rfl, ⟨h1, r1⟩⟩⟩ := hv0
  have e1 := h1.len; subst e1
  have q1 := len_le r1
  obtain ⟨Aa1, na1, ca1, rfl, ha1, ra1⟩ := hv1
  have ea1 := ha1.len; subst ea1
  have qa1 := len_le ra1
  have T := Below.refl w.heap.size w
  unfold m_impl_RenumberNet at hm
  refine enter 25 Try.func33 rfl rfl rfl ?_
  intro f hf
  have s0 : f 0 = .agg #[.slice A1 d0.agents.length c1] := hf 0 _ rfl
  have s1 : f 1 = .slice Aa1 d1.length ca1 := hf 1 _ rfl
  refine wp_seq ?_
  refine wp_rl rfl ?_
  refine RL.box rfl s0 (fun w2 B3 hb4 szw2 => ?_)
  replace B3 : Blk w2 w.heap.size 30 #[.slice A1 d0.agents.length c1] := B3
  have GB3 : w.heap.size ≤ w.heap.size := T.size
  have T := Tt T hb4
  refine RL.alloc (z := .agg #[.slice none 0 0]) rfl (by kernel_rfl) (fun w6 B7 hb8 szw6 => ?_)
  replace B7 : Blk w6 w2.heap.size 30 #[.slice none 0 0] := B7
  have GB7 : w.heap.size ≤ w2.heap.size := T.size
  have Eob9_ob5 := Nat.ne_of_lt B3.lt
  have B3 := blkT B3 hb8
  have T := Tt T hb8
  refine RL.y rfl (Y.assign (v := .int .i64 0) rfl) ?_
  refine RL.nil ?_
  refine then_n ?_
  refine wp_seq ?_
  refine wp_seq ?_
  refine wp_rb rfl ?_
  refine RQ.y rfl (Y.loadN (cs := [.slice A1 d0.agents.length c1]) rfl (by kernel_rfl) (cells1 (beC (blkCell B3 (i := 0) rfl)))) ?_
  obtain ⟨y10, e11, hm⟩ := bnd hm
  refine RQ.call rfl (am1 rfl) (by kernel_rfl) (v := .bool y10) (bel (K := fun _ => True) fun w' hb' => (c_m_impl_ValidNet d0 _ e11 _ w' (stArg (R := netRd) ⟨_, _, _, rfl, ⟨SlAt.now agentRd_ok h1 (Nat.le_refl _) (Tt T hb'), r1⟩⟩))) ?_
  refine RQ.y rfl (Y.not (b' := (!y10)) rfl rfl) ?_
  refine RQ.nil ?_
  intro w12 hb13
  have szw12 := hb13.size
  have B3 := blkT B3 hb13
  have B7 := blkT B7 hb13
  have T := Tt T hb13
  refine then_n ?_
  rcases bcases y10 with c14 | c14
  · replace hm := cF c14 hm
    refine cond_t rfl (vbn rfl c14 rfl) ?_
    refine wp_seq ?_
    refine wp_rl rfl ?_
    refine RL.y rfl (Y.build0 (cells := #[.slice none 0 0])  (by kernel_rfl) (by kernel_rfl)) ?_
    refine RL.store (v := .agg #[.slice none 0 0]) (cs' := #[.slice none 0 0]) rfl rfl rfl B7 (by kernel_rfl) (by rfl) (by rfl) (by rfl) (fun w15 B16 ho17 => ?_)
    have szw15 := ho17.size
    have B3 := B3.only_ ho17 (by intro hin; simp at hin; exact Eob9_ob5 hin)
    have T := T.trans (ho17.below (by first | (simp; done) | (simp; omega)))
    refine RL.y rfl (Y.assign (v := .int .i64 1) rfl) ?_
    refine RL.nil ?_
    refine then_n ?_
    refine wp_ret ?_
    obtain rfl := Option.some.inj hm
    exact (then_r (retct (cs := [.slice none 0 0]) rfl rfl rfl rfl (by kernel_rfl) (blkCells B16) ⟨⟨_, _, rfl, OwN.nil⟩, T⟩))
  · replace hm := cT c14 hm
    refine cond_f rfl (vbn rfl c14 rfl) ?_
    refine wp_skip ?_
    refine then_n ?_
    refine wp_seq ?_
    refine wp_seq ?_
    refine wp_rb rfl ?_
    refine RQ.y rfl (Y.move (v := .slice Aa1 d1.length ca1) s1) ?_
    refine RQ.y rfl (Y.fieldAddr (off := 0) rfl (by kernel_rfl)) ?_
    refine RQ.y rfl (Y.load (v := .slice A1 d0.agents.length c1) rfl (by kernel_rfl) (beC (blkCell B3 (i := 0) rfl))) ?_
    refine RQ.y rfl (Y.len (by kernel_rfl) rfl) ?_
    obtain ⟨y18, e19, hm⟩ := bnd hm
    refine RQ.call rfl (am2 rfl rfl) (by kernel_rfl) (v := .bool y18) (bel (K := fun _ => True) fun w' hb' => (c_m_impl_isOrder d1 (d0.agents.length : Int) _ e19 _ w' (slArg intRd_ok ha1 ra1 (Tt T hb')))) ?_
    refine RQ.y rfl (Y.not (b' := (!y18)) rfl rfl) ?_
    refine RQ.y rfl (Y.move (v := .bool (!y18)) rfl) ?_
    rcases bcases y18 with c20 | c20
    · replace hm := cF c20 hm
      refine RQ.skip (wantN (dj := 16) rfl (vbn rfl c20 rfl) rfl) ?_
      refine RQ.skip (wantN (dj := 16) rfl (vbn rfl c20 rfl) rfl) ?_
      refine RQ.skip (wantN (dj := 16) rfl (vbn rfl c20 rfl) rfl) ?_
      refine RQ.skip (wantN (dj := 16) rfl (vbn rfl c20 rfl) rfl) ?_
      refine RQ.y rfl (Y.pick (b := true) (v := .bool true) (vbn rfl c20 rfl) rfl) ?_
      refine RQ.nil ?_
      intro w21 hb22
      have szw21 := hb22.size
      have B3 := blkT B3 hb22
      have B7 := blkT B7 hb22
      have T := Tt T hb22
      refine then_n ?_
      refine cond_t rfl rfl ?_
      refine wp_seq ?_
      refine wp_rl rfl ?_
      refine RL.y rfl (Y.build0 (cells := #[.slice none 0 0])  (by kernel_rfl) (by kernel_rfl)) ?_
      refine RL.store (v := .agg #[.slice none 0 0]) (cs' := #[.slice none 0 0]) rfl rfl rfl B7 (by kernel_rfl) (by rfl) (by rfl) (by rfl) (fun w23 B24 ho25 => ?_)
      have szw23 := ho25.size
      have B3 := B3.only_ ho25 (by intro hin; simp at hin; exact Eob9_ob5 hin)
      have T := T.trans (ho25.below (by first | (simp; done) | (simp; omega)))
      refine RL.y rfl (Y.assign (v := .int .i64 2) rfl) ?_
      refine RL.nil ?_
      refine then_n ?_
      refine wp_ret ?_
      obtain rfl := Option.some.inj hm
      exact (then_r (retct (cs := [.slice none 0 0]) rfl rfl rfl rfl (by kernel_rfl) (blkCells B24) ⟨⟨_, _, rfl, OwN.nil⟩, T⟩))
    · replace hm := cT c20 hm
      refine RQ.y (wantT (dj := 16) rfl (vbn rfl c20 rfl)) (Y.move (v := .slice Aa1 d1.length ca1) s1) ?_
      obtain ⟨x26, hx29, hm⟩ := bnd hm
      obtain ⟨k27, hk30, hl31, hx29⟩ := getI_some hx29
      obtain ⟨b33, o34, rfl, hbb33⟩ := ha1.addr (by omega)
      obtain ⟨cs28, hRcs28, hc32⟩ := ha1.el hx29
      have hScs28 := hRcs28
      obtain rfl := hRcs28
      refine RQ.y (wantT (dj := 16) rfl (vbn rfl c20 rfl)) (Y.indexAddr (m := k27) (sz := 1) rfl rfl hk30 hl31 (by kernel_rfl)) ?_
      refine RQ.y (wantT (dj := 16) rfl (vbn rfl c20 rfl)) (Y.load (v := .int .i64 x26) rfl (by kernel_rfl) (beC (cellT T (hc32 0 _ rfl)))) ?_
      refine RQ.y (wantT (dj := 16) rfl (vbn rfl c20 rfl)) (Y.binI (v := .bool (x26 != 0)) rfl rfl rfl) ?_
      refine RQ.y rfl (Y.pick (b := false) (v := .bool (x26 != 0)) (vbn rfl c20 rfl) rfl) ?_
      refine RQ.nil ?_
      intro w35 hb36
      have szw35 := hb36.size
      have B3 := blkT B3 hb36
      have B7 := blkT B7 hb36
      have T := Tt T hb36
      refine then_n ?_
      rcases bcases (x26 != 0) with c37 | c37
      · replace hm := cF c37 hm
        refine cond_f rfl (vb rfl c37) ?_
        refine wp_skip ?_
        refine then_n ?_
        refine wp_seq ?_
        refine wp_rl rfl ?_
        refine RL.y rfl (Y.move (v := .slice (some ⟨b33, o34, none⟩) d1.length ca1) s1) ?_
        obtain ⟨y38, e39, hm⟩ := bnd hm
        refine RL.call rfl (am2 rfl rfl) (by kernel_rfl) ((c_m_impl_Net_renumber d0 d1 _ e39 _ _ _ (ptBox (R := netRd) B3 ⟨_, _, _, rfl, ⟨SlAt.now agentRd_ok h1 (Nat.le_refl _) T, r1⟩⟩) (slArg intRd_ok ha1 ra1 T)).mono ?_)
        rintro _ w44 ⟨⟨v40, bs43, rfl, G41⟩, hb45⟩
        refine ⟨_, rfl, ?_⟩
        have szw44 := hb45.size
        have T0w44 := T.size
        have Zo42_ob5 : Ap bs43 [w.heap.size] := (Ap.new (OwN.lo_ G41) (one_hi B3.lt))
        have Zo42_ob9 : Ap bs43 [w2.heap.size] := (Ap.new (OwN.lo_ G41) (one_hi B7.lt))
        have B3 := blkT B3 hb45
        have B7 := blkT B7 hb45
        have T := Tt T hb45
        replace G41 := OwN.mono G41 T0w44
        obtain ⟨A46, c47, rfl⟩ := OwN.form G41
        have qbA46 := OwN.bound G41
        refine RL.store (v := .agg #[.slice A46 y38.agents.length c47]) (cs' := #[.slice A46 y38.agents.length c47]) rfl rfl rfl B7 (by kernel_rfl) (by rfl) (by rfl) (by rfl) (fun w48 B49 ho50 => ?_)
        have szw48 := ho50.size
        have B3 := B3.only_ ho50 (by intro hin; simp at hin; exact Eob9_ob5 hin)
        have G41 := OwN.only agentOw_ok G41 ho50 (Ap.one Zo42_ob9)
        have T := T.trans (ho50.below (by first | (simp; done) | (simp; omega)))
        refine RL.y rfl (Y.assign (v := .int .i64 0) rfl) ?_
        refine RL.nil ?_
        refine then_n ?_
        refine wp_ret ?_
        obtain rfl := Option.some.inj hm
        exact (retct (cs := [.slice A46 y38.agents.length c47]) rfl rfl rfl rfl (by kernel_rfl) (blkCells B49) ⟨⟨_, _, rfl, G41⟩, T⟩)
      · replace hm := cT c37 hm
        refine cond_t rfl (vb rfl c37) ?_
        refine wp_seq ?_
        refine wp_rl rfl ?_
        refine RL.y rfl (Y.build0 (cells := #[.slice none 0 0])  (by kernel_rfl) (by kernel_rfl)) ?_
        refine RL.store (v := .agg #[.slice none 0 0]) (cs' := #[.slice none 0 0]) rfl rfl rfl B7 (by kernel_rfl) (by rfl) (by rfl) (by rfl) (fun w51 B52 ho53 => ?_)
        have szw51 := ho53.size
        have B3 := B3.only_ ho53 (by intro hin; simp at hin; exact Eob9_ob5 hin)
        have T := T.trans (ho53.below (by first | (simp; done) | (simp; omega)))
        refine RL.y rfl (Y.assign (v := .int .i64 2) rfl) ?_
        refine RL.nil ?_
        refine then_n ?_
        refine wp_ret ?_
        obtain rfl := Option.some.inj hm
        exact (then_r (retct (cs := [.slice none 0 0]) rfl rfl rfl rfl (by kernel_rfl) (blkCells B52) ⟨⟨_, _, rfl, OwN.nil⟩, T⟩))
end
section
open Go.RowKit
set_option linter.unusedVariables false
set_option linter.unusedSimpArgs false
def seenL (n : Nat) (l : List Int) : List Bool := (List.range n).map fun (i : Nat) => decide ((i : Int) ∈ l)
theorem seenL_get {n : Nat} {l : List Int} {a : Int} (h0 : 0 ≤ a) (h1 : a < n) : getI (seenL n l) a = some (decide (a ∈ l)) := by
  obtain ⟨k, rfl⟩ := Int.eq_ofNat_of_zero_le h0
  refine getI_nat ?_
  unfold seenL
  rw [List.getElem?_map, List.getElem?_range (by omega)]
  rfl
theorem seenL_set {n : Nat} {l : List Int} {a : Int} (h0 : 0 ≤ a) (h1 : a < n) : setI (seenL n l) a true = seenL n (l ++ [a]) := by
  obtain ⟨k, rfl⟩ := Int.eq_ofNat_of_zero_le h0
  rw [setI_nat]
  apply List.ext_getElem?
  intro i
  unfold seenL
  rw [List.getElem?_set]
  by_cases hi : i < n
  · rw [List.getElem?_map, List.getElem?_map, List.getElem?_range hi]
    simp only [Option.map_some]
    by_cases hk : k = i
    · subst hk
      simp [hi]
    · have : ¬ ((i : Int) = (k : Int)) := by omega
      rw [if_neg hk]; simp [this]
  · have : ¬ k = i := by omega
    rw [if_neg this, List.getElem?_map, List.getElem?_map, List.getElem?_eq_none (by simp; omega)]
    rfl
theorem seenL_nil (n : Nat) : List.replicate n false = seenL n [] := by
  apply List.ext_getElem?
  intro i
  unfold seenL
  by_cases hi : i < n
  · rw [List.getElem?_map, List.getElem?_range hi]; simp [hi]
  · rw [List.getElem?_eq_none (by simp; omega), List.getElem?_eq_none (by simp; omega)]
def OneAt (n : Nat) (l : List Int) (k : Nat) : Prop := ∃ a, l[k]? = some a ∧ 0 ≤ a ∧ a < n ∧ a ∉ l.take k
theorem gl_iff {n : Nat} {l : List Int} : (∀ k, k < l.length → OneAt n l k) ↔ GL n l := by
  constructor
  · intro h
    refine ⟨?_, fun a ha => ?_⟩
    · rw [List.nodup_iff_pairwise_ne, List.pairwise_iff_getElem]
      intro i j hi hj hij e
      obtain ⟨a, ha, _, _, hn⟩ := h j hj
      rw [List.getElem?_eq_getElem hj] at ha
      injection ha with ha
      apply hn
      rw [← ha, ← e]
      have : (l.take j)[i]? = some l[i] := by rw [List.getElem?_take, if_pos hij, List.getElem?_eq_getElem hi]
      exact List.mem_of_getElem? this
    · obtain ⟨k, hk, rfl⟩ := List.getElem_of_mem ha
      obtain ⟨a, ha, h0, h1, _⟩ := h k hk
      rw [List.getElem?_eq_getElem hk] at ha
      injection ha with ha
      rw [ha]; exact ⟨h0, h1⟩
  · intro h k hk
    refine ⟨l[k], List.getElem?_eq_getElem hk, (h.inr _ (List.getElem_mem hk)).1, (h.inr _ (List.getElem_mem hk)).2, fun hin => ?_⟩
    obtain ⟨i, hi, e⟩ := List.getElem_of_mem hin
    rw [List.length_take] at hi
    rw [List.getElem_take] at e
    exact List.pairwise_iff_getElem.1 (List.nodup_iff_pairwise_ne.1 h.nd) i k (by omega) hk (by omega) e
theorem GL.full {n : Nat} {l : List Int} (h : GL n l) (hl : l.length = n) {a : Int} (h0 : 0 ≤ a) (h1 : a < n) : a ∈ l := by
  apply Classical.byContradiction
  intro hn
  have := (h.add h0 h1 hn).len
  rw [List.length_append] at this
  simp at this
  omega
structure OrdOk (n : Nat) (l : List Int) : Prop where
  gl : GL n l
  len : l.length = n
  zero : l[0]? = some 0
theorem seen_loop {L : Nat → List Bool → Int → Option Bool} {n : Nat} {l : List Int}
    (h : ∀ g (k : Nat) a s, l[k]? = some a → s = seenL n (l.take k) → L (g + 1) s (k : Int) = if 0 ≤ a ∧ a < n ∧ a ∉ l.take k then L g (setI s a true) ((k : Int) + 1) else some false) (he : ∀ g s, L (g + 1) s (l.length : Int) = some true) (g : Nat) (hg : l.length < g) :
    (GL n l ∧ L g (seenL n []) 0 = some true) ∨ (¬ GL n l ∧ L g (seenL n []) 0 = some false) := by
  have key := allO (L := fun g (i : Int) => L g (seenL n (l.take i.toNat)) i) (n := l.length) (p := OneAt n l) (no := some false) (K := some true)
    (fun g k hk ⟨a, ha, h0, h1, hn⟩ => by
      rw [show ((k : Int) + 1).toNat = k + 1 by omega, Int.toNat_natCast, h g k a _ ha rfl, if_pos ⟨h0, h1, hn⟩, seenL_set h0 h1, ← take_succ_some ha])
    (fun g k hk hn => by
      have ha := List.getElem?_eq_getElem hk
      rw [Int.toNat_natCast, h g k _ _ ha rfl, if_neg (fun hp => hn ⟨_, ha, hp⟩)])
    (fun g => he g _) g hg
  rw [gl_iff] at key
  simpa using key
theorem p_sOrder {n : Nat} (h1 : 1 ≤ n) (h6 : n ≤ 600) (l : List Int) : (OrdOk n l ∧ m_spec_l11Order l (n : Int) = some true) ∨ (¬ OrdOk n l ∧ m_spec_l11Order l (n : Int) = some false) := by
  unfold m_spec_l11Order
  by_cases hl : l.length = n
  · rw [show ((l.length : Int) != (n : Int)) = false by simp [hl], cond_false, show decide ((n : Int) < 1) = false by simp; omega, cond_false]
    have h0 := List.getElem?_eq_getElem (show 0 < l.length by omega)
    rw [show getI l 0 = some l[0] from getI_nat (k := 0) h0, Option.bind_some]
    by_cases hz : l[0] = 0
    · rw [show (l[0] != 0) = false by simp [hz], cond_false]
      have build := traj (L := fun g (s : List Bool × Int) => m_spec_l11Order_L1 (m_spec_l11Order_A1 l n) g s.1 s.2) (st := fun j => (List.replicate j false, (n : Int) - (j : Int))) (n := n) (r := m_spec_l11Order_A1 l n (List.replicate n false))
        (fun g j hj => by
          simp -implicitDefEqProofs only [m_spec_l11Order_L1, m_spec_l11Order_B1]
          rw [show decide ((n : Int) - (j : Int) > 0) = true by simp; omega, cond_true, mustP_ok (by simp; omega), Option.bind_some, ck_ok (by omega), Option.bind_some]
          rw [List.replicate_succ', show (n : Int) - (j : Int) - 1 = (n : Int) - ((j + 1 : Nat) : Int) by omega])
        (fun g => by
          simp -implicitDefEqProofs only [m_spec_l11Order_L1, m_spec_l11Order_B1]
          rw [show decide ((n : Int) - (n : Int) > 0) = false by simp, cond_false]) ((n : Int).toNat + 2) (by omega)
      have e0 : m_spec_l11Order_L1 (m_spec_l11Order_A1 l (n : Int)) ((n : Int).toNat + 2) [] (n : Int) = m_spec_l11Order_A1 l n (List.replicate n false) := by simpa using build
      rw [e0, seenL_nil]
      have key := seen_loop (L := m_spec_l11Order_L2 l n m_spec_l11Order_A2) (n := n) (l := l)
        (fun g k a s ha hs => by
          have hk := lt_of_some ha
          simp -implicitDefEqProofs only [m_spec_l11Order_L2, m_spec_l11Order_B2, dlt hk, cond_true, getI_nat ha, Option.bind_some]
          rw [ck_ok (by omega), Option.bind_some]
          by_cases hr : 0 ≤ a ∧ a < n
          · rw [show inR a 0 ((n : Int) - 1) = true by simp [inR]; omega, cond_true, hs, seenL_get hr.1 hr.2, Option.bind_some]
            by_cases hin : a ∈ l.take k
            · rw [decide_eq_true hin, cond_true, if_neg (fun h => h.2.2 hin)]
            · rw [decide_eq_false hin, cond_false, Option.bind_some, if_pos ⟨hr.1, hr.2, hin⟩]
          · rw [show inR a 0 ((n : Int) - 1) = false by simp [inR]; omega, cond_false, if_neg (fun h => hr ⟨h.1, h.2.1⟩)])
        (fun g s => by simp -implicitDefEqProofs only [m_spec_l11Order_L2, m_spec_l11Order_B2, dge, cond_false, m_spec_l11Order_A2]) (l.length + 1) (Nat.lt_succ_self _)
      rcases key with ⟨hg, hk⟩ | ⟨hg, hk⟩
      · exact .inl ⟨⟨hg, hl, by rw [h0, hz]⟩, hk⟩
      · exact .inr ⟨fun h => hg h.gl, hk⟩
    · rw [show (l[0] != 0) = true by simpa using hz, cond_true]
      exact .inr ⟨fun h => hz (by have := h.zero; rw [h0] at this; injection this), rfl⟩
  · rw [show ((l.length : Int) != (n : Int)) = true by simp; omega, cond_true]
    exact .inr ⟨fun h => hl h.len, rfl⟩
theorem p_iOrder {n : Nat} (h6 : n ≤ 600) (l : List Int) : ((GL n l ∧ l.length = n) ∧ m_impl_isOrder l (n : Int) = some true) ∨ (¬ (GL n l ∧ l.length = n) ∧ m_impl_isOrder l (n : Int) = some false) := by
  unfold m_impl_isOrder
  by_cases hl : l.length = n
  · rw [show ((l.length : Int) != (n : Int)) = false by simp [hl], cond_false, mustP_ok (by omega), Option.bind_some, Int.toNat_natCast, seenL_nil]
    have key := seen_loop (L := m_impl_isOrder_L1 l n m_impl_isOrder_A1) (n := n) (l := l)
      (fun g k a s ha hs => by
        have hk := lt_of_some ha
        simp -implicitDefEqProofs only [m_impl_isOrder_L1, m_impl_isOrder_B1, dlt hk, cond_true, getI_nat ha, Option.bind_some]
        by_cases h0 : a < 0
        · rw [decide_eq_true h0, cond_true, if_neg (fun h => by omega)]
        · rw [decide_eq_false h0, cond_false]
          by_cases h1 : a ≥ n
          · rw [decide_eq_true h1, cond_true, if_neg (fun h => by omega)]
          · rw [decide_eq_false h1, cond_false, hs, seenL_get (by omega) (by omega), Option.bind_some]
            by_cases hin : a ∈ l.take k
            · rw [decide_eq_true hin, cond_true, if_neg (fun h => h.2.2 hin)]
            · rw [decide_eq_false hin, cond_false, Option.bind_some, if_pos ⟨by omega, by omega, hin⟩])
      (fun g s => by simp -implicitDefEqProofs only [m_impl_isOrder_L1, m_impl_isOrder_B1, dge, cond_false, m_impl_isOrder_A1]) (l.length + 1) (Nat.lt_succ_self _)
    rcases key with ⟨hg, hk⟩ | ⟨hg, hk⟩
    · exact .inl ⟨⟨hg, hl⟩, hk⟩
    · exact .inr ⟨fun h => hg h.1, hk⟩
  · rw [show ((l.length : Int) != (n : Int)) = true by simp; omega, cond_true]
    exact .inr ⟨fun h => hl h.2, rfl⟩
def renP (l : List Int) (p : DPort) : DPort := ⟨posOf l p.agent, p.slot⟩
def renA (l : List Int) (x : DAgent) : DAgent := ⟨x.kind, x.level, x.value, x.data, x.ports.map (renP l)⟩
def renL (xs : List DAgent) (l : List Int) : List DAgent := l.map fun a => renA l (agentAt xs a)
/-- The agents of l lead to agents of l alone. -/
def Shut (xs : List DAgent) (l : List Int) : Prop := ∀ a ∈ l, ∀ p ∈ (agentAt xs a).ports, p.agent ∈ l
def nowL (l : List Int) : Nat → List Int
  | 0 => l
  | k + 1 => setI (nowL l k) (l[k]?.getD 0) (k : Int)
theorem nowL_len (l : List Int) : ∀ k, (nowL l k).length = l.length
  | 0 => rfl
  | k + 1 => by unfold nowL setI; rw [List.length_set, nowL_len l k]
theorem getI_setI {s : List Int} {a b v : Int} (h0 : 0 ≤ a) (h1 : a < s.length) (hb : 0 ≤ b) : getI (setI s a v) b = if b = a then some v else getI s b := by
  obtain ⟨i, rfl⟩ := Int.eq_ofNat_of_zero_le h0
  obtain ⟨j, rfl⟩ := Int.eq_ofNat_of_zero_le hb
  rw [setI_nat]
  unfold getI
  rw [if_pos hb, Int.toNat_natCast, List.getElem?_set]
  by_cases h : i = j
  · subst h; simp; omega
  · rw [if_neg h, if_neg (by omega : ¬ ((j : Int) = (i : Int)))]
    simp
theorem nowL_at {n : Nat} {l : List Int} (h : GL n l) (hl : l.length = n) : ∀ k, k ≤ l.length → ∀ i (hi : i < k) (hil : i < l.length), getI (nowL l k) l[i] = some (i : Int)
  | 0, _, i, hi, _ => by omega
  | k + 1, hk, i, hi, hil => by
    have hkl : k < l.length := hk
    have e : l[k]?.getD 0 = l[k] := by rw [List.getElem?_eq_getElem hkl]; rfl
    have hr := h.inr _ (List.getElem_mem hkl)
    have hri := h.inr _ (List.getElem_mem hil)
    unfold nowL
    rw [e, getI_setI hr.1 (by rw [nowL_len]; omega) hri.1]
    by_cases hik : i = k
    · subst hik; rw [if_pos rfl]
    · have hne : l[i] ≠ l[k] := List.pairwise_iff_getElem.1 (List.nodup_iff_pairwise_ne.1 h.nd) i k hil hkl (by omega)
      rw [if_neg hne]
      exact nowL_at h hl k (by omega) i (by omega) hil
theorem nowL_pos {n : Nat} {l : List Int} (h : GL n l) (hl : l.length = n) {a : Int} (ha : a ∈ l) : getI (nowL l l.length) a = some (posOf l a) := by
  have hi := List.idxOf_lt_length_of_mem ha
  have := nowL_at h hl l.length (Nat.le_refl _) (l.idxOf a) hi hi
  rw [List.getElem_idxOf] at this
  rw [this]
  unfold posOf
  rw [if_pos ha]
theorem p_sRenumber {xs : List DAgent} (hs : Small xs) (h6 : xs.length ≤ 600) {l : List Int} (h : GL xs.length l) (hl : l.length = xs.length) (hsh : Shut xs l) : m_spec_l11Renumber ⟨xs⟩ l = some ⟨renL xs l⟩ := by
  unfold m_spec_l11Renumber m_spec_l00Own
  rw [mustP_ok (by simp; omega), Option.bind_some, Option.bind_some, List.nil_append]
  have k1 := traj (L := fun g (s : List Int × Int) => m_spec_l11Renumber_L1 l (m_spec_l11Renumber_A1 ⟨xs⟩ l) g s.1 s.2) (st := fun k => (nowL l k, (k : Int))) (n := l.length) (r := m_spec_l11Renumber_A1 ⟨xs⟩ l (nowL l l.length))
    (fun g k hk => by
      have hr := h.inr _ (List.getElem_mem hk)
      obtain ⟨v, hv⟩ : ∃ v, getI (nowL l k) l[k] = some v := by
        obtain ⟨j, hj⟩ := Int.eq_ofNat_of_zero_le hr.1
        rw [hj]
        exact ⟨_, getI_lt (show j < (nowL l k).length by rw [nowL_len]; omega)⟩
      have e : l[k]?.getD 0 = l[k] := by rw [List.getElem?_eq_getElem hk]; rfl
      simp -implicitDefEqProofs only [m_spec_l11Renumber_L1, m_spec_l11Renumber_B1, dlt hk, cond_true, getI_lt hk, Option.bind_some, hv]
      have e2 : nowL l (k + 1) = setI (nowL l k) l[k] (k : Int) := by rw [nowL, e]
      rw [e2]; simp only [Int.natCast_add, Int.cast_ofNat_Int])
    (fun g => by simp -implicitDefEqProofs only [m_spec_l11Renumber_L1, m_spec_l11Renumber_B1, dge, cond_false]) (l.length + 1) (Nat.lt_succ_self _)
  refine k1.trans ?_
  unfold m_spec_l11Renumber_A1
  have key := (appL (L := fun g acc i => m_spec_l11Renumber_L2 ⟨xs⟩ l (nowL l l.length) m_spec_l11Renumber_A2 g i ⟨acc⟩) (d := l) (f := fun a => [renA l (agentAt xs a)]) (B := 1) (M := 4294967296) (K := fun acc => some (⟨acc⟩ : DNet))
    (fun x _ => by simp)
    (fun g k a acc ha hM => by
      have hk := lt_of_some ha
      have ham := List.mem_of_getElem? ha
      obtain ⟨a0, a1⟩ := h.inr a ham
      obtain ⟨i, rfl⟩ := Int.eq_ofNat_of_zero_le a0
      have hx := List.getElem?_eq_getElem (show i < xs.length by omega)
      have hsa := hsh _ ham
      rw [agentAt_nat hx] at hsa hM ⊢
      have hsz := small_sz hs hx
      simp -implicitDefEqProofs only [m_spec_l11Renumber_L2, m_spec_l11Renumber_B2, dlt hk, cond_true, getI_nat ha, getI_nat hx, Option.bind_some, p_ownAgent hsz]
      generalize xs[i] = x at *
      have inner := traj (L := fun g' (s : Int × List DPort) => m_spec_l11Renumber_L3 (nowL l l.length) (m_spec_l11Renumber_A3 (m_spec_l11Renumber_L2 ⟨xs⟩ l (nowL l l.length) m_spec_l11Renumber_A2 g) (k : Int) ⟨acc⟩) g' s.1 ⟨x.kind, x.level, x.value, x.data, s.2⟩)
        (st := fun j => ((j : Int), midL (renP l) x.ports j)) (n := x.ports.length) (r := m_spec_l11Renumber_L2 ⟨xs⟩ l (nowL l l.length) m_spec_l11Renumber_A2 g ((k : Int) + 1) ⟨acc ++ [renA l x]⟩)
        (fun g' j hj => by
          have hp := List.getElem?_eq_getElem hj
          have hm := midL_get (f := renP l) hp
          have hst := midL_step (f := renP l) hp
          have hln := midL_len (f := renP l) (xs := x.ports) (k := j) (by omega)
          have hn := nowL_pos h hl (hsa _ (List.getElem_mem hj))
          simp -implicitDefEqProofs only [m_spec_l11Renumber_L3, m_spec_l11Renumber_B3, hln, dlt hj, cond_true, getI_nat hm, Option.bind_some, hn]
          have hq : (⟨posOf l x.ports[j].agent, x.ports[j].slot⟩ : DPort) = renP l x.ports[j] := rfl
          rw [setI_nat, hq, hst]
          simp only [Int.natCast_add, Int.cast_ofNat_Int])
        (fun g' => by
          have hln := midL_len (f := renP l) (xs := x.ports) (k := x.ports.length) (by omega)
          simp -implicitDefEqProofs only [m_spec_l11Renumber_L3, m_spec_l11Renumber_B3, hln, dge, cond_false, m_spec_l11Renumber_A3]
          rw [mustP_ok (by simpa using hM), Option.bind_some, ck_ok (by omega), Option.bind_some, midL_end]
          rfl) (x.ports.length + 1) (Nat.lt_succ_self _)
      simpa [midL_zero] using inner)
    (fun g acc => by simp -implicitDefEqProofs only [m_spec_l11Renumber_L2, m_spec_l11Renumber_B2, dge, cond_false, m_spec_l11Renumber_A2])
    [] (l.length + 1) (by omega) (by simp; omega)).1
  have e : l.flatMap (fun a => [renA l (agentAt xs a)]) = renL xs l := by
    unfold renL
    rw [← flat_id (l.map _), List.flatMap_map]
  rw [e] at key
  simpa using key
theorem p_iRenumber {xs : List DAgent} (hs : Small xs) (h6 : xs.length ≤ 600) {l : List Int} (h : GL xs.length l) (hsh : Shut xs l) : m_impl_Net_renumber ⟨xs⟩ l = some ⟨renL xs l⟩ := by
  have hlen := h.len
  unfold m_impl_Net_renumber
  have k1 := traj (L := fun g (q : Int × MapM Int Int) => m_impl_Net_renumber_L1 l (m_impl_Net_renumber_A1 ⟨xs⟩ l) g q.1 q.2) (st := fun k => ((k : Int), placeOf l k)) (n := l.length) (r := m_impl_Net_renumber_A1 ⟨xs⟩ l (placeOf l l.length))
    (fun g k hk => by
      obtain ⟨a0, a1⟩ := h.inr _ (List.getElem_mem hk)
      have hpn := placeOf_n l k
      simp -implicitDefEqProofs only [m_impl_Net_renumber_L1, m_impl_Net_renumber_B1, dlt hk, cond_true, getI_lt hk, Option.bind_some]
      rw [ck_ok (by omega), Option.bind_some, mustP_ok (by omega), Option.bind_some]
      have e : placeOf l (k + 1) = (placeOf l k).put l[k] (k : Int) := by
        show (placeOf l k).put (l[k]?.getD 0) (k : Int) = _
        rw [List.getElem?_eq_getElem hk]; rfl
      rw [e]; simp only [Int.natCast_add, Int.cast_ofNat_Int])
    (fun g => by simp -implicitDefEqProofs only [m_impl_Net_renumber_L1, m_impl_Net_renumber_B1, dge, cond_false]) (l.length + 1) (Nat.lt_succ_self _)
  refine k1.trans ?_
  unfold m_impl_Net_renumber_A1
  have key := (appL (L := fun g acc i => m_impl_Net_renumber_L2 ⟨xs⟩ l (placeOf l l.length) m_impl_Net_renumber_A2 g i ⟨acc⟩) (d := l) (f := fun a => [renA l (agentAt xs a)]) (B := 1) (M := 4294967296) (K := fun acc => some (⟨acc⟩ : DNet))
    (fun x _ => by simp)
    (fun g k a acc ha hM => by
      have hk := lt_of_some ha
      have ham := List.mem_of_getElem? ha
      obtain ⟨a0, a1⟩ := h.inr a ham
      obtain ⟨i, rfl⟩ := Int.eq_ofNat_of_zero_le a0
      have hx := List.getElem?_eq_getElem (show i < xs.length by omega)
      have hsa := hsh _ ham
      rw [agentAt_nat hx] at hsa hM ⊢
      have hsz := small_sz hs hx
      simp -implicitDefEqProofs only [m_impl_Net_renumber_L2, m_impl_Net_renumber_B2, dlt hk, cond_true, getI_nat ha, getI_nat hx, Option.bind_some, p_copyAgent hsz]
      generalize xs[i] = x at *
      have inner := traj (L := fun g' (s : Int × List DPort) => m_impl_Net_renumber_L3 (placeOf l l.length) x (m_impl_Net_renumber_A3 (m_impl_Net_renumber_L2 ⟨xs⟩ l (placeOf l l.length) m_impl_Net_renumber_A2 g) (k : Int) ⟨acc⟩) g' s.1 ⟨x.kind, x.level, x.value, x.data, s.2⟩)
        (st := fun j => ((j : Int), midL (renP l) x.ports j)) (n := x.ports.length) (r := m_impl_Net_renumber_L2 ⟨xs⟩ l (placeOf l l.length) m_impl_Net_renumber_A2 g ((k : Int) + 1) ⟨acc ++ [renA l x]⟩)
        (fun g' j hj => by
          have hp := List.getElem?_eq_getElem hj
          have hm := midL_get (f := renP l) hp
          have hst := midL_step (f := renP l) hp
          have hpa := hsa _ (List.getElem_mem hj)
          have hn := placeOf_pos h.nd hpa
          obtain ⟨b0, b1⟩ := h.inr _ hpa
          simp -implicitDefEqProofs only [m_impl_Net_renumber_L3, m_impl_Net_renumber_B3, dlt hj, cond_true, getI_nat hm, Option.bind_some]
          rw [ck_ok (by omega), Option.bind_some, hn]
          have hq : (⟨posOf l x.ports[j].agent, x.ports[j].slot⟩ : DPort) = renP l x.ports[j] := rfl
          rw [setI_nat, hq, hst]
          simp only [Int.natCast_add, Int.cast_ofNat_Int])
        (fun g' => by
          simp -implicitDefEqProofs only [m_impl_Net_renumber_L3, m_impl_Net_renumber_B3, dge, cond_false, m_impl_Net_renumber_A3]
          rw [mustP_ok (by simpa using hM), Option.bind_some, ck_ok (by omega), Option.bind_some, midL_end]
          rfl) (x.ports.length + 1) (Nat.lt_succ_self _)
      simpa [midL_zero] using inner)
    (fun g acc => by simp -implicitDefEqProofs only [m_impl_Net_renumber_L2, m_impl_Net_renumber_B2, dge, cond_false, m_impl_Net_renumber_A2])
    [] (l.length + 1) (by omega) (by simp; omega)).1
  have e : l.flatMap (fun a => [renA l (agentAt xs a)]) = renL xs l := by
    unfold renL
    rw [← flat_id (l.map _), List.flatMap_map]
  rw [e] at key
  simpa using key
open Classical in
noncomputable def renumberNet (d : DNet) (l : List Int) : DNet × Int := bif validNet d then (if OrdOk d.agents.length l then (⟨renL d.agents l⟩, 0) else (⟨[]⟩, 2)) else (⟨[]⟩, 1)
theorem shut_full {xs : List DAgent} (G : Good xs) {l : List Int} (h : GL xs.length l) (hl : l.length = xs.length) : Shut xs l := by
  intro a ha p hp
  obtain ⟨a0, a1⟩ := h.inr a ha
  obtain ⟨i, rfl⟩ := Int.eq_ofNat_of_zero_le a0
  have hx := List.getElem?_eq_getElem (show i < xs.length by omega)
  rw [agentAt_nat hx] at hp
  obtain ⟨k, hk, rfl⟩ := List.getElem_of_mem hp
  have := G.to hx (List.getElem?_eq_getElem hk)
  exact h.full hl this.1 this.2
theorem p_sRenumberNet (d : DNet) (l : List Int) (hs : Small d.agents) : m_spec_RenumberNet d l = some (renumberNet d l) := by
  obtain ⟨xs⟩ := d
  have hs : Small xs := hs
  unfold m_spec_RenumberNet renumberNet
  rw [p_ok _ hs, Option.bind_some]
  cases hv : validNet ⟨xs⟩ with
  | false => rfl
  | true =>
    have G : Good xs := good hv
    rw [cond_true, cond_true]
    rcases p_sOrder G.one G.len l with ⟨h, e⟩ | ⟨h, e⟩
    · rw [e, Option.bind_some, cond_true, p_sRenumber hs G.len h.gl h.len (shut_full G h.gl h.len), Option.bind_some, if_pos h]
    · rw [e, Option.bind_some, cond_false, if_neg h]
theorem p_iRenumberNet (d : DNet) (l : List Int) (hs : Small d.agents) : m_impl_RenumberNet d l = some (renumberNet d l) := by
  obtain ⟨xs⟩ := d
  have hs : Small xs := hs
  unfold m_impl_RenumberNet renumberNet
  rw [p_valid _ hs, Option.bind_some]
  cases hv : validNet ⟨xs⟩ with
  | false => rfl
  | true =>
    have G : Good xs := good hv
    have h1 := G.one
    rw [cond_true, cond_true]
    rcases p_iOrder G.len l with ⟨h, e⟩ | ⟨h, e⟩
    · have h0 := List.getElem?_eq_getElem (show 0 < l.length by have := h.2; omega)
      rw [e, Option.bind_some, cond_true, show getI l 0 = some l[0] from getI_nat (k := 0) h0, Option.bind_some]
      by_cases hz : l[0] = 0
      · rw [show (l[0] != 0) = false by simp [hz], cond_false, p_iRenumber hs G.len h.1 (shut_full G h.1 h.2), Option.bind_some, if_pos ⟨h.1, h.2, by rw [h0, hz]⟩]
      · rw [show (l[0] != 0) = true by simpa using hz, cond_true, if_neg (fun hh => hz (by have := hh.zero; rw [h0] at this; injection this))]
    · rw [e, Option.bind_some, cond_false, if_neg (fun hh => h ⟨hh.gl, hh.len⟩)]
theorem sum_le (f : Nat → Nat) : ∀ (n : Nat) (l : List Nat), l.Nodup → (∀ x ∈ l, x < n) → (l.map f).sum ≤ ((List.range n).map f).sum
  | 0, l, _, h => by
    cases l with
    | nil => simp
    | cons x l => have := h x (by simp); omega
  | n + 1, l, hn, h => by
    rw [List.range_succ, List.map_append, List.sum_append]
    by_cases hm : n ∈ l
    · have h1 := sum_le f n (l.erase n) (hn.erase n) (fun x hx => by
        have h2 := (hn.mem_erase_iff).1 hx
        have := h x h2.2
        have := h2.1
        omega)
      have h2 := ((List.perm_cons_erase hm).map f).sum_nat
      rw [h2, List.map_cons, List.sum_cons]
      simp
      omega
    · have := sum_le f n l hn (fun x hx => by
        have h1 := h x hx
        have : x ≠ n := fun e => hm (by rw [← e]; exact hx)
        omega)
      simp
      omega
theorem renL_sz {xs : List DAgent} {l : List Int} (h : GL xs.length l) : szAgentS (renL xs l) ≤ szAgentS xs := by
  have hlen := h.len
  have h1 := sum_le (fun i => szAgent (agentAt xs (i : Int))) xs.length (l.map Int.toNat) (by
    rw [List.nodup_iff_pairwise_ne, List.pairwise_map]
    refine (List.nodup_iff_pairwise_ne.1 h.nd).imp_of_mem ?_
    intro a b ha hb hab e
    have := h.inr a ha; have := h.inr b hb
    exact hab (by omega)) (fun x hx => by
    obtain ⟨a, ha, rfl⟩ := List.mem_map.1 hx
    have := h.inr a ha
    omega)
  have e1 : (l.map Int.toNat).map (fun i : Nat => szAgent (agentAt xs (i : Int))) = (renL xs l).map szAgent := by
    unfold renL
    rw [List.map_map, List.map_map]
    apply List.map_congr_left
    intro a ha
    have := h.inr a ha
    simp only [Function.comp]
    rw [Int.toNat_of_nonneg this.1]
    simp [renA, szAgent]
  have e2 : (List.range xs.length).map (fun i : Nat => szAgent (agentAt xs (i : Int))) = xs.map szAgent := by
    apply List.ext_getElem?
    intro i
    by_cases hi : i < xs.length
    · have hx := List.getElem?_eq_getElem hi
      rw [List.getElem?_map, List.getElem?_map, List.getElem?_range hi, hx]
      simp [agentAt_nat hx]
    · rw [List.getElem?_eq_none (by simp; omega), List.getElem?_eq_none (by simp; omega)]
  rw [e1, e2] at h1
  have e3 : (renL xs l).length = l.length := by simp [renL]
  unfold szAgentS
  omega
theorem renumberNet_sz (d : DNet) (l : List Int) (hs : szNet d ≤ 1048576) : szNet (renumberNet d l).1 ≤ 1048576 := by
  unfold renumberNet
  cases validNet d with
  | false => show szNet ⟨[]⟩ ≤ _; simp [szNet, szAgentS]
  | true =>
    rw [cond_true]
    split
    · rename_i h
      have := renL_sz h.gl
      unfold szNet at hs ⊢
      show szAgentS (renL d.agents l) ≤ _
      omega
    · show szNet ⟨[]⟩ ≤ _; simp [szNet, szAgentS]
end
section
open Go.RowKit
set_option linter.unusedVariables false
def marksF {α : Type} (f : Nat → α) (s k n : Nat) : List α := (List.range n).map fun i => f (k + s * i)
theorem marksF_len {α : Type} (f : Nat → α) (s k n : Nat) : (marksF f s k n).length = n := by simp [marksF]
theorem marksF_succ {α : Type} (f : Nat → α) (s k n : Nat) : marksF f s k (n + 1) = marksF f s k n ++ [f (k + s * n)] := by simp [marksF, List.range_succ]
theorem marksF_get {α : Type} {f : Nat → α} {s k n i : Nat} (hi : i < n) : (marksF f s k n)[i]? = some (f (k + s * i)) := by simp [marksF, hi]
def mkPort (k : Nat) : DPort := (⟨(k : Int), (k : Int) + 1⟩ : DPort)
theorem mkPort_cells (k0 k : Nat) : [Value.int .i64 (mkPort (k0 + 2 * k)).agent, Value.int .i64 (mkPort (k0 + 2 * k)).slot] = [.int .i64 ((k0 : Int) + 2 * k), .int .i64 ((k0 : Int) + 2 * k + 1)] := by simp [mkPort]
set_option maxHeartbeats 2000000 in
theorem markPortS_c (A : Option Addr) (n c k0 : Nat) (xs : List DPort) (bs : List Nat) (w : World) (hx : OwAt portOw 2 w A n xs bs) (hnd : bs.Nodup) (hn : n ≤ 4294967296) (hk0 : k0 ≤ 4611686018427387904) :
    Calls Try.prog 121 #[.slice A n c, .int .i64 k0] w fun e w' => e = .returned (.int .i64 ((k0 + 2 * n : Nat) : Int)) ∧ OwAt portOw 2 w' A n (marksF mkPort 2 k0 n) bs ∧ Only bs w w' := by
  have lx := Lib.hid hx.len
  have hmid := Lib.hid hx.mid
  clear hx
  go_enter Try.func121, Try.ntmps121
  go_wp2
  go_loopw [1, 5] (fun kk i wr => ∃ k : Nat, k ≤ n ∧ i = .int .i64 k ∧ kk = .int .i64 ((k0 : Int) + 2 * k) ∧ Only bs w wr ∧ Hid (MidAt portOw 2 wr A (marksF mkPort 2 k0 k) (xs.drop k) bs)) (fun _ i _ => n - (intOf i).toNat)
  case atStart => exact ⟨0, by omega, rfl, by simp, Only.refl _ _, hmid.out⟩
  case round =>
    obtain ⟨k, hk, rfl, rfl, ho, hm⟩ := hrel
    by_cases hlt : k < n
    · obtain ⟨x, hxk⟩ : ∃ x, xs[k]? = some x := ⟨_, List.getElem?_eq_getElem (by have := lx.out; omega)⟩
      have hm := hm.out
      rw [drop_some hxk] at hm
      obtain ⟨b, o, cs, b1, bx, b2, rfl, hbs, hO, hc, h1, h2⟩ := hm.next
      obtain ⟨rfl, rfl⟩ := hO
      rw [marksF_len] at hc h2
      obtain ⟨hc0, hd0⟩ := hc 0 _ rfl
      obtain ⟨hc1, hd1⟩ := hc 1 _ rfl
      rw [Nat.add_zero] at hc0 hd0
      have HN := Lib.hid hbs
      have Hx := Lib.hid hxk
      have H1 := Lib.hid h1
      have H2 := Lib.hid h2
      clear hbs hxk h1 h2 hm hc
      go_wp2
      go_roundw
      case rel =>
        have hnd' := hnd
        rw [HN.out] at hnd'
        have hb : b ∉ b1 ∧ b ∉ b2 := by simpa using (List.nodup_cons.1 hnd').1
        have hlen : (marksF mkPort 2 k0 k).length = k := marksF_len _ _ _ _
        refine ⟨k + 1, by omega, by go_num, by go_num, ?_, ?_⟩
        · exact ((ho.setCell (by rw [HN.out]; simp) _).setCell (by rw [HN.out]; simp) _)
        rw [marksF_succ, HN.out]
        refine MidAt.step (o := o) rfl (ElAt.setRun portOw_ok (vs := [.int .i64 ((k0 : Int) + 2 * k), .int .i64 ((k0 : Int) + 2 * k + 1)]) (p := o + k * 2) H1.out hb.1 (Or.inr (by omega))) (cs := [.int .i64 ((k0 : Int) + 2 * k), .int .i64 ((k0 : Int) + 2 * k + 1)]) ⟨(mkPort_cells k0 k).symm, rfl⟩ ?_ ?_
        · rw [hlen]
          exact setRun_csAt (vs := [.int .i64 ((k0 : Int) + 2 * k), .int .i64 ((k0 : Int) + 2 * k + 1)]) (fun j hj => by
            match j, hj with
            | 0, _ => exact ⟨_, hc0⟩
            | 1, _ => exact ⟨_, hc1⟩
            | j + 2, hj => simp at hj; omega) (fun j hj => by
            match j, hj with
            | 0, _ => exact hd0
            | 1, _ => exact hd1
            | j + 2, hj => simp at hj; omega)
        · rw [hlen]
          exact ElAt.setRun portOw_ok (vs := [.int .i64 ((k0 : Int) + 2 * k), .int .i64 ((k0 : Int) + 2 * k + 1)]) (p := o + k * 2) H2.out hb.2 (Or.inl (by simp))
      case measure => simp [intOf]; omega
    · obtain rfl : n = k := by omega
      have hm := hm.out
      rw [List.drop_of_length_le (by have := lx.out; omega)] at hm
      have Hm := Lib.hid (hm.whole (n := n) (marksF_len _ _ _ _).symm)
      clear hm
      go_wp2
      go_ret
      exact ⟨rfl, Hm.out, ho⟩
end
section
open Go.RowKit
set_option linter.unusedVariables false
theorem Blk.only {w w' : World} {g lo hi : Nat} {t : TypeId} {cs : Array Value} (h : Blk w g t cs) (ho : OnlyIn lo hi w w') (hg : g < lo ∨ hi ≤ g) : Blk w' g t cs := (ho.block g hg).trans h
def cntA (x : DAgent) : Nat := 3 + x.data.length + 2 * x.ports.length
theorem cntL_agents (xs : List DAgent) : cntL cntA xs ≤ 3 * szAgentS xs := by
  unfold szAgentS cntL
  have : ∀ ys : List DAgent, (ys.map cntA).sum ≤ 3 * ys.length + 2 * (ys.map szAgent).sum := by
    intro ys
    induction ys with
    | nil => simp
    | cons y ys ih =>
      have e : szAgent y = y.data.length + y.ports.length := rfl
      simp only [List.map_cons, List.sum_cons, List.length_cons, cntA]
      omega
  have := this xs
  omega
theorem szAgent_mem {xs : List DAgent} {k : Nat} {x : DAgent} (h : xs[k]? = some x) (hs : szAgentS xs ≤ 1048576) : x.data.length ≤ 1048576 ∧ x.ports.length ≤ 1048576 := by
  have h1 : szAgent x ≤ (xs.map szAgent).sum := by
    have hm := List.mem_of_getElem? h
    clear h hs
    induction xs with
    | nil => cases hm
    | cons y ys ih =>
      rcases List.mem_cons.1 hm with rfl | h
      · simp
      · have := ih h; simp; omega
  have e : szAgent x = x.data.length + x.ports.length := rfl
  unfold szAgentS at hs
  omega
theorem set3_block {w : World} {b p j : Nat} {u0 u1 u2 : Value} (h : j ≠ b) : (((w.setCell ⟨b, p, none⟩ u0).setCell ⟨b, p + 1, none⟩ u1).setCell ⟨b, p + 2, none⟩ u2).heap[j]? = w.heap[j]? := by
  rw [Below.heap_setCell _ ⟨b, p + 2, none⟩ _ _ h, Below.heap_setCell _ ⟨b, p + 1, none⟩ _ _ h, Below.heap_setCell _ ⟨b, p, none⟩ _ _ h]
theorem set3_cell {w : World} {b p q : Nat} {u0 u1 u2 : Value} (h : p + 3 ≤ q) : (((w.setCell ⟨b, p, none⟩ u0).setCell ⟨b, p + 1, none⟩ u1).setCell ⟨b, p + 2, none⟩ u2).cell? ⟨b, q, none⟩ = w.cell? ⟨b, q, none⟩ := by
  rw [World.cell?_setCell_other _ _ _ _ (fun e => by injection e with _ e2; omega), World.cell?_setCell_other _ _ _ _ (fun e => by injection e with _ e2; omega), World.cell?_setCell_other _ _ _ _ (fun e => by injection e with _ e2; omega)]
end
section
open Go.RowKit
set_option linter.unusedVariables false
def mkAgent (k : Nat) (x : DAgent) : DAgent := ⟨(k : Int), ((k + 1 : Nat) : Int), ((k + 2 : Nat) : Int), marks (k + 3) x.data.length, marksF mkPort 2 (k + 3 + x.data.length) x.ports.length⟩
def markA (k : Nat) (xs : List DAgent) : List DAgent := mkL mkAgent cntA k xs
set_option maxHeartbeats 4000000 in
theorem markAgentS_q (A : Option Addr) (n c k0 : Nat) (xs : List DAgent) (bs : List Nat) (w : World) (hx : OwAt agentOw 5 w A n xs bs) (hnd : bs.Nodup) (hs : szAgentS xs ≤ 1048576) (hk0 : k0 ≤ 4294967296) :
    Calls Try.prog 70 #[.slice A n c, .int .i64 k0] w fun e w' => e = .returned (.int .i64 ((k0 + cntL cntA xs : Nat) : Int)) ∧ OwAt agentOw 5 w' A n (markA k0 xs) bs ∧ Only bs w w' := by
  have lx := Lib.hid hx.len
  have hn : n ≤ 1048576 := by have := lx.out; unfold szAgentS at hs; omega
  have hcl := cntL_agents xs
  have hmid := Lib.hid hx.mid
  clear hx
  go_enter Try.func70, Try.ntmps70
  go_wp2_with fail
  go_loopw [1, 5] (fun kk i wr => ∃ k : Nat, k ≤ n ∧ i = .int .i64 k ∧ kk = .int .i64 ((k0 : Int) + (cntL cntA (xs.take k) : Nat)) ∧ Only bs w wr ∧ Hid (MidAt agentOw 5 wr A (markA k0 (xs.take k)) (xs.drop k) bs)) (fun _ i _ => n - (intOf i).toNat)
  case atStart => exact ⟨0, by omega, rfl, by simp [cntL], Only.refl _ _, hmid.out⟩
  case round =>
    obtain ⟨k, hk, rfl, rfl, ho, hm⟩ := hrel
    by_cases hlt : k < n
    · obtain ⟨x, hxk⟩ : ∃ x, xs[k]? = some x := ⟨_, List.getElem?_eq_getElem (by have := lx.out; omega)⟩
      have hm := hm.out
      rw [drop_some hxk] at hm
      obtain ⟨b, o, cs, b1, bx, b3, rfl, hbs, hO, hc, h1, h2⟩ := hm.next
      have hlen : (markA k0 (xs.take k)).length = k := by unfold markA; rw [mkL_len, List.length_take]; have := lx.out; omega
      rw [hlen] at hc h2
      obtain ⟨A1, n1, c1, A2, n2, c2, bd, bp, rfl, ⟨hd, rd⟩, ⟨hp, rp⟩, rfl⟩ := hO
      obtain ⟨hc0, hd0⟩ := hc 0 _ rfl
      obtain ⟨hc1, hd1⟩ := hc 1 _ rfl
      obtain ⟨hc2, hd2⟩ := hc 2 _ rfl
      obtain ⟨hc3, hd3⟩ := hc 3 _ rfl
      obtain ⟨hc4, hd4⟩ := hc 4 _ rfl
      rw [Nat.add_zero] at hc0 hd0
      have hsz := szAgent_mem hxk hs
      have hct := cntL_take (cnt := cntA) hxk
      have hcx : cntA x = 3 + x.data.length + 2 * x.ports.length := rfl
      have hcm := cntL_le (cnt := cntA) xs (k + 1)
      have hck := cntL_le (cnt := cntA) xs k
      have hnd' := hnd
      rw [hbs] at hnd'
      have nb : b ∉ b1 ∧ (b ∉ bd ∧ b ∉ bp) ∧ b ∉ b3 := by have := (List.nodup_cons.1 hnd').1; simp only [List.mem_append, not_or] at this; exact this
      have hn1 := List.nodup_append.1 (List.nodup_cons.1 hnd').2
      have hn2' := List.nodup_append.1 hn1.2.1
      have hn3 := List.nodup_append.1 hn2'.1
      have ld := Lib.hid hd.len
      have lp := Lib.hid hp.len
      have T0 : ∀ (u0 u1 u2 : Value), Touch b (o + k * 5) 5 (bd ++ bp) wr (((wr.setCell ⟨b, o + k * 5, none⟩ u0).setCell ⟨b, o + k * 5 + 1, none⟩ u1).setCell ⟨b, o + k * 5 + 2, none⟩ u2) := fun u0 u1 u2 =>
        ((Touch.refl.set (by omega) (by omega) _).set (by omega) (by omega) _).set (by omega) (by omega) _
      have S0 : ∀ (u0 u1 u2 : Value), CsAt (((wr.setCell ⟨b, o + k * 5, none⟩ u0).setCell ⟨b, o + k * 5 + 1, none⟩ u1).setCell ⟨b, o + k * 5 + 2, none⟩ u2) b (o + k * 5) [u0, u1, u2] := fun u0 u1 u2 =>
        setRun_csAt (w := wr) (vs := [u0, u1, u2]) (fun j hj => by
          rcases j with _ | _ | _ | j
          · exact ⟨_, hc0⟩
          · exact ⟨_, hc1⟩
          · exact ⟨_, hc2⟩
          · simp only [List.length_cons, List.length_nil] at hj; omega) (fun j hj => by
          rcases j with _ | _ | _ | j
          · exact hd0
          · exact hd1
          · exact hd2
          · simp only [List.length_cons, List.length_nil] at hj; omega)
      have HE := Lib.hid h2
      have HF := Lib.hid h1
      have HD := Lib.hid hd
      have HP := Lib.hid hp
      have HX := Lib.hid hxk
      have HT := Lib.hid T0
      have HS := Lib.hid S0
      have HI := Lib.hid hbs
      have N0 := Lib.hid hn1
      have N1 := Lib.hid hn2'
      have N2 := Lib.hid hn3
      have NB := Lib.hid nb
      have HL := Lib.hid hct
      have HLN := Lib.hid hlen
      clear h2 h1 hd hp hxk T0 S0 hbs hn1 hn2' hn3 nb hc hct hlen hnd' hm
      go_wp2_with fail
      have T3 := HT.out (.int .i64 ((k0 : Int) + (cntL cntA (xs.take k) : Nat))) (.int .i64 ((k0 : Int) + (cntL cntA (xs.take k) : Nat) + 1)) (.int .i64 ((k0 : Int) + (cntL cntA (xs.take k) : Nat) + 1 + 1))
      have S3 := HS.out (.int .i64 ((k0 : Int) + (cntL cntA (xs.take k) : Nat))) (.int .i64 ((k0 : Int) + (cntL cntA (xs.take k) : Nat) + 1)) (.int .i64 ((k0 : Int) + (cntL cntA (xs.take k) : Nat) + 1 + 1))
      rw [show (k0 : Int) + (cntL cntA (xs.take k) : Nat) + 1 + 1 + 1 = ((k0 + cntL cntA (xs.take k) + 3 : Nat) : Int) from by omega]
      have OD : OwAt intOw 1 (((wr.setCell ⟨b, o + k * 5, none⟩ (.int .i64 ((k0 : Int) + (cntL cntA (xs.take k) : Nat)))).setCell ⟨b, o + k * 5 + 1, none⟩ (.int .i64 ((k0 : Int) + (cntL cntA (xs.take k) : Nat) + 1))).setCell ⟨b, o + k * 5 + 2, none⟩ (.int .i64 ((k0 : Int) + (cntL cntA (xs.take k) : Nat) + 1 + 1))) A1 n1 x.data bd :=
        HD.out.keep intOw_ok (fun j hj => set3_block (fun e => NB.out.2.1.1 (by rw [← e]; exact hj)))
      refine (markInt64S_c A1 n1 c1 (k0 + cntL cntA (xs.take k) + 3) x.data bd _ OD N2.out.1 (by have := ld.out; omega) (by omega)).mono ?_
      rintro e w4 ⟨rfl, md, o4⟩
      have hc4' : w4.cell? ⟨b, o + k * 5 + 4, none⟩ = some (.slice A2 n2 c2) := ((World.cell?_of_block (a := ⟨b, o + k * 5 + 4, none⟩) (o4.block b NB.out.2.1.1)).trans (set3_cell (by omega))).trans hc4
      have MD := Lib.hid md
      clear md
      go_wp2_with fail
      rw [show (k0 : Int) + (cntL cntA (xs.take k) : Nat) + 3 + (n1 : Nat) = ((k0 + cntL cntA (xs.take k) + 3 + n1 : Nat) : Int) from by omega]
      have OP : OwAt portOw 2 w4 A2 n2 x.ports bp := HP.out.keep portOw_ok (fun j hj => (o4.block j (fun hjd => N2.out.2.2 j hjd j hj rfl)).trans (set3_block (fun e => NB.out.2.1.2 (by rw [← e]; exact hj))))
      refine (markPortS_c A2 n2 c2 _ x.ports bp w4 OP N2.out.2.1 (by have := lp.out; omega) (by have := ld.out; omega)).mono ?_
      rintro e w5 ⟨rfl, mp, o5⟩
      have MP := Lib.hid mp
      clear mp
      go_wp2_with fail
      go_roundw
      case rel =>
        have e1 := ld.out
        have e2 := lp.out
        have e3 := HL.out
        have OO : Only (b :: (bd ++ bp)) wr w5 := (T3.only_.trans (o4.mono (fun j hj => by simp [hj]))).trans (o5.mono (fun j hj => by simp [hj]))
        have hcell : ∀ q, w5.cell? ⟨b, q, none⟩ = (((wr.setCell ⟨b, o + k * 5, none⟩ (.int .i64 ((k0 : Int) + (cntL cntA (xs.take k) : Nat)))).setCell ⟨b, o + k * 5 + 1, none⟩ (.int .i64 ((k0 : Int) + (cntL cntA (xs.take k) : Nat) + 1))).setCell ⟨b, o + k * 5 + 2, none⟩ (.int .i64 ((k0 : Int) + (cntL cntA (xs.take k) : Nat) + 1 + 1))).cell? ⟨b, q, none⟩ := fun q =>
          (World.cell?_of_block (a := ⟨b, q, none⟩) (o5.block b NB.out.2.1.2)).trans (World.cell?_of_block (a := ⟨b, q, none⟩) (o4.block b NB.out.2.1.1))
        have hfroz : ∀ q, w5.frozen? ⟨b, q, none⟩ = (((wr.setCell ⟨b, o + k * 5, none⟩ (.int .i64 ((k0 : Int) + (cntL cntA (xs.take k) : Nat)))).setCell ⟨b, o + k * 5 + 1, none⟩ (.int .i64 ((k0 : Int) + (cntL cntA (xs.take k) : Nat) + 1))).setCell ⟨b, o + k * 5 + 2, none⟩ (.int .i64 ((k0 : Int) + (cntL cntA (xs.take k) : Nat) + 1 + 1))).frozen? ⟨b, q, none⟩ := fun q =>
          (World.frozen?_of_block (a := ⟨b, q, none⟩) (o5.block b NB.out.2.1.2)).trans (World.frozen?_of_block (a := ⟨b, q, none⟩) (o4.block b NB.out.2.1.1))
        refine ⟨k + 1, by omega, by go_num, congrArg (Value.int .i64) (by omega), ho.trans (OO.mono (fun j hj => ?_)), ?_⟩
        · rw [HI.out]; simp only [List.mem_cons, List.mem_append] at hj ⊢
          rcases hj with hj | hj
          · exact .inl hj
          · exact .inr (.inr (.inl hj))
        · show Hid _
          refine ?_
          unfold markA
          rw [mkL_take HX.out, HI.out]
          have hl := HLN.out
          unfold markA at hl
          refine MidAt.step (o := o) (cs := [.int .i64 ((k0 : Int) + (cntL cntA (xs.take k) : Nat)), .int .i64 ((k0 : Int) + (cntL cntA (xs.take k) : Nat) + 1), .int .i64 ((k0 : Int) + (cntL cntA (xs.take k) : Nat) + 1 + 1), .slice A1 n1 c1, .slice A2 n2 c2]) rfl ?_ ?_ ?_ ?_
          · refine ElAt.keepC agentOw_ok (w := wr) (fun q h1 h2 => ?_) (fun j hj => ?_) HF.out
            · unfold markA at h2
              rw [hl] at h2
              exact ⟨(hcell q).trans (T3.cell q (.inl (by omega))), (hfroz q).trans (T3.frozen q)⟩
            · exact OO.block j (fun hin => by
                rcases List.mem_cons.1 hin with rfl | hin
                · exact NB.out.1 hj
                · exact N0.out.2.2 j hj j (by simp only [List.mem_append] at hin ⊢; exact .inl hin) rfl)
          · refine ⟨A1, n1, c1, A2, n2, c2, bd, bp, ?_, ⟨?_, rd⟩, ⟨?_, rp⟩, rfl⟩
            · simp only [mkAgent]
              rw [show ((k0 + cntL cntA (xs.take k) : Nat) : Int) = (k0 : Int) + (cntL cntA (xs.take k) : Nat) from by omega, show ((k0 + cntL cntA (xs.take k) + 1 : Nat) : Int) = (k0 : Int) + (cntL cntA (xs.take k) : Nat) + 1 from by omega, show ((k0 + cntL cntA (xs.take k) + 2 : Nat) : Int) = (k0 : Int) + (cntL cntA (xs.take k) : Nat) + 1 + 1 from by omega]
            · have := MD.out.keep intOw_ok (w' := w5) (fun j hj => o5.block j (fun hin => N2.out.2.2 j hj j hin rfl))
              simp only [mkAgent]; rw [← e1]; exact this
            · have := MP.out
              simp only [mkAgent]; rw [← e1, ← e2]; exact this
          · rw [hl]
            intro j v hj
            rw [hcell, hfroz]
            rcases j with _ | _ | _ | _ | _ | j
            · exact S3 0 v hj
            · exact S3 1 v hj
            · exact S3 2 v hj
            · simp at hj; subst hj
              exact ⟨(set3_cell (by omega)).trans hc3, (T3.frozen _).trans hd3⟩
            · simp at hj; subst hj
              exact ⟨(set3_cell (by omega)).trans hc4, (T3.frozen _).trans hd4⟩
            · simp at hj
          · rw [hl]
            refine ElAt.keepC agentOw_ok (w := wr) (fun q h1 h2 => ?_) (fun j hj => ?_) HE.out
            · exact ⟨(hcell q).trans (T3.cell q (.inr (by omega))), (hfroz q).trans (T3.frozen q)⟩
            · exact OO.block j (fun hin => by
                rcases List.mem_cons.1 hin with rfl | hin
                · exact NB.out.2.2 hj
                · exact N1.out.2.2 j hin j hj rfl)
      case measure => simp [intOf]; omega
    · obtain rfl : n = k := by omega
      have hlast : xs.take n = xs := List.take_of_length_le (by have := lx.out; omega)
      have hdl : xs.drop n = [] := List.drop_eq_nil_of_le (by have := lx.out; omega)
      have hm := hm.out
      rw [hlast, hdl] at hm
      rw [hlast]
      have HM := Lib.hid (hm.whole (by unfold markA; rw [mkL_len]; first | done | exact lx.out))
      clear hlast hdl hm
      go_wp2_with fail
      go_ret
      exact ⟨retI (by omega), by rw [lx.out]; first | exact HM.out | (have h := HM.out; rw [lx.out] at h; exact h), ho⟩
theorem markNet_q (v : Value) (x : DNet) (w : World) (k : Int) (lo hi : Nat) (h : OwT netOw w v x lo hi) (hh : hi ≤ w.heap.size) (hs : szNet x ≤ 1048576) (h0 : 0 ≤ k) (hk : k ≤ 1048576) :
    Calls Try.prog 23 #[v, .int .i64 k] w fun e w' => e = .returned (.int .i64 ((k.toNat + cntL cntA x.agents : Nat) : Int)) ∧ ∃ wb, Below w.heap.size w wb ∧ wb.heap.size = w'.heap.size ∧ OnlyIn lo hi wb w' ∧ OwT netOw w' v ⟨markA k.toNat x.agents⟩ lo hi := by
  obtain ⟨cs, bs, rfl, ⟨A1, n1, c1, b1, rfl, ⟨h1, r1⟩, rfl⟩, hnd, hb⟩ := h
  obtain ⟨k0, rfl⟩ := Int.eq_ofNat_of_zero_le h0
  have hA : ∀ o1, Below w.heap.size w (w.alloc o1) := fun o1 => (Below.refl _ _).alloc (Nat.le_refl _) _
  have HK := Lib.hid (show ∀ o1, OwAt agentOw 5 (w.alloc o1) A1 n1 x.agents bs from fun o1 => h1.keep agentOw_ok (fun j hj => (hA o1).block j (by have := hb j hj; omega)))
  have HN := Lib.hid hnd
  have HB := Lib.hid hb
  have HS : szAgentS x.agents ≤ 1048576 := hs
  have hcl := cntL_agents x.agents
  clear h1 hb hnd
  go_enter Try.func23, Try.ntmps23
  go_wp2_with fail
  refine (markAgentS_q A1 n1 c1 k0 x.agents bs _ (HK.out _) HN.out HS (by omega)).mono ?_
  rintro e w1 ⟨rfl, m1, o1⟩
  have M1 := Lib.hid m1
  clear m1
  go_wp2_with fail
  go_ret
  exact ⟨rfl, _, hA _, o1.size.symm, o1.in_ HB.out, ⟨_, bs, rfl, ⟨A1, n1, c1, bs, rfl, ⟨M1.out, r1⟩, rfl⟩, HN.out, HB.out⟩⟩
end
section
open Go.RowKit
set_option linter.unusedVariables false
set_option linter.unusedSimpArgs false
set_option maxRecDepth 100000
def m_laws_heldInt64S_A1 (i1 : Int) : Option Int :=
  some i1
def m_laws_heldInt64S_B1 (d0 : List Int) (rec1 : Int → Int → Option Int) (K1 : Int → Option Int) (i3 : Int) (i4 : Int) : Option Int :=
  (bif (decide (i4 < (d0.length : Int))) then ((getI d0 i4).bind fun x7 => (bif (x7 != i3) then some (-1) else ((ck (i3 + 1)).bind fun s17 => (rec1 s17 (i4 + 1))))) else (K1 i3))
def m_laws_heldInt64S_L1 (d0 : List Int) (K1 : Int → Option Int) : Nat → Int → Int → Option Int
  | 0, _, _ => none
  | g + 1, i3, i4 => m_laws_heldInt64S_B1 d0 (m_laws_heldInt64S_L1 d0 K1 g) K1 i3 i4
def m_laws_heldInt64S (d0 : List Int) (d1 : Int) : Option Int :=
  (m_laws_heldInt64S_L1 d0 m_laws_heldInt64S_A1 (d0.length + 1) d1 0)
set_option maxHeartbeats 2000000 in
theorem c_m_laws_heldInt64S (d0 : List Int) (d1 : Int) (r : Int) (hm : m_laws_heldInt64S d0 d1 = some r) (v0 : Value) (w : World) (hv0 : Sl intRd 1 w v0 d0) :
    Calls Try.prog 25 #[v0, .int .i64 d1] w fun e w' => e = .returned (.int .i64 r) ∧ Below w.heap.size w w' := by
  obtain ⟨Aa0, na0, ca0, rfl, ha0, ra0⟩ := hv0
  have ea0 := ha0.len; subst ea0
  have qa0 := len_le ra0
  have T := Below.refl w.heap.size w
  unfold m_laws_heldInt64S at hm
  refine enter 21 Try.func25 rfl rfl rfl ?_
  intro f hf
  have s0 : f 0 = .slice Aa0 d0.length ca0 := hf 0 _ rfl
  have s1 : f 1 = .int .i64 d1 := hf 1 _ rfl
  refine wp_seq ?_
  refine wp_rs rfl ?_
  refine RQ.y rfl (Y.assign (v := .int .i64 0) rfl) ?_
  refine RQ.nil ?_
  refine then_n ?_
  refine wp_seq ?_
  refine wp_seq ?_
  refine wp_rs rfl ?_
  refine RQ.y rfl (Y.assign (v := .int .i64 0) rfl) ?_
  refine RQ.nil ?_
  refine then_n ?_
  refine wp_block ?_
  obtain ⟨K1, hK1, hm⟩ : ∃ K, K = m_laws_heldInt64S_A1 ∧ m_laws_heldInt64S_L1 d0 K (d0.length + 1) d1 0 = some r := ⟨_, rfl, hm⟩
  refine wp_loopX (fun g f w' => ∃ (i3 : Int) (i4 : Int), f 0 = .slice Aa0 d0.length ca0 ∧ f 1 = .int .i64 i3 ∧ f 5 = .int .i64 i4 ∧ 0 ≤ i4 ∧ Below w.heap.size w w' ∧ m_laws_heldInt64S_L1 d0 K1 g i3 i4 = some r) 0 (fun f w' => ∃ (i1 : Int), f 1 = .int .i64 i1 ∧ Below w.heap.size w w' ∧ m_laws_heldInt64S_A1 i1 = some r) (d0.length + 1) ⟨d1, 0, s0, s1, rfl, (by omega), T, hm⟩ ?_ ?_
  · rintro f w2 ⟨i1, s1_1x, T, hm⟩
    unfold m_laws_heldInt64S_A1 at hm
    refine blk_hit (then_n ?_)
    refine wp_seq ?_
    refine wp_rs rfl ?_
    refine RQ.y rfl (Y.move (v := .int .i64 i1) s1_1x) ?_
    refine RQ.y rfl (Y.assign (v := .int .i64 i1) rfl) ?_
    refine RQ.nil ?_
    refine then_n ?_
    refine wp_ret ?_
    obtain rfl := Option.some.inj hm
    exact (ret1 rfl rfl rfl ⟨rfl, T⟩)
  · rintro g f w5 ⟨i3, i4, s0_1, s1_1, s5_1, nn5_1, T, hm⟩
    rcases g with _ | g
    · simp only [m_laws_heldInt64S_L1] at hm; cases hm
    obtain ⟨rec1, hrec1, hm⟩ : ∃ z, z = m_laws_heldInt64S_L1 d0 K1 g ∧ m_laws_heldInt64S_B1 d0 z K1 i3 i4 = some r := ⟨_, rfl, hm⟩
    unfold m_laws_heldInt64S_B1 at hm
    refine wp_seq ?_
    refine wp_seq ?_
    refine wp_rs rfl ?_
    refine RQ.y rfl (Y.move (v := .int .i64 i4) s5_1) ?_
    refine RQ.y rfl (Y.move (v := .slice Aa0 d0.length ca0) s0_1) ?_
    refine RQ.y rfl (Y.len (by kernel_rfl) rfl) ?_
    refine RQ.y rfl (Y.binI (v := .bool (decide (i4 < (d0.length : Int)))) rfl rfl rfl) ?_
    refine RQ.nil ?_
    refine then_n ?_
    rcases bcases (decide (i4 < (d0.length : Int))) with c6 | c6
    · replace hm := cF c6 hm
      have pc6 := of_decide_eq_false c6
      refine cond_f rfl (vb rfl c6) ?_
      refine wp_exit ?_
      exact (then_x (then_x (hit_x ⟨_, rfl, ⟨i3, s1_1, T, (by rw [hK1] at hm; exact hm)⟩⟩)))
    · replace hm := cT c6 hm
      have pc6 := of_decide_eq_true c6
      refine cond_t rfl (vb rfl c6) ?_
      refine wp_skip ?_
      refine then_n ?_
      refine wp_seq ?_
      refine wp_block ?_
      refine wp_seq ?_
      refine wp_seq ?_
      refine wp_rs rfl ?_
      refine RQ.y rfl (Y.move (v := .slice Aa0 d0.length ca0) s0_1) ?_
      refine RQ.y rfl (Y.move (v := .int .i64 i4) s5_1) ?_
      obtain ⟨x7, hx10, hm⟩ := bnd hm
      obtain ⟨k8, hk11, hl12, hx10⟩ := getI_some hx10
      obtain ⟨b14, o15, rfl, hbb14⟩ := ha0.addr (by omega)
      obtain ⟨cs9, hRcs9, hc13⟩ := ha0.el hx10
      have hScs9 := hRcs9
      obtain rfl := hRcs9
      refine RQ.y rfl (Y.indexAddr (m := k8) (sz := 1) rfl rfl hk11 hl12 (by kernel_rfl)) ?_
      refine RQ.y rfl (Y.load (v := .int .i64 x7) rfl (by kernel_rfl) (eqC (cellT T (hc13 0 _ rfl)))) ?_
      refine RQ.y rfl (Y.move (v := .int .i64 i3) s1_1) ?_
      refine RQ.y rfl (Y.binI (v := .bool (x7 != i3)) rfl rfl rfl) ?_
      refine RQ.nil ?_
      refine then_n ?_
      rcases bcases (x7 != i3) with c16 | c16
      · replace hm := cF c16 hm
        refine cond_f rfl (vb rfl c16) ?_
        refine wp_skip ?_
        refine then_n ?_
        refine wp_rs rfl ?_
        refine RQ.y rfl (Y.move (v := .int .i64 i3) s1_1) ?_
        obtain ⟨s17, ks17, hm⟩ := bnd hm
        replace ks17 := ck_some ks17
        refine RQ.y rfl (Y.binI (v := .int .i64 s17) rfl rfl (by rw [binI_add ks17.2, ks17.1])) ?_
        refine RQ.y rfl (Y.assign (v := .int .i64 s17) rfl) ?_
        refine RQ.nil ?_
        refine blk_n (then_n ?_)
        refine wp_rs rfl ?_
        refine RQ.y rfl (Y.move (v := .int .i64 i4) s5_1) ?_
        refine RQ.y rfl (Y.binI rfl rfl (binI_add (m := i4) (by omega))) ?_
        refine RQ.y rfl (Y.assign (v := .int .i64 (i4 + 1)) rfl) ?_
        refine RQ.nil ?_
        exact (then_n ⟨g, _, Nat.lt_succ_self _, rfl, ⟨s17, (i4 + 1), s0_1, rfl, rfl, (by omega), T, (by rw [← hrec1]; exact hm)⟩⟩)
      · replace hm := cT c16 hm
        refine cond_t rfl (vb rfl c16) ?_
        refine wp_seq ?_
        refine wp_rs rfl ?_
        refine RQ.y rfl (Y.assign (v := .int .i64 (-1)) rfl) ?_
        refine RQ.nil ?_
        refine then_n ?_
        refine wp_ret ?_
        obtain rfl := Option.some.inj hm
        exact (then_r (blk_r (then_r (then_r (hit_r (blk_r (then_r (ret1 rfl rfl rfl ⟨rfl, T⟩))))))))
def m_laws_heldPortS_A1 (i1 : Int) : Option Int :=
  some i1
def m_laws_heldPortS_B1 (d0 : List DPort) (rec1 : Int → Int → Option Int) (K1 : Int → Option Int) (i3 : Int) (i4 : Int) : Option Int :=
  (bif (decide (i4 < (d0.length : Int))) then ((getI d0 i4).bind fun x7 => (bif (x7.agent != i3) then some (-1) else ((ck (i3 + 1)).bind fun s17 => ((getI d0 i4).bind fun x18 => (bif (x18.slot != s17) then some (-1) else ((ck (s17 + 1)).bind fun s26 => (rec1 s26 (i4 + 1)))))))) else (K1 i3))
def m_laws_heldPortS_L1 (d0 : List DPort) (K1 : Int → Option Int) : Nat → Int → Int → Option Int
  | 0, _, _ => none
  | g + 1, i3, i4 => m_laws_heldPortS_B1 d0 (m_laws_heldPortS_L1 d0 K1 g) K1 i3 i4
def m_laws_heldPortS (d0 : List DPort) (d1 : Int) : Option Int :=
  (m_laws_heldPortS_L1 d0 m_laws_heldPortS_A1 (d0.length + 1) d1 0)
set_option maxHeartbeats 2000000 in
theorem c_m_laws_heldPortS (d0 : List DPort) (d1 : Int) (r : Int) (hm : m_laws_heldPortS d0 d1 = some r) (v0 : Value) (w : World) (hv0 : Sl portRd 2 w v0 d0) :
    Calls Try.prog 134 #[v0, .int .i64 d1] w fun e w' => e = .returned (.int .i64 r) ∧ Below w.heap.size w w' := by
  obtain ⟨Aa0, na0, ca0, rfl, ha0, ra0⟩ := hv0
  have ea0 := ha0.len; subst ea0
  have qa0 := len_le ra0
  have T := Below.refl w.heap.size w
  unfold m_laws_heldPortS at hm
  refine enter 31 Try.func134 rfl rfl rfl ?_
  intro f hf
  have s0 : f 0 = .slice Aa0 d0.length ca0 := hf 0 _ rfl
  have s1 : f 1 = .int .i64 d1 := hf 1 _ rfl
  refine wp_seq ?_
  refine wp_rs rfl ?_
  refine RQ.y rfl (Y.assign (v := .int .i64 0) rfl) ?_
  refine RQ.nil ?_
  refine then_n ?_
  refine wp_seq ?_
  refine wp_seq ?_
  refine wp_rs rfl ?_
  refine RQ.y rfl (Y.assign (v := .int .i64 0) rfl) ?_
  refine RQ.nil ?_
  refine then_n ?_
  refine wp_block ?_
  obtain ⟨K1, hK1, hm⟩ : ∃ K, K = m_laws_heldPortS_A1 ∧ m_laws_heldPortS_L1 d0 K (d0.length + 1) d1 0 = some r := ⟨_, rfl, hm⟩
  refine wp_loopX (fun g f w' => ∃ (i3 : Int) (i4 : Int), f 0 = .slice Aa0 d0.length ca0 ∧ f 1 = .int .i64 i3 ∧ f 5 = .int .i64 i4 ∧ 0 ≤ i4 ∧ Below w.heap.size w w' ∧ m_laws_heldPortS_L1 d0 K1 g i3 i4 = some r) 0 (fun f w' => ∃ (i1 : Int), f 1 = .int .i64 i1 ∧ Below w.heap.size w w' ∧ m_laws_heldPortS_A1 i1 = some r) (d0.length + 1) ⟨d1, 0, s0, s1, rfl, (by omega), T, hm⟩ ?_ ?_
  · rintro f w2 ⟨i1, s1_1x, T, hm⟩
    unfold m_laws_heldPortS_A1 at hm
    refine blk_hit (then_n ?_)
    refine wp_seq ?_
    refine wp_rs rfl ?_
    refine RQ.y rfl (Y.move (v := .int .i64 i1) s1_1x) ?_
    refine RQ.y rfl (Y.assign (v := .int .i64 i1) rfl) ?_
    refine RQ.nil ?_
    refine then_n ?_
    refine wp_ret ?_
    obtain rfl := Option.some.inj hm
    exact (ret1 rfl rfl rfl ⟨rfl, T⟩)
  · rintro g f w5 ⟨i3, i4, s0_1, s1_1, s5_1, nn5_1, T, hm⟩
    rcases g with _ | g
    · simp only [m_laws_heldPortS_L1] at hm; cases hm
    obtain ⟨rec1, hrec1, hm⟩ : ∃ z, z = m_laws_heldPortS_L1 d0 K1 g ∧ m_laws_heldPortS_B1 d0 z K1 i3 i4 = some r := ⟨_, rfl, hm⟩
    unfold m_laws_heldPortS_B1 at hm
    refine wp_seq ?_
    refine wp_seq ?_
    refine wp_rs rfl ?_
    refine RQ.y rfl (Y.move (v := .int .i64 i4) s5_1) ?_
    refine RQ.y rfl (Y.move (v := .slice Aa0 d0.length ca0) s0_1) ?_
    refine RQ.y rfl (Y.len (by kernel_rfl) rfl) ?_
    refine RQ.y rfl (Y.binI (v := .bool (decide (i4 < (d0.length : Int)))) rfl rfl rfl) ?_
    refine RQ.nil ?_
    refine then_n ?_
    rcases bcases (decide (i4 < (d0.length : Int))) with c6 | c6
    · replace hm := cF c6 hm
      have pc6 := of_decide_eq_false c6
      refine cond_f rfl (vb rfl c6) ?_
      refine wp_exit ?_
      exact (then_x (then_x (hit_x ⟨_, rfl, ⟨i3, s1_1, T, (by rw [hK1] at hm; exact hm)⟩⟩)))
    · replace hm := cT c6 hm
      have pc6 := of_decide_eq_true c6
      refine cond_t rfl (vb rfl c6) ?_
      refine wp_skip ?_
      refine then_n ?_
      refine wp_seq ?_
      refine wp_block ?_
      refine wp_seq ?_
      refine wp_seq ?_
      refine wp_rs rfl ?_
      refine RQ.y rfl (Y.move (v := .slice Aa0 d0.length ca0) s0_1) ?_
      refine RQ.y rfl (Y.move (v := .int .i64 i4) s5_1) ?_
      obtain ⟨x7, hx10, hm⟩ := bnd hm
      obtain ⟨k8, hk11, hl12, hx10⟩ := getI_some hx10
      obtain ⟨b14, o15, rfl, hbb14⟩ := ha0.addr (by omega)
      obtain ⟨cs9, hRcs9, hc13⟩ := ha0.el hx10
      have hScs9 := hRcs9
      obtain rfl := hRcs9
      refine RQ.y rfl (Y.indexAddr (m := k8) (sz := 2) rfl rfl hk11 hl12 (by kernel_rfl)) ?_
      refine RQ.y rfl (Y.fieldAddr (off := 0) rfl (by kernel_rfl)) ?_
      refine RQ.y rfl (Y.load (v := .int .i64 x7.agent) rfl (by kernel_rfl) (eqC (cellT T (hc13 0 _ rfl)))) ?_
      refine RQ.y rfl (Y.move (v := .int .i64 i3) s1_1) ?_
      refine RQ.y rfl (Y.binI (v := .bool (x7.agent != i3)) rfl rfl rfl) ?_
      refine RQ.nil ?_
      refine then_n ?_
      rcases bcases (x7.agent != i3) with c16 | c16
      · replace hm := cF c16 hm
        refine cond_f rfl (vb rfl c16) ?_
        refine wp_skip ?_
        refine then_n ?_
        refine wp_seq ?_
        refine wp_rs rfl ?_
        refine RQ.y rfl (Y.move (v := .int .i64 i3) s1_1) ?_
        obtain ⟨s17, ks17, hm⟩ := bnd hm
        replace ks17 := ck_some ks17
        refine RQ.y rfl (Y.binI (v := .int .i64 s17) rfl rfl (by rw [binI_add ks17.2, ks17.1])) ?_
        refine RQ.y rfl (Y.assign (v := .int .i64 s17) rfl) ?_
        refine RQ.nil ?_
        refine then_n ?_
        refine wp_seq ?_
        refine wp_seq ?_
        refine wp_rs rfl ?_
        refine RQ.y rfl (Y.move (v := .slice (some ⟨b14, o15, none⟩) d0.length ca0) s0_1) ?_
        refine RQ.y rfl (Y.move (v := .int .i64 i4) s5_1) ?_
        obtain ⟨x18, hx21, hm⟩ := bnd hm
        obtain ⟨k19, hk22, hl23, hx21⟩ := getI_some hx21
        obtain ⟨cs20, hRcs20, hc24⟩ := ha0.el hx21
        have hScs20 := hRcs20
        obtain rfl := hRcs20
        refine RQ.y rfl (Y.indexAddr (m := k19) (sz := 2) rfl rfl hk22 hl23 (by kernel_rfl)) ?_
        refine RQ.y rfl (Y.fieldAddr (off := 1) rfl (by kernel_rfl)) ?_
        refine RQ.y rfl (Y.load (v := .int .i64 x18.slot) rfl (by kernel_rfl) (eqC (cellT T (hc24 1 _ rfl)))) ?_
        refine RQ.y rfl (Y.move (v := .int .i64 s17) rfl) ?_
        refine RQ.y rfl (Y.binI (v := .bool (x18.slot != s17)) rfl rfl rfl) ?_
        refine RQ.nil ?_
        refine then_n ?_
        rcases bcases (x18.slot != s17) with c25 | c25
        · replace hm := cF c25 hm
          refine cond_f rfl (vb rfl c25) ?_
          refine wp_skip ?_
          refine then_n ?_
          refine wp_rs rfl ?_
          refine RQ.y rfl (Y.move (v := .int .i64 s17) rfl) ?_
          obtain ⟨s26, ks26, hm⟩ := bnd hm
          replace ks26 := ck_some ks26
          refine RQ.y rfl (Y.binI (v := .int .i64 s26) rfl rfl (by rw [binI_add ks26.2, ks26.1])) ?_
          refine RQ.y rfl (Y.assign (v := .int .i64 s26) rfl) ?_
          refine RQ.nil ?_
          refine blk_n (then_n ?_)
          refine wp_rs rfl ?_
          refine RQ.y rfl (Y.move (v := .int .i64 i4) s5_1) ?_
          refine RQ.y rfl (Y.binI rfl rfl (binI_add (m := i4) (by omega))) ?_
          refine RQ.y rfl (Y.assign (v := .int .i64 (i4 + 1)) rfl) ?_
          refine RQ.nil ?_
          exact (then_n ⟨g, _, Nat.lt_succ_self _, rfl, ⟨s26, (i4 + 1), s0_1, rfl, rfl, (by omega), T, (by rw [← hrec1]; exact hm)⟩⟩)
        · replace hm := cT c25 hm
          refine cond_t rfl (vb rfl c25) ?_
          refine wp_seq ?_
          refine wp_rs rfl ?_
          refine RQ.y rfl (Y.assign (v := .int .i64 (-1)) rfl) ?_
          refine RQ.nil ?_
          refine then_n ?_
          refine wp_ret ?_
          obtain rfl := Option.some.inj hm
          exact (then_r (blk_r (then_r (then_r (hit_r (blk_r (then_r (ret1 rfl rfl rfl ⟨rfl, T⟩))))))))
      · replace hm := cT c16 hm
        refine cond_t rfl (vb rfl c16) ?_
        refine wp_seq ?_
        refine wp_rs rfl ?_
        refine RQ.y rfl (Y.assign (v := .int .i64 (-1)) rfl) ?_
        refine RQ.nil ?_
        refine then_n ?_
        refine wp_ret ?_
        obtain rfl := Option.some.inj hm
        exact (then_r (blk_r (then_r (then_r (hit_r (blk_r (then_r (ret1 rfl rfl rfl ⟨rfl, T⟩))))))))
def m_laws_heldAgentS_A1 (i1 : Int) : Option Int :=
  some i1
def m_laws_heldAgentS_B1 (d0 : List DAgent) (rec1 : Int → Int → Option Int) (K1 : Int → Option Int) (i3 : Int) (i4 : Int) : Option Int :=
  (bif (decide (i4 < (d0.length : Int))) then ((getI d0 i4).bind fun x7 => (bif (x7.kind != i3) then some (-1) else ((ck (i3 + 1)).bind fun s19 => ((getI d0 i4).bind fun x20 => (bif (x20.level != s19) then some (-1) else ((ck (s19 + 1)).bind fun s30 => ((getI d0 i4).bind fun x31 => (bif (x31.value != s30) then some (-1) else ((ck (s30 + 1)).bind fun s41 => ((getI d0 i4).bind fun x42 => ((m_laws_heldInt64S x42.data s41).bind fun y51 => (bif (decide (y51 < 0)) then some (-1) else ((getI d0 i4).bind fun x56 => ((m_laws_heldPortS x56.ports y51).bind fun y65 => (bif (decide (y65 < 0)) then some (-1) else (rec1 y65 (i4 + 1))))))))))))))))) else (K1 i3))
def m_laws_heldAgentS_L1 (d0 : List DAgent) (K1 : Int → Option Int) : Nat → Int → Int → Option Int
  | 0, _, _ => none
  | g + 1, i3, i4 => m_laws_heldAgentS_B1 d0 (m_laws_heldAgentS_L1 d0 K1 g) K1 i3 i4
def m_laws_heldAgentS (d0 : List DAgent) (d1 : Int) : Option Int :=
  (m_laws_heldAgentS_L1 d0 m_laws_heldAgentS_A1 (d0.length + 1) d1 0)
set_option maxHeartbeats 2000000 in
theorem c_m_laws_heldAgentS (d0 : List DAgent) (d1 : Int) (r : Int) (hm : m_laws_heldAgentS d0 d1 = some r) (v0 : Value) (w : World) (hv0 : Sl agentRd 5 w v0 d0) :
    Calls Try.prog 81 #[v0, .int .i64 d1] w fun e w' => e = .returned (.int .i64 r) ∧ Below w.heap.size w w' := by
  obtain ⟨Aa0, na0, ca0, rfl, ha0, ra0⟩ := hv0
  have ea0 := ha0.len; subst ea0
  have qa0 := len_le ra0
  have T := Below.refl w.heap.size w
  unfold m_laws_heldAgentS at hm
  refine enter 58 Try.func81 rfl rfl rfl ?_
  intro f hf
  have s0 : f 0 = .slice Aa0 d0.length ca0 := hf 0 _ rfl
  have s1 : f 1 = .int .i64 d1 := hf 1 _ rfl
  refine wp_seq ?_
  refine wp_rs rfl ?_
  refine RQ.y rfl (Y.assign (v := .int .i64 0) rfl) ?_
  refine RQ.nil ?_
  refine then_n ?_
  refine wp_seq ?_
  refine wp_seq ?_
  refine wp_rs rfl ?_
  refine RQ.y rfl (Y.assign (v := .int .i64 0) rfl) ?_
  refine RQ.nil ?_
  refine then_n ?_
  refine wp_block ?_
  obtain ⟨K1, hK1, hm⟩ : ∃ K, K = m_laws_heldAgentS_A1 ∧ m_laws_heldAgentS_L1 d0 K (d0.length + 1) d1 0 = some r := ⟨_, rfl, hm⟩
  refine wp_loopX (fun g f w' => ∃ (i3 : Int) (i4 : Int), f 0 = .slice Aa0 d0.length ca0 ∧ f 1 = .int .i64 i3 ∧ f 5 = .int .i64 i4 ∧ 0 ≤ i4 ∧ Below w.heap.size w w' ∧ m_laws_heldAgentS_L1 d0 K1 g i3 i4 = some r) 0 (fun f w' => ∃ (i1 : Int), f 1 = .int .i64 i1 ∧ Below w.heap.size w w' ∧ m_laws_heldAgentS_A1 i1 = some r) (d0.length + 1) ⟨d1, 0, s0, s1, rfl, (by omega), T, hm⟩ ?_ ?_
  · rintro f w2 ⟨i1, s1_1x, T, hm⟩
    unfold m_laws_heldAgentS_A1 at hm
    refine blk_hit (then_n ?_)
    refine wp_seq ?_
    refine wp_rs rfl ?_
    refine RQ.y rfl (Y.move (v := .int .i64 i1) s1_1x) ?_
    refine RQ.y rfl (Y.assign (v := .int .i64 i1) rfl) ?_
    refine RQ.nil ?_
    refine then_n ?_
    refine wp_ret ?_
    obtain rfl := Option.some.inj hm
    exact (ret1 rfl rfl rfl ⟨rfl, T⟩)
  · rintro g f w5 ⟨i3, i4, s0_1, s1_1, s5_1, nn5_1, T, hm⟩
    rcases g with _ | g
    · simp only [m_laws_heldAgentS_L1] at hm; cases hm
    obtain ⟨rec1, hrec1, hm⟩ : ∃ z, z = m_laws_heldAgentS_L1 d0 K1 g ∧ m_laws_heldAgentS_B1 d0 z K1 i3 i4 = some r := ⟨_, rfl, hm⟩
    unfold m_laws_heldAgentS_B1 at hm
    refine wp_seq ?_
    refine wp_seq ?_
    refine wp_rs rfl ?_
    refine RQ.y rfl (Y.move (v := .int .i64 i4) s5_1) ?_
    refine RQ.y rfl (Y.move (v := .slice Aa0 d0.length ca0) s0_1) ?_
    refine RQ.y rfl (Y.len (by kernel_rfl) rfl) ?_
    refine RQ.y rfl (Y.binI (v := .bool (decide (i4 < (d0.length : Int)))) rfl rfl rfl) ?_
    refine RQ.nil ?_
    refine then_n ?_
    rcases bcases (decide (i4 < (d0.length : Int))) with c6 | c6
    · replace hm := cF c6 hm
      have pc6 := of_decide_eq_false c6
      refine cond_f rfl (vb rfl c6) ?_
      refine wp_exit ?_
      exact (then_x (then_x (hit_x ⟨_, rfl, ⟨i3, s1_1, T, (by rw [hK1] at hm; exact hm)⟩⟩)))
    · replace hm := cT c6 hm
      have pc6 := of_decide_eq_true c6
      refine cond_t rfl (vb rfl c6) ?_
      refine wp_skip ?_
      refine then_n ?_
      refine wp_seq ?_
      refine wp_block ?_
      refine wp_seq ?_
      refine wp_seq ?_
      refine wp_rs rfl ?_
      refine RQ.y rfl (Y.move (v := .slice Aa0 d0.length ca0) s0_1) ?_
      refine RQ.y rfl (Y.move (v := .int .i64 i4) s5_1) ?_
      obtain ⟨x7, hx10, hm⟩ := bnd hm
      obtain ⟨k8, hk11, hl12, hx10⟩ := getI_some hx10
      obtain ⟨b14, o15, rfl, hbb14⟩ := ha0.addr (by omega)
      obtain ⟨cs9, hRcs9, hc13⟩ := ha0.el hx10
      have hScs9 := hRcs9
      obtain ⟨A16, n16, c16, A17, n17, c17, rfl, ⟨h16, r16⟩, ⟨h17, r17⟩⟩ := hRcs9
      have e16 := h16.len; subst e16
      have q16 := len_le r16
      have e17 := h17.len; subst e17
      have q17 := len_le r17
      refine RQ.y rfl (Y.indexAddr (m := k8) (sz := 5) rfl rfl hk11 hl12 (by kernel_rfl)) ?_
      refine RQ.y rfl (Y.fieldAddr (off := 0) rfl (by kernel_rfl)) ?_
      refine RQ.y rfl (Y.load (v := .int .i64 x7.kind) rfl (by kernel_rfl) (eqC (cellT T (hc13 0 _ rfl)))) ?_
      refine RQ.y rfl (Y.move (v := .int .i64 i3) s1_1) ?_
      refine RQ.y rfl (Y.binI (v := .bool (x7.kind != i3)) rfl rfl rfl) ?_
      refine RQ.nil ?_
      refine then_n ?_
      rcases bcases (x7.kind != i3) with c18 | c18
      · replace hm := cF c18 hm
        refine cond_f rfl (vb rfl c18) ?_
        refine wp_skip ?_
        refine then_n ?_
        refine wp_seq ?_
        refine wp_rs rfl ?_
        refine RQ.y rfl (Y.move (v := .int .i64 i3) s1_1) ?_
        obtain ⟨s19, ks19, hm⟩ := bnd hm
        replace ks19 := ck_some ks19
        refine RQ.y rfl (Y.binI (v := .int .i64 s19) rfl rfl (by rw [binI_add ks19.2, ks19.1])) ?_
        refine RQ.y rfl (Y.assign (v := .int .i64 s19) rfl) ?_
        refine RQ.nil ?_
        refine then_n ?_
        refine wp_seq ?_
        refine wp_seq ?_
        refine wp_rs rfl ?_
        refine RQ.y rfl (Y.move (v := .slice (some ⟨b14, o15, none⟩) d0.length ca0) s0_1) ?_
        refine RQ.y rfl (Y.move (v := .int .i64 i4) s5_1) ?_
        obtain ⟨x20, hx23, hm⟩ := bnd hm
        obtain ⟨k21, hk24, hl25, hx23⟩ := getI_some hx23
        obtain ⟨cs22, hRcs22, hc26⟩ := ha0.el hx23
        have hScs22 := hRcs22
        obtain ⟨A27, n27, c27, A28, n28, c28, rfl, ⟨h27, r27⟩, ⟨h28, r28⟩⟩ := hRcs22
        have e27 := h27.len; subst e27
        have q27 := len_le r27
        have e28 := h28.len; subst e28
        have q28 := len_le r28
        refine RQ.y rfl (Y.indexAddr (m := k21) (sz := 5) rfl rfl hk24 hl25 (by kernel_rfl)) ?_
        refine RQ.y rfl (Y.fieldAddr (off := 1) rfl (by kernel_rfl)) ?_
        refine RQ.y rfl (Y.load (v := .int .i64 x20.level) rfl (by kernel_rfl) (eqC (cellT T (hc26 1 _ rfl)))) ?_
        refine RQ.y rfl (Y.move (v := .int .i64 s19) rfl) ?_
        refine RQ.y rfl (Y.binI (v := .bool (x20.level != s19)) rfl rfl rfl) ?_
        refine RQ.nil ?_
        refine then_n ?_
        rcases bcases (x20.level != s19) with c29 | c29
        · replace hm := cF c29 hm
          refine cond_f rfl (vb rfl c29) ?_
          refine wp_skip ?_
          refine then_n ?_
          refine wp_seq ?_
          refine wp_rs rfl ?_
          refine RQ.y rfl (Y.move (v := .int .i64 s19) rfl) ?_
          obtain ⟨s30, ks30, hm⟩ := bnd hm
          replace ks30 := ck_some ks30
          refine RQ.y rfl (Y.binI (v := .int .i64 s30) rfl rfl (by rw [binI_add ks30.2, ks30.1])) ?_
          refine RQ.y rfl (Y.assign (v := .int .i64 s30) rfl) ?_
          refine RQ.nil ?_
          refine then_n ?_
          refine wp_seq ?_
          refine wp_seq ?_
          refine wp_rs rfl ?_
          refine RQ.y rfl (Y.move (v := .slice (some ⟨b14, o15, none⟩) d0.length ca0) s0_1) ?_
          refine RQ.y rfl (Y.move (v := .int .i64 i4) s5_1) ?_
          obtain ⟨x31, hx34, hm⟩ := bnd hm
          obtain ⟨k32, hk35, hl36, hx34⟩ := getI_some hx34
          obtain ⟨cs33, hRcs33, hc37⟩ := ha0.el hx34
          have hScs33 := hRcs33
          obtain ⟨A38, n38, c38, A39, n39, c39, rfl, ⟨h38, r38⟩, ⟨h39, r39⟩⟩ := hRcs33
          have e38 := h38.len; subst e38
          have q38 := len_le r38
          have e39 := h39.len; subst e39
          have q39 := len_le r39
          refine RQ.y rfl (Y.indexAddr (m := k32) (sz := 5) rfl rfl hk35 hl36 (by kernel_rfl)) ?_
          refine RQ.y rfl (Y.fieldAddr (off := 2) rfl (by kernel_rfl)) ?_
          refine RQ.y rfl (Y.load (v := .int .i64 x31.value) rfl (by kernel_rfl) (eqC (cellT T (hc37 2 _ rfl)))) ?_
          refine RQ.y rfl (Y.move (v := .int .i64 s30) rfl) ?_
          refine RQ.y rfl (Y.binI (v := .bool (x31.value != s30)) rfl rfl rfl) ?_
          refine RQ.nil ?_
          refine then_n ?_
          rcases bcases (x31.value != s30) with c40 | c40
          · replace hm := cF c40 hm
            refine cond_f rfl (vb rfl c40) ?_
            refine wp_skip ?_
            refine then_n ?_
            refine wp_seq ?_
            refine wp_rs rfl ?_
            refine RQ.y rfl (Y.move (v := .int .i64 s30) rfl) ?_
            obtain ⟨s41, ks41, hm⟩ := bnd hm
            replace ks41 := ck_some ks41
            refine RQ.y rfl (Y.binI (v := .int .i64 s41) rfl rfl (by rw [binI_add ks41.2, ks41.1])) ?_
            refine RQ.y rfl (Y.assign (v := .int .i64 s41) rfl) ?_
            refine RQ.nil ?_
            refine then_n ?_
            refine wp_seq ?_
            refine wp_rb rfl ?_
            refine RQ.y rfl (Y.move (v := .slice (some ⟨b14, o15, none⟩) d0.length ca0) s0_1) ?_
            refine RQ.y rfl (Y.move (v := .int .i64 i4) s5_1) ?_
            obtain ⟨x42, hx45, hm⟩ := bnd hm
            obtain ⟨k43, hk46, hl47, hx45⟩ := getI_some hx45
            obtain ⟨cs44, hRcs44, hc48⟩ := ha0.el hx45
            have hScs44 := hRcs44
            obtain ⟨A49, n49, c49, A50, n50, c50, rfl, ⟨h49, r49⟩, ⟨h50, r50⟩⟩ := hRcs44
            have e49 := h49.len; subst e49
            have q49 := len_le r49
            have e50 := h50.len; subst e50
            have q50 := len_le r50
            refine RQ.y rfl (Y.indexAddr (m := k43) (sz := 5) rfl rfl hk46 hl47 (by kernel_rfl)) ?_
            refine RQ.y rfl (Y.fieldAddr (off := 3) rfl (by kernel_rfl)) ?_
            refine RQ.y rfl (Y.load (v := .slice A49 x42.data.length c49) rfl (by kernel_rfl) (beC (cellT T (hc48 3 _ rfl)))) ?_
            refine RQ.y rfl (Y.move (v := .int .i64 s41) rfl) ?_
            obtain ⟨y51, e52, hm⟩ := bnd hm
            refine RQ.call rfl (am2 rfl rfl) (by kernel_rfl) (v := .int .i64 y51) (bel (K := fun _ => True) fun w' hb' => (c_m_laws_heldInt64S x42.data s41 _ e52 _ w' (slArg intRd_ok h49 r49 (Tt T hb')))) ?_
            refine RQ.y rfl (Y.assign (v := .int .i64 y51) rfl) ?_
            refine RQ.nil ?_
            intro w53 hb54
            have szw53 := hb54.size
            have T := Tt T hb54
            refine then_n ?_
            refine wp_seq ?_
            refine wp_seq ?_
            refine wp_rs rfl ?_
            refine RQ.y rfl (Y.move (v := .int .i64 y51) rfl) ?_
            refine RQ.y rfl (Y.binI (v := .bool (decide (y51 < 0))) rfl rfl rfl) ?_
            refine RQ.nil ?_
            refine then_n ?_
            rcases bcases (decide (y51 < 0)) with c55 | c55
            · replace hm := cF c55 hm
              have pc55 := of_decide_eq_false c55
              refine cond_f rfl (vb rfl c55) ?_
              refine wp_skip ?_
              refine then_n ?_
              refine wp_seq ?_
              refine wp_rb rfl ?_
              refine RQ.y rfl (Y.move (v := .slice (some ⟨b14, o15, none⟩) d0.length ca0) s0_1) ?_
              refine RQ.y rfl (Y.move (v := .int .i64 i4) s5_1) ?_
              obtain ⟨x56, hx59, hm⟩ := bnd hm
              obtain ⟨k57, hk60, hl61, hx59⟩ := getI_some hx59
              obtain ⟨cs58, hRcs58, hc62⟩ := ha0.el hx59
              have hScs58 := hRcs58
              obtain ⟨A63, n63, c63, A64, n64, c64, rfl, ⟨h63, r63⟩, ⟨h64, r64⟩⟩ := hRcs58
              have e63 := h63.len; subst e63
              have q63 := len_le r63
              have e64 := h64.len; subst e64
              have q64 := len_le r64
              refine RQ.y rfl (Y.indexAddr (m := k57) (sz := 5) rfl rfl hk60 hl61 (by kernel_rfl)) ?_
              refine RQ.y rfl (Y.fieldAddr (off := 4) rfl (by kernel_rfl)) ?_
              refine RQ.y rfl (Y.load (v := .slice A64 x56.ports.length c64) rfl (by kernel_rfl) (beC (cellT T (hc62 4 _ rfl)))) ?_
              refine RQ.y rfl (Y.move (v := .int .i64 y51) rfl) ?_
              obtain ⟨y65, e66, hm⟩ := bnd hm
              refine RQ.call rfl (am2 rfl rfl) (by kernel_rfl) (v := .int .i64 y65) (bel (K := fun _ => True) fun w' hb' => (c_m_laws_heldPortS x56.ports y51 _ e66 _ w' (slArg portRd_ok h64 r64 (Tt T hb')))) ?_
              refine RQ.y rfl (Y.assign (v := .int .i64 y65) rfl) ?_
              refine RQ.nil ?_
              intro w67 hb68
              have szw67 := hb68.size
              have T := Tt T hb68
              refine then_n ?_
              refine wp_seq ?_
              refine wp_rs rfl ?_
              refine RQ.y rfl (Y.move (v := .int .i64 y65) rfl) ?_
              refine RQ.y rfl (Y.binI (v := .bool (decide (y65 < 0))) rfl rfl rfl) ?_
              refine RQ.nil ?_
              refine then_n ?_
              rcases bcases (decide (y65 < 0)) with c69 | c69
              · replace hm := cF c69 hm
                have pc69 := of_decide_eq_false c69
                refine cond_f rfl (vb rfl c69) ?_
                refine wp_skip ?_
                refine blk_n (then_n ?_)
                refine wp_rs rfl ?_
                refine RQ.y rfl (Y.move (v := .int .i64 i4) s5_1) ?_
                refine RQ.y rfl (Y.binI rfl rfl (binI_add (m := i4) (by omega))) ?_
                refine RQ.y rfl (Y.assign (v := .int .i64 (i4 + 1)) rfl) ?_
                refine RQ.nil ?_
                exact (then_n ⟨g, _, Nat.lt_succ_self _, rfl, ⟨y65, (i4 + 1), s0_1, rfl, rfl, (by omega), T, (by rw [← hrec1]; exact hm)⟩⟩)
              · replace hm := cT c69 hm
                have pc69 := of_decide_eq_true c69
                refine cond_t rfl (vb rfl c69) ?_
                refine wp_seq ?_
                refine wp_rs rfl ?_
                refine RQ.y rfl (Y.assign (v := .int .i64 (-1)) rfl) ?_
                refine RQ.nil ?_
                refine then_n ?_
                refine wp_ret ?_
                obtain rfl := Option.some.inj hm
                exact (blk_r (then_r (then_r (hit_r (blk_r (then_r (ret1 rfl rfl rfl ⟨rfl, T⟩)))))))
            · replace hm := cT c55 hm
              have pc55 := of_decide_eq_true c55
              refine cond_t rfl (vb rfl c55) ?_
              refine wp_seq ?_
              refine wp_rs rfl ?_
              refine RQ.y rfl (Y.assign (v := .int .i64 (-1)) rfl) ?_
              refine RQ.nil ?_
              refine then_n ?_
              refine wp_ret ?_
              obtain rfl := Option.some.inj hm
              exact (then_r (blk_r (then_r (then_r (hit_r (blk_r (then_r (ret1 rfl rfl rfl ⟨rfl, T⟩))))))))
          · replace hm := cT c40 hm
            refine cond_t rfl (vb rfl c40) ?_
            refine wp_seq ?_
            refine wp_rs rfl ?_
            refine RQ.y rfl (Y.assign (v := .int .i64 (-1)) rfl) ?_
            refine RQ.nil ?_
            refine then_n ?_
            refine wp_ret ?_
            obtain rfl := Option.some.inj hm
            exact (then_r (blk_r (then_r (then_r (hit_r (blk_r (then_r (ret1 rfl rfl rfl ⟨rfl, T⟩))))))))
        · replace hm := cT c29 hm
          refine cond_t rfl (vb rfl c29) ?_
          refine wp_seq ?_
          refine wp_rs rfl ?_
          refine RQ.y rfl (Y.assign (v := .int .i64 (-1)) rfl) ?_
          refine RQ.nil ?_
          refine then_n ?_
          refine wp_ret ?_
          obtain rfl := Option.some.inj hm
          exact (then_r (blk_r (then_r (then_r (hit_r (blk_r (then_r (ret1 rfl rfl rfl ⟨rfl, T⟩))))))))
      · replace hm := cT c18 hm
        refine cond_t rfl (vb rfl c18) ?_
        refine wp_seq ?_
        refine wp_rs rfl ?_
        refine RQ.y rfl (Y.assign (v := .int .i64 (-1)) rfl) ?_
        refine RQ.nil ?_
        refine then_n ?_
        refine wp_ret ?_
        obtain rfl := Option.some.inj hm
        exact (then_r (blk_r (then_r (then_r (hit_r (blk_r (then_r (ret1 rfl rfl rfl ⟨rfl, T⟩))))))))
def m_laws_heldNet (d0 : DNet) (d1 : Int) : Option Int :=
  ((m_laws_heldAgentS d0.agents d1).bind fun y6 => (bif (decide (y6 < 0)) then some (-1) else some y6))
set_option maxHeartbeats 2000000 in
theorem c_m_laws_heldNet (d0 : DNet) (d1 : Int) (r : Int) (hm : m_laws_heldNet d0 d1 = some r) (v0 : Value) (w : World) (hv0 : St netRd w v0 d0) :
    Calls Try.prog 30 #[v0, .int .i64 d1] w fun e w' => e = .returned (.int .i64 r) ∧ Below w.heap.size w w' := by
  obtain ⟨csa0, rfl, ⟨A1, n1, c1, rfl, ⟨h1, r1⟩⟩⟩ := hv0
  have e1 := h1.len; subst e1
  have q1 := len_le r1
  have T := Below.refl w.heap.size w
  unfold m_laws_heldNet at hm
  refine enter 12 Try.func30 rfl rfl rfl ?_
  intro f hf
  have s0 : f 0 = .agg #[.slice A1 d0.agents.length c1] := hf 0 _ rfl
  have s1 : f 1 = .int .i64 d1 := hf 1 _ rfl
  refine wp_seq ?_
  refine wp_rl rfl ?_
  refine RL.box rfl s0 (fun w2 B3 hb4 szw2 => ?_)
  replace B3 : Blk w2 w.heap.size 30 #[.slice A1 d0.agents.length c1] := B3
  have GB3 : w.heap.size ≤ w.heap.size := T.size
  have T := Tt T hb4
  refine RL.y rfl (Y.assign (v := .int .i64 0) rfl) ?_
  refine RL.nil ?_
  refine then_n ?_
  refine wp_seq ?_
  refine wp_rb rfl ?_
  refine RQ.y rfl (Y.fieldAddr (off := 0) rfl (by kernel_rfl)) ?_
  refine RQ.y rfl (Y.load (v := .slice A1 d0.agents.length c1) rfl (by kernel_rfl) (beC (blkCell B3 (i := 0) rfl))) ?_
  refine RQ.y rfl (Y.move (v := .int .i64 d1) s1) ?_
  obtain ⟨y6, e7, hm⟩ := bnd hm
  refine RQ.call rfl (am2 rfl rfl) (by kernel_rfl) (v := .int .i64 y6) (bel (K := fun _ => True) fun w' hb' => (c_m_laws_heldAgentS d0.agents d1 _ e7 _ w' (slArg agentRd_ok h1 r1 (Tt T hb')))) ?_
  refine RQ.y rfl (Y.assign (v := .int .i64 y6) rfl) ?_
  refine RQ.nil ?_
  intro w8 hb9
  have szw8 := hb9.size
  have T := Tt T hb9
  refine then_n ?_
  refine wp_seq ?_
  refine wp_seq ?_
  refine wp_rs rfl ?_
  refine RQ.y rfl (Y.move (v := .int .i64 y6) rfl) ?_
  refine RQ.y rfl (Y.binI (v := .bool (decide (y6 < 0))) rfl rfl rfl) ?_
  refine RQ.nil ?_
  refine then_n ?_
  rcases bcases (decide (y6 < 0)) with c10 | c10
  · replace hm := cF c10 hm
    have pc10 := of_decide_eq_false c10
    refine cond_f rfl (vb rfl c10) ?_
    refine wp_skip ?_
    refine then_n ?_
    refine wp_seq ?_
    refine wp_rs rfl ?_
    refine RQ.y rfl (Y.move (v := .int .i64 y6) rfl) ?_
    refine RQ.y rfl (Y.assign (v := .int .i64 y6) rfl) ?_
    refine RQ.nil ?_
    refine then_n ?_
    refine wp_ret ?_
    obtain rfl := Option.some.inj hm
    exact (ret1 rfl rfl rfl ⟨rfl, T⟩)
  · replace hm := cT c10 hm
    have pc10 := of_decide_eq_true c10
    refine cond_t rfl (vb rfl c10) ?_
    refine wp_seq ?_
    refine wp_rs rfl ?_
    refine RQ.y rfl (Y.assign (v := .int .i64 (-1)) rfl) ?_
    refine RQ.nil ?_
    refine then_n ?_
    refine wp_ret ?_
    obtain rfl := Option.some.inj hm
    exact (then_r (ret1 rfl rfl rfl ⟨rfl, T⟩))
end
end Go.Proofs.Ytampijkiidjcmaa
