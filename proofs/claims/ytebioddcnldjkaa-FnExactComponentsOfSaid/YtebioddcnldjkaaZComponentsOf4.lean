/- Lemmas of the proof of ComponentsOf, part 4. No condition. -/
import Derived.Test.YtebioddcnldjkaaZComponentsOf3
namespace Go.Proofs.Ytebioddcnldjkaa
section
open Go.RowKit
set_option linter.unusedVariables false
set_option linter.unusedSimpArgs false
set_option maxRecDepth 100000
def m_spec_l12Sorted_A1 (xs8 : List Int) : Option (List Int) :=
  some xs8
def m_spec_l12Sorted_A2 (rec1 : List Int → Int → Option (List Int)) (i11 : Int) (xs16 : List Int) : Option (List Int) :=
  ((ck (i11 + 1)).bind fun s18 => (rec1 xs16 s18))
def m_spec_l12Sorted_B2 (rec2 : List Int → Int → Option (List Int)) (K2 : List Int → Option (List Int)) (xs19 : List Int) (i20 : Int) : Option (List Int) :=
  (bif (decide (i20 > 0)) then ((ck (i20 - 1)).bind fun s25 => ((getI xs19 s25).bind fun x28 => ((getI xs19 i20).bind fun x34 => (bif (decide (x28 > x34)) then ((getI xs19 i20).bind fun x42 => ((ck (i20 - 1)).bind fun s47 => ((getI xs19 s47).bind fun x48 => ((getI xs19 i20).bind fun x53 => ((ck (i20 - 1)).bind fun s63 => ((getI (setI xs19 i20 x48) s63).bind fun x64 => ((ck (i20 - 1)).bind fun s74 => (rec2 (setI (setI xs19 i20 x48) s63 x42) s74)))))))) else (K2 xs19))))) else (K2 xs19))
def m_spec_l12Sorted_L2 (K2 : List Int → Option (List Int)) : Nat → List Int → Int → Option (List Int)
  | 0, _, _ => none
  | g + 1, xs19, i20 => m_spec_l12Sorted_B2 (m_spec_l12Sorted_L2 K2 g) K2 xs19 i20
def m_spec_l12Sorted_B1 (rec1 : List Int → Int → Option (List Int)) (K1 : List Int → Option (List Int)) (xs10 : List Int) (i11 : Int) : Option (List Int) :=
  (bif (decide (i11 < (xs10.length : Int))) then (m_spec_l12Sorted_L2 (m_spec_l12Sorted_A2 rec1 i11) (i11.toNat + 2) xs10 i11) else (K1 xs10))
def m_spec_l12Sorted_L1 (K1 : List Int → Option (List Int)) : Nat → List Int → Int → Option (List Int)
  | 0, _, _ => none
  | g + 1, xs10, i11 => m_spec_l12Sorted_B1 (m_spec_l12Sorted_L1 K1 g) K1 xs10 i11
def m_spec_l12Sorted (d0 : List Int) : Option (List Int) :=
  ((m_spec_l00Own d0).bind fun y1 => (m_spec_l12Sorted_L1 m_spec_l12Sorted_A1 (y1.length + 1) y1 1))
set_option maxHeartbeats 2000000 in
theorem c_m_spec_l12Sorted (d0 : List Int) (r : List Int) (hm : m_spec_l12Sorted d0 = some r) (v0 : Value) (w : World) (hv0 : Sl intRd 1 w v0 d0) :
    Calls Try.prog 46 #[v0] w fun e w' => (∃ (v0 : Value), e = .returned (v0) ∧ OwF 2 encI 1 w' w.heap.size v0 r) ∧ Below w.heap.size w w' := by
  obtain ⟨Aa0, na0, ca0, rfl, ha0, ra0⟩ := hv0
  have ea0 := ha0.len; subst ea0
  have qa0 := len_le ra0
  have T := Below.refl w.heap.size w
  unfold m_spec_l12Sorted at hm
  refine enter 50 Try.func46 rfl rfl rfl ?_
  intro f hf
  have s0 : f 0 = .slice Aa0 d0.length ca0 := hf 0 _ rfl
  refine wp_seq ?_
  refine wp_rs rfl ?_
  refine RQ.y rfl (Y.assign (v := .slice none 0 0) rfl) ?_
  refine RQ.nil ?_
  refine then_n ?_
  refine wp_seq ?_
  refine wp_rl rfl ?_
  refine RL.y rfl (Y.move (v := .slice Aa0 d0.length ca0) s0) ?_
  obtain ⟨y1, e2, hm⟩ := bnd hm
  refine RL.call rfl (am1 rfl) (by kernel_rfl) ((c_m_spec_l00Own d0 _ e2 _ _ (slArg intRd_ok ha0 ra0 T)).mono ?_)
  rintro _ w6 ⟨⟨v3, rfl, G4⟩, hb7⟩
  refine ⟨_, rfl, ?_⟩
  have szw6 := hb7.size
  have T0w6 := T.size
  have T := Tt T hb7
  replace G4 := OwF.mono G4 T0w6
  refine RL.y rfl (Y.assign (v := v3) rfl) ?_
  refine RL.nil ?_
  refine then_n ?_
  refine wp_seq ?_
  refine wp_seq ?_
  refine wp_rs rfl ?_
  refine RQ.y rfl (Y.assign (v := .int .i64 1) rfl) ?_
  refine RQ.nil ?_
  refine then_n ?_
  refine wp_block ?_
  obtain ⟨K1, hK1, hm⟩ : ∃ K, K = m_spec_l12Sorted_A1 ∧ m_spec_l12Sorted_L1 K (y1.length + 1) y1 1 = some r := ⟨_, rfl, hm⟩
  refine wp_loopX (fun g f w' => ∃ (xs10 : List Int) (i11 : Int) (uxs10 : Value), f 3 = uxs10 ∧ OwF 2 encI 1 w' w.heap.size uxs10 xs10 ∧ f 4 = .int .i64 i11 ∧ 0 ≤ i11 ∧ Below w.heap.size w w' ∧ m_spec_l12Sorted_L1 K1 g xs10 i11 = some r) 0 (fun f w' => ∃ (xs8 : List Int) (uxs8 : Value), f 3 = uxs8 ∧ OwF 2 encI 1 w' w.heap.size uxs8 xs8 ∧ Below w.heap.size w w' ∧ m_spec_l12Sorted_A1 xs8 = some r) (y1.length + 1) ⟨y1, 1, (v3), rfl, G4, rfl, (by omega), T, hm⟩ ?_ ?_
  · rintro f w9 ⟨xs8, uxs8, s3_1x, Guxs8, T, hm⟩
    unfold m_spec_l12Sorted_A1 at hm
    refine blk_hit (then_n ?_)
    refine wp_seq ?_
    refine wp_rs rfl ?_
    refine RQ.y rfl (Y.move (v := uxs8) s3_1x) ?_
    refine RQ.y rfl (Y.assign (v := uxs8) rfl) ?_
    refine RQ.nil ?_
    refine then_n ?_
    refine wp_ret ?_
    obtain rfl := Option.some.inj hm
    exact (ret1 rfl rfl rfl ⟨⟨_, rfl, Guxs8⟩, T⟩)
  · rintro g f w12 ⟨xs10, i11, uxs10, s3_1, Guxs10, s4_1, nn4_1, T, hm⟩
    rcases g with _ | g
    · simp only [m_spec_l12Sorted_L1] at hm; cases hm
    obtain ⟨rec1, hrec1, hm⟩ : ∃ z, z = m_spec_l12Sorted_L1 K1 g ∧ m_spec_l12Sorted_B1 z K1 xs10 i11 = some r := ⟨_, rfl, hm⟩
    unfold m_spec_l12Sorted_B1 at hm
    refine wp_seq ?_
    refine wp_seq ?_
    refine wp_rs rfl ?_
    refine RQ.y rfl (Y.move (v := .int .i64 i11) s4_1) ?_
    refine RQ.y rfl (Y.move (v := uxs10) s3_1) ?_
    obtain ⟨A13, c14, rfl⟩ := OwF.form Guxs10
    have qbA13 := OwF.bound Guxs10
    refine RQ.y rfl (Y.len (by kernel_rfl) rfl) ?_
    refine RQ.y rfl (Y.binI (v := .bool (decide (i11 < (xs10.length : Int)))) rfl rfl rfl) ?_
    refine RQ.nil ?_
    refine then_n ?_
    rcases bcases (decide (i11 < (xs10.length : Int))) with c15 | c15
    · replace hm := cF c15 hm
      have pc15 := of_decide_eq_false c15
      refine cond_f rfl (vb rfl c15) ?_
      refine wp_exit ?_
      exact (then_x (then_x (hit_x ⟨_, rfl, ⟨xs10, (.slice A13 xs10.length c14), s3_1, Guxs10, T, (by rw [hK1] at hm; exact hm)⟩⟩)))
    · replace hm := cT c15 hm
      have pc15 := of_decide_eq_true c15
      refine cond_t rfl (vb rfl c15) ?_
      refine wp_skip ?_
      refine then_n ?_
      refine wp_seq ?_
      refine wp_block ?_
      refine wp_seq ?_
      refine wp_rs rfl ?_
      refine RQ.y rfl (Y.move (v := .int .i64 i11) s4_1) ?_
      refine RQ.y rfl (Y.assign (v := .int .i64 i11) rfl) ?_
      refine RQ.nil ?_
      refine then_n ?_
      refine wp_block ?_
      obtain ⟨K2, hK2, hm⟩ : ∃ K, K = (m_spec_l12Sorted_A2 rec1 i11) ∧ m_spec_l12Sorted_L2 K (i11.toNat + 2) xs10 i11 = some r := ⟨_, rfl, hm⟩
      refine wp_loopX (fun g f w' => ∃ (xs19 : List Int) (i20 : Int) (uxs19 : Value), f 4 = .int .i64 i11 ∧ f 3 = uxs19 ∧ OwF 2 encI 1 w' w.heap.size uxs19 xs19 ∧ f 5 = .int .i64 i20 ∧ Below w.heap.size w w' ∧ m_spec_l12Sorted_L2 K2 g xs19 i20 = some r) 2 (fun f w' => ∃ (xs16 : List Int) (uxs16 : Value), f 4 = .int .i64 i11 ∧ f 3 = uxs16 ∧ OwF 2 encI 1 w' w.heap.size uxs16 xs16 ∧ Below w.heap.size w w' ∧ m_spec_l12Sorted_A2 rec1 i11 xs16 = some r) (i11.toNat + 2) ⟨xs10, i11, (.slice A13 xs10.length c14), s4_1, s3_1, Guxs10, rfl, T, hm⟩ ?_ ?_
      · rintro f w17 ⟨xs16, uxs16, s4_2x, s3_2x, Guxs16, T, hm⟩
        unfold m_spec_l12Sorted_A2 at hm
        refine blk_hit (blk_n (then_n ?_))
        refine wp_rs rfl ?_
        refine RQ.y rfl (Y.move (v := .int .i64 i11) s4_2x) ?_
        obtain ⟨s18, ks18, hm⟩ := bnd hm
        replace ks18 := ck_some ks18
        refine RQ.y rfl (Y.binI (v := .int .i64 s18) rfl rfl (by rw [binI_add ks18.2, ks18.1])) ?_
        refine RQ.y rfl (Y.assign (v := .int .i64 s18) rfl) ?_
        refine RQ.nil ?_
        exact (then_n ⟨g, _, Nat.lt_succ_self _, rfl, ⟨xs16, s18, (uxs16), s3_2x, Guxs16, rfl, (by omega), T, (by rw [← hrec1]; exact hm)⟩⟩)
      · rintro g f w21 ⟨xs19, i20, uxs19, s4_2, s3_2, Guxs19, s5_2, T, hm⟩
        rcases g with _ | g
        · simp only [m_spec_l12Sorted_L2] at hm; cases hm
        obtain ⟨rec2, hrec2, hm⟩ : ∃ z, z = m_spec_l12Sorted_L2 K2 g ∧ m_spec_l12Sorted_B2 z K2 xs19 i20 = some r := ⟨_, rfl, hm⟩
        unfold m_spec_l12Sorted_B2 at hm
        refine wp_seq ?_
        refine wp_seq ?_
        refine wp_rbd (by kernel_rfl) (by kernel_rfl) ?_
        refine RQ.y rfl (Y.move (v := .int .i64 i20) s5_2) ?_
        refine RQ.y rfl (Y.binI (v := .bool (decide (i20 > 0))) rfl rfl rfl) ?_
        refine RQ.y rfl (Y.move (v := .bool (decide (i20 > 0))) rfl) ?_
        rcases bcases (decide (i20 > 0)) with c22 | c22
        · replace hm := cF c22 hm
          have pc22 := of_decide_eq_false c22
          refine RQ.skip (wantN (dj := 18) rfl (vb rfl c22) rfl) ?_
          refine RQ.skip (wantN (dj := 18) rfl (vb rfl c22) rfl) ?_
          refine RQ.skip (wantN (dj := 18) rfl (vb rfl c22) rfl) ?_
          refine RQ.skip (wantN (dj := 18) rfl (vb rfl c22) rfl) ?_
          refine RQ.skip (wantN (dj := 18) rfl (vb rfl c22) rfl) ?_
          refine RQ.skip (wantN (dj := 18) rfl (vb rfl c22) rfl) ?_
          refine RQ.skip (wantN (dj := 18) rfl (vb rfl c22) rfl) ?_
          refine RQ.skip (wantN (dj := 18) rfl (vb rfl c22) rfl) ?_
          refine RQ.skip (wantN (dj := 18) rfl (vb rfl c22) rfl) ?_
          refine RQ.skip (wantN (dj := 18) rfl (vb rfl c22) rfl) ?_
          refine RQ.y rfl (Y.pick (b := false) (v := .bool false) (vb rfl c22) rfl) ?_
          refine RQ.nil ?_
          intro w23 hb24
          have szw23 := hb24.size
          have Guxs19 := OwF.below Guxs19 hb24
          have T := Tt T hb24
          refine then_n ?_
          refine cond_f rfl rfl ?_
          refine wp_exit ?_
          exact (then_x (then_x (hit_x ⟨_, rfl, ⟨xs19, (uxs19), s4_2, s3_2, Guxs19, T, (by rw [hK2] at hm; exact hm)⟩⟩)))
        · replace hm := cT c22 hm
          have pc22 := of_decide_eq_true c22
          refine RQ.y (wantT (dj := 18) rfl (vb rfl c22)) (Y.move (v := uxs19) s3_2) ?_
          refine RQ.y (wantT (dj := 18) rfl (vb rfl c22)) (Y.move (v := .int .i64 i20) s5_2) ?_
          obtain ⟨s25, ks25, hm⟩ := bnd hm
          replace ks25 := ck_some ks25
          refine RQ.y (wantT (dj := 18) rfl (vb rfl c22)) (Y.binI (v := .int .i64 s25) rfl rfl (by rw [binI_sub ks25.2, ks25.1])) ?_
          obtain ⟨A26, c27, rfl⟩ := OwF.form Guxs19
          have qbA26 := OwF.bound Guxs19
          obtain ⟨x28, hx30, hm⟩ := bnd hm
          obtain ⟨k29, hk31, hl32, hx30⟩ := getI_some hx30
          obtain ⟨b33, rfl⟩ := OwF.addr0 Guxs19 (by omega)
          refine RQ.y (wantT (dj := 18) rfl (vb rfl c22)) (Y.indexAddr (m := k29) (sz := 1) rfl rfl hk31 hl32 (by kernel_rfl)) ?_
          refine RQ.y (wantT (dj := 18) rfl (vb rfl c22)) (Y.load (v := .int .i64 x28) rfl (by kernel_rfl) (beC (OwF.cell fI Guxs19 hx30 (j := 0) rfl))) ?_
          refine RQ.y (wantT (dj := 18) rfl (vb rfl c22)) (Y.move (v := .slice (some ⟨b33, 0, none⟩) xs19.length c27) s3_2) ?_
          refine RQ.y (wantT (dj := 18) rfl (vb rfl c22)) (Y.move (v := .int .i64 i20) s5_2) ?_
          obtain ⟨x34, hx36, hm⟩ := bnd hm
          obtain ⟨k35, hk37, hl38, hx36⟩ := getI_some hx36
          refine RQ.y (wantT (dj := 18) rfl (vb rfl c22)) (Y.indexAddr (m := k35) (sz := 1) rfl rfl hk37 hl38 (by kernel_rfl)) ?_
          refine RQ.y (wantT (dj := 18) rfl (vb rfl c22)) (Y.load (v := .int .i64 x34) rfl (by kernel_rfl) (beC (OwF.cell fI Guxs19 hx36 (j := 0) rfl))) ?_
          refine RQ.y (wantT (dj := 18) rfl (vb rfl c22)) (Y.binI (v := .bool (decide (x28 > x34))) rfl rfl rfl) ?_
          refine RQ.y rfl (Y.pick (b := true) (v := .bool (decide (x28 > x34))) (vb rfl c22) rfl) ?_
          refine RQ.nil ?_
          intro w39 hb40
          have szw39 := hb40.size
          have Guxs19 := OwF.below Guxs19 hb40
          have T := Tt T hb40
          refine then_n ?_
          rcases bcases (decide (x28 > x34)) with c41 | c41
          · replace hm := cF c41 hm
            have pc41 := of_decide_eq_false c41
            refine cond_f rfl (vb rfl c41) ?_
            refine wp_exit ?_
            exact (then_x (then_x (hit_x ⟨_, rfl, ⟨xs19, (.slice (some ⟨b33, 0, none⟩) xs19.length c27), s4_2, s3_2, Guxs19, T, (by rw [hK2] at hm; exact hm)⟩⟩)))
          · replace hm := cT c41 hm
            have pc41 := of_decide_eq_true c41
            refine cond_t rfl (vb rfl c41) ?_
            refine wp_skip ?_
            refine then_n ?_
            refine wp_seq ?_
            refine wp_block ?_
            refine wp_seq ?_
            refine wp_rs rfl ?_
            refine RQ.y rfl (Y.move (v := .slice (some ⟨b33, 0, none⟩) xs19.length c27) s3_2) ?_
            refine RQ.y rfl (Y.move (v := .int .i64 i20) s5_2) ?_
            obtain ⟨x42, hx44, hm⟩ := bnd hm
            obtain ⟨k43, hk45, hl46, hx44⟩ := getI_some hx44
            refine RQ.y rfl (Y.indexAddr (m := k43) (sz := 1) rfl rfl hk45 hl46 (by kernel_rfl)) ?_
            refine RQ.y rfl (Y.load (v := .int .i64 x42) rfl (by kernel_rfl) (eqC (OwF.cell fI Guxs19 hx44 (j := 0) rfl))) ?_
            refine RQ.y rfl (Y.assign (v := .int .i64 x42) rfl) ?_
            refine RQ.nil ?_
            refine then_n ?_
            refine wp_seq ?_
            refine wp_rl rfl ?_
            refine RL.y rfl (Y.move (v := .slice (some ⟨b33, 0, none⟩) xs19.length c27) s3_2) ?_
            refine RL.y rfl (Y.move (v := .int .i64 i20) s5_2) ?_
            refine RL.y rfl (Y.move (v := .slice (some ⟨b33, 0, none⟩) xs19.length c27) s3_2) ?_
            refine RL.y rfl (Y.move (v := .int .i64 i20) s5_2) ?_
            obtain ⟨s47, ks47, hm⟩ := bnd hm
            replace ks47 := ck_some ks47
            refine RL.y rfl (Y.binI (v := .int .i64 s47) rfl rfl (by rw [binI_sub ks47.2, ks47.1])) ?_
            obtain ⟨x48, hx50, hm⟩ := bnd hm
            obtain ⟨k49, hk51, hl52, hx50⟩ := getI_some hx50
            refine RL.y rfl (Y.indexAddr (m := k49) (sz := 1) rfl rfl hk51 hl52 (by kernel_rfl)) ?_
            refine RL.y rfl (Y.load (v := .int .i64 x48) rfl (by kernel_rfl) (eqC (OwF.cell fI Guxs19 hx50 (j := 0) rfl))) ?_
            obtain ⟨x53, hx55, hm⟩ := bnd hm
            obtain ⟨k54, hk56, hl57, hx55⟩ := getI_some hx55
            refine RL.y rfl (Y.indexAddr (m := k54) (sz := 1) rfl rfl hk56 hl57 (by kernel_rfl)) ?_
            refine RL.storeF (k := k54) (a := x48) fI rfl rfl rfl Guxs19 hl57 rfl (by kernel_rfl) (fun w58 G59 ho60 => ?_)
            have szw58 := ho60.size
            have T := T.trans (ho60.below (by intro b hb; simp at hb; subst hb; exact OwF.lo_ Guxs19 _ rfl))
            have G59 : OwF 2 encI 1 w58 w.heap.size (.slice (some ⟨b33, 0, none⟩) xs19.length c27) (setI xs19 i20 x48) := by rw [hk56, setI_nat]; exact G59
            have hx61 : (setI xs19 i20 x48)[k54]? = some x48 := setI_at hk56 hl57
            have hl62 := lt_of_some hx61
            refine RL.nil ?_
            refine then_n ?_
            refine wp_rl rfl ?_
            refine RL.y rfl (Y.move (v := .slice (some ⟨b33, 0, none⟩) xs19.length c27) s3_2) ?_
            refine RL.y rfl (Y.move (v := .int .i64 i20) s5_2) ?_
            obtain ⟨s63, ks63, hm⟩ := bnd hm
            replace ks63 := ck_some ks63
            refine RL.y rfl (Y.binI (v := .int .i64 s63) rfl rfl (by rw [binI_sub ks63.2, ks63.1])) ?_
            refine RL.y rfl (Y.move (v := .int .i64 x42) rfl) ?_
            obtain ⟨x64, hx66, hm⟩ := bnd hm
            obtain ⟨k65, hk67, hl68, hx66⟩ := getI_some hx66
            refine RL.y rfl (Y.indexAddr (m := k65) (sz := 1) rfl rfl hk67 (by simpa [setI] using hl68) (by kernel_rfl)) ?_
            refine RL.storeF (k := k65) (a := x42) fI rfl rfl rfl G59 hl68 rfl (by kernel_rfl) (fun w69 G70 ho71 => ?_)
            have szw69 := ho71.size
            have T := T.trans (ho71.below (by intro b hb; simp at hb; subst hb; exact OwF.lo_ G59 _ rfl))
            have G70 : OwF 2 encI 1 w69 w.heap.size (.slice (some ⟨b33, 0, none⟩) xs19.length c27) (setI (setI xs19 i20 x48) s63 x42) := by rw [hk67, setI_nat]; exact G70
            have hx72 : (setI (setI xs19 i20 x48) s63 x42)[k65]? = some x42 := setI_at hk67 hl68
            have hl73 := lt_of_some hx72
            refine RL.nil ?_
            refine blk_n (then_n ?_)
            refine wp_rs rfl ?_
            refine RQ.y rfl (Y.move (v := .int .i64 i20) s5_2) ?_
            obtain ⟨s74, ks74, hm⟩ := bnd hm
            replace ks74 := ck_some ks74
            refine RQ.y rfl (Y.binI (v := .int .i64 s74) rfl rfl (by rw [binI_sub ks74.2, ks74.1])) ?_
            refine RQ.y rfl (Y.assign (v := .int .i64 s74) rfl) ?_
            refine RQ.nil ?_
            exact (then_n ⟨g, _, Nat.lt_succ_self _, rfl, ⟨(setI (setI xs19 i20 x48) s63 x42), s74, (.slice (some ⟨b33, 0, none⟩) xs19.length c27), s4_2, s3_2, G70, rfl, T, (by rw [← hrec2]; exact hm)⟩⟩)
end
section
open Go.RowKit
set_option linter.unusedVariables false
set_option linter.unusedSimpArgs false
theorem insR_app (x : Int) : ∀ (P Q R : List Int), insR x P (Q ++ R) = insR x P Q ++ R
  | [], Q, R => by simp [insR]
  | p :: P, Q, R => by
    unfold insR
    split
    · rw [← List.cons_append]; exact insR_app x P (p :: Q) R
    · simp
theorem sort_inner (K2 : List Int → Option (List Int)) : ∀ (P Q : List Int) (x : Int) (g : Nat), P.length < g → P.length ≤ 4294967296 → m_spec_l12Sorted_L2 K2 g (P.reverse ++ x :: Q) (P.length : Int) = K2 (insR x P Q)
  | [], Q, x, g + 1, _, _ => by
    simp -implicitDefEqProofs only [m_spec_l12Sorted_L2, m_spec_l12Sorted_B2, insR]
    rw [show decide (((([] : List Int).length : Nat) : Int) > 0) = false from rfl, cond_false]
    rfl
  | p :: P, Q, x, g + 1, hg, hP => by
    simp only [List.length_cons] at hg hP
    have e1 : ((p :: P).reverse ++ x :: Q)[P.length]? = some p := by
      rw [List.getElem?_append_left (by simp), List.getElem?_reverse (by simp)]; simp
    have e2 : ((p :: P).reverse ++ x :: Q)[P.length + 1]? = some x := by
      rw [List.getElem?_append_right (by simp)]; simp
    have hk : (((p :: P).length : Nat) : Int) = ((P.length + 1 : Nat) : Int) := by simp
    have hc : ck (((P.length + 1 : Nat) : Int) - 1) = some ((P.length : Nat) : Int) := by
      rw [show ((P.length + 1 : Nat) : Int) - 1 = (P.length : Int) by omega]; exact ck_ok (by omega)
    rw [hk]
    have ih := sort_inner K2 P (p :: Q) x g (by omega) (by omega)
    simp -implicitDefEqProofs only [m_spec_l12Sorted_L2, m_spec_l12Sorted_B2]
    rw [show decide (((P.length + 1 : Nat) : Int) > 0) = true from decide_eq_true (by omega), cond_true, hc]
    simp -implicitDefEqProofs only [Option.bind_some, getI_nat e1, getI_nat e2]
    by_cases h : p > x
    · rw [decide_eq_true h, cond_true]
      rw [setI_nat]
      have e3 : (((p :: P).reverse ++ x :: Q).set (P.length + 1) p)[P.length]? = some p := by
        rw [List.getElem?_set]; rw [if_neg (by omega)]; exact e1
      simp -implicitDefEqProofs only [getI_nat e3, Option.bind_some]
      rw [setI_nat]
      have e4 : (((p :: P).reverse ++ x :: Q).set (P.length + 1) p).set P.length x = P.reverse ++ x :: (p :: Q) := by
        rw [List.reverse_cons, List.append_assoc, List.singleton_append, List.set_append_right _ _ (by simp), List.set_append_right _ _ (by simp)]
        simp
      rw [e4]
      rw [show insR x (p :: P) Q = insR x P (p :: Q) by rw [insR, if_pos h]]
      exact ih
    · rw [decide_eq_false h, cond_false]
      rw [show insR x (p :: P) Q = (p :: P).reverse ++ (x :: Q) by rw [insR, if_neg h]]
theorem p_sSorted (l : List Int) (hl : l.length ≤ 4294967296) : m_spec_l12Sorted l = some (srt l) := by
  unfold m_spec_l12Sorted m_spec_l00Own
  rw [mustP_ok (by simpa using hl), Option.bind_some, Option.bind_some, List.nil_append]
  cases hn : l.length with
  | zero =>
    have h0 : l = [] := List.eq_nil_of_length_eq_zero hn
    subst h0
    simp -implicitDefEqProofs only [m_spec_l12Sorted_L1, m_spec_l12Sorted_B1]
    rw [show decide ((1 : Int) < ((([] : List Int).length : Nat) : Int)) = false from rfl, cond_false]
    unfold m_spec_l12Sorted_A1
    rw [show srt [] = [] from List.eq_nil_of_length_eq_zero (srt_len [])]
  | succ n =>
    have h1 : insK l 1 ++ l.drop 1 = l := by
      cases l with
      | nil => simp at hn
      | cons a l => rfl
    have k1 := traj (L := fun g (s : List Int × Int) => m_spec_l12Sorted_L1 m_spec_l12Sorted_A1 g s.1 s.2) (st := fun k => (insK l (k + 1) ++ l.drop (k + 1), ((k + 1 : Nat) : Int))) (n := n) (r := some (srt l))
      (fun g k hk => by
        have hx := List.getElem?_eq_getElem (show k + 1 < l.length by omega)
        have hlen := insK_len l (k + 1) (by omega)
        have hd : l.drop (k + 1) = l[k + 1] :: l.drop (k + 2) := List.drop_eq_getElem_cons (by omega)
        have hi := sort_inner (m_spec_l12Sorted_A2 (m_spec_l12Sorted_L1 m_spec_l12Sorted_A1 g) ((k + 1 : Nat) : Int)) (insK l (k + 1)).reverse (l.drop (k + 2)) l[k + 1] (((k + 1 : Nat) : Int).toNat + 2) (by rw [List.length_reverse, hlen]; omega) (by rw [List.length_reverse, hlen]; omega)
        rw [List.length_reverse, hlen, List.reverse_reverse, ← hd] at hi
        have hg : insK l (k + 2) = insR l[k + 1] (insK l (k + 1)).reverse [] := by
          rw [insK, List.getD_eq_getElem?_getD, hx]; rfl
        have hR := insR_app l[k + 1] (insK l (k + 1)).reverse [] (l.drop (k + 2))
        rw [List.nil_append, ← hg] at hR
        simp -implicitDefEqProofs only [m_spec_l12Sorted_L1, m_spec_l12Sorted_B1]
        rw [show decide (((k + 1 : Nat) : Int) < ((insK l (k + 1) ++ l.drop (k + 1)).length : Int)) = true by rw [List.length_append, hlen, List.length_drop]; simp; omega, cond_true, hi, hR]
        unfold m_spec_l12Sorted_A2
        rw [ck_ok (by omega), Option.bind_some]
        rw [show ((k + 1 : Nat) : Int) + 1 = ((k + 1 + 1 : Nat) : Int) by omega])
      (fun g => by
        have hlen := insK_len l (n + 1) (by omega)
        have hd : l.drop (n + 1) = [] := List.drop_eq_nil_of_le (by omega)
        simp -implicitDefEqProofs only [m_spec_l12Sorted_L1, m_spec_l12Sorted_B1]
        rw [hd, List.append_nil, hlen]
        rw [dge, cond_false]
        unfold m_spec_l12Sorted_A1
        rw [← hn, insK_all]) (n + 1 + 1) (by omega)
    simp only [h1] at k1
    exact k1
theorem GL.srt {n : Nat} {l : List Int} (h : GL n l) : GL n (srt l) := ⟨(srt_perm l).nodup_iff.2 h.nd, fun a ha => h.inr a (srt_mem.1 ha)⟩
end
section
open Go.RowKit
set_option linter.unusedVariables false
set_option linter.unusedSimpArgs false
set_option maxRecDepth 100000
def m_spec_l12Parts_A1 (xs15 : List (List Int)) : Option (List (List Int)) :=
  some xs15
def m_spec_l12Parts_A2 (rec1 : List (List Int) → List Bool → Int → Option (List (List Int))) (xs17 : List (List Int)) (i19 : Int) (y31 : (List Int) × (List Int)) (xs41 : List Bool) : Option (List (List Int)) :=
  ((m_spec_l12Sorted y31.1).bind fun y43 => ((mustP (xs17.length + ([y43]).length ≤ 4294967296)).bind fun _ => ((ck (i19 + 1)).bind fun s79 => (rec1 (xs17 ++ [y43]) xs41 s79))))
def m_spec_l12Parts_B2 (y31 : (List Int) × (List Int)) (rec2 : List Bool → Int → Option (List (List Int))) (K2 : List Bool → Option (List (List Int))) (xs80 : List Bool) (i81 : Int) : Option (List (List Int)) :=
  (bif (decide (i81 < (y31.1.length : Int))) then ((getI y31.1 i81).bind fun x86 => ((getI xs80 x86).bind fun x94 => (rec2 (setI xs80 x86 true) (i81 + 1)))) else (K2 xs80))
def m_spec_l12Parts_L2 (y31 : (List Int) × (List Int)) (K2 : List Bool → Option (List (List Int))) : Nat → List Bool → Int → Option (List (List Int))
  | 0, _, _ => none
  | g + 1, xs80, i81 => m_spec_l12Parts_B2 y31 (m_spec_l12Parts_L2 y31 K2 g) K2 xs80 i81
def m_spec_l12Parts_B1 (d0 : DNet) (rec1 : List (List Int) → List Bool → Int → Option (List (List Int))) (K1 : List (List Int) → Option (List (List Int))) (xs17 : List (List Int)) (xs18 : List Bool) (i19 : Int) : Option (List (List Int)) :=
  (bif (decide (i19 < (d0.agents.length : Int))) then ((getI xs18 i19).bind fun x24 => (bif x24 then (rec1 xs17 xs18 (i19 + 1)) else ((m_spec_l12Traverse d0 i19).bind fun y31 => (m_spec_l12Parts_L2 y31 (m_spec_l12Parts_A2 rec1 xs17 i19 y31) (y31.1.length + 1) xs18 0)))) else (K1 xs17))
def m_spec_l12Parts_L1 (d0 : DNet) (K1 : List (List Int) → Option (List (List Int))) : Nat → List (List Int) → List Bool → Int → Option (List (List Int))
  | 0, _, _, _ => none
  | g + 1, xs17, xs18, i19 => m_spec_l12Parts_B1 d0 (m_spec_l12Parts_L1 d0 K1 g) K1 xs17 xs18 i19
def m_spec_l12Parts (d0 : DNet) : Option (List (List Int)) :=
  ((mustP (d0.agents.length ≤ 4294967296)).bind fun _ => (m_spec_l12Parts_L1 d0 m_spec_l12Parts_A1 (d0.agents.length + 1) ([] : List (List Int)) (List.replicate d0.agents.length false) 0))
set_option maxHeartbeats 2000000 in
theorem c_m_spec_l12Parts (d0 : DNet) (r : List (List Int)) (hm : m_spec_l12Parts d0 = some r) (v0 : Value) (w : World) (hv0 : Pt netRd w v0 d0) :
    Calls Try.prog 49 #[v0] w fun e w' => (∃ (v0 : Value) (bs0 : List Nat), e = .returned (v0) ∧ OwN 41 (slOw intOw 1) 1 w' w.heap.size v0 r bs0) ∧ Below w.heap.size w w' := by
  obtain ⟨ba0, oa0, csa0, rfl, hba0, hRa0, hca0⟩ := hv0
  have hSa0 := hRa0
  obtain ⟨A1, n1, c1, rfl, ⟨h1, r1⟩⟩ := hRa0
  have e1 := h1.len; subst e1
  have q1 := len_le r1
  have T := Below.refl w.heap.size w
  unfold m_spec_l12Parts at hm
  refine enter 53 Try.func49 rfl rfl rfl ?_
  intro f hf
  have s0 : f 0 = .pointer (some ⟨ba0, oa0, none⟩) := hf 0 _ rfl
  refine wp_seq ?_
  refine wp_rs rfl ?_
  refine RQ.y rfl (Y.assign (v := .slice none 0 0) rfl) ?_
  refine RQ.nil ?_
  refine then_n ?_
  refine wp_seq ?_
  refine wp_rl rfl ?_
  refine RL.bslice (e := 41) (cells := #[]) rfl pm0 (by kernel_rfl) (fun w2 B3 hb4 szw2 => ?_)
  have ZB3 : w.heap.size ≤ w.heap.size := T.size
  have T := Tt T hb4
  have G6 : OwN 41 (slOw intOw 1) 1 w2 w.heap.size (.slice (some ⟨w.heap.size, 0, none⟩) 0 0) ([] : List (List Int)) [w.heap.size] := OwN.lit0 B3 ZB3 rfl
  refine RL.y rfl (Y.assign (v := .slice (some ⟨w.heap.size, 0, none⟩) 0 0) rfl) ?_
  refine RL.nil ?_
  refine then_n ?_
  refine wp_seq ?_
  refine wp_rl rfl ?_
  refine RL.y rfl (Y.move (v := .pointer (some ⟨ba0, oa0, none⟩)) s0) ?_
  refine RL.y rfl (Y.nilCheck rfl) ?_
  refine RL.y rfl (Y.fieldAddr (off := 0) rfl (by kernel_rfl)) ?_
  refine RL.y rfl (Y.load (v := .slice A1 d0.agents.length c1) rfl (by kernel_rfl) (eqC (cellT T (hca0 0 _ rfl)))) ?_
  refine RL.y rfl (Y.len (by kernel_rfl) rfl) ?_
  obtain ⟨_, m8, hm⟩ := bnd hm
  have hk9 := mustP_some m8
  refine RL.make (enc := encB) (z0 := false) (n := d0.agents.length) app_bool (by decide) rfl rfl rfl rfl hk9 (fun w10 G11 hb12 szw10 => ?_)
  replace G11 := OwF.mono G11 T.size
  have Do13_o5 : Ap ([w.heap.size]) [w2.heap.size] := Ap.far (OwN.hi G6)
  have G6 := OwN.below (slOw_ok intOw_ok) G6 hb12
  have T := Tt T hb12
  refine RL.y rfl (Y.assign (v := .slice (some ⟨w2.heap.size, 0, none⟩) d0.agents.length d0.agents.length) rfl) ?_
  refine RL.nil ?_
  refine then_n ?_
  refine wp_seq ?_
  refine wp_seq ?_
  refine wp_rs rfl ?_
  refine RQ.y rfl (Y.assign (v := .int .i64 0) rfl) ?_
  refine RQ.nil ?_
  refine then_n ?_
  refine wp_block ?_
  obtain ⟨K1, hK1, hm⟩ : ∃ K, K = m_spec_l12Parts_A1 ∧ m_spec_l12Parts_L1 d0 K (d0.agents.length + 1) ([] : List (List Int)) (List.replicate d0.agents.length false) 0 = some r := ⟨_, rfl, hm⟩
  refine wp_loopX (fun g f w' => ∃ (xs17 : List (List Int)) (xs18 : List Bool) (i19 : Int) (uxs17 : Value) (bsxs17 : List Nat) (uxs18 : Value), f 0 = .pointer (some ⟨ba0, oa0, none⟩) ∧ f 3 = uxs17 ∧ OwN 41 (slOw intOw 1) 1 w' w.heap.size uxs17 xs17 bsxs17 ∧ f 4 = uxs18 ∧ OwF 4 encB 1 w' w.heap.size uxs18 xs18 ∧ f 5 = .int .i64 i19 ∧ 0 ≤ i19 ∧ Ap (fb uxs18) bsxs17 ∧ Below w.heap.size w w' ∧ m_spec_l12Parts_L1 d0 K1 g xs17 xs18 i19 = some r) 0 (fun f w' => ∃ (xs15 : List (List Int)) (uxs15 : Value) (bsxs15 : List Nat), f 3 = uxs15 ∧ OwN 41 (slOw intOw 1) 1 w' w.heap.size uxs15 xs15 bsxs15 ∧ Below w.heap.size w w' ∧ m_spec_l12Parts_A1 xs15 = some r) (d0.agents.length + 1) ⟨([] : List (List Int)), (List.replicate d0.agents.length false), 0, (.slice (some ⟨w.heap.size, 0, none⟩) 0 0), ([w.heap.size]), (.slice (some ⟨w2.heap.size, 0, none⟩) d0.agents.length d0.agents.length), s0, rfl, G6, rfl, G11, rfl, (by omega), (Ap.symm Do13_o5), T, hm⟩ ?_ ?_
  · rintro f w16 ⟨xs15, uxs15, bsxs15, s3_1x, Guxs15, T, hm⟩
    unfold m_spec_l12Parts_A1 at hm
    refine blk_hit (then_n ?_)
    refine wp_seq ?_
    refine wp_rs rfl ?_
    refine RQ.y rfl (Y.move (v := uxs15) s3_1x) ?_
    refine RQ.y rfl (Y.assign (v := uxs15) rfl) ?_
    refine RQ.nil ?_
    refine then_n ?_
    refine wp_ret ?_
    obtain rfl := Option.some.inj hm
    exact (ret1 rfl rfl rfl ⟨⟨_, _, rfl, Guxs15⟩, T⟩)
  · rintro g f w20 ⟨xs17, xs18, i19, uxs17, bsxs17, uxs18, s0_1, s3_1, Guxs17, s4_1, Guxs18, s5_1, nn5_1, Doxs18_oxs17, T, hm⟩
    rcases g with _ | g
    · simp only [m_spec_l12Parts_L1] at hm; cases hm
    obtain ⟨rec1, hrec1, hm⟩ : ∃ z, z = m_spec_l12Parts_L1 d0 K1 g ∧ m_spec_l12Parts_B1 d0 z K1 xs17 xs18 i19 = some r := ⟨_, rfl, hm⟩
    unfold m_spec_l12Parts_B1 at hm
    refine wp_seq ?_
    refine wp_seq ?_
    refine wp_rs rfl ?_
    refine RQ.y rfl (Y.move (v := .int .i64 i19) s5_1) ?_
    refine RQ.y rfl (Y.move (v := .pointer (some ⟨ba0, oa0, none⟩)) s0_1) ?_
    refine RQ.y rfl (Y.nilCheck rfl) ?_
    refine RQ.y rfl (Y.fieldAddr (off := 0) rfl (by kernel_rfl)) ?_
    refine RQ.y rfl (Y.load (v := .slice A1 d0.agents.length c1) rfl (by kernel_rfl) (eqC (cellT T (hca0 0 _ rfl)))) ?_
    refine RQ.y rfl (Y.len (by kernel_rfl) rfl) ?_
    refine RQ.y rfl (Y.binI (v := .bool (decide (i19 < (d0.agents.length : Int)))) rfl rfl rfl) ?_
    refine RQ.nil ?_
    refine then_n ?_
    rcases bcases (decide (i19 < (d0.agents.length : Int))) with c21 | c21
    · replace hm := cF c21 hm
      have pc21 := of_decide_eq_false c21
      refine cond_f rfl (vb rfl c21) ?_
      refine wp_exit ?_
      exact (then_x (then_x (hit_x ⟨_, rfl, ⟨xs17, (uxs17), bsxs17, s3_1, Guxs17, T, (by rw [hK1] at hm; exact hm)⟩⟩)))
    · replace hm := cT c21 hm
      have pc21 := of_decide_eq_true c21
      refine cond_t rfl (vb rfl c21) ?_
      refine wp_skip ?_
      refine then_n ?_
      refine wp_seq ?_
      refine wp_block ?_
      refine wp_seq ?_
      refine wp_seq ?_
      refine wp_rs rfl ?_
      refine RQ.y rfl (Y.move (v := uxs18) s4_1) ?_
      refine RQ.y rfl (Y.move (v := .int .i64 i19) s5_1) ?_
      obtain ⟨A22, c23, rfl⟩ := OwF.form Guxs18
      have qbA22 := OwF.bound Guxs18
      obtain ⟨x24, hx26, hm⟩ := bnd hm
      obtain ⟨k25, hk27, hl28, hx26⟩ := getI_some hx26
      obtain ⟨b29, rfl⟩ := OwF.addr0 Guxs18 (by omega)
      refine RQ.y rfl (Y.indexAddr (m := k25) (sz := 1) rfl rfl hk27 hl28 (by kernel_rfl)) ?_
      refine RQ.y rfl (Y.load (v := .bool x24) rfl (by kernel_rfl) (eqC (OwF.cell fB Guxs18 hx26 (j := 0) rfl))) ?_
      refine RQ.nil ?_
      refine then_n ?_
      rcases bcases x24 with c30 | c30
      · replace hm := cF c30 hm
        refine cond_f rfl (vb rfl c30) ?_
        refine wp_skip ?_
        refine then_n ?_
        refine wp_seq ?_
        refine wp_rl rfl ?_
        refine RL.y rfl (Y.move (v := .pointer (some ⟨ba0, oa0, none⟩)) s0_1) ?_
        refine RL.y rfl (Y.move (v := .int .i64 i19) s5_1) ?_
        obtain ⟨y31, e32, hm⟩ := bnd hm
        refine RL.call rfl (am2 rfl rfl) (by kernel_rfl) ((c_m_spec_l12Traverse d0 i19 _ e32 _ _ (ptArg netRd_ok hba0 hSa0 hca0 T)).mono ?_)
        rintro _ w39 ⟨⟨v33, v36, rfl, G34, G37, Ro35_o38⟩, hb40⟩
        refine ⟨_, rfl, ?_⟩
        have szw39 := hb40.size
        have T0w39 := T.size
        have Zo35_oxs17 : Ap (fb v33) bsxs17 := (Ap.new (OwF.flo G34) (OwN.hi Guxs17))
        have Zo35_oxs18 := Ap.dj (Ap.new (OwF.flo G34) (OwF.fhi Guxs18))
        have Zo38_oxs17 : Ap (fb v36) bsxs17 := (Ap.new (OwF.flo G37) (OwN.hi Guxs17))
        have Zo38_oxs18 := Ap.dj (Ap.new (OwF.flo G37) (OwF.fhi Guxs18))
        have Guxs17 := OwN.below (slOw_ok intOw_ok) Guxs17 hb40
        have Guxs18 := OwF.below Guxs18 hb40
        have T := Tt T hb40
        replace G34 := OwF.mono G34 T0w39
        replace G37 := OwF.mono G37 T0w39
        refine RL.y rfl (Y.move (v := .tuple #[v33, v36]) rfl) ?_
        refine RL.y rfl (Y.extract (i := 0) rfl rfl) ?_
        refine RL.y rfl (Y.extract (i := 1) rfl rfl) ?_
        refine RL.y rfl (Y.assign (v := v33) rfl) ?_
        refine RL.y rfl (Y.assign (v := v36) rfl) ?_
        refine RL.nil ?_
        refine then_n ?_
        refine wp_seq ?_
        refine wp_seq ?_
        refine wp_rs rfl ?_
        refine RQ.y rfl (Y.assign (v := .int .i64 0) rfl) ?_
        refine RQ.nil ?_
        refine then_n ?_
        refine wp_block ?_
        obtain ⟨K2, hK2, hm⟩ : ∃ K, K = (m_spec_l12Parts_A2 rec1 xs17 i19 y31) ∧ m_spec_l12Parts_L2 y31 K (y31.1.length + 1) xs18 0 = some r := ⟨_, rfl, hm⟩
        refine wp_loopX (fun g f w' => ∃ (xs80 : List Bool) (i81 : Int) (uxs80 : Value), f 0 = .pointer (some ⟨ba0, oa0, none⟩) ∧ f 3 = uxs17 ∧ f 5 = .int .i64 i19 ∧ f 6 = v33 ∧ f 4 = uxs80 ∧ OwF 4 encB 1 w' w.heap.size uxs80 xs80 ∧ f 8 = .int .i64 i81 ∧ 0 ≤ i81 ∧ Ap (fb uxs80) bsxs17 ∧ Dj uxs80 v33 ∧ OwN 41 (slOw intOw 1) 1 w' w.heap.size uxs17 xs17 bsxs17 ∧ OwF 2 encI 1 w' w.heap.size v33 y31.1 ∧ Below w.heap.size w w' ∧ m_spec_l12Parts_L2 y31 K2 g xs80 i81 = some r) 2 (fun f w' => ∃ (xs41 : List Bool) (uxs41 : Value), f 0 = .pointer (some ⟨ba0, oa0, none⟩) ∧ f 3 = uxs17 ∧ f 5 = .int .i64 i19 ∧ f 6 = v33 ∧ f 4 = uxs41 ∧ OwF 4 encB 1 w' w.heap.size uxs41 xs41 ∧ Ap (fb uxs41) bsxs17 ∧ Dj uxs41 v33 ∧ OwN 41 (slOw intOw 1) 1 w' w.heap.size uxs17 xs17 bsxs17 ∧ OwF 2 encI 1 w' w.heap.size v33 y31.1 ∧ Below w.heap.size w w' ∧ m_spec_l12Parts_A2 rec1 xs17 i19 y31 xs41 = some r) (y31.1.length + 1) ⟨xs18, 0, (.slice (some ⟨b29, 0, none⟩) xs18.length c23), s0_1, s3_1, s5_1, rfl, s4_1, Guxs18, rfl, (by omega), Doxs18_oxs17, (Ap.dj (Ap.symm (Dj.ap Zo35_oxs18))), Guxs17, G34, T, hm⟩ ?_ ?_
        · rintro f w42 ⟨xs41, uxs41, s0_2x, s3_2x, s5_2x, s6_2x, s4_2x, Guxs41, Doxs41_oxs17, Doxs41_o35, Guxs17, G34, T, hm⟩
          unfold m_spec_l12Parts_A2 at hm
          refine blk_hit (then_n ?_)
          refine wp_rl rfl ?_
          refine RL.y rfl (Y.move (v := uxs17) s3_2x) ?_
          refine RL.y rfl (Y.move (v := v33) s6_2x) ?_
          obtain ⟨y43, e44, hm⟩ := bnd hm
          refine RL.call rfl (am1 rfl) (by kernel_rfl) ((c_m_spec_l12Sorted y31.1 _ e44 _ _ (OwF.arg fI G34)).mono ?_)
          rintro _ w48 ⟨⟨v45, rfl, G46⟩, hb49⟩
          refine ⟨_, rfl, ?_⟩
          have szw48 := hb49.size
          have T0w48 := T.size
          have Zo47_oxs17 : Ap (fb v45) bsxs17 := (Ap.new (OwF.flo G46) (OwN.hi Guxs17))
          have Zo47_o35 := Ap.dj (Ap.new (OwF.flo G46) (OwF.fhi G34))
          have Zo47_oxs41 := Ap.dj (Ap.new (OwF.flo G46) (OwF.fhi Guxs41))
          have Guxs17 := OwN.below (slOw_ok intOw_ok) Guxs17 hb49
          have G34 := OwF.below G34 hb49
          have Guxs41 := OwF.below Guxs41 hb49
          have T := Tt T hb49
          replace G46 := OwF.mono G46 T0w48
          obtain ⟨A54, c55, rfl⟩ := OwF.form G46
          have qbA54 := OwF.bound G46
          refine RL.bslice (e := 41) (cells := #[.slice A54 y43.length c55]) rfl (pm1 rfl) (by kernel_rfl) (fun w50 B51 hb52 szw50 => ?_)
          have ZB51 : w.heap.size ≤ w48.heap.size := T.size
          have q56 := OwF.fboth G46 (Nat.le_refl _)
          have z57 := Ap.cons (Ap.farL (OwN.hi Guxs17)) Zo47_oxs17
          have z58 := Ap.cons (Ap.farL (OwF.fhi G34)) (Dj.ap Zo47_o35)
          have z59 := Ap.cons (Ap.farL (OwF.fhi Guxs41)) (Dj.ap Zo47_oxs41)
          have Guxs17 := OwN.below (slOw_ok intOw_ok) Guxs17 hb52
          have G34 := OwF.below G34 hb52
          have Guxs41 := OwF.below Guxs41 hb52
          have G46 := OwF.below G46 hb52
          have T := Tt T hb52
          obtain ⟨l61, a60, nd62, sb63, r64⟩ := OwF.own2 fI G46
          have G65 : OwN 41 (slOw intOw 1) 1 w50 w.heap.size (.slice (some ⟨w48.heap.size, 0, none⟩) 1 1) [y43] (w48.heap.size :: (fb (.slice A54 y43.length c55))) := OwN.lit1 (b1 := l61) B51 ZB51 ⟨_, _, _, rfl, a60, r64⟩ (slOw_ok intOw_ok) nd62 sb63 q56
          obtain ⟨_, m67, hm⟩ := bnd hm
          have hk68 := mustP_some m67
          refine RL.appendN (slOw_ok intOw_ok) slOw_one (by decide) app_int64_ rfl rfl rfl Guxs17 G65 (Ap.symm z57) T.size hk68 (fun v69 w70 bs71 G72 hgr73 hbl74 hnb75 => ?_)
          have szw70 := hbl74.size
          have z77 := Ap.app hnb75 (Ap.symm Zo35_oxs17) z58 (OwF.fhi G34)
          have z78 := Ap.app hnb75 (Ap.symm Doxs41_oxs17) z59 (OwF.fhi Guxs41)
          have G34 := OwF.keptD G34 hgr73 (OwN.dj Guxs17 (Ap.symm Zo35_oxs17))
          have Guxs41 := OwF.keptD Guxs41 hgr73 (OwN.dj Guxs17 (Ap.symm Doxs41_oxs17))
          have T := T.trans hbl74
          refine RL.y rfl (Y.assign (v := v69) rfl) ?_
          refine RL.nil ?_
          refine blk_n (then_n ?_)
          refine wp_rs rfl ?_
          refine RQ.y rfl (Y.move (v := .int .i64 i19) s5_2x) ?_
          obtain ⟨s79, ks79, hm⟩ := bnd hm
          replace ks79 := ck_some ks79
          refine RQ.y rfl (Y.binI (v := .int .i64 s79) rfl rfl (by rw [binI_add ks79.2, ks79.1])) ?_
          refine RQ.y rfl (Y.assign (v := .int .i64 s79) rfl) ?_
          refine RQ.nil ?_
          exact (then_n ⟨g, _, Nat.lt_succ_self _, rfl, ⟨(xs17 ++ [y43]), xs41, s79, (v69), bs71, (uxs41), s0_2x, rfl, G72, s4_2x, Guxs41, rfl, (by omega), (Ap.symm z78), T, (by rw [← hrec1]; exact hm)⟩⟩)
        · rintro g f w82 ⟨xs80, i81, uxs80, s0_2, s3_2, s5_2, s6_2, s4_2, Guxs80, s8_2, nn8_2, Doxs80_oxs17, Doxs80_o35, Guxs17, G34, T, hm⟩
          rcases g with _ | g
          · simp only [m_spec_l12Parts_L2] at hm; cases hm
          obtain ⟨rec2, hrec2, hm⟩ : ∃ z, z = m_spec_l12Parts_L2 y31 K2 g ∧ m_spec_l12Parts_B2 y31 z K2 xs80 i81 = some r := ⟨_, rfl, hm⟩
          unfold m_spec_l12Parts_B2 at hm
          refine wp_seq ?_
          refine wp_seq ?_
          refine wp_rs rfl ?_
          refine RQ.y rfl (Y.move (v := .int .i64 i81) s8_2) ?_
          refine RQ.y rfl (Y.move (v := v33) s6_2) ?_
          obtain ⟨A83, c84, rfl⟩ := OwF.form G34
          have qbA83 := OwF.bound G34
          refine RQ.y rfl (Y.len (by kernel_rfl) rfl) ?_
          refine RQ.y rfl (Y.binI (v := .bool (decide (i81 < (y31.1.length : Int)))) rfl rfl rfl) ?_
          refine RQ.nil ?_
          refine then_n ?_
          rcases bcases (decide (i81 < (y31.1.length : Int))) with c85 | c85
          · replace hm := cF c85 hm
            have pc85 := of_decide_eq_false c85
            refine cond_f rfl (vb rfl c85) ?_
            refine wp_exit ?_
            exact (then_x (then_x (hit_x ⟨_, rfl, ⟨xs80, (uxs80), s0_2, s3_2, s5_2, s6_2, s4_2, Guxs80, Doxs80_oxs17, (Ap.dj (Dj.ap Doxs80_o35)), Guxs17, G34, T, (by rw [hK2] at hm; exact hm)⟩⟩)))
          · replace hm := cT c85 hm
            have pc85 := of_decide_eq_true c85
            refine cond_t rfl (vb rfl c85) ?_
            refine wp_skip ?_
            refine then_n ?_
            refine wp_seq ?_
            refine wp_block ?_
            refine wp_rl rfl ?_
            refine RL.y rfl (Y.move (v := uxs80) s4_2) ?_
            refine RL.y rfl (Y.move (v := .slice A83 y31.1.length c84) s6_2) ?_
            refine RL.y rfl (Y.move (v := .int .i64 i81) s8_2) ?_
            obtain ⟨x86, hx88, hm⟩ := bnd hm
            obtain ⟨k87, hk89, hl90, hx88⟩ := getI_some hx88
            obtain ⟨b91, rfl⟩ := OwF.addr0 G34 (by omega)
            refine RL.y rfl (Y.indexAddr (m := k87) (sz := 1) rfl rfl hk89 hl90 (by kernel_rfl)) ?_
            refine RL.y rfl (Y.load (v := .int .i64 x86) rfl (by kernel_rfl) (eqC (OwF.cell fI G34 hx88 (j := 0) rfl))) ?_
            obtain ⟨A92, c93, rfl⟩ := OwF.form Guxs80
            have qbA92 := OwF.bound Guxs80
            obtain ⟨x94, hx96, hm⟩ := bnd hm
            obtain ⟨k95, hk97, hl98, hx96⟩ := getI_some hx96
            obtain ⟨b99, rfl⟩ := OwF.addr0 Guxs80 (by omega)
            refine RL.y rfl (Y.indexAddr (m := k95) (sz := 1) rfl rfl hk97 hl98 (by kernel_rfl)) ?_
            refine RL.storeF (k := k95) (a := true) fB rfl rfl rfl Guxs80 hl98 rfl (by kernel_rfl) (fun w100 G101 ho102 => ?_)
            have szw100 := ho102.size
            have Guxs17 := OwN.only (slOw_ok intOw_ok) Guxs17 ho102 ((show Ap bsxs17 [b99] from (Ap.symm Doxs80_oxs17)).one)
            have G34 := OwF.only G34 ho102 (fun e => (Dj.symm Doxs80_o35) _ e rfl)
            have T := T.trans (ho102.below (by intro b hb; simp at hb; subst hb; exact OwF.lo_ Guxs80 _ rfl))
            have G101 : OwF 4 encB 1 w100 w.heap.size (.slice (some ⟨b99, 0, none⟩) xs80.length c93) (setI xs80 x86 true) := by rw [hk97, setI_nat]; exact G101
            have hx103 : (setI xs80 x86 true)[k95]? = some true := setI_at hk97 hl98
            have hl104 := lt_of_some hx103
            refine RL.nil ?_
            refine blk_n (then_n ?_)
            refine wp_rs rfl ?_
            refine RQ.y rfl (Y.move (v := .int .i64 i81) s8_2) ?_
            refine RQ.y rfl (Y.binI rfl rfl (binI_add (m := i81) (by omega))) ?_
            refine RQ.y rfl (Y.assign (v := .int .i64 (i81 + 1)) rfl) ?_
            refine RQ.nil ?_
            exact (then_n ⟨g, _, Nat.lt_succ_self _, rfl, ⟨(setI xs80 x86 true), (i81 + 1), (.slice (some ⟨b99, 0, none⟩) xs80.length c93), s0_2, s3_2, s5_2, s6_2, s4_2, G101, rfl, (by omega), Doxs80_oxs17, (Ap.dj (Dj.ap Doxs80_o35)), Guxs17, G34, T, (by rw [← hrec2]; exact hm)⟩⟩)
      · replace hm := cT c30 hm
        refine cond_t rfl (vb rfl c30) ?_
        refine wp_exit ?_
        refine then_x (blk_hit (then_n ?_))
        refine wp_rs rfl ?_
        refine RQ.y rfl (Y.move (v := .int .i64 i19) s5_1) ?_
        refine RQ.y rfl (Y.binI rfl rfl (binI_add (m := i19) (by omega))) ?_
        refine RQ.y rfl (Y.assign (v := .int .i64 (i19 + 1)) rfl) ?_
        refine RQ.nil ?_
        exact (then_n ⟨g, _, Nat.lt_succ_self _, rfl, ⟨xs17, xs18, (i19 + 1), (uxs17), bsxs17, (.slice (some ⟨b29, 0, none⟩) xs18.length c23), s0_1, s3_1, Guxs17, s4_1, Guxs18, rfl, (by omega), Doxs18_oxs17, T, (by rw [← hrec1]; exact hm)⟩⟩)
def m_impl_Net_components_A1 (xs9 : List (List Int)) : Option (List (List Int)) :=
  some xs9
def m_impl_Net_components_A2 (rec1 : List (List Int) → List Bool → Int → Option (List (List Int))) (xs11 : List (List Int)) (i13 : Int) (y25 : List Int) (xs34 : List Bool) : Option (List (List Int)) :=
  ((mustP (y25.length ≤ 4294967296)).bind fun _ => ((mustP (xs11.length + ([(srt y25)]).length ≤ 4294967296)).bind fun _ => ((ck (i13 + 1)).bind fun s70 => (rec1 (xs11 ++ [(srt y25)]) xs34 s70))))
def m_impl_Net_components_B2 (y25 : List Int) (rec2 : List Bool → Int → Option (List (List Int))) (K2 : List Bool → Option (List (List Int))) (xs71 : List Bool) (i72 : Int) : Option (List (List Int)) :=
  (bif (decide (i72 < (y25.length : Int))) then ((getI y25 i72).bind fun x75 => ((getI xs71 x75).bind fun x83 => (rec2 (setI xs71 x75 true) (i72 + 1)))) else (K2 xs71))
def m_impl_Net_components_L2 (y25 : List Int) (K2 : List Bool → Option (List (List Int))) : Nat → List Bool → Int → Option (List (List Int))
  | 0, _, _ => none
  | g + 1, xs71, i72 => m_impl_Net_components_B2 y25 (m_impl_Net_components_L2 y25 K2 g) K2 xs71 i72
def m_impl_Net_components_B1 (d0 : DNet) (rec1 : List (List Int) → List Bool → Int → Option (List (List Int))) (K1 : List (List Int) → Option (List (List Int))) (xs11 : List (List Int)) (xs12 : List Bool) (i13 : Int) : Option (List (List Int)) :=
  (bif (decide (i13 < (d0.agents.length : Int))) then ((getI xs12 i13).bind fun x18 => (bif x18 then (rec1 xs11 xs12 (i13 + 1)) else ((m_impl_Net_traverse d0 i13).bind fun y25 => (m_impl_Net_components_L2 y25 (m_impl_Net_components_A2 rec1 xs11 i13 y25) (y25.length + 1) xs12 0)))) else (K1 xs11))
def m_impl_Net_components_L1 (d0 : DNet) (K1 : List (List Int) → Option (List (List Int))) : Nat → List (List Int) → List Bool → Int → Option (List (List Int))
  | 0, _, _, _ => none
  | g + 1, xs11, xs12, i13 => m_impl_Net_components_B1 d0 (m_impl_Net_components_L1 d0 K1 g) K1 xs11 xs12 i13
def m_impl_Net_components (d0 : DNet) : Option (List (List Int)) :=
  ((mustP (d0.agents.length ≤ 4294967296)).bind fun _ => (m_impl_Net_components_L1 d0 m_impl_Net_components_A1 (d0.agents.length + 1) ([]) (List.replicate d0.agents.length false) 0))
set_option maxHeartbeats 2000000 in
theorem c_m_impl_Net_components (d0 : DNet) (r : List (List Int)) (hm : m_impl_Net_components d0 = some r) (v0 : Value) (w : World) (hv0 : Pt netRd w v0 d0) :
    Calls Try.prog 50 #[v0] w fun e w' => (∃ (v0 : Value) (bs0 : List Nat), e = .returned (v0) ∧ OwN 41 (slOw intOw 1) 1 w' w.heap.size v0 r bs0) ∧ Below w.heap.size w w' := by
  obtain ⟨ba0, oa0, csa0, rfl, hba0, hRa0, hca0⟩ := hv0
  have hSa0 := hRa0
  obtain ⟨A1, n1, c1, rfl, ⟨h1, r1⟩⟩ := hRa0
  have e1 := h1.len; subst e1
  have q1 := len_le r1
  have T := Below.refl w.heap.size w
  unfold m_impl_Net_components at hm
  refine enter 48 Try.func50 rfl rfl rfl ?_
  intro f hf
  have s0 : f 0 = .pointer (some ⟨ba0, oa0, none⟩) := hf 0 _ rfl
  refine wp_seq ?_
  refine wp_rs rfl ?_
  refine RQ.y rfl (Y.assign (v := .slice none 0 0) rfl) ?_
  refine RQ.nil ?_
  refine then_n ?_
  refine wp_seq ?_
  refine wp_rs rfl ?_
  refine RQ.y rfl (Y.assign (v := .slice none 0 0) rfl) ?_
  refine RQ.nil ?_
  refine then_n ?_
  refine wp_seq ?_
  refine wp_rl rfl ?_
  refine RL.y rfl (Y.move (v := .pointer (some ⟨ba0, oa0, none⟩)) s0) ?_
  refine RL.y rfl (Y.nilCheck rfl) ?_
  refine RL.y rfl (Y.fieldAddr (off := 0) rfl (by kernel_rfl)) ?_
  refine RL.y rfl (Y.load (v := .slice A1 d0.agents.length c1) rfl (by kernel_rfl) (eqC (cellT T (hca0 0 _ rfl)))) ?_
  refine RL.y rfl (Y.len (by kernel_rfl) rfl) ?_
  obtain ⟨_, m2, hm⟩ := bnd hm
  have hk3 := mustP_some m2
  refine RL.make (enc := encB) (z0 := false) (n := d0.agents.length) app_bool (by decide) rfl rfl rfl rfl hk3 (fun w4 G5 hb6 szw4 => ?_)
  replace G5 := OwF.mono G5 T.size
  have T := Tt T hb6
  refine RL.y rfl (Y.assign (v := .slice (some ⟨w.heap.size, 0, none⟩) d0.agents.length d0.agents.length) rfl) ?_
  refine RL.nil ?_
  refine then_n ?_
  refine wp_seq ?_
  refine wp_seq ?_
  refine wp_rs rfl ?_
  refine RQ.y rfl (Y.move (v := .pointer (some ⟨ba0, oa0, none⟩)) s0) ?_
  refine RQ.y rfl (Y.nilCheck rfl) ?_
  refine RQ.y rfl (Y.fieldAddr (off := 0) rfl (by kernel_rfl)) ?_
  refine RQ.y rfl (Y.load (v := .slice A1 d0.agents.length c1) rfl (by kernel_rfl) (eqC (cellT T (hca0 0 _ rfl)))) ?_
  refine RQ.y rfl (Y.len (by kernel_rfl) rfl) ?_
  refine RQ.y rfl (Y.move (v := .int .i64 0) rfl) ?_
  refine RQ.nil ?_
  refine then_n ?_
  refine wp_block ?_
  obtain ⟨K1, hK1, hm⟩ : ∃ K, K = m_impl_Net_components_A1 ∧ m_impl_Net_components_L1 d0 K (d0.agents.length + 1) ([]) (List.replicate d0.agents.length false) 0 = some r := ⟨_, rfl, hm⟩
  refine wp_loopX (fun g f w' => ∃ (xs11 : List (List Int)) (xs12 : List Bool) (i13 : Int) (uxs11 : Value) (bsxs11 : List Nat) (uxs12 : Value), f 0 = .pointer (some ⟨ba0, oa0, none⟩) ∧ f 19 = .int .i64 (d0.agents.length : Int) ∧ f 3 = uxs11 ∧ OwN 41 (slOw intOw 1) 1 w' w.heap.size uxs11 xs11 bsxs11 ∧ f 4 = uxs12 ∧ OwF 4 encB 1 w' w.heap.size uxs12 xs12 ∧ f 20 = .int .i64 i13 ∧ 0 ≤ i13 ∧ Ap (fb uxs12) bsxs11 ∧ Below w.heap.size w w' ∧ m_impl_Net_components_L1 d0 K1 g xs11 xs12 i13 = some r) 0 (fun f w' => ∃ (xs9 : List (List Int)) (uxs9 : Value) (bsxs9 : List Nat), f 3 = uxs9 ∧ OwN 41 (slOw intOw 1) 1 w' w.heap.size uxs9 xs9 bsxs9 ∧ Below w.heap.size w w' ∧ m_impl_Net_components_A1 xs9 = some r) (d0.agents.length + 1) ⟨([]), (List.replicate d0.agents.length false), 0, (.slice none 0 0), [], (.slice (some ⟨w.heap.size, 0, none⟩) d0.agents.length d0.agents.length), s0, rfl, rfl, OwN.nil, rfl, G5, rfl, (by omega), (Ap.symm Ap.nil), T, hm⟩ ?_ ?_
  · rintro f w10 ⟨xs9, uxs9, bsxs9, s3_1x, Guxs9, T, hm⟩
    unfold m_impl_Net_components_A1 at hm
    refine blk_hit (then_n ?_)
    refine wp_seq ?_
    refine wp_rs rfl ?_
    refine RQ.y rfl (Y.move (v := uxs9) s3_1x) ?_
    refine RQ.y rfl (Y.assign (v := uxs9) rfl) ?_
    refine RQ.nil ?_
    refine then_n ?_
    refine wp_ret ?_
    obtain rfl := Option.some.inj hm
    exact (ret1 rfl rfl rfl ⟨⟨_, _, rfl, Guxs9⟩, T⟩)
  · rintro g f w14 ⟨xs11, xs12, i13, uxs11, bsxs11, uxs12, s0_1, s19_1, s3_1, Guxs11, s4_1, Guxs12, s20_1, nn20_1, Doxs12_oxs11, T, hm⟩
    rcases g with _ | g
    · simp only [m_impl_Net_components_L1] at hm; cases hm
    obtain ⟨rec1, hrec1, hm⟩ : ∃ z, z = m_impl_Net_components_L1 d0 K1 g ∧ m_impl_Net_components_B1 d0 z K1 xs11 xs12 i13 = some r := ⟨_, rfl, hm⟩
    unfold m_impl_Net_components_B1 at hm
    refine wp_seq ?_
    refine wp_rs rfl ?_
    refine RQ.y rfl (Y.binI (v := .bool (decide (i13 < (d0.agents.length : Int)))) s20_1 s19_1 rfl) ?_
    refine RQ.nil ?_
    refine then_n ?_
    refine wp_seq ?_
    rcases bcases (decide (i13 < (d0.agents.length : Int))) with c15 | c15
    · replace hm := cF c15 hm
      have pc15 := of_decide_eq_false c15
      refine cond_f rfl (vb rfl c15) ?_
      refine wp_exit ?_
      exact (then_x (then_x (hit_x ⟨_, rfl, ⟨xs11, (uxs11), bsxs11, s3_1, Guxs11, T, (by rw [hK1] at hm; exact hm)⟩⟩)))
    · replace hm := cT c15 hm
      have pc15 := of_decide_eq_true c15
      refine cond_t rfl (vb rfl c15) ?_
      refine wp_skip ?_
      refine then_n ?_
      refine wp_seq ?_
      refine wp_block ?_
      refine wp_seq ?_
      refine wp_rs rfl ?_
      refine RQ.y rfl (Y.move (v := .int .i64 i13) s20_1) ?_
      refine RQ.y rfl (Y.assign (v := .int .i64 i13) rfl) ?_
      refine RQ.nil ?_
      refine then_n ?_
      refine wp_seq ?_
      refine wp_seq ?_
      refine wp_rs rfl ?_
      refine RQ.y rfl (Y.move (v := uxs12) s4_1) ?_
      refine RQ.y rfl (Y.move (v := .int .i64 i13) rfl) ?_
      obtain ⟨A16, c17, rfl⟩ := OwF.form Guxs12
      have qbA16 := OwF.bound Guxs12
      obtain ⟨x18, hx20, hm⟩ := bnd hm
      obtain ⟨k19, hk21, hl22, hx20⟩ := getI_some hx20
      obtain ⟨b23, rfl⟩ := OwF.addr0 Guxs12 (by omega)
      refine RQ.y rfl (Y.indexAddr (m := k19) (sz := 1) rfl rfl hk21 hl22 (by kernel_rfl)) ?_
      refine RQ.y rfl (Y.load (v := .bool x18) rfl (by kernel_rfl) (eqC (OwF.cell fB Guxs12 hx20 (j := 0) rfl))) ?_
      refine RQ.nil ?_
      refine then_n ?_
      rcases bcases x18 with c24 | c24
      · replace hm := cF c24 hm
        refine cond_f rfl (vb rfl c24) ?_
        refine wp_skip ?_
        refine then_n ?_
        refine wp_seq ?_
        refine wp_rl rfl ?_
        refine RL.y rfl (Y.move (v := .pointer (some ⟨ba0, oa0, none⟩)) s0_1) ?_
        refine RL.y rfl (Y.move (v := .int .i64 i13) rfl) ?_
        obtain ⟨y25, e26, hm⟩ := bnd hm
        refine RL.call rfl (am2 rfl rfl) (by kernel_rfl) ((c_m_impl_Net_traverse d0 i13 _ e26 _ _ (ptArg netRd_ok hba0 hSa0 hca0 T)).mono ?_)
        rintro _ w30 ⟨⟨v27, rfl, G28⟩, hb31⟩
        refine ⟨_, rfl, ?_⟩
        have szw30 := hb31.size
        have T0w30 := T.size
        have Zo29_oxs11 : Ap (fb v27) bsxs11 := (Ap.new (OwF.flo G28) (OwN.hi Guxs11))
        have Zo29_oxs12 := Ap.dj (Ap.new (OwF.flo G28) (OwF.fhi Guxs12))
        have Guxs11 := OwN.below (slOw_ok intOw_ok) Guxs11 hb31
        have Guxs12 := OwF.below Guxs12 hb31
        have T := Tt T hb31
        replace G28 := OwF.mono G28 T0w30
        refine RL.y rfl (Y.assign (v := v27) rfl) ?_
        refine RL.nil ?_
        refine then_n ?_
        refine wp_seq ?_
        refine wp_seq ?_
        refine wp_rs rfl ?_
        refine RQ.y rfl (Y.move (v := v27) rfl) ?_
        obtain ⟨A32, c33, rfl⟩ := OwF.form G28
        have qbA32 := OwF.bound G28
        refine RQ.y rfl (Y.len (by kernel_rfl) rfl) ?_
        refine RQ.y rfl (Y.move (v := .int .i64 0) rfl) ?_
        refine RQ.nil ?_
        refine then_n ?_
        refine wp_block ?_
        obtain ⟨K2, hK2, hm⟩ : ∃ K, K = (m_impl_Net_components_A2 rec1 xs11 i13 y25) ∧ m_impl_Net_components_L2 y25 K (y25.length + 1) xs12 0 = some r := ⟨_, rfl, hm⟩
        refine wp_loopX (fun g f w' => ∃ (xs71 : List Bool) (i72 : Int) (uxs71 : Value), f 0 = .pointer (some ⟨ba0, oa0, none⟩) ∧ f 3 = uxs11 ∧ f 6 = .slice A32 y25.length c33 ∧ f 19 = .int .i64 (d0.agents.length : Int) ∧ f 20 = .int .i64 i13 ∧ f 30 = .slice A32 y25.length c33 ∧ f 31 = .int .i64 (y25.length : Int) ∧ f 4 = uxs71 ∧ OwF 4 encB 1 w' w.heap.size uxs71 xs71 ∧ f 32 = .int .i64 i72 ∧ 0 ≤ i72 ∧ Ap (fb uxs71) bsxs11 ∧ Dj uxs71 (.slice A32 y25.length c33) ∧ OwN 41 (slOw intOw 1) 1 w' w.heap.size uxs11 xs11 bsxs11 ∧ OwF 2 encI 1 w' w.heap.size (.slice A32 y25.length c33) y25 ∧ Below w.heap.size w w' ∧ m_impl_Net_components_L2 y25 K2 g xs71 i72 = some r) 2 (fun f w' => ∃ (xs34 : List Bool) (uxs34 : Value), f 0 = .pointer (some ⟨ba0, oa0, none⟩) ∧ f 3 = uxs11 ∧ f 6 = .slice A32 y25.length c33 ∧ f 19 = .int .i64 (d0.agents.length : Int) ∧ f 20 = .int .i64 i13 ∧ f 4 = uxs34 ∧ OwF 4 encB 1 w' w.heap.size uxs34 xs34 ∧ Ap (fb uxs34) bsxs11 ∧ Dj uxs34 (.slice A32 y25.length c33) ∧ OwN 41 (slOw intOw 1) 1 w' w.heap.size uxs11 xs11 bsxs11 ∧ OwF 2 encI 1 w' w.heap.size (.slice A32 y25.length c33) y25 ∧ Below w.heap.size w w' ∧ m_impl_Net_components_A2 rec1 xs11 i13 y25 xs34 = some r) (y25.length + 1) ⟨xs12, 0, (.slice (some ⟨b23, 0, none⟩) xs12.length c17), s0_1, s3_1, rfl, s19_1, s20_1, rfl, rfl, s4_1, Guxs12, rfl, (by omega), Doxs12_oxs11, (Ap.dj (Ap.symm (Dj.ap Zo29_oxs12))), Guxs11, G28, T, hm⟩ ?_ ?_
        · rintro f w35 ⟨xs34, uxs34, s0_2x, s3_2x, s6_2x, s19_2x, s20_2x, s4_2x, Guxs34, Doxs34_oxs11, Doxs34_o29, Guxs11, G28, T, hm⟩
          unfold m_impl_Net_components_A2 at hm
          refine blk_hit (then_n ?_)
          refine wp_seq ?_
          refine wp_rl rfl ?_
          refine RL.y rfl (Y.move (v := .slice A32 y25.length c33) s6_2x) ?_
          obtain ⟨_, m36, hm⟩ := bnd hm
          have hk37 := mustP_some m36
          refine RL.call rfl (am1 rfl) (by kernel_rfl) ((sort_own G28 T.size hk37).mono ?_)
          rintro _ w38 ⟨rfl, G39, hgr40, hbl41⟩
          refine ⟨_, rfl, ?_⟩
          have szw38 := hbl41.size
          have Guxs11 := OwN.grown (slOw_ok intOw_ok) Guxs11 hgr40 (Ap.symm Zo29_oxs11)
          have Guxs34 := OwF.keptD Guxs34 hgr40 Doxs34_o29
          have T := T.trans hbl41
          refine RL.nil ?_
          refine then_n ?_
          refine wp_rl rfl ?_
          refine RL.y rfl (Y.move (v := uxs11) s3_2x) ?_
          refine RL.y rfl (Y.move (v := .slice A32 y25.length c33) s6_2x) ?_
          refine RL.bslice (e := 41) (cells := #[.slice A32 y25.length c33]) rfl (pm1 rfl) (by kernel_rfl) (fun w45 B46 hb47 szw45 => ?_)
          have ZB46 : w.heap.size ≤ w38.heap.size := T.size
          have q49 := OwF.fboth G39 (Nat.le_refl _)
          have z50 := Ap.cons (Ap.farL (OwN.hi Guxs11)) Zo29_oxs11
          have z51 := Ap.cons (Ap.farL (OwF.fhi Guxs34)) (Ap.symm (Dj.ap Doxs34_o29))
          have Guxs11 := OwN.below (slOw_ok intOw_ok) Guxs11 hb47
          have G39 := OwF.below G39 hb47
          have Guxs34 := OwF.below Guxs34 hb47
          have T := Tt T hb47
          obtain ⟨l53, a52, nd54, sb55, r56⟩ := OwF.own2 fI G39
          have G57 : OwN 41 (slOw intOw 1) 1 w45 w.heap.size (.slice (some ⟨w38.heap.size, 0, none⟩) 1 1) [(srt y25)] (w38.heap.size :: (fb (.slice A32 y25.length c33))) := OwN.lit1 (b1 := l53) B46 ZB46 ⟨_, _, _, rfl, a52, r56⟩ (slOw_ok intOw_ok) nd54 sb55 q49
          obtain ⟨_, m59, hm⟩ := bnd hm
          have hk60 := mustP_some m59
          refine RL.appendN (slOw_ok intOw_ok) slOw_one (by decide) app_int64_ rfl rfl rfl Guxs11 G57 (Ap.symm z50) T.size hk60 (fun v61 w62 bs63 G64 hgr65 hbl66 hnb67 => ?_)
          have szw62 := hbl66.size
          have z69 := Ap.app hnb67 (Ap.symm Doxs34_oxs11) z51 (OwF.fhi Guxs34)
          have Guxs34 := OwF.keptD Guxs34 hgr65 (OwN.dj Guxs11 (Ap.symm Doxs34_oxs11))
          have T := T.trans hbl66
          refine RL.y rfl (Y.assign (v := v61) rfl) ?_
          refine RL.nil ?_
          refine blk_n (then_n ?_)
          refine wp_rs rfl ?_
          obtain ⟨s70, ks70, hm⟩ := bnd hm
          replace ks70 := ck_some ks70
          refine RQ.y rfl (Y.binI (v := .int .i64 s70) s20_2x rfl (by rw [binI_add ks70.2, ks70.1])) ?_
          refine RQ.y rfl (Y.move (v := .int .i64 s70) rfl) ?_
          refine RQ.nil ?_
          exact (then_n ⟨g, _, Nat.lt_succ_self _, rfl, ⟨(xs11 ++ [(srt y25)]), xs34, s70, (v61), bs63, (uxs34), s0_2x, s19_2x, rfl, G64, s4_2x, Guxs34, rfl, (by omega), (Ap.symm z69), T, (by rw [← hrec1]; exact hm)⟩⟩)
        · rintro g f w73 ⟨xs71, i72, uxs71, s0_2, s3_2, s6_2, s19_2, s20_2, s30_2, s31_2, s4_2, Guxs71, s32_2, nn32_2, Doxs71_oxs11, Doxs71_o29, Guxs11, G28, T, hm⟩
          rcases g with _ | g
          · simp only [m_impl_Net_components_L2] at hm; cases hm
          obtain ⟨rec2, hrec2, hm⟩ : ∃ z, z = m_impl_Net_components_L2 y25 K2 g ∧ m_impl_Net_components_B2 y25 z K2 xs71 i72 = some r := ⟨_, rfl, hm⟩
          unfold m_impl_Net_components_B2 at hm
          refine wp_seq ?_
          refine wp_rs rfl ?_
          refine RQ.y rfl (Y.binI (v := .bool (decide (i72 < (y25.length : Int)))) s32_2 s31_2 rfl) ?_
          refine RQ.nil ?_
          refine then_n ?_
          refine wp_seq ?_
          rcases bcases (decide (i72 < (y25.length : Int))) with c74 | c74
          · replace hm := cF c74 hm
            have pc74 := of_decide_eq_false c74
            refine cond_f rfl (vb rfl c74) ?_
            refine wp_exit ?_
            exact (then_x (then_x (hit_x ⟨_, rfl, ⟨xs71, (uxs71), s0_2, s3_2, s6_2, s19_2, s20_2, s4_2, Guxs71, Doxs71_oxs11, (Ap.dj (Dj.ap Doxs71_o29)), Guxs11, G28, T, (by rw [hK2] at hm; exact hm)⟩⟩)))
          · replace hm := cT c74 hm
            have pc74 := of_decide_eq_true c74
            refine cond_t rfl (vb rfl c74) ?_
            refine wp_skip ?_
            refine then_n ?_
            refine wp_seq ?_
            refine wp_block ?_
            refine wp_seq ?_
            refine wp_rs rfl ?_
            obtain ⟨x75, hx77, hm⟩ := bnd hm
            obtain ⟨k76, hk78, hl79, hx77⟩ := getI_some hx77
            obtain ⟨b80, rfl⟩ := OwF.addr0 G28 (by omega)
            refine RQ.y rfl (Y.indexAddr (m := k76) (sz := 1) s30_2 s32_2 hk78 hl79 (by kernel_rfl)) ?_
            refine RQ.y rfl (Y.load (v := .int .i64 x75) rfl (by kernel_rfl) (eqC (OwF.cell fI G28 hx77 (j := 0) rfl))) ?_
            refine RQ.y rfl (Y.assign (v := .int .i64 x75) rfl) ?_
            refine RQ.nil ?_
            refine then_n ?_
            refine wp_rl rfl ?_
            refine RL.y rfl (Y.move (v := uxs71) s4_2) ?_
            refine RL.y rfl (Y.move (v := .int .i64 x75) rfl) ?_
            obtain ⟨A81, c82, rfl⟩ := OwF.form Guxs71
            have qbA81 := OwF.bound Guxs71
            obtain ⟨x83, hx85, hm⟩ := bnd hm
            obtain ⟨k84, hk86, hl87, hx85⟩ := getI_some hx85
            obtain ⟨b88, rfl⟩ := OwF.addr0 Guxs71 (by omega)
            refine RL.y rfl (Y.indexAddr (m := k84) (sz := 1) rfl rfl hk86 hl87 (by kernel_rfl)) ?_
            refine RL.storeF (k := k84) (a := true) fB rfl rfl rfl Guxs71 hl87 rfl (by kernel_rfl) (fun w89 G90 ho91 => ?_)
            have szw89 := ho91.size
            have Guxs11 := OwN.only (slOw_ok intOw_ok) Guxs11 ho91 ((show Ap bsxs11 [b88] from (Ap.symm Doxs71_oxs11)).one)
            have G28 := OwF.only G28 ho91 (fun e => (Dj.symm Doxs71_o29) _ e rfl)
            have T := T.trans (ho91.below (by intro b hb; simp at hb; subst hb; exact OwF.lo_ Guxs71 _ rfl))
            have G90 : OwF 4 encB 1 w89 w.heap.size (.slice (some ⟨b88, 0, none⟩) xs71.length c82) (setI xs71 x75 true) := by rw [hk86, setI_nat]; exact G90
            have hx92 : (setI xs71 x75 true)[k84]? = some true := setI_at hk86 hl87
            have hl93 := lt_of_some hx92
            refine RL.nil ?_
            refine blk_n (then_n ?_)
            refine wp_rs rfl ?_
            refine RQ.y rfl (Y.binI s32_2 rfl (binI_add (m := i72) (by omega))) ?_
            refine RQ.y rfl (Y.move (v := .int .i64 (i72 + 1)) rfl) ?_
            refine RQ.nil ?_
            exact (then_n ⟨g, _, Nat.lt_succ_self _, rfl, ⟨(setI xs71 x75 true), (i72 + 1), (.slice (some ⟨b88, 0, none⟩) xs71.length c82), s0_2, s3_2, s6_2, s19_2, s20_2, s30_2, s31_2, s4_2, G90, rfl, (by omega), Doxs71_oxs11, (Ap.dj (Dj.ap Doxs71_o29)), Guxs11, G28, T, (by rw [← hrec2]; exact hm)⟩⟩)
      · replace hm := cT c24 hm
        refine cond_t rfl (vb rfl c24) ?_
        refine wp_exit ?_
        refine then_x (blk_hit (then_n ?_))
        refine wp_rs rfl ?_
        refine RQ.y rfl (Y.binI s20_1 rfl (binI_add (m := i13) (by omega))) ?_
        refine RQ.y rfl (Y.move (v := .int .i64 (i13 + 1)) rfl) ?_
        refine RQ.nil ?_
        exact (then_n ⟨g, _, Nat.lt_succ_self _, rfl, ⟨xs11, xs12, (i13 + 1), (uxs11), bsxs11, (.slice (some ⟨b23, 0, none⟩) xs12.length c17), s0_1, s19_1, s3_1, Guxs11, s4_1, Guxs12, rfl, (by omega), Doxs12_oxs11, T, (by rw [← hrec1]; exact hm)⟩⟩)
def m_spec_ComponentsOf (d0 : DNet) : Option ((List (List Int)) × Int) :=
  ((m_spec_l11Ok d0).bind fun y6 => (bif y6 then ((m_spec_l12Parts d0).bind fun y18 => some (y18, 0)) else some (([] : List (List Int)), 1)))
set_option maxHeartbeats 2000000 in
theorem c_m_spec_ComponentsOf (d0 : DNet) (r : (List (List Int)) × Int) (hm : m_spec_ComponentsOf d0 = some r) (v0 : Value) (w : World) (hv0 : St netRd w v0 d0) :
    Calls Try.prog 24 #[v0] w fun e w' => (∃ (v0 : Value) (bs0 : List Nat), e = .returned (.tuple #[v0, .int .i64 r.2]) ∧ OwN 41 (slOw intOw 1) 1 w' w.heap.size v0 r.1 bs0) ∧ Below w.heap.size w w' := by
  obtain ⟨csa0, rfl, ⟨A1, n1, c1, rfl, ⟨h1, r1⟩⟩⟩ := hv0
  have e1 := h1.len; subst e1
  have q1 := len_le r1
  have T := Below.refl w.heap.size w
  unfold m_spec_ComponentsOf at hm
  refine enter 8 Try.func24 rfl rfl rfl ?_
  intro f hf
  have s0 : f 0 = .agg #[.slice A1 d0.agents.length c1] := hf 0 _ rfl
  refine wp_seq ?_
  refine wp_rl rfl ?_
  refine RL.box rfl s0 (fun w2 B3 hb4 szw2 => ?_)
  replace B3 : Blk w2 w.heap.size 33 #[.slice A1 d0.agents.length c1] := B3
  have GB3 : w.heap.size ≤ w.heap.size := T.size
  have T := Tt T hb4
  refine RL.y rfl (Y.assign (v := .slice none 0 0) rfl) ?_
  refine RL.y rfl (Y.assign (v := .int .i64 0) rfl) ?_
  refine RL.nil ?_
  refine then_n ?_
  refine wp_seq ?_
  refine wp_seq ?_
  refine wp_rb rfl ?_
  obtain ⟨y6, e7, hm⟩ := bnd hm
  refine RQ.call rfl (am1 rfl) (by kernel_rfl) (v := .bool y6) (bel (K := fun _ => True) fun w' hb' => (c_m_spec_l11Ok d0 _ e7 _ w' (ptBox (R := netRd) (blkT B3 hb') ⟨_, _, _, rfl, ⟨SlAt.now agentRd_ok h1 (Nat.le_refl _) (Tt T hb'), r1⟩⟩))) ?_
  refine RQ.y rfl (Y.not (b' := (!y6)) rfl rfl) ?_
  refine RQ.nil ?_
  intro w8 hb9
  have szw8 := hb9.size
  have B3 := blkT B3 hb9
  have T := Tt T hb9
  refine then_n ?_
  rcases bcases y6 with c10 | c10
  · replace hm := cF c10 hm
    refine cond_t rfl (vbn rfl c10 rfl) ?_
    refine wp_seq ?_
    refine wp_rl rfl ?_
    refine RL.bslice (e := 41) (cells := #[]) rfl pm0 (by kernel_rfl) (fun w11 B12 hb13 szw11 => ?_)
    have ZB12 : w.heap.size ≤ w8.heap.size := T.size
    have z15 := Ap.cons (Ap.farL (one_hi B3.lt)) Ap.nil
    have B3 := blkT B3 hb13
    have T := Tt T hb13
    have G16 : OwN 41 (slOw intOw 1) 1 w11 w.heap.size (.slice (some ⟨w8.heap.size, 0, none⟩) 0 0) ([] : List (List Int)) [w8.heap.size] := OwN.lit0 B12 ZB12 rfl
    refine RL.y rfl (Y.assign (v := .slice (some ⟨w8.heap.size, 0, none⟩) 0 0) rfl) ?_
    refine RL.y rfl (Y.assign (v := .int .i64 1) rfl) ?_
    refine RL.nil ?_
    refine then_n ?_
    refine wp_ret ?_
    obtain rfl := Option.some.inj hm
    exact (then_r (ret2 rfl rfl rfl rfl ⟨⟨_, _, rfl, G16⟩, T⟩))
  · replace hm := cT c10 hm
    refine cond_f rfl (vbn rfl c10 rfl) ?_
    refine wp_skip ?_
    refine then_n ?_
    refine wp_seq ?_
    refine wp_rl rfl ?_
    obtain ⟨y18, e19, hm⟩ := bnd hm
    refine RL.call rfl (am1 rfl) (by kernel_rfl) ((c_m_spec_l12Parts d0 _ e19 _ _ (ptBox (R := netRd) B3 ⟨_, _, _, rfl, ⟨SlAt.now agentRd_ok h1 (Nat.le_refl _) T, r1⟩⟩)).mono ?_)
    rintro _ w24 ⟨⟨v20, bs23, rfl, G21⟩, hb25⟩
    refine ⟨_, rfl, ?_⟩
    have szw24 := hb25.size
    have T0w24 := T.size
    have Zo22_ob5 : Ap bs23 [w.heap.size] := (Ap.new (OwN.lo_ G21) (one_hi B3.lt))
    have B3 := blkT B3 hb25
    have T := Tt T hb25
    replace G21 := OwN.mono G21 T0w24
    refine RL.y rfl (Y.assign (v := v20) rfl) ?_
    refine RL.y rfl (Y.assign (v := .int .i64 0) rfl) ?_
    refine RL.nil ?_
    refine then_n ?_
    refine wp_ret ?_
    obtain rfl := Option.some.inj hm
    exact (ret2 rfl rfl rfl rfl ⟨⟨_, _, rfl, G21⟩, T⟩)
def m_impl_ComponentsOf (d0 : DNet) : Option ((List (List Int)) × Int) :=
  ((m_impl_ValidNet d0).bind fun y6 => (bif y6 then ((m_impl_Net_components d0).bind fun y11 => some (y11, 0)) else some ([], 1)))
set_option maxHeartbeats 2000000 in
theorem c_m_impl_ComponentsOf (d0 : DNet) (r : (List (List Int)) × Int) (hm : m_impl_ComponentsOf d0 = some r) (v0 : Value) (w : World) (hv0 : St netRd w v0 d0) :
    Calls Try.prog 25 #[v0] w fun e w' => (∃ (v0 : Value) (bs0 : List Nat), e = .returned (.tuple #[v0, .int .i64 r.2]) ∧ OwN 41 (slOw intOw 1) 1 w' w.heap.size v0 r.1 bs0) ∧ Below w.heap.size w w' := by
  obtain ⟨csa0, rfl, ⟨A1, n1, c1, rfl, ⟨h1, r1⟩⟩⟩ := hv0
  have e1 := h1.len; subst e1
  have q1 := len_le r1
  have T := Below.refl w.heap.size w
  unfold m_impl_ComponentsOf at hm
  refine enter 8 Try.func25 rfl rfl rfl ?_
  intro f hf
  have s0 : f 0 = .agg #[.slice A1 d0.agents.length c1] := hf 0 _ rfl
  refine wp_seq ?_
  refine wp_rl rfl ?_
  refine RL.box rfl s0 (fun w2 B3 hb4 szw2 => ?_)
  replace B3 : Blk w2 w.heap.size 33 #[.slice A1 d0.agents.length c1] := B3
  have GB3 : w.heap.size ≤ w.heap.size := T.size
  have T := Tt T hb4
  refine RL.y rfl (Y.assign (v := .slice none 0 0) rfl) ?_
  refine RL.y rfl (Y.assign (v := .int .i64 0) rfl) ?_
  refine RL.nil ?_
  refine then_n ?_
  refine wp_seq ?_
  refine wp_seq ?_
  refine wp_rb rfl ?_
  refine RQ.y rfl (Y.loadN (cs := [.slice A1 d0.agents.length c1]) rfl (by kernel_rfl) (cells1 (beC (blkCell B3 (i := 0) rfl)))) ?_
  obtain ⟨y6, e7, hm⟩ := bnd hm
  refine RQ.call rfl (am1 rfl) (by kernel_rfl) (v := .bool y6) (bel (K := fun _ => True) fun w' hb' => (c_m_impl_ValidNet d0 _ e7 _ w' (stArg (R := netRd) ⟨_, _, _, rfl, ⟨SlAt.now agentRd_ok h1 (Nat.le_refl _) (Tt T hb'), r1⟩⟩))) ?_
  refine RQ.y rfl (Y.not (b' := (!y6)) rfl rfl) ?_
  refine RQ.nil ?_
  intro w8 hb9
  have szw8 := hb9.size
  have B3 := blkT B3 hb9
  have T := Tt T hb9
  refine then_n ?_
  rcases bcases y6 with c10 | c10
  · replace hm := cF c10 hm
    refine cond_t rfl (vbn rfl c10 rfl) ?_
    refine wp_seq ?_
    refine wp_rs rfl ?_
    refine RQ.y rfl (Y.assign (v := .slice none 0 0) rfl) ?_
    refine RQ.y rfl (Y.assign (v := .int .i64 1) rfl) ?_
    refine RQ.nil ?_
    refine then_n ?_
    refine wp_ret ?_
    obtain rfl := Option.some.inj hm
    exact (then_r (ret2 rfl rfl rfl rfl ⟨⟨_, _, rfl, OwN.nil⟩, T⟩))
  · replace hm := cT c10 hm
    refine cond_f rfl (vbn rfl c10 rfl) ?_
    refine wp_skip ?_
    refine then_n ?_
    refine wp_seq ?_
    refine wp_rl rfl ?_
    obtain ⟨y11, e12, hm⟩ := bnd hm
    refine RL.call rfl (am1 rfl) (by kernel_rfl) ((c_m_impl_Net_components d0 _ e12 _ _ (ptBox (R := netRd) B3 ⟨_, _, _, rfl, ⟨SlAt.now agentRd_ok h1 (Nat.le_refl _) T, r1⟩⟩)).mono ?_)
    rintro _ w17 ⟨⟨v13, bs16, rfl, G14⟩, hb18⟩
    refine ⟨_, rfl, ?_⟩
    have szw17 := hb18.size
    have T0w17 := T.size
    have Zo15_ob5 : Ap bs16 [w.heap.size] := (Ap.new (OwN.lo_ G14) (one_hi B3.lt))
    have B3 := blkT B3 hb18
    have T := Tt T hb18
    replace G14 := OwN.mono G14 T0w17
    refine RL.y rfl (Y.assign (v := v13) rfl) ?_
    refine RL.y rfl (Y.assign (v := .int .i64 0) rfl) ?_
    refine RL.nil ?_
    refine then_n ?_
    refine wp_ret ?_
    obtain rfl := Option.some.inj hm
    exact (ret2 rfl rfl rfl rfl ⟨⟨_, _, rfl, G14⟩, T⟩)
end
section
open Go.RowKit
set_option linter.unusedVariables false
def marksF {α : Type} (f : Nat → α) (s k n : Nat) : List α := (List.range n).map fun i => f (k + s * i)
theorem marksF_len {α : Type} (f : Nat → α) (s k n : Nat) : (marksF f s k n).length = n := by simp [marksF]
theorem marksF_succ {α : Type} (f : Nat → α) (s k n : Nat) : marksF f s k (n + 1) = marksF f s k n ++ [f (k + s * n)] := by simp [marksF, List.range_succ]
def mkPort (k : Nat) : DPort := (⟨(k : Int), (k : Int) + 1⟩ : DPort)
theorem mkPort_cells (k0 k : Nat) : [Value.int .i64 (mkPort (k0 + 2 * k)).agent, Value.int .i64 (mkPort (k0 + 2 * k)).slot] = [.int .i64 ((k0 : Int) + 2 * k), .int .i64 ((k0 : Int) + 2 * k + 1)] := by simp [mkPort]
set_option maxHeartbeats 2000000 in
theorem markPortS_c (A : Option Addr) (n c k0 : Nat) (xs : List DPort) (bs : List Nat) (w : World) (hx : OwAt portOw 2 w A n xs bs) (hnd : bs.Nodup) (hn : n ≤ 4294967296) (hk0 : k0 ≤ 4611686018427387904) :
    Calls Try.prog 76 #[.slice A n c, .int .i64 k0] w fun e w' => e = .returned (.int .i64 ((k0 + 2 * n : Nat) : Int)) ∧ OwAt portOw 2 w' A n (marksF mkPort 2 k0 n) bs ∧ Only bs w w' := by
  have lx := Lib.hid hx.len
  have hmid := Lib.hid hx.mid
  clear hx
  go_enter Try.func76, Try.ntmps76
  go_wp2
  go_loopw [1, 5] (fun kk i wr => ∃ k : Nat, k ≤ n ∧ i = .int .i64 k ∧ kk = .int .i64 ((k0 : Int) + 2 * k) ∧ Only bs w wr ∧ Hid (MidAt portOw 2 wr A (marksF mkPort 2 k0 k) (xs.drop k) bs)) (fun _ i _ => n - (intOf i).toNat)
  case atStart => exact ⟨0, by omega, rfl, by simp, Only.refl _ _, hmid.out⟩
  case round =>
    obtain ⟨k, hk, rfl, rfl, ho, hm⟩ := hrel
    by_cases hlt : k < n
    · obtain ⟨x, hxk⟩ : ∃ x, xs[k]? = some x := ⟨_, List.getElem?_eq_getElem (by have := lx.out; omega)⟩
      have hm := hm.out
      rw [drop_some hxk] at hm
      obtain ⟨b, o, cs, b1, bx, b2, rfl, hbs, hO, hc, h1, h2⟩ := hm.next
      obtain ⟨rfl, rfl⟩ := hO
      rw [marksF_len] at hc h2
      obtain ⟨hc0, hd0⟩ := hc 0 _ rfl
      obtain ⟨hc1, hd1⟩ := hc 1 _ rfl
      rw [Nat.add_zero] at hc0 hd0
      have HN := Lib.hid hbs
      have Hx := Lib.hid hxk
      have H1 := Lib.hid h1
      have H2 := Lib.hid h2
      clear hbs hxk h1 h2 hm hc
      go_wp2
      go_roundw
      case rel =>
        have hnd' := hnd
        rw [HN.out] at hnd'
        have hb : b ∉ b1 ∧ b ∉ b2 := by simpa using (List.nodup_cons.1 hnd').1
        have hlen : (marksF mkPort 2 k0 k).length = k := marksF_len _ _ _ _
        refine ⟨k + 1, by omega, by go_num, by go_num, ?_, ?_⟩
        · exact ((ho.setCell (by rw [HN.out]; simp) _).setCell (by rw [HN.out]; simp) _)
        rw [marksF_succ, HN.out]
        refine MidAt.step (o := o) rfl (ElAt.setRun portOw_ok (vs := [.int .i64 ((k0 : Int) + 2 * k), .int .i64 ((k0 : Int) + 2 * k + 1)]) (p := o + k * 2) H1.out hb.1 (Or.inr (by omega))) (cs := [.int .i64 ((k0 : Int) + 2 * k), .int .i64 ((k0 : Int) + 2 * k + 1)]) ⟨(mkPort_cells k0 k).symm, rfl⟩ ?_ ?_
        · rw [hlen]
          exact setRun_csAt (vs := [.int .i64 ((k0 : Int) + 2 * k), .int .i64 ((k0 : Int) + 2 * k + 1)]) (fun j hj => by
            match j, hj with
            | 0, _ => exact ⟨_, hc0⟩
            | 1, _ => exact ⟨_, hc1⟩
            | j + 2, hj => simp at hj; omega) (fun j hj => by
            match j, hj with
            | 0, _ => exact hd0
            | 1, _ => exact hd1
            | j + 2, hj => simp at hj; omega)
        · rw [hlen]
          exact ElAt.setRun portOw_ok (vs := [.int .i64 ((k0 : Int) + 2 * k), .int .i64 ((k0 : Int) + 2 * k + 1)]) (p := o + k * 2) H2.out hb.2 (Or.inl (by simp))
      case measure => simp [intOf]; omega
    · obtain rfl : n = k := by omega
      have hm := hm.out
      rw [List.drop_of_length_le (by have := lx.out; omega)] at hm
      have Hm := Lib.hid (hm.whole (n := n) (marksF_len _ _ _ _).symm)
      clear hm
      go_wp2
      go_ret
      exact ⟨rfl, Hm.out, ho⟩
end
section
open Go.RowKit
set_option linter.unusedVariables false
abbrev intsOw : Ow (List Int) := slOw intOw 1
abbrev intsRd : Rd (List Int) := slRd intRd 1
theorem intsOw_ok : OwOk intsOw 1 := slOw_ok intOw_ok
theorem intsOw_reads (B : Nat) : Gives intsOw intsRd B := slOw_reads (intOw_reads B)
def mkInts (k : Nat) (x : List Int) : List Int := marks k x.length
def markSS (k : Nat) (xs : List (List Int)) : List (List Int) := mkL mkInts List.length k xs
def totSS (xs : List (List Int)) : Nat := cntL List.length xs
def lenSS (xs : List (List Int)) : Prop := xs.length + totSS xs ≤ 1048576
theorem lenSS_mem {xs : List (List Int)} {k : Nat} {x : List Int} (h : xs[k]? = some x) (hs : lenSS xs) : x.length ≤ 1048576 := by
  have h1 := cntL_le (cnt := List.length) xs (k + 1)
  have h2 := cntL_take (cnt := List.length) h
  unfold lenSS totSS at hs
  omega
set_option maxHeartbeats 4000000 in
theorem markInt64SS_q (A : Option Addr) (n c k0 : Nat) (xs : List (List Int)) (bs : List Nat) (w : World) (hx : OwAt (slOw intOw 1) 1 w A n xs bs) (hnd : bs.Nodup) (hs : lenSS xs) (hk0 : k0 ≤ 4294967296) :
    Calls Try.prog 27 #[.slice A n c, .int .i64 k0] w fun e w' => e = .returned (.int .i64 ((k0 + totSS xs : Nat) : Int)) ∧ OwAt (slOw intOw 1) 1 w' A n (markSS k0 xs) bs ∧ Only bs w w' := by
  have lx := Lib.hid hx.len
  have hcl : totSS xs ≤ 1048576 := by unfold lenSS at hs; omega
  have hn : n ≤ 1048576 := by have := lx.out; unfold lenSS at hs; omega
  have hmid := Lib.hid hx.mid
  have HS := Lib.hid hs
  clear hx hs
  unfold totSS at hcl ⊢
  go_enter Try.func27, Try.ntmps27
  go_wp2_with fail
  go_loopw [1, 5] (fun kk i wr => ∃ k : Nat, k ≤ n ∧ i = .int .i64 k ∧ kk = .int .i64 ((k0 : Int) + (cntL List.length (xs.take k) : Nat)) ∧ Only bs w wr ∧ Hid (MidAt (slOw intOw 1) 1 wr A (markSS k0 (xs.take k)) (xs.drop k) bs)) (fun _ i _ => n - (intOf i).toNat)
  case atStart => exact ⟨0, by omega, rfl, by simp [cntL], Only.refl _ _, hmid.out⟩
  case round =>
    obtain ⟨k, hk, rfl, rfl, ho, hm⟩ := hrel
    by_cases hlt : k < n
    · obtain ⟨x, hxk⟩ : ∃ x, xs[k]? = some x := ⟨_, List.getElem?_eq_getElem (by have := lx.out; omega)⟩
      have hm := hm.out
      rw [drop_some hxk] at hm
      obtain ⟨b, o, cs, b1, bx, b3, rfl, hbs, hO, hc, h1, h2⟩ := hm.next
      have hlen : (markSS k0 (xs.take k)).length = k := by unfold markSS; rw [mkL_len, List.length_take]; have := lx.out; omega
      rw [hlen] at hc h2
      obtain ⟨A1, n1, c1, rfl, hd, rd⟩ := hO
      obtain ⟨hc0, hd0⟩ := hc 0 _ rfl
      rw [Nat.add_zero] at hc0 hd0
      rw [Nat.mul_one] at hc0 hd0 h2
      have hsz := lenSS_mem hxk HS.out
      have hct := cntL_take (cnt := List.length) hxk
      have hcm := cntL_le (cnt := List.length) xs (k + 1)
      have hck := cntL_le (cnt := List.length) xs k
      have hnd' := hnd
      rw [hbs] at hnd'
      have nb : b ∉ b1 ∧ b ∉ bx ∧ b ∉ b3 := by have := (List.nodup_cons.1 hnd').1; simp only [List.mem_append, not_or] at this; exact this
      have hn1 := List.nodup_append.1 (List.nodup_cons.1 hnd').2
      have hn2' := List.nodup_append.1 hn1.2.1
      have ld := Lib.hid hd.len
      have HE := Lib.hid h2
      have HF := Lib.hid h1
      have HD := Lib.hid hd
      have HX := Lib.hid hxk
      have HI := Lib.hid hbs
      have N0 := Lib.hid hn1
      have N1 := Lib.hid hn2'
      have NB := Lib.hid nb
      have HL := Lib.hid hct
      have HLN := Lib.hid hlen
      clear h2 h1 hd hxk hbs hn1 hn2' nb hc hct hlen hnd' hm
      go_wp2_with fail
      rw [show (k0 : Int) + (cntL List.length (xs.take k) : Nat) = ((k0 + cntL List.length (xs.take k) : Nat) : Int) from by omega]
      refine (markInt64S_c A1 n1 c1 (k0 + cntL List.length (xs.take k)) x bx _ HD.out N1.out.1 (by have := ld.out; omega) (by omega)).mono ?_
      rintro e w4 ⟨rfl, md, o4⟩
      have MD := Lib.hid md
      clear md
      go_wp2_with fail
      go_roundw
      case rel =>
        have e1 := ld.out
        have e3 := HL.out
        have hcell : ∀ q, w4.cell? ⟨b, q, none⟩ = _ := fun q => World.cell?_of_block (a := ⟨b, q, none⟩) (o4.block b NB.out.2.1)
        have hfroz : ∀ q, w4.frozen? ⟨b, q, none⟩ = _ := fun q => World.frozen?_of_block (a := ⟨b, q, none⟩) (o4.block b NB.out.2.1)
        refine ⟨k + 1, by omega, by go_num, congrArg (Value.int .i64) (by omega), ho.trans (o4.mono (fun j hj => ?_)), ?_⟩
        · rw [HI.out]; simp only [List.mem_cons, List.mem_append]
          exact .inr (.inr (.inl hj))
        · show Hid _
          refine ?_
          unfold markSS
          rw [mkL_take HX.out, HI.out]
          have hl := HLN.out
          unfold markSS at hl
          refine MidAt.step (o := o) (cs := [.slice A1 n1 c1]) rfl ?_ ?_ ?_ ?_
          · refine ElAt.keepC (slOw_ok intOw_ok) (fun q h1 h2 => ⟨hcell q, hfroz q⟩) (fun j hj => ?_) HF.out
            exact o4.block j (fun hin => N0.out.2.2 j hj j (by simp only [List.mem_append]; exact .inl hin) rfl)
          · refine ⟨A1, n1, c1, rfl, ?_, rd⟩
            have := MD.out
            unfold mkInts; rw [← e1]; exact this
          · rw [hl]
            intro j v hj
            rcases j with _ | j
            · simp at hj; subst hj
              rw [Nat.mul_one, Nat.add_zero]
              exact ⟨(hcell _).trans hc0, (hfroz _).trans hd0⟩
            · simp at hj
          · rw [hl, Nat.mul_one]
            refine ElAt.keepC (slOw_ok intOw_ok) (fun q h1 h2 => ⟨hcell q, hfroz q⟩) (fun j hj => ?_) HE.out
            exact o4.block j (fun hin => N1.out.2.2 j hin j hj rfl)
      case measure => simp [intOf]; omega
    · obtain rfl : n = k := by omega
      have hlast : xs.take n = xs := List.take_of_length_le (by have := lx.out; omega)
      have hdl : xs.drop n = [] := List.drop_eq_nil_of_le (by have := lx.out; omega)
      have hm := hm.out
      rw [hlast, hdl] at hm
      rw [hlast]
      have HM := Lib.hid (hm.whole (by unfold markSS; rw [mkL_len]; first | done | exact lx.out))
      clear hlast hdl hm
      go_wp2_with fail
      go_ret
      exact ⟨retI (by omega), by rw [lx.out]; first | exact HM.out | (have h := HM.out; rw [lx.out] at h; exact h), ho⟩
theorem markInt64SS_v (v : Value) (xs : List (List Int)) (w : World) (k : Int) (lo hi : Nat) (h : OwS (slOw intOw 1) 1 w v xs lo hi) (hs : lenSS xs) (h0 : 0 ≤ k) (hk : k ≤ 1048576) :
    Calls Try.prog 27 #[v, .int .i64 k] w fun e w' => e = .returned (.int .i64 (k + (totSS xs : Nat))) ∧ OwS (slOw intOw 1) 1 w' v (markSS k.toNat xs) lo hi ∧ OnlyIn lo hi w w' := by
  obtain ⟨A, n, c, bs, rfl, h, h1, h2, r⟩ := h
  obtain ⟨k0, rfl⟩ := Int.eq_ofNat_of_zero_le h0
  refine (markInt64SS_q A n c k0 xs bs w h h1 hs (by omega)).mono ?_
  rintro e w' ⟨rfl, h3, h4⟩
  exact ⟨retI (by omega), ⟨A, n, c, bs, rfl, by rw [Int.toNat_natCast]; exact h3, h1, h2, r⟩, h4.in_ h2⟩
end
section
open Go.RowKit
set_option linter.unusedVariables false
set_option linter.unusedSimpArgs false
/-- The components that begin among the first k agents, and the agents that they hold. -/
def part (xs : List DAgent) : Nat → List (List Int) × List Int
  | 0 => ([], [])
  | k + 1 => if (k : Int) ∈ (part xs k).2 then part xs k else ((part xs k).1 ++ [srt (tr xs (k : Int) xs.length)], (part xs k).2 ++ tr xs (k : Int) xs.length)
theorem part_len (xs : List DAgent) : ∀ k, (part xs k).1.length ≤ k
  | 0 => by simp [part]
  | k + 1 => by
    have := part_len xs k
    unfold part
    split
    · omega
    · simp; omega
theorem part_tot {xs : List DAgent} (G : Good xs) : ∀ k, k ≤ xs.length → totSS (part xs k).1 ≤ k * xs.length
  | 0, _ => by simp [part, totSS, cntL]
  | k + 1, hk => by
    have h1 := part_tot G k (by omega)
    have hl := (tr_ok G (s := (k : Int)) (by omega) (by omega) xs.length).len
    rw [Nat.add_mul]
    unfold part
    split
    · omega
    · unfold totSS at h1 ⊢
      rw [cntL_append]
      simp only [cntL_cons, srt_len]
      have : cntL List.length ([] : List (List Int)) = 0 := rfl
      omega
theorem seen_inner {L : Nat → List Bool → Int → Option (List (List Int))} {n : Nat} {l t : List Int} {r : Option (List (List Int))} (ht : ∀ a ∈ t, 0 ≤ a ∧ a < n)
    (h : ∀ g (j : Nat) a S, t[j]? = some a → (∃ b, getI S a = some b) → L (g + 1) S (j : Int) = L g (setI S a true) ((j : Int) + 1)) (he : ∀ g, L (g + 1) (seenL n (l ++ t)) (t.length : Int) = r) :
    L (t.length + 1) (seenL n l) 0 = r := by
  have := traj (L := fun g (s : List Bool × Int) => L g s.1 s.2) (st := fun j => (seenL n (l ++ t.take j), (j : Int))) (n := t.length) (r := r)
    (fun g j hj => by
      have ha := List.getElem?_eq_getElem hj
      have hr := ht _ (List.getElem_mem hj)
      simp only
      rw [h g j _ _ ha ⟨_, seenL_get hr.1 hr.2⟩, seenL_set hr.1 hr.2, take_succ_some ha, List.append_assoc]
      simp only [Int.natCast_add, Int.cast_ofNat_Int])
    (fun g => by simp only; rw [List.take_length]; exact he g) (t.length + 1) (Nat.lt_succ_self _)
  simpa using this
theorem p_sParts {xs : List DAgent} (G : Good xs) : m_spec_l12Parts ⟨xs⟩ = some (part xs xs.length).1 := by
  have h6 := G.len
  unfold m_spec_l12Parts
  rw [mustP_ok (show xs.length ≤ 4294967296 by omega), Option.bind_some]
  have key := traj (L := fun g (s : (List (List Int) × List Int) × Int) => m_spec_l12Parts_L1 ⟨xs⟩ m_spec_l12Parts_A1 g s.1.1 (seenL xs.length s.1.2) s.2) (st := fun k => (part xs k, (k : Int))) (n := xs.length) (r := some (part xs xs.length).1)
    (fun g k hk => by
      have hpl := part_len xs k
      simp -implicitDefEqProofs only [m_spec_l12Parts_L1, m_spec_l12Parts_B1, dlt hk, cond_true]
      rw [seenL_get (n := xs.length) (a := (k : Int)) (by omega) (by omega), Option.bind_some]
      by_cases hin : (k : Int) ∈ (part xs k).2
      · rw [decide_eq_true hin, cond_true]
        have e : part xs (k + 1) = part xs k := by rw [part, if_pos hin]
        rw [e]
        simp only [Int.natCast_add, Int.cast_ofNat_Int]
      · rw [decide_eq_false hin, cond_false]
        have hok := tr_ok G (s := (k : Int)) (by omega) (by omega) xs.length
        have hl := hok.len
        have e : part xs (k + 1) = ((part xs k).1 ++ [srt (tr xs (k : Int) xs.length)], (part xs k).2 ++ tr xs (k : Int) xs.length) := by rw [part, if_neg hin]
        rw [p_sTraverse G (by omega) (by omega), Option.bind_some, e]
        simp only
        generalize tr xs (k : Int) xs.length = t at *
        refine seen_inner (L := fun g' S i => m_spec_l12Parts_L2 (t, atOf xs.length t) (m_spec_l12Parts_A2 (m_spec_l12Parts_L1 ⟨xs⟩ m_spec_l12Parts_A1 g) (part xs k).1 (k : Int) (t, atOf xs.length t)) g' S i) hok.inr
          (fun g' j a S ha ⟨b, hb⟩ => by
            have hj := lt_of_some ha
            simp -implicitDefEqProofs only [m_spec_l12Parts_L2, m_spec_l12Parts_B2, dlt hj, cond_true, getI_nat ha, Option.bind_some, hb])
          (fun g' => by
            simp -implicitDefEqProofs only [m_spec_l12Parts_L2, m_spec_l12Parts_B2, dge, cond_false, m_spec_l12Parts_A2]
            rw [p_sSorted t (by omega), Option.bind_some, mustP_ok (by simp; omega), Option.bind_some, ck_ok (by omega), Option.bind_some]
            simp only [Int.natCast_add, Int.cast_ofNat_Int]))
    (fun g => by simp -implicitDefEqProofs only [m_spec_l12Parts_L1, m_spec_l12Parts_B1, dge, cond_false, m_spec_l12Parts_A1]) (xs.length + 1) (Nat.lt_succ_self _)
  rw [seenL_nil]
  simpa [part] using key
theorem p_iParts {xs : List DAgent} (G : Good xs) : m_impl_Net_components ⟨xs⟩ = some (part xs xs.length).1 := by
  have h6 := G.len
  unfold m_impl_Net_components
  rw [mustP_ok (show xs.length ≤ 4294967296 by omega), Option.bind_some]
  have key := traj (L := fun g (s : (List (List Int) × List Int) × Int) => m_impl_Net_components_L1 ⟨xs⟩ m_impl_Net_components_A1 g s.1.1 (seenL xs.length s.1.2) s.2) (st := fun k => (part xs k, (k : Int))) (n := xs.length) (r := some (part xs xs.length).1)
    (fun g k hk => by
      have hpl := part_len xs k
      simp -implicitDefEqProofs only [m_impl_Net_components_L1, m_impl_Net_components_B1, dlt hk, cond_true]
      rw [seenL_get (n := xs.length) (a := (k : Int)) (by omega) (by omega), Option.bind_some]
      by_cases hin : (k : Int) ∈ (part xs k).2
      · rw [decide_eq_true hin, cond_true]
        have e : part xs (k + 1) = part xs k := by rw [part, if_pos hin]
        rw [e]
        simp only [Int.natCast_add, Int.cast_ofNat_Int]
      · rw [decide_eq_false hin, cond_false]
        have hok := tr_ok G (s := (k : Int)) (by omega) (by omega) xs.length
        have hl := hok.len
        have e : part xs (k + 1) = ((part xs k).1 ++ [srt (tr xs (k : Int) xs.length)], (part xs k).2 ++ tr xs (k : Int) xs.length) := by rw [part, if_neg hin]
        rw [p_iTraverse G (by omega) (by omega), Option.bind_some, e]
        skip
        generalize tr xs (k : Int) xs.length = t at *
        refine seen_inner (L := fun g' S i => m_impl_Net_components_L2 t (m_impl_Net_components_A2 (m_impl_Net_components_L1 ⟨xs⟩ m_impl_Net_components_A1 g) (part xs k).1 (k : Int) t) g' S i) hok.inr
          (fun g' j a S ha ⟨b, hb⟩ => by
            have hj := lt_of_some ha
            simp -implicitDefEqProofs only [m_impl_Net_components_L2, m_impl_Net_components_B2, dlt hj, cond_true, getI_nat ha, Option.bind_some, hb])
          (fun g' => by
            simp -implicitDefEqProofs only [m_impl_Net_components_L2, m_impl_Net_components_B2, dge, cond_false, m_impl_Net_components_A2]
            rw [mustP_ok (show t.length ≤ 4294967296 by omega), Option.bind_some, mustP_ok (by simp; omega), Option.bind_some, ck_ok (by omega), Option.bind_some]
            simp only [Int.natCast_add, Int.cast_ofNat_Int]))
    (fun g => by simp -implicitDefEqProofs only [m_impl_Net_components_L1, m_impl_Net_components_B1, dge, cond_false, m_impl_Net_components_A1]) (xs.length + 1) (Nat.lt_succ_self _)
  rw [seenL_nil]
  simpa [part] using key
noncomputable def componentsOf (d : DNet) : List (List Int) × Int := bif validNet d then ((part d.agents d.agents.length).1, 0) else ([], 1)
theorem p_sComponentsOf (d : DNet) (hs : Small d.agents) : m_spec_ComponentsOf d = some (componentsOf d) := by
  unfold m_spec_ComponentsOf componentsOf
  rw [p_ok _ hs, Option.bind_some]
  cases hv : validNet d with
  | false => rfl
  | true =>
    obtain ⟨xs⟩ := d
    rw [cond_true, cond_true, p_sParts (good hv), Option.bind_some]
theorem p_iComponentsOf (d : DNet) (hs : Small d.agents) : m_impl_ComponentsOf d = some (componentsOf d) := by
  unfold m_impl_ComponentsOf componentsOf
  rw [p_valid _ hs, Option.bind_some]
  cases hv : validNet d with
  | false => rfl
  | true =>
    obtain ⟨xs⟩ := d
    rw [cond_true, cond_true, p_iParts (good hv), Option.bind_some]
theorem componentsOf_len (d : DNet) (hs : szNet d ≤ 1048576) : lenSS (componentsOf d).1 := by
  unfold componentsOf lenSS
  cases hv : validNet d with
  | false => simp [totSS, cntL]
  | true =>
    have G := good hv
    have h6 := G.len
    have h1 := part_len d.agents d.agents.length
    have h2 := part_tot G d.agents.length (Nat.le_refl _)
    have h3 : d.agents.length * d.agents.length ≤ 600 * 600 := Nat.mul_le_mul h6 h6
    simp only [cond_true]
    omega
end
section
open Go.RowKit
set_option linter.unusedVariables false
theorem specComponentsOf_v (v : Value) (x : DNet) (w : World) {B : Nat} (h : RdT netRd w B v x) (hB : B ≤ w.heap.size) (hs : szNet x ≤ 1048576) :
    Calls Try.prog 24 #[v] w fun e w' => (∃ v', e = .returned (.tuple #[v', .int .i64 (componentsOf x).2]) ∧ OwS intsOw 1 w' v' (componentsOf x).1 w.heap.size w'.heap.size) ∧ Below w.heap.size w w' :=
  (c_m_spec_ComponentsOf x _ (p_sComponentsOf x hs) v w (h.more netRd_ok hB)).mono fun e w' ⟨⟨v', bs, he, ho⟩, hb⟩ => ⟨⟨v', he, ho.own intsOw_ok⟩, hb⟩
theorem implComponentsOf_v (v : Value) (x : DNet) (w : World) {B : Nat} (h : RdT netRd w B v x) (hB : B ≤ w.heap.size) (hs : szNet x ≤ 1048576) :
    Calls Try.prog 25 #[v] w fun e w' => (∃ v', e = .returned (.tuple #[v', .int .i64 (componentsOf x).2]) ∧ OwS intsOw 1 w' v' (componentsOf x).1 w.heap.size w'.heap.size) ∧ Below w.heap.size w w' :=
  (c_m_impl_ComponentsOf x _ (p_iComponentsOf x hs) v w (h.more netRd_ok hB)).mono fun e w' ⟨⟨v', bs, he, ho⟩, hb⟩ => ⟨⟨v', he, ho.own intsOw_ok⟩, hb⟩
end
section
open Go.RowKit
set_option linter.unusedVariables false
set_option linter.unusedSimpArgs false
set_option maxRecDepth 100000
def m_laws_heldInt64S_A1 (i1 : Int) : Option Int :=
  some i1
def m_laws_heldInt64S_B1 (d0 : List Int) (rec1 : Int → Int → Option Int) (K1 : Int → Option Int) (i3 : Int) (i4 : Int) : Option Int :=
  (bif (decide (i4 < (d0.length : Int))) then ((getI d0 i4).bind fun x7 => (bif (x7 != i3) then some (-1) else ((ck (i3 + 1)).bind fun s17 => (rec1 s17 (i4 + 1))))) else (K1 i3))
def m_laws_heldInt64S_L1 (d0 : List Int) (K1 : Int → Option Int) : Nat → Int → Int → Option Int
  | 0, _, _ => none
  | g + 1, i3, i4 => m_laws_heldInt64S_B1 d0 (m_laws_heldInt64S_L1 d0 K1 g) K1 i3 i4
def m_laws_heldInt64S (d0 : List Int) (d1 : Int) : Option Int :=
  (m_laws_heldInt64S_L1 d0 m_laws_heldInt64S_A1 (d0.length + 1) d1 0)
set_option maxHeartbeats 2000000 in
theorem c_m_laws_heldInt64S (d0 : List Int) (d1 : Int) (r : Int) (hm : m_laws_heldInt64S d0 d1 = some r) (v0 : Value) (w : World) (hv0 : Sl intRd 1 w v0 d0) :
    Calls Try.prog 23 #[v0, .int .i64 d1] w fun e w' => e = .returned (.int .i64 r) ∧ Below w.heap.size w w' := by
  obtain ⟨Aa0, na0, ca0, rfl, ha0, ra0⟩ := hv0
  have ea0 := ha0.len; subst ea0
  have qa0 := len_le ra0
  have T := Below.refl w.heap.size w
  unfold m_laws_heldInt64S at hm
  refine enter 21 Try.func23 rfl rfl rfl ?_
  intro f hf
  have s0 : f 0 = .slice Aa0 d0.length ca0 := hf 0 _ rfl
  have s1 : f 1 = .int .i64 d1 := hf 1 _ rfl
  refine wp_seq ?_
  refine wp_rs rfl ?_
  refine RQ.y rfl (Y.assign (v := .int .i64 0) rfl) ?_
  refine RQ.nil ?_
  refine then_n ?_
  refine wp_seq ?_
  refine wp_seq ?_
  refine wp_rs rfl ?_
  refine RQ.y rfl (Y.assign (v := .int .i64 0) rfl) ?_
  refine RQ.nil ?_
  refine then_n ?_
  refine wp_block ?_
  obtain ⟨K1, hK1, hm⟩ : ∃ K, K = m_laws_heldInt64S_A1 ∧ m_laws_heldInt64S_L1 d0 K (d0.length + 1) d1 0 = some r := ⟨_, rfl, hm⟩
  refine wp_loopX (fun g f w' => ∃ (i3 : Int) (i4 : Int), f 0 = .slice Aa0 d0.length ca0 ∧ f 1 = .int .i64 i3 ∧ f 5 = .int .i64 i4 ∧ 0 ≤ i4 ∧ Below w.heap.size w w' ∧ m_laws_heldInt64S_L1 d0 K1 g i3 i4 = some r) 0 (fun f w' => ∃ (i1 : Int), f 1 = .int .i64 i1 ∧ Below w.heap.size w w' ∧ m_laws_heldInt64S_A1 i1 = some r) (d0.length + 1) ⟨d1, 0, s0, s1, rfl, (by omega), T, hm⟩ ?_ ?_
  · rintro f w2 ⟨i1, s1_1x, T, hm⟩
    unfold m_laws_heldInt64S_A1 at hm
    refine blk_hit (then_n ?_)
    refine wp_seq ?_
    refine wp_rs rfl ?_
    refine RQ.y rfl (Y.move (v := .int .i64 i1) s1_1x) ?_
    refine RQ.y rfl (Y.assign (v := .int .i64 i1) rfl) ?_
    refine RQ.nil ?_
    refine then_n ?_
    refine wp_ret ?_
    obtain rfl := Option.some.inj hm
    exact (ret1 rfl rfl rfl ⟨rfl, T⟩)
  · rintro g f w5 ⟨i3, i4, s0_1, s1_1, s5_1, nn5_1, T, hm⟩
    rcases g with _ | g
    · simp only [m_laws_heldInt64S_L1] at hm; cases hm
    obtain ⟨rec1, hrec1, hm⟩ : ∃ z, z = m_laws_heldInt64S_L1 d0 K1 g ∧ m_laws_heldInt64S_B1 d0 z K1 i3 i4 = some r := ⟨_, rfl, hm⟩
    unfold m_laws_heldInt64S_B1 at hm
    refine wp_seq ?_
    refine wp_seq ?_
    refine wp_rs rfl ?_
    refine RQ.y rfl (Y.move (v := .int .i64 i4) s5_1) ?_
    refine RQ.y rfl (Y.move (v := .slice Aa0 d0.length ca0) s0_1) ?_
    refine RQ.y rfl (Y.len (by kernel_rfl) rfl) ?_
    refine RQ.y rfl (Y.binI (v := .bool (decide (i4 < (d0.length : Int)))) rfl rfl rfl) ?_
    refine RQ.nil ?_
    refine then_n ?_
    rcases bcases (decide (i4 < (d0.length : Int))) with c6 | c6
    · replace hm := cF c6 hm
      have pc6 := of_decide_eq_false c6
      refine cond_f rfl (vb rfl c6) ?_
      refine wp_exit ?_
      exact (then_x (then_x (hit_x ⟨_, rfl, ⟨i3, s1_1, T, (by rw [hK1] at hm; exact hm)⟩⟩)))
    · replace hm := cT c6 hm
      have pc6 := of_decide_eq_true c6
      refine cond_t rfl (vb rfl c6) ?_
      refine wp_skip ?_
      refine then_n ?_
      refine wp_seq ?_
      refine wp_block ?_
      refine wp_seq ?_
      refine wp_seq ?_
      refine wp_rs rfl ?_
      refine RQ.y rfl (Y.move (v := .slice Aa0 d0.length ca0) s0_1) ?_
      refine RQ.y rfl (Y.move (v := .int .i64 i4) s5_1) ?_
      obtain ⟨x7, hx10, hm⟩ := bnd hm
      obtain ⟨k8, hk11, hl12, hx10⟩ := getI_some hx10
      obtain ⟨b14, o15, rfl, hbb14⟩ := ha0.addr (by omega)
      obtain ⟨cs9, hRcs9, hc13⟩ := ha0.el hx10
      have hScs9 := hRcs9
      obtain rfl := hRcs9
      refine RQ.y rfl (Y.indexAddr (m := k8) (sz := 1) rfl rfl hk11 hl12 (by kernel_rfl)) ?_
      refine RQ.y rfl (Y.load (v := .int .i64 x7) rfl (by kernel_rfl) (eqC (cellT T (hc13 0 _ rfl)))) ?_
      refine RQ.y rfl (Y.move (v := .int .i64 i3) s1_1) ?_
      refine RQ.y rfl (Y.binI (v := .bool (x7 != i3)) rfl rfl rfl) ?_
      refine RQ.nil ?_
      refine then_n ?_
      rcases bcases (x7 != i3) with c16 | c16
      · replace hm := cF c16 hm
        refine cond_f rfl (vb rfl c16) ?_
        refine wp_skip ?_
        refine then_n ?_
        refine wp_rs rfl ?_
        refine RQ.y rfl (Y.move (v := .int .i64 i3) s1_1) ?_
        obtain ⟨s17, ks17, hm⟩ := bnd hm
        replace ks17 := ck_some ks17
        refine RQ.y rfl (Y.binI (v := .int .i64 s17) rfl rfl (by rw [binI_add ks17.2, ks17.1])) ?_
        refine RQ.y rfl (Y.assign (v := .int .i64 s17) rfl) ?_
        refine RQ.nil ?_
        refine blk_n (then_n ?_)
        refine wp_rs rfl ?_
        refine RQ.y rfl (Y.move (v := .int .i64 i4) s5_1) ?_
        refine RQ.y rfl (Y.binI rfl rfl (binI_add (m := i4) (by omega))) ?_
        refine RQ.y rfl (Y.assign (v := .int .i64 (i4 + 1)) rfl) ?_
        refine RQ.nil ?_
        exact (then_n ⟨g, _, Nat.lt_succ_self _, rfl, ⟨s17, (i4 + 1), s0_1, rfl, rfl, (by omega), T, (by rw [← hrec1]; exact hm)⟩⟩)
      · replace hm := cT c16 hm
        refine cond_t rfl (vb rfl c16) ?_
        refine wp_seq ?_
        refine wp_rs rfl ?_
        refine RQ.y rfl (Y.assign (v := .int .i64 (-1)) rfl) ?_
        refine RQ.nil ?_
        refine then_n ?_
        refine wp_ret ?_
        obtain rfl := Option.some.inj hm
        exact (then_r (blk_r (then_r (then_r (hit_r (blk_r (then_r (ret1 rfl rfl rfl ⟨rfl, T⟩))))))))
end
section
open Go.RowKit
set_option linter.unusedVariables false
set_option linter.unusedSimpArgs false
set_option maxRecDepth 100000
def m_laws_heldInt64SS_A1 (i1 : Int) : Option Int :=
  some i1
def m_laws_heldInt64SS_B1 (d0 : List (List Int)) (rec1 : Int → Int → Option Int) (K1 : Int → Option Int) (i3 : Int) (i4 : Int) : Option Int :=
  (bif (decide (i4 < (d0.length : Int))) then ((getI d0 i4).bind fun x7 => ((m_laws_heldInt64S x7 i3).bind fun y17 => (bif (decide (y17 < 0)) then some (-1) else (rec1 y17 (i4 + 1))))) else (K1 i3))
def m_laws_heldInt64SS_L1 (d0 : List (List Int)) (K1 : Int → Option Int) : Nat → Int → Int → Option Int
  | 0, _, _ => none
  | g + 1, i3, i4 => m_laws_heldInt64SS_B1 d0 (m_laws_heldInt64SS_L1 d0 K1 g) K1 i3 i4
def m_laws_heldInt64SS (d0 : List (List Int)) (d1 : Int) : Option Int :=
  (m_laws_heldInt64SS_L1 d0 m_laws_heldInt64SS_A1 (d0.length + 1) d1 0)
set_option maxHeartbeats 2000000 in
theorem c_m_laws_heldInt64SS (d0 : List (List Int)) (d1 : Int) (r : Int) (hm : m_laws_heldInt64SS d0 d1 = some r) (v0 : Value) (w : World) (hv0 : Sl (slRd intRd 1) 1 w v0 d0) :
    Calls Try.prog 28 #[v0, .int .i64 d1] w fun e w' => e = .returned (.int .i64 r) ∧ Below w.heap.size w w' := by
  obtain ⟨Aa0, na0, ca0, rfl, ha0, ra0⟩ := hv0
  have ea0 := ha0.len; subst ea0
  have qa0 := len_le ra0
  have T := Below.refl w.heap.size w
  unfold m_laws_heldInt64SS at hm
  refine enter 21 Try.func28 rfl rfl rfl ?_
  intro f hf
  have s0 : f 0 = .slice Aa0 d0.length ca0 := hf 0 _ rfl
  have s1 : f 1 = .int .i64 d1 := hf 1 _ rfl
  refine wp_seq ?_
  refine wp_rs rfl ?_
  refine RQ.y rfl (Y.assign (v := .int .i64 0) rfl) ?_
  refine RQ.nil ?_
  refine then_n ?_
  refine wp_seq ?_
  refine wp_seq ?_
  refine wp_rs rfl ?_
  refine RQ.y rfl (Y.assign (v := .int .i64 0) rfl) ?_
  refine RQ.nil ?_
  refine then_n ?_
  refine wp_block ?_
  obtain ⟨K1, hK1, hm⟩ : ∃ K, K = m_laws_heldInt64SS_A1 ∧ m_laws_heldInt64SS_L1 d0 K (d0.length + 1) d1 0 = some r := ⟨_, rfl, hm⟩
  refine wp_loopX (fun g f w' => ∃ (i3 : Int) (i4 : Int), f 0 = .slice Aa0 d0.length ca0 ∧ f 1 = .int .i64 i3 ∧ f 5 = .int .i64 i4 ∧ 0 ≤ i4 ∧ Below w.heap.size w w' ∧ m_laws_heldInt64SS_L1 d0 K1 g i3 i4 = some r) 0 (fun f w' => ∃ (i1 : Int), f 1 = .int .i64 i1 ∧ Below w.heap.size w w' ∧ m_laws_heldInt64SS_A1 i1 = some r) (d0.length + 1) ⟨d1, 0, s0, s1, rfl, (by omega), T, hm⟩ ?_ ?_
  · rintro f w2 ⟨i1, s1_1x, T, hm⟩
    unfold m_laws_heldInt64SS_A1 at hm
    refine blk_hit (then_n ?_)
    refine wp_seq ?_
    refine wp_rs rfl ?_
    refine RQ.y rfl (Y.move (v := .int .i64 i1) s1_1x) ?_
    refine RQ.y rfl (Y.assign (v := .int .i64 i1) rfl) ?_
    refine RQ.nil ?_
    refine then_n ?_
    refine wp_ret ?_
    obtain rfl := Option.some.inj hm
    exact (ret1 rfl rfl rfl ⟨rfl, T⟩)
  · rintro g f w5 ⟨i3, i4, s0_1, s1_1, s5_1, nn5_1, T, hm⟩
    rcases g with _ | g
    · simp only [m_laws_heldInt64SS_L1] at hm; cases hm
    obtain ⟨rec1, hrec1, hm⟩ : ∃ z, z = m_laws_heldInt64SS_L1 d0 K1 g ∧ m_laws_heldInt64SS_B1 d0 z K1 i3 i4 = some r := ⟨_, rfl, hm⟩
    unfold m_laws_heldInt64SS_B1 at hm
    refine wp_seq ?_
    refine wp_seq ?_
    refine wp_rs rfl ?_
    refine RQ.y rfl (Y.move (v := .int .i64 i4) s5_1) ?_
    refine RQ.y rfl (Y.move (v := .slice Aa0 d0.length ca0) s0_1) ?_
    refine RQ.y rfl (Y.len (by kernel_rfl) rfl) ?_
    refine RQ.y rfl (Y.binI (v := .bool (decide (i4 < (d0.length : Int)))) rfl rfl rfl) ?_
    refine RQ.nil ?_
    refine then_n ?_
    rcases bcases (decide (i4 < (d0.length : Int))) with c6 | c6
    · replace hm := cF c6 hm
      have pc6 := of_decide_eq_false c6
      refine cond_f rfl (vb rfl c6) ?_
      refine wp_exit ?_
      exact (then_x (then_x (hit_x ⟨_, rfl, ⟨i3, s1_1, T, (by rw [hK1] at hm; exact hm)⟩⟩)))
    · replace hm := cT c6 hm
      have pc6 := of_decide_eq_true c6
      refine cond_t rfl (vb rfl c6) ?_
      refine wp_skip ?_
      refine then_n ?_
      refine wp_seq ?_
      refine wp_block ?_
      refine wp_seq ?_
      refine wp_rb rfl ?_
      refine RQ.y rfl (Y.move (v := .slice Aa0 d0.length ca0) s0_1) ?_
      refine RQ.y rfl (Y.move (v := .int .i64 i4) s5_1) ?_
      obtain ⟨x7, hx10, hm⟩ := bnd hm
      obtain ⟨k8, hk11, hl12, hx10⟩ := getI_some hx10
      obtain ⟨b14, o15, rfl, hbb14⟩ := ha0.addr (by omega)
      obtain ⟨cs9, hRcs9, hc13⟩ := ha0.el hx10
      have hScs9 := hRcs9
      obtain ⟨A16, n16, c16, rfl, h16, r16⟩ := hRcs9
      have e16 := h16.len; subst e16
      have q16 := len_le r16
      refine RQ.y rfl (Y.indexAddr (m := k8) (sz := 1) rfl rfl hk11 hl12 (by kernel_rfl)) ?_
      refine RQ.y rfl (Y.load (v := .slice A16 x7.length c16) rfl (by kernel_rfl) (beC (cellT T (hc13 0 _ rfl)))) ?_
      refine RQ.y rfl (Y.move (v := .int .i64 i3) s1_1) ?_
      obtain ⟨y17, e18, hm⟩ := bnd hm
      refine RQ.call rfl (am2 rfl rfl) (by kernel_rfl) (v := .int .i64 y17) (bel (K := fun _ => True) fun w' hb' => (c_m_laws_heldInt64S x7 i3 _ e18 _ w' (slArg intRd_ok h16 r16 (Tt T hb')))) ?_
      refine RQ.y rfl (Y.assign (v := .int .i64 y17) rfl) ?_
      refine RQ.nil ?_
      intro w19 hb20
      have szw19 := hb20.size
      have T := Tt T hb20
      refine then_n ?_
      refine wp_seq ?_
      refine wp_rs rfl ?_
      refine RQ.y rfl (Y.move (v := .int .i64 y17) rfl) ?_
      refine RQ.y rfl (Y.binI (v := .bool (decide (y17 < 0))) rfl rfl rfl) ?_
      refine RQ.nil ?_
      refine then_n ?_
      rcases bcases (decide (y17 < 0)) with c21 | c21
      · replace hm := cF c21 hm
        have pc21 := of_decide_eq_false c21
        refine cond_f rfl (vb rfl c21) ?_
        refine wp_skip ?_
        refine blk_n (then_n ?_)
        refine wp_rs rfl ?_
        refine RQ.y rfl (Y.move (v := .int .i64 i4) s5_1) ?_
        refine RQ.y rfl (Y.binI rfl rfl (binI_add (m := i4) (by omega))) ?_
        refine RQ.y rfl (Y.assign (v := .int .i64 (i4 + 1)) rfl) ?_
        refine RQ.nil ?_
        exact (then_n ⟨g, _, Nat.lt_succ_self _, rfl, ⟨y17, (i4 + 1), s0_1, rfl, rfl, (by omega), T, (by rw [← hrec1]; exact hm)⟩⟩)
      · replace hm := cT c21 hm
        have pc21 := of_decide_eq_true c21
        refine cond_t rfl (vb rfl c21) ?_
        refine wp_seq ?_
        refine wp_rs rfl ?_
        refine RQ.y rfl (Y.assign (v := .int .i64 (-1)) rfl) ?_
        refine RQ.nil ?_
        refine then_n ?_
        refine wp_ret ?_
        obtain rfl := Option.some.inj hm
        exact (blk_r (then_r (then_r (hit_r (blk_r (then_r (ret1 rfl rfl rfl ⟨rfl, T⟩)))))))
def m_laws_eqInt64S_A1 : Option Bool :=
  some true
def m_laws_eqInt64S_B1 (d0 : List Int) (d1 : List Int) (rec1 : Int → Option Bool) (K1 : Option Bool) (i3 : Int) : Option Bool :=
  (bif (decide (i3 < (d0.length : Int))) then ((getI d0 i3).bind fun x6 => ((getI d1 i3).bind fun x15 => (bif (x6 != x15) then some false else (rec1 (i3 + 1))))) else (K1))
def m_laws_eqInt64S_L1 (d0 : List Int) (d1 : List Int) (K1 : Option Bool) : Nat → Int → Option Bool
  | 0, _ => none
  | g + 1, i3 => m_laws_eqInt64S_B1 d0 d1 (m_laws_eqInt64S_L1 d0 d1 K1 g) K1 i3
def m_laws_eqInt64S (d0 : List Int) (d1 : List Int) : Option Bool :=
  (bif ((d0.length : Int) != (d1.length : Int)) then some false else (m_laws_eqInt64S_L1 d0 d1 m_laws_eqInt64S_A1 (d0.length + 1) 0))
set_option maxHeartbeats 2000000 in
theorem c_m_laws_eqInt64S (d0 : List Int) (d1 : List Int) (r : Bool) (hm : m_laws_eqInt64S d0 d1 = some r) (v0 : Value) (v1 : Value) (w : World) (hv0 : Sl intRd 1 w v0 d0) (hv1 : Sl intRd 1 w v1 d1) :
    Calls Try.prog 20 #[v0, v1] w fun e w' => e = .returned (.bool r) ∧ Below w.heap.size w w' := by
  obtain ⟨Aa0, na0, ca0, rfl, ha0, ra0⟩ := hv0
  have ea0 := ha0.len; subst ea0
  have qa0 := len_le ra0
  obtain ⟨Aa1, na1, ca1, rfl, ha1, ra1⟩ := hv1
  have ea1 := ha1.len; subst ea1
  have qa1 := len_le ra1
  have T := Below.refl w.heap.size w
  unfold m_laws_eqInt64S at hm
  refine enter 26 Try.func20 rfl rfl rfl ?_
  intro f hf
  have s0 : f 0 = .slice Aa0 d0.length ca0 := hf 0 _ rfl
  have s1 : f 1 = .slice Aa1 d1.length ca1 := hf 1 _ rfl
  refine wp_seq ?_
  refine wp_rs rfl ?_
  refine RQ.y rfl (Y.assign (v := .bool false) rfl) ?_
  refine RQ.nil ?_
  refine then_n ?_
  refine wp_seq ?_
  refine wp_seq ?_
  refine wp_rs rfl ?_
  refine RQ.y rfl (Y.move (v := .slice Aa0 d0.length ca0) s0) ?_
  refine RQ.y rfl (Y.len (by kernel_rfl) rfl) ?_
  refine RQ.y rfl (Y.move (v := .slice Aa1 d1.length ca1) s1) ?_
  refine RQ.y rfl (Y.len (by kernel_rfl) rfl) ?_
  refine RQ.y rfl (Y.binI (v := .bool ((d0.length : Int) != (d1.length : Int))) rfl rfl rfl) ?_
  refine RQ.nil ?_
  refine then_n ?_
  rcases bcases ((d0.length : Int) != (d1.length : Int)) with c1 | c1
  · replace hm := cF c1 hm
    refine cond_f rfl (vb rfl c1) ?_
    refine wp_skip ?_
    refine then_n ?_
    refine wp_seq ?_
    refine wp_seq ?_
    refine wp_rs rfl ?_
    refine RQ.y rfl (Y.assign (v := .int .i64 0) rfl) ?_
    refine RQ.nil ?_
    refine then_n ?_
    refine wp_block ?_
    obtain ⟨K1, hK1, hm⟩ : ∃ K, K = m_laws_eqInt64S_A1 ∧ m_laws_eqInt64S_L1 d0 d1 K (d0.length + 1) 0 = some r := ⟨_, rfl, hm⟩
    refine wp_loopX (fun g f w' => ∃ (i3 : Int), f 0 = .slice Aa0 d0.length ca0 ∧ f 1 = .slice Aa1 d1.length ca1 ∧ f 5 = .int .i64 i3 ∧ 0 ≤ i3 ∧ Below w.heap.size w w' ∧ m_laws_eqInt64S_L1 d0 d1 K1 g i3 = some r) 0 (fun f w' => Below w.heap.size w w' ∧ m_laws_eqInt64S_A1  = some r) (d0.length + 1) ⟨0, s0, s1, rfl, (by omega), T, hm⟩ ?_ ?_
    · rintro f w2 ⟨T, hm⟩
      unfold m_laws_eqInt64S_A1 at hm
      refine blk_hit (then_n ?_)
      refine wp_seq ?_
      refine wp_rs rfl ?_
      refine RQ.y rfl (Y.assign (v := .bool true) rfl) ?_
      refine RQ.nil ?_
      refine then_n ?_
      refine wp_ret ?_
      obtain rfl := Option.some.inj hm
      exact (ret1 rfl rfl rfl ⟨rfl, T⟩)
    · rintro g f w4 ⟨i3, s0_1, s1_1, s5_1, nn5_1, T, hm⟩
      rcases g with _ | g
      · simp only [m_laws_eqInt64S_L1] at hm; cases hm
      obtain ⟨rec1, hrec1, hm⟩ : ∃ z, z = m_laws_eqInt64S_L1 d0 d1 K1 g ∧ m_laws_eqInt64S_B1 d0 d1 z K1 i3 = some r := ⟨_, rfl, hm⟩
      unfold m_laws_eqInt64S_B1 at hm
      refine wp_seq ?_
      refine wp_seq ?_
      refine wp_rs rfl ?_
      refine RQ.y rfl (Y.move (v := .int .i64 i3) s5_1) ?_
      refine RQ.y rfl (Y.move (v := .slice Aa0 d0.length ca0) s0_1) ?_
      refine RQ.y rfl (Y.len (by kernel_rfl) rfl) ?_
      refine RQ.y rfl (Y.binI (v := .bool (decide (i3 < (d0.length : Int)))) rfl rfl rfl) ?_
      refine RQ.nil ?_
      refine then_n ?_
      rcases bcases (decide (i3 < (d0.length : Int))) with c5 | c5
      · replace hm := cF c5 hm
        have pc5 := of_decide_eq_false c5
        refine cond_f rfl (vb rfl c5) ?_
        refine wp_exit ?_
        exact (then_x (then_x (hit_x ⟨_, rfl, ⟨T, (by rw [hK1] at hm; exact hm)⟩⟩)))
      · replace hm := cT c5 hm
        have pc5 := of_decide_eq_true c5
        refine cond_t rfl (vb rfl c5) ?_
        refine wp_skip ?_
        refine then_n ?_
        refine wp_seq ?_
        refine wp_block ?_
        refine wp_seq ?_
        refine wp_rbd (by kernel_rfl) (by kernel_rfl) ?_
        refine RQ.y rfl (Y.move (v := .slice Aa0 d0.length ca0) s0_1) ?_
        refine RQ.y rfl (Y.move (v := .int .i64 i3) s5_1) ?_
        obtain ⟨x6, hx9, hm⟩ := bnd hm
        obtain ⟨k7, hk10, hl11, hx9⟩ := getI_some hx9
        obtain ⟨b13, o14, rfl, hbb13⟩ := ha0.addr (by omega)
        obtain ⟨cs8, hRcs8, hc12⟩ := ha0.el hx9
        have hScs8 := hRcs8
        obtain rfl := hRcs8
        refine RQ.y rfl (Y.indexAddr (m := k7) (sz := 1) rfl rfl hk10 hl11 (by kernel_rfl)) ?_
        refine RQ.y rfl (Y.load (v := .int .i64 x6) rfl (by kernel_rfl) (beC (cellT T (hc12 0 _ rfl)))) ?_
        refine RQ.y rfl (Y.move (v := .slice Aa1 d1.length ca1) s1_1) ?_
        refine RQ.y rfl (Y.move (v := .int .i64 i3) s5_1) ?_
        obtain ⟨x15, hx18, hm⟩ := bnd hm
        obtain ⟨k16, hk19, hl20, hx18⟩ := getI_some hx18
        obtain ⟨b22, o23, rfl, hbb22⟩ := ha1.addr (by omega)
        obtain ⟨cs17, hRcs17, hc21⟩ := ha1.el hx18
        have hScs17 := hRcs17
        obtain rfl := hRcs17
        refine RQ.y rfl (Y.indexAddr (m := k16) (sz := 1) rfl rfl hk19 hl20 (by kernel_rfl)) ?_
        refine RQ.y rfl (Y.load (v := .int .i64 x15) rfl (by kernel_rfl) (beC (cellT T (hc21 0 _ rfl)))) ?_
        refine RQ.y rfl (Y.binI (v := .bool (x6 != x15)) rfl rfl rfl) ?_
        refine RQ.nil ?_
        intro w24 hb25
        have szw24 := hb25.size
        have T := Tt T hb25
        refine then_n ?_
        rcases bcases (x6 != x15) with c26 | c26
        · replace hm := cF c26 hm
          refine cond_f rfl (vb rfl c26) ?_
          refine wp_skip ?_
          refine blk_n (then_n ?_)
          refine wp_rs rfl ?_
          refine RQ.y rfl (Y.move (v := .int .i64 i3) s5_1) ?_
          refine RQ.y rfl (Y.binI rfl rfl (binI_add (m := i3) (by omega))) ?_
          refine RQ.y rfl (Y.assign (v := .int .i64 (i3 + 1)) rfl) ?_
          refine RQ.nil ?_
          exact (then_n ⟨g, _, Nat.lt_succ_self _, rfl, ⟨(i3 + 1), s0_1, s1_1, rfl, (by omega), T, (by rw [← hrec1]; exact hm)⟩⟩)
        · replace hm := cT c26 hm
          refine cond_t rfl (vb rfl c26) ?_
          refine wp_seq ?_
          refine wp_rs rfl ?_
          refine RQ.y rfl (Y.assign (v := .bool false) rfl) ?_
          refine RQ.nil ?_
          refine then_n ?_
          refine wp_ret ?_
          obtain rfl := Option.some.inj hm
          exact (blk_r (then_r (then_r (hit_r (blk_r (then_r (ret1 rfl rfl rfl ⟨rfl, T⟩)))))))
  · replace hm := cT c1 hm
    refine cond_t rfl (vb rfl c1) ?_
    refine wp_seq ?_
    refine wp_rs rfl ?_
    refine RQ.y rfl (Y.assign (v := .bool false) rfl) ?_
    refine RQ.nil ?_
    refine then_n ?_
    refine wp_ret ?_
    obtain rfl := Option.some.inj hm
    exact (then_r (ret1 rfl rfl rfl ⟨rfl, T⟩))
def m_laws_eqInt64SS_A1 : Option Bool :=
  some true
def m_laws_eqInt64SS_B1 (d0 : List (List Int)) (d1 : List (List Int)) (rec1 : Int → Option Bool) (K1 : Option Bool) (i3 : Int) : Option Bool :=
  (bif (decide (i3 < (d0.length : Int))) then ((getI d0 i3).bind fun x6 => ((getI d1 i3).bind fun x16 => ((m_laws_eqInt64S x6 x16).bind fun y26 => (bif y26 then (rec1 (i3 + 1)) else some false)))) else (K1))
def m_laws_eqInt64SS_L1 (d0 : List (List Int)) (d1 : List (List Int)) (K1 : Option Bool) : Nat → Int → Option Bool
  | 0, _ => none
  | g + 1, i3 => m_laws_eqInt64SS_B1 d0 d1 (m_laws_eqInt64SS_L1 d0 d1 K1 g) K1 i3
def m_laws_eqInt64SS (d0 : List (List Int)) (d1 : List (List Int)) : Option Bool :=
  (bif ((d0.length : Int) != (d1.length : Int)) then some false else (m_laws_eqInt64SS_L1 d0 d1 m_laws_eqInt64SS_A1 (d0.length + 1) 0))
set_option maxHeartbeats 2000000 in
theorem c_m_laws_eqInt64SS (d0 : List (List Int)) (d1 : List (List Int)) (r : Bool) (hm : m_laws_eqInt64SS d0 d1 = some r) (v0 : Value) (v1 : Value) (w : World) (hv0 : Sl (slRd intRd 1) 1 w v0 d0) (hv1 : Sl (slRd intRd 1) 1 w v1 d1) :
    Calls Try.prog 26 #[v0, v1] w fun e w' => e = .returned (.bool r) ∧ Below w.heap.size w w' := by
  obtain ⟨Aa0, na0, ca0, rfl, ha0, ra0⟩ := hv0
  have ea0 := ha0.len; subst ea0
  have qa0 := len_le ra0
  obtain ⟨Aa1, na1, ca1, rfl, ha1, ra1⟩ := hv1
  have ea1 := ha1.len; subst ea1
  have qa1 := len_le ra1
  have T := Below.refl w.heap.size w
  unfold m_laws_eqInt64SS at hm
  refine enter 27 Try.func26 rfl rfl rfl ?_
  intro f hf
  have s0 : f 0 = .slice Aa0 d0.length ca0 := hf 0 _ rfl
  have s1 : f 1 = .slice Aa1 d1.length ca1 := hf 1 _ rfl
  refine wp_seq ?_
  refine wp_rs rfl ?_
  refine RQ.y rfl (Y.assign (v := .bool false) rfl) ?_
  refine RQ.nil ?_
  refine then_n ?_
  refine wp_seq ?_
  refine wp_seq ?_
  refine wp_rs rfl ?_
  refine RQ.y rfl (Y.move (v := .slice Aa0 d0.length ca0) s0) ?_
  refine RQ.y rfl (Y.len (by kernel_rfl) rfl) ?_
  refine RQ.y rfl (Y.move (v := .slice Aa1 d1.length ca1) s1) ?_
  refine RQ.y rfl (Y.len (by kernel_rfl) rfl) ?_
  refine RQ.y rfl (Y.binI (v := .bool ((d0.length : Int) != (d1.length : Int))) rfl rfl rfl) ?_
  refine RQ.nil ?_
  refine then_n ?_
  rcases bcases ((d0.length : Int) != (d1.length : Int)) with c1 | c1
  · replace hm := cF c1 hm
    refine cond_f rfl (vb rfl c1) ?_
    refine wp_skip ?_
    refine then_n ?_
    refine wp_seq ?_
    refine wp_seq ?_
    refine wp_rs rfl ?_
    refine RQ.y rfl (Y.assign (v := .int .i64 0) rfl) ?_
    refine RQ.nil ?_
    refine then_n ?_
    refine wp_block ?_
    obtain ⟨K1, hK1, hm⟩ : ∃ K, K = m_laws_eqInt64SS_A1 ∧ m_laws_eqInt64SS_L1 d0 d1 K (d0.length + 1) 0 = some r := ⟨_, rfl, hm⟩
    refine wp_loopX (fun g f w' => ∃ (i3 : Int), f 0 = .slice Aa0 d0.length ca0 ∧ f 1 = .slice Aa1 d1.length ca1 ∧ f 5 = .int .i64 i3 ∧ 0 ≤ i3 ∧ Below w.heap.size w w' ∧ m_laws_eqInt64SS_L1 d0 d1 K1 g i3 = some r) 0 (fun f w' => Below w.heap.size w w' ∧ m_laws_eqInt64SS_A1  = some r) (d0.length + 1) ⟨0, s0, s1, rfl, (by omega), T, hm⟩ ?_ ?_
    · rintro f w2 ⟨T, hm⟩
      unfold m_laws_eqInt64SS_A1 at hm
      refine blk_hit (then_n ?_)
      refine wp_seq ?_
      refine wp_rs rfl ?_
      refine RQ.y rfl (Y.assign (v := .bool true) rfl) ?_
      refine RQ.nil ?_
      refine then_n ?_
      refine wp_ret ?_
      obtain rfl := Option.some.inj hm
      exact (ret1 rfl rfl rfl ⟨rfl, T⟩)
    · rintro g f w4 ⟨i3, s0_1, s1_1, s5_1, nn5_1, T, hm⟩
      rcases g with _ | g
      · simp only [m_laws_eqInt64SS_L1] at hm; cases hm
      obtain ⟨rec1, hrec1, hm⟩ : ∃ z, z = m_laws_eqInt64SS_L1 d0 d1 K1 g ∧ m_laws_eqInt64SS_B1 d0 d1 z K1 i3 = some r := ⟨_, rfl, hm⟩
      unfold m_laws_eqInt64SS_B1 at hm
      refine wp_seq ?_
      refine wp_seq ?_
      refine wp_rs rfl ?_
      refine RQ.y rfl (Y.move (v := .int .i64 i3) s5_1) ?_
      refine RQ.y rfl (Y.move (v := .slice Aa0 d0.length ca0) s0_1) ?_
      refine RQ.y rfl (Y.len (by kernel_rfl) rfl) ?_
      refine RQ.y rfl (Y.binI (v := .bool (decide (i3 < (d0.length : Int)))) rfl rfl rfl) ?_
      refine RQ.nil ?_
      refine then_n ?_
      rcases bcases (decide (i3 < (d0.length : Int))) with c5 | c5
      · replace hm := cF c5 hm
        have pc5 := of_decide_eq_false c5
        refine cond_f rfl (vb rfl c5) ?_
        refine wp_exit ?_
        exact (then_x (then_x (hit_x ⟨_, rfl, ⟨T, (by rw [hK1] at hm; exact hm)⟩⟩)))
      · replace hm := cT c5 hm
        have pc5 := of_decide_eq_true c5
        refine cond_t rfl (vb rfl c5) ?_
        refine wp_skip ?_
        refine then_n ?_
        refine wp_seq ?_
        refine wp_block ?_
        refine wp_seq ?_
        refine wp_rbd (by kernel_rfl) (by kernel_rfl) ?_
        refine RQ.y rfl (Y.move (v := .slice Aa0 d0.length ca0) s0_1) ?_
        refine RQ.y rfl (Y.move (v := .int .i64 i3) s5_1) ?_
        obtain ⟨x6, hx9, hm⟩ := bnd hm
        obtain ⟨k7, hk10, hl11, hx9⟩ := getI_some hx9
        obtain ⟨b13, o14, rfl, hbb13⟩ := ha0.addr (by omega)
        obtain ⟨cs8, hRcs8, hc12⟩ := ha0.el hx9
        have hScs8 := hRcs8
        obtain ⟨A15, n15, c15, rfl, h15, r15⟩ := hRcs8
        have e15 := h15.len; subst e15
        have q15 := len_le r15
        refine RQ.y rfl (Y.indexAddr (m := k7) (sz := 1) rfl rfl hk10 hl11 (by kernel_rfl)) ?_
        refine RQ.y rfl (Y.load (v := .slice A15 x6.length c15) rfl (by kernel_rfl) (beC (cellT T (hc12 0 _ rfl)))) ?_
        refine RQ.y rfl (Y.move (v := .slice Aa1 d1.length ca1) s1_1) ?_
        refine RQ.y rfl (Y.move (v := .int .i64 i3) s5_1) ?_
        obtain ⟨x16, hx19, hm⟩ := bnd hm
        obtain ⟨k17, hk20, hl21, hx19⟩ := getI_some hx19
        obtain ⟨b23, o24, rfl, hbb23⟩ := ha1.addr (by omega)
        obtain ⟨cs18, hRcs18, hc22⟩ := ha1.el hx19
        have hScs18 := hRcs18
        obtain ⟨A25, n25, c25, rfl, h25, r25⟩ := hRcs18
        have e25 := h25.len; subst e25
        have q25 := len_le r25
        refine RQ.y rfl (Y.indexAddr (m := k17) (sz := 1) rfl rfl hk20 hl21 (by kernel_rfl)) ?_
        refine RQ.y rfl (Y.load (v := .slice A25 x16.length c25) rfl (by kernel_rfl) (beC (cellT T (hc22 0 _ rfl)))) ?_
        obtain ⟨y26, e27, hm⟩ := bnd hm
        refine RQ.call rfl (am2 rfl rfl) (by kernel_rfl) (v := .bool y26) (bel (K := fun _ => True) fun w' hb' => (c_m_laws_eqInt64S x6 x16 _ e27 _ _ w' (slArg intRd_ok h15 r15 (Tt T hb')) (slArg intRd_ok h25 r25 (Tt T hb')))) ?_
        refine RQ.y rfl (Y.not (b' := (!y26)) rfl rfl) ?_
        refine RQ.nil ?_
        intro w28 hb29
        have szw28 := hb29.size
        have T := Tt T hb29
        refine then_n ?_
        rcases bcases y26 with c30 | c30
        · replace hm := cF c30 hm
          refine cond_t rfl (vbn rfl c30 rfl) ?_
          refine wp_seq ?_
          refine wp_rs rfl ?_
          refine RQ.y rfl (Y.assign (v := .bool false) rfl) ?_
          refine RQ.nil ?_
          refine then_n ?_
          refine wp_ret ?_
          obtain rfl := Option.some.inj hm
          exact (blk_r (then_r (then_r (hit_r (blk_r (then_r (ret1 rfl rfl rfl ⟨rfl, T⟩)))))))
        · replace hm := cT c30 hm
          refine cond_f rfl (vbn rfl c30 rfl) ?_
          refine wp_skip ?_
          refine blk_n (then_n ?_)
          refine wp_rs rfl ?_
          refine RQ.y rfl (Y.move (v := .int .i64 i3) s5_1) ?_
          refine RQ.y rfl (Y.binI rfl rfl (binI_add (m := i3) (by omega))) ?_
          refine RQ.y rfl (Y.assign (v := .int .i64 (i3 + 1)) rfl) ?_
          refine RQ.nil ?_
          exact (then_n ⟨g, _, Nat.lt_succ_self _, rfl, ⟨(i3 + 1), s0_1, s1_1, rfl, (by omega), T, (by rw [← hrec1]; exact hm)⟩⟩)
  · replace hm := cT c1 hm
    refine cond_t rfl (vb rfl c1) ?_
    refine wp_seq ?_
    refine wp_rs rfl ?_
    refine RQ.y rfl (Y.assign (v := .bool false) rfl) ?_
    refine RQ.nil ?_
    refine then_n ?_
    refine wp_ret ?_
    obtain rfl := Option.some.inj hm
    exact (then_r (ret1 rfl rfl rfl ⟨rfl, T⟩))
end
section
open Go.RowKit
set_option linter.unusedVariables false
theorem Blk.only {w w' : World} {g lo hi : Nat} {t : TypeId} {cs : Array Value} (h : Blk w g t cs) (ho : OnlyIn lo hi w w') (hg : g < lo ∨ hi ≤ g) : Blk w' g t cs := (ho.block g hg).trans h
def cntA (x : DAgent) : Nat := 3 + x.data.length + 2 * x.ports.length
theorem cntL_agents (xs : List DAgent) : cntL cntA xs ≤ 3 * szAgentS xs := by
  unfold szAgentS cntL
  have : ∀ ys : List DAgent, (ys.map cntA).sum ≤ 3 * ys.length + 2 * (ys.map szAgent).sum := by
    intro ys
    induction ys with
    | nil => simp
    | cons y ys ih =>
      have e : szAgent y = y.data.length + y.ports.length := rfl
      simp only [List.map_cons, List.sum_cons, List.length_cons, cntA]
      omega
  have := this xs
  omega
theorem szAgent_mem {xs : List DAgent} {k : Nat} {x : DAgent} (h : xs[k]? = some x) (hs : szAgentS xs ≤ 1048576) : x.data.length ≤ 1048576 ∧ x.ports.length ≤ 1048576 := by
  have h1 : szAgent x ≤ (xs.map szAgent).sum := by
    have hm := List.mem_of_getElem? h
    clear h hs
    induction xs with
    | nil => cases hm
    | cons y ys ih =>
      rcases List.mem_cons.1 hm with rfl | h
      · simp
      · have := ih h; simp; omega
  have e : szAgent x = x.data.length + x.ports.length := rfl
  unfold szAgentS at hs
  omega
theorem set3_block {w : World} {b p j : Nat} {u0 u1 u2 : Value} (h : j ≠ b) : (((w.setCell ⟨b, p, none⟩ u0).setCell ⟨b, p + 1, none⟩ u1).setCell ⟨b, p + 2, none⟩ u2).heap[j]? = w.heap[j]? := by
  rw [Below.heap_setCell _ ⟨b, p + 2, none⟩ _ _ h, Below.heap_setCell _ ⟨b, p + 1, none⟩ _ _ h, Below.heap_setCell _ ⟨b, p, none⟩ _ _ h]
theorem set3_cell {w : World} {b p q : Nat} {u0 u1 u2 : Value} (h : p + 3 ≤ q) : (((w.setCell ⟨b, p, none⟩ u0).setCell ⟨b, p + 1, none⟩ u1).setCell ⟨b, p + 2, none⟩ u2).cell? ⟨b, q, none⟩ = w.cell? ⟨b, q, none⟩ := by
  rw [World.cell?_setCell_other _ _ _ _ (fun e => by injection e with _ e2; omega), World.cell?_setCell_other _ _ _ _ (fun e => by injection e with _ e2; omega), World.cell?_setCell_other _ _ _ _ (fun e => by injection e with _ e2; omega)]
/-- What lies ahead of the loop. -/
def Ahead (wr : World) (A : Option Addr) (k : Nat) (rest : List DAgent) (bs : List Nat) : Prop :=
  rest = [] ∨ ∃ b o b2, A = some ⟨b, o, none⟩ ∧ ElAt agentOw 5 wr b (o + k * 5) rest b2 ∧ b ∈ bs ∧ b ∉ b2 ∧ b2.Nodup ∧ ∀ j ∈ b2, j ∈ bs
set_option maxHeartbeats 4000000 in
theorem markAgentS_c (A : Option Addr) (n c k0 : Nat) (xs : List DAgent) (bs : List Nat) (w : World) (hx : OwAt agentOw 5 w A n xs bs) (hnd : bs.Nodup) (hs : szAgentS xs ≤ 1048576) (hk0 : k0 ≤ 4294967296) :
    Calls Try.prog 48 #[.slice A n c, .int .i64 k0] w fun e w' => e = .returned (.int .i64 ((k0 + cntL cntA xs : Nat) : Int)) ∧ Only bs w w' := by
  have lx := Lib.hid hx.len
  have hn : n ≤ 1048576 := by have := lx.out; unfold szAgentS at hs; omega
  have hcl := cntL_agents xs
  have hst := Lib.hid (show Ahead w A 0 xs bs by
    rcases hx.2 with ⟨e1, e2⟩ | ⟨b, o, b2, e1, e2, h⟩
    · exact .inl e1
    · rw [e2] at hnd ⊢
      exact .inr ⟨b, o, b2, e1, by simpa using h, by simp, (List.nodup_cons.1 hnd).1, (List.nodup_cons.1 hnd).2, fun j hj => by simp [hj]⟩)
  clear hx
  go_enter Try.func48, Try.ntmps48
  go_wp2_with fail
  go_loopw [1, 5] (fun kk i wr => ∃ k : Nat, k ≤ n ∧ i = .int .i64 k ∧ kk = .int .i64 ((k0 : Int) + (cntL cntA (xs.take k) : Nat)) ∧ Only bs w wr ∧ Hid (Ahead wr A k (xs.drop k) bs)) (fun _ i _ => n - (intOf i).toNat)
  case atStart => exact ⟨0, by omega, rfl, by simp [cntL], Only.refl _ _, hst.out⟩
  case round =>
    obtain ⟨k, hk, rfl, rfl, ho, hm⟩ := hrel
    by_cases hlt : k < n
    · obtain ⟨x, hxk⟩ : ∃ x, xs[k]? = some x := ⟨_, List.getElem?_eq_getElem (by have := lx.out; omega)⟩
      have hm := hm.out
      rw [drop_some hxk] at hm
      rcases hm with h0 | ⟨b, o, b2, rfl, hE, hbb, hb2, hn2, hin⟩
      · cases h0
      obtain ⟨cs, bx, b3, hO, hc, rfl, h2⟩ := hE
      obtain ⟨A1, n1, c1, A2, n2, c2, bd, bp, rfl, ⟨hd, rd⟩, ⟨hp, rp⟩, rfl⟩ := hO
      obtain ⟨hc0, hd0⟩ := hc 0 _ rfl
      obtain ⟨hc1, hd1⟩ := hc 1 _ rfl
      obtain ⟨hc2, hd2⟩ := hc 2 _ rfl
      obtain ⟨hc3, hd3⟩ := hc 3 _ rfl
      obtain ⟨hc4, hd4⟩ := hc 4 _ rfl
      rw [Nat.add_zero] at hc0 hd0
      have hsz := szAgent_mem hxk hs
      have hct := cntL_take (cnt := cntA) hxk
      have hcx : cntA x = 3 + x.data.length + 2 * x.ports.length := rfl
      have hcm := cntL_le (cnt := cntA) xs (k + 1)
      have hck := cntL_le (cnt := cntA) xs k
      have nb : b ∉ bd ∧ b ∉ bp ∧ b ∉ b3 := by simpa using hb2
      have hn2' := List.nodup_append.1 hn2
      have hn3 := List.nodup_append.1 hn2'.1
      have ld := Lib.hid hd.len
      have lp := Lib.hid hp.len
      have T0 : ∀ (u0 u1 u2 : Value), Touch b (o + k * 5) 5 (bd ++ bp) wr (((wr.setCell ⟨b, o + k * 5, none⟩ u0).setCell ⟨b, o + k * 5 + 1, none⟩ u1).setCell ⟨b, o + k * 5 + 2, none⟩ u2) := fun u0 u1 u2 =>
        ((Touch.refl.set (by omega) (by omega) _).set (by omega) (by omega) _).set (by omega) (by omega) _
      have HE := Lib.hid h2
      have HD := Lib.hid hd
      have HP := Lib.hid hp
      have HX := Lib.hid hxk
      have HT := Lib.hid T0
      have HI := Lib.hid hin
      have N1 := Lib.hid hn2'
      have N2 := Lib.hid hn3
      have NB := Lib.hid nb
      have HB := Lib.hid hb2
      have HL := Lib.hid hct
      clear h2 hd hp hxk T0 hin hn2' hn3 nb hb2 hc hn2 hct
      go_wp2_with fail
      have T3 := HT.out (.int .i64 ((k0 : Int) + (cntL cntA (xs.take k) : Nat))) (.int .i64 ((k0 : Int) + (cntL cntA (xs.take k) : Nat) + 1)) (.int .i64 ((k0 : Int) + (cntL cntA (xs.take k) : Nat) + 1 + 1))
      rw [show (k0 : Int) + (cntL cntA (xs.take k) : Nat) + 1 + 1 + 1 = ((k0 + cntL cntA (xs.take k) + 3 : Nat) : Int) from by omega]
      have OD : OwAt intOw 1 (((wr.setCell ⟨b, o + k * 5, none⟩ (.int .i64 ((k0 : Int) + (cntL cntA (xs.take k) : Nat)))).setCell ⟨b, o + k * 5 + 1, none⟩ (.int .i64 ((k0 : Int) + (cntL cntA (xs.take k) : Nat) + 1))).setCell ⟨b, o + k * 5 + 2, none⟩ (.int .i64 ((k0 : Int) + (cntL cntA (xs.take k) : Nat) + 1 + 1))) A1 n1 x.data bd :=
        HD.out.keep intOw_ok (fun j hj => set3_block (fun e => NB.out.1 (by rw [← e]; exact hj)))
      refine (markInt64S_c A1 n1 c1 (k0 + cntL cntA (xs.take k) + 3) x.data bd _ OD N2.out.1 (by have := ld.out; omega) (by omega)).mono ?_
      rintro e w4 ⟨rfl, _, o4⟩
      have hc4' : w4.cell? ⟨b, o + k * 5 + 4, none⟩ = some (.slice A2 n2 c2) := ((World.cell?_of_block (a := ⟨b, o + k * 5 + 4, none⟩) (o4.block b NB.out.1)).trans (set3_cell (by omega))).trans hc4
      go_wp2_with fail
      rw [show (k0 : Int) + (cntL cntA (xs.take k) : Nat) + 3 + (n1 : Nat) = ((k0 + cntL cntA (xs.take k) + 3 + n1 : Nat) : Int) from by omega]
      have OP : OwAt portOw 2 w4 A2 n2 x.ports bp := HP.out.keep portOw_ok (fun j hj => (o4.block j (fun hjd => N2.out.2.2 j hjd j hj rfl)).trans (set3_block (fun e => NB.out.2.1 (by rw [← e]; exact hj))))
      refine (markPortS_c A2 n2 c2 _ x.ports bp w4 OP N2.out.2.1 (by have := lp.out; omega) (by have := ld.out; omega)).mono ?_
      rintro e w5 ⟨rfl, _, o5⟩
      go_wp2_with fail
      go_roundw
      case rel =>
        have e1 := ld.out
        have e2 := lp.out
        have e3 := HL.out
        have OO : Only (b :: (bd ++ bp)) wr w5 := (T3.only_.trans (o4.mono (fun j hj => by simp [hj]))).trans (o5.mono (fun j hj => by simp [hj]))
        refine ⟨k + 1, by omega, by go_num, congrArg (Value.int .i64) (by omega), ho.trans (OO.mono (fun j hj => ?_)), .inr ⟨b, o, b3, rfl, ?_, hbb, NB.out.2.2, N1.out.2.1, fun j hj => HI.out j (by simp [hj])⟩⟩
        · rcases List.mem_cons.1 hj with rfl | hj
          · exact hbb
          · exact HI.out j (by simp only [List.mem_append] at hj ⊢; exact .inl hj)
        · rw [show o + (k + 1) * 5 = o + k * 5 + 5 by omega]
          refine ElAt.keepC agentOw_ok (w := wr) (fun q h1 h2 => ?_) (fun j hj => ?_) HE.out
          · have hw3 := T3.cell q (.inr (by omega))
            have hf3 := T3.frozen q
            refine ⟨?_, ?_⟩
            · exact ((World.cell?_of_block (a := ⟨b, q, none⟩) (o5.block b NB.out.2.1)).trans (World.cell?_of_block (a := ⟨b, q, none⟩) (o4.block b NB.out.1))).trans hw3
            · exact ((World.frozen?_of_block (a := ⟨b, q, none⟩) (o5.block b NB.out.2.1)).trans (World.frozen?_of_block (a := ⟨b, q, none⟩) (o4.block b NB.out.1))).trans hf3
          · exact OO.block j (fun hin => by
              rcases List.mem_cons.1 hin with rfl | hin
              · exact NB.out.2.2 hj
              · exact N1.out.2.2 j hin j hj rfl)
      case measure => simp [intOf]; omega
    · obtain rfl : n = k := by omega
      have hlast : xs.take n = xs := List.take_of_length_le (by have := lx.out; omega)
      rw [hlast]
      have HLast := Lib.hid hlast
      clear hlast
      go_wp2_with fail
      go_ret
      exact ⟨retI (by omega), ho⟩
theorem markNet_v (v : Value) (x : DNet) (w : World) (k : Int) (lo hi : Nat) (h : OwT netOw w v x lo hi) (hh : hi ≤ w.heap.size) (hs : szNet x ≤ 1048576) (h0 : 0 ≤ k) (hk : k ≤ 1048576) :
    Calls Try.prog 21 #[v, .int .i64 k] w fun e w' => ∃ m : Nat, e = .returned (.int .i64 (m : Int)) ∧ ∃ wb, Below w.heap.size w wb ∧ wb.heap.size = w'.heap.size ∧ OnlyIn lo hi wb w' := by
  obtain ⟨cs, bs, rfl, ⟨A1, n1, c1, b1, rfl, ⟨h1, r1⟩, rfl⟩, hnd, hb⟩ := h
  obtain ⟨k0, rfl⟩ := Int.eq_ofNat_of_zero_le h0
  have hA : ∀ o1, Below w.heap.size w (w.alloc o1) := fun o1 => (Below.refl _ _).alloc (Nat.le_refl _) _
  have HK := Lib.hid (show ∀ o1, OwAt agentOw 5 (w.alloc o1) A1 n1 x.agents bs from fun o1 => h1.keep agentOw_ok (fun j hj => (hA o1).block j (by have := hb j hj; omega)))
  have HN := Lib.hid hnd
  have HB := Lib.hid hb
  have HS : szAgentS x.agents ≤ 1048576 := hs
  have hcl := cntL_agents x.agents
  clear h1 hb hnd
  go_enter Try.func21, Try.ntmps21
  go_wp2_with fail
  refine (markAgentS_c A1 n1 c1 k0 x.agents bs _ (HK.out _) HN.out HS (by omega)).mono ?_
  rintro e w1 ⟨rfl, o1⟩
  go_wp2_with fail
  go_ret
  exact ⟨_, rfl, _, hA _, o1.size.symm, o1.in_ HB.out⟩
end
section
open Go.RowKit
set_option linter.unusedVariables false
set_option linter.unusedSimpArgs false
theorem p_heldI (k n : Nat) (h : k + n ≤ 4611686018427387904) : m_laws_heldInt64S (marks k n) (k : Int) = some ((k + n : Nat) : Int) := by
  unfold m_laws_heldInt64S
  have hl := marks_len k n
  have key := traj (L := fun g (s : Int × Int) => m_laws_heldInt64S_L1 (marks k n) m_laws_heldInt64S_A1 g s.1 s.2) (st := fun i => (((k + i : Nat) : Int), (i : Int))) (n := n) (r := some ((k + n : Nat) : Int))
    (fun g i hi => by
      have hx := marks_get (k := k) hi
      simp -implicitDefEqProofs only [m_laws_heldInt64S_L1, m_laws_heldInt64S_B1, hl, dlt hi, cond_true, getI_nat hx, Option.bind_some]
      rw [show (((k + i : Nat) : Int) != ((k + i : Nat) : Int)) = false by simp, cond_false, ck_ok (by omega), Option.bind_some]
      simp only [Int.natCast_add, Int.cast_ofNat_Int, Int.add_assoc])
    (fun g => by simp -implicitDefEqProofs only [m_laws_heldInt64S_L1, m_laws_heldInt64S_B1, hl, dge, cond_false, m_laws_heldInt64S_A1]) (n + 1) (Nat.lt_succ_self _)
  rw [hl]
  simpa using key
end
section
open Go.RowKit
set_option linter.unusedVariables false
theorem eqI {α ρ : Type} [DecidableEq α] {L : Nat → Int → Option ρ} {xs ys : List α} {no yes : Option ρ} (hl : xs.length = ys.length) (h : ∀ g (k : Nat) (hx : k < xs.length) (hy : k < ys.length), L (g + 1) (k : Int) = if xs[k] = ys[k] then L g ((k : Int) + 1) else no) (he : ∀ g, L (g + 1) (xs.length : Int) = yes) (g : Nat) (hg : xs.length < g) :
    L g 0 = if xs = ys then yes else no := by
  have key := allO (L := L) (n := xs.length) (p := fun k => xs[k]? = ys[k]?) (no := no) (K := yes)
    (fun g k hk hp => by
      have hy : k < ys.length := by omega
      rw [h g k hk hy, if_pos]
      rw [List.getElem?_eq_getElem hk, List.getElem?_eq_getElem hy] at hp
      injection hp)
    (fun g k hk hp => by
      have hy : k < ys.length := by omega
      rw [h g k hk hy, if_neg]
      intro e
      rw [List.getElem?_eq_getElem hk, List.getElem?_eq_getElem hy, e] at hp
      exact hp rfl) he g hg
  rcases key with ⟨h1, h2⟩ | ⟨h1, h2⟩
  · have e : xs = ys := List.ext_getElem? fun k => by
      by_cases hk : k < xs.length
      · exact h1 k hk
      · rw [List.getElem?_eq_none (by omega), List.getElem?_eq_none (by omega)]
    rw [if_pos e, h2]
  · rw [if_neg, h2]
    intro e
    exact h1 fun k _ => by rw [e]
end
section
open Go.RowKit
set_option linter.unusedVariables false
set_option linter.unusedSimpArgs false
theorem p_heldSS (k : Nat) (xs : List (List Int)) (hs : lenSS xs) (hk : k ≤ 4294967296) : m_laws_heldInt64SS (markSS k xs) (k : Int) = some ((k + totSS xs : Nat) : Int) := by
  unfold m_laws_heldInt64SS
  have hl : (markSS k xs).length = xs.length := mkL_len _ _
  have hb : totSS xs ≤ 1048576 := by unfold lenSS at hs; omega
  unfold totSS at hb ⊢
  have key := traj (L := fun g (s : Int × Int) => m_laws_heldInt64SS_L1 (markSS k xs) m_laws_heldInt64SS_A1 g s.1 s.2) (st := fun i => (((k + cntL List.length (xs.take i) : Nat) : Int), (i : Int))) (n := xs.length) (r := some ((k + cntL List.length xs : Nat) : Int))
    (fun g i hi => by
      have hx0 := List.getElem?_eq_getElem hi
      have hx : (markSS k xs)[i]? = some (mkInts (k + cntL List.length (xs.take i)) xs[i]) := mkL_get hx0
      have hct := cntL_take (cnt := List.length) hx0
      have hcm := cntL_le (cnt := List.length) xs (i + 1)
      rw [hct, ← Nat.add_assoc]
      have hm : k + cntL List.length (xs.take i) ≤ 4298440256 ∧ k + cntL List.length (xs.take i) + xs[i].length ≤ 4298440256 := by omega
      clear hct hcm hx0
      generalize k + cntL List.length (xs.take i) = m at *
      generalize xs[i] = x at *
      have e1 := p_heldI m x.length (by omega)
      simp -implicitDefEqProofs only [m_laws_heldInt64SS_L1, m_laws_heldInt64SS_B1, hl, dlt hi, cond_true, getI_nat hx, Option.bind_some, mkInts]
      rw [e1, Option.bind_some, show decide (((m + x.length : Nat) : Int) < 0) = false by simp; omega, cond_false]
      simp only [Int.natCast_add, Int.cast_ofNat_Int])
    (fun g => by
      simp -implicitDefEqProofs only [m_laws_heldInt64SS_L1, m_laws_heldInt64SS_B1, hl, dge, cond_false, m_laws_heldInt64SS_A1, List.take_length]) (xs.length + 1) (Nat.lt_succ_self _)
  rw [hl]
  simpa [cntL] using key
theorem heldInt64SS_v (v : Value) (xs : List (List Int)) (w : World) (k : Int) {B : Nat} (h : RdS (slRd intRd 1) 1 w B v (markSS k.toNat xs)) (hB : B ≤ w.heap.size) (hs : lenSS xs) (h0 : 0 ≤ k) (hk : k ≤ 1048576) :
    Calls Try.prog 28 #[v, .int .i64 k] w fun e w' => e = .returned (.int .i64 (k + (totSS xs : Nat))) ∧ Below w.heap.size w w' := by
  obtain ⟨k0, rfl⟩ := Int.eq_ofNat_of_zero_le h0
  rw [Int.toNat_natCast] at h
  have e : ((k0 : Int) + (totSS xs : Nat)) = ((k0 + totSS xs : Nat) : Int) := by omega
  rw [e]
  exact c_m_laws_heldInt64SS _ _ _ (p_heldSS k0 xs hs (by omega)) v w (h.more (slRd_ok intRd_ok) hB)
theorem p_eqI64 (xs ys : List Int) : m_laws_eqInt64S xs ys = some (eqL xs ys) := by
  unfold m_laws_eqInt64S eqL
  by_cases hl : xs.length = ys.length
  · have e : ((xs.length : Int) != (ys.length : Int)) = false := by simp [hl]
    rw [e, cond_false]
    rw [eqI (L := m_laws_eqInt64S_L1 xs ys m_laws_eqInt64S_A1) hl (no := some false) (yes := some true)
      (fun g k hx hy => by
        simp -implicitDefEqProofs only [m_laws_eqInt64S_L1, m_laws_eqInt64S_B1, dlt hx, cond_true, getI_lt hx, getI_lt hy, Option.bind_some]
        by_cases h : xs[k] = ys[k]
        · rw [if_pos h, show (xs[k] != ys[k]) = false by simp [h], cond_false]
        · rw [if_neg h, show (xs[k] != ys[k]) = true by simp [h], cond_true])
      (fun g => by simp -implicitDefEqProofs only [m_laws_eqInt64S_L1, m_laws_eqInt64S_B1, dge, cond_false, m_laws_eqInt64S_A1]) _ (Nat.lt_succ_self _)]
    by_cases he : xs = ys
    · rw [if_pos he, decide_eq_true he]
    · rw [if_neg he, decide_eq_false he]
  · have e : ((xs.length : Int) != (ys.length : Int)) = true := by simp; omega
    rw [e, cond_true, decide_eq_false (fun he => hl (by rw [he]))]
theorem p_eqSS (xs ys : List (List Int)) : m_laws_eqInt64SS xs ys = some (eqL xs ys) := by
  unfold m_laws_eqInt64SS eqL
  by_cases hl : xs.length = ys.length
  · have e : ((xs.length : Int) != (ys.length : Int)) = false := by simp [hl]
    rw [e, cond_false]
    rw [eqI (L := m_laws_eqInt64SS_L1 xs ys m_laws_eqInt64SS_A1) hl (no := some false) (yes := some true)
      (fun g k hx hy => by
        simp -implicitDefEqProofs only [m_laws_eqInt64SS_L1, m_laws_eqInt64SS_B1, dlt hx, cond_true, getI_lt hx, getI_lt hy, Option.bind_some, p_eqI64, eqL]
        by_cases h : xs[k] = ys[k]
        · rw [if_pos h, decide_eq_true h, cond_true]
        · rw [if_neg h, decide_eq_false h, cond_false])
      (fun g => by simp -implicitDefEqProofs only [m_laws_eqInt64SS_L1, m_laws_eqInt64SS_B1, dge, cond_false, m_laws_eqInt64SS_A1]) _ (Nat.lt_succ_self _)]
    by_cases he : xs = ys
    · rw [if_pos he, decide_eq_true he]
    · rw [if_neg he, decide_eq_false he]
  · have e : ((xs.length : Int) != (ys.length : Int)) = true := by simp; omega
    rw [e, cond_true, decide_eq_false (fun he => hl (by rw [he]))]
theorem eqInt64SS_v (v u : Value) (xs ys : List (List Int)) (w : World) {B B' : Nat} (h : RdS (slRd intRd 1) 1 w B v xs) (h' : RdS (slRd intRd 1) 1 w B' u ys) (hB : B ≤ w.heap.size) (hB' : B' ≤ w.heap.size) :
    Calls Try.prog 26 #[v, u] w fun e w' => e = .returned (.bool (eqL xs ys)) ∧ Below w.heap.size w w' :=
  c_m_laws_eqInt64SS xs ys _ (p_eqSS xs ys) v u w (h.more (slRd_ok intRd_ok) hB) (h'.more (slRd_ok intRd_ok) hB')
end
section
open Go.RowKit
set_option linter.unusedVariables false
set_option linter.unusedSimpArgs false
theorem szInt64S_v (v : Value) (xs : List Int) (left : Int) (w : World) {B : Nat} (h : RdS intRd 1 w B v xs) (hB : B ≤ w.heap.size) (h0 : 0 ≤ left) (h1 : left ≤ 1048576) :
    Calls Try.prog 85 #[v, .int .i64 left] w fun e w' => e = .returned (.int .i64 (szL left xs.length)) ∧ Below w.heap.size w w' := by
  obtain ⟨A, n, c, rfl, h, hnc, hcm⟩ := h
  have hr := Below.refl w.heap.size w
  have hl := h.len
  rw [← hl]
  unfold maxLen at hcm
  clear h hl
  by_cases hl : left - n < 0
  · have He := Lib.hid (szL_neg hl)
    go_enter Try.func85, Try.ntmps85
    go_wp2
    go_ret
    exact ⟨by rw [He.out]; rfl, hr⟩
  · have He := Lib.hid (szL_pos hl)
    go_enter Try.func85, Try.ntmps85
    go_wp2
    go_ret
    exact ⟨by rw [He.out]; rfl, hr⟩
theorem szPortS_v (v : Value) (xs : List DPort) (left : Int) (w : World) {B : Nat} (h : RdS portRd 2 w B v xs) (hB : B ≤ w.heap.size) (h0 : 0 ≤ left) (h1 : left ≤ 1048576) :
    Calls Try.prog 86 #[v, .int .i64 left] w fun e w' => e = .returned (.int .i64 (szL left xs.length)) ∧ Below w.heap.size w w' := by
  obtain ⟨A, n, c, rfl, h, hnc, hcm⟩ := h
  have hr := Below.refl w.heap.size w
  have hl := h.len
  rw [← hl]
  unfold maxLen at hcm
  clear h hl
  by_cases hl : left - n < 0
  · have He := Lib.hid (szL_neg hl)
    go_enter Try.func86, Try.ntmps86
    go_wp2
    go_ret
    exact ⟨by rw [He.out]; rfl, hr⟩
  · have He := Lib.hid (szL_pos hl)
    go_enter Try.func86, Try.ntmps86
    go_wp2
    go_ret
    exact ⟨by rw [He.out]; rfl, hr⟩
set_option maxHeartbeats 1000000 in
theorem szAgent_v (v : Value) (x : DAgent) (left : Int) (w : World) {B : Nat} (h : RdT agentRd w B v x) (hB : B ≤ w.heap.size) (h0 : 0 ≤ left) (h1 : left ≤ 1048576) :
    Calls Try.prog 59 #[v, .int .i64 left] w fun e w' => e = .returned (.int .i64 (szL left (szAgent x))) ∧ Below w.heap.size w w' := by
  obtain ⟨cs, rfl, A1, n1, c1, A2, n2, c2, rfl, ⟨g1, r1⟩, ⟨g2, r2⟩⟩ := h
  have hb : ∀ o1, Below w.heap.size w (w.alloc o1) := fun o1 => (Below.refl _ _).alloc (Nat.le_refl _) _
  obtain ⟨s0, es0⟩ : ∃ s : Nat, s = x.data.length := ⟨_, rfl⟩
  obtain ⟨s1, es1⟩ : ∃ s : Nat, s = x.ports.length := ⟨_, rfl⟩
  have Hs : Hid (szAgent x = s0 + s1) := by show _ = _; rw [es0, es1]; rfl
  have Es0 := Lib.hid es0
  have Es1 := Lib.hid es1
  clear es0 es1
  by_cases d0 : left - (s0 : Int) < 0
  · have He : Hid (szL left (szAgent x) = -1) := by show _ = _; rw [Hs.out, szL_neg (by omega)]
    go_enter Try.func59, Try.ntmps59
    go_wp2_with fail
    refine (szInt64S_v _ x.data (left) _ (B := B) ⟨A1, n1, c1, rfl, g1.below intRd_ok ((hb _).mono hB), r1⟩ (Nat.le_trans hB (hb _).size) (by omega) (by omega)).mono ?_
    rw [← Es0.out, szL_neg (by omega)]
    rintro e w1 ⟨rfl, q1⟩
    have T := (hb _).trans (q1.mono (hb _).size)
    have B1 := (Blk.new w _ _).below q1 (by simp)
    have z1 : w.heap.size + 1 ≤ w1.heap.size := by have := q1.size; simpa using this
    clear q1
    go_wp2_with fail
    go_ret
    exact ⟨by rw [He.out]; rfl, T⟩
  · skip
    by_cases d1 : left - s0 - (s1 : Int) < 0
    · have He : Hid (szL left (szAgent x) = -1) := by show _ = _; rw [Hs.out, szL_neg (by omega)]
      go_enter Try.func59, Try.ntmps59
      go_wp2_with fail
      refine (szInt64S_v _ x.data (left) _ (B := B) ⟨A1, n1, c1, rfl, g1.below intRd_ok ((hb _).mono hB), r1⟩ (Nat.le_trans hB (hb _).size) (by omega) (by omega)).mono ?_
      rw [← Es0.out, szL_pos (by omega)]
      rintro e w1 ⟨rfl, q1⟩
      have T := (hb _).trans (q1.mono (hb _).size)
      have B1 := (Blk.new w _ _).below q1 (by simp)
      have z1 : w.heap.size + 1 ≤ w1.heap.size := by have := q1.size; simpa using this
      clear q1
      have cB := B1.cell
      go_wp2_with fail
      clear cB
      refine (szPortS_v _ x.ports (left - s0) _ (B := B) ⟨A2, n2, c2, rfl, g2.below portRd_ok ((T).mono hB), r2⟩ (Nat.le_trans hB (T).size) (by omega) (by omega)).mono ?_
      rw [← Es1.out, szL_neg (by omega)]
      rintro e w2 ⟨rfl, q2⟩
      have T := T.trans (q2.mono T.size)
      have B1 := B1.below q2 (by omega)
      have z2 := Nat.le_trans z1 q2.size
      clear q2
      go_wp2_with fail
      go_ret
      exact ⟨by rw [He.out]; rfl, T⟩
    · skip
      have He : Hid (szL left (szAgent x) = left - s0 - s1) := by show _ = _; rw [Hs.out, szL_pos (by omega)]; try omega
      go_enter Try.func59, Try.ntmps59
      go_wp2_with fail
      refine (szInt64S_v _ x.data (left) _ (B := B) ⟨A1, n1, c1, rfl, g1.below intRd_ok ((hb _).mono hB), r1⟩ (Nat.le_trans hB (hb _).size) (by omega) (by omega)).mono ?_
      rw [← Es0.out, szL_pos (by omega)]
      rintro e w1 ⟨rfl, q1⟩
      have T := (hb _).trans (q1.mono (hb _).size)
      have B1 := (Blk.new w _ _).below q1 (by simp)
      have z1 : w.heap.size + 1 ≤ w1.heap.size := by have := q1.size; simpa using this
      clear q1
      have cB := B1.cell
      go_wp2_with fail
      clear cB
      refine (szPortS_v _ x.ports (left - s0) _ (B := B) ⟨A2, n2, c2, rfl, g2.below portRd_ok ((T).mono hB), r2⟩ (Nat.le_trans hB (T).size) (by omega) (by omega)).mono ?_
      rw [← Es1.out, szL_pos (by omega)]
      rintro e w2 ⟨rfl, q2⟩
      have T := T.trans (q2.mono T.size)
      have B1 := B1.below q2 (by omega)
      have z2 := Nat.le_trans z1 q2.size
      clear q2
      go_wp2_with fail
      go_ret
      exact ⟨by rw [He.out]; rfl, T⟩
theorem szAgentS_take {xs : List DAgent} {k : Nat} {x : DAgent} (h : xs[k]? = some x) : ((xs.take (k + 1)).map szAgent).sum = ((xs.take k).map szAgent).sum + szAgent x := by
  rw [take_succ_some h]; simp
theorem szAgentS_le (xs : List DAgent) (k : Nat) : ((xs.take k).map szAgent).sum ≤ (xs.map szAgent).sum := by
  have h : ((xs.take k ++ xs.drop k).map szAgent).sum = (xs.map szAgent).sum := by rw [List.take_append_drop]
  rw [List.map_append, List.sum_append] at h
  omega
set_option maxHeartbeats 1000000 in
theorem szAgentS_v (v : Value) (xs : List DAgent) (left : Int) (w : World) {B : Nat} (h : RdS agentRd 5 w B v xs) (hB : B ≤ w.heap.size) (h0 : 0 ≤ left) (h1 : left ≤ 1048576) :
    Calls Try.prog 34 #[v, .int .i64 left] w fun e w' => e = .returned (.int .i64 (szL left (szAgentS xs))) ∧ Below w.heap.size w w' := by
  obtain ⟨A, n, c, rfl, hx, hnc, hcm⟩ := h
  have hr := Below.refl w.heap.size w
  unfold maxLen at hcm
  have lx := Lib.hid hx.len
  by_cases hl : left - n < 0
  · have He : Hid (szL left (szAgentS xs) = -1) := szL_neg (by unfold szAgentS; rw [← lx.out]; omega)
    go_enter Try.func34, Try.ntmps34
    go_wp2
    go_ret
    exact ⟨by rw [He.out]; rfl, hr⟩
  · go_enter Try.func34, Try.ntmps34
    go_wp2
    go_loopw [1, 5] (fun s i wr => ∃ (k : Nat) (l : Int), k ≤ n ∧ i = .int .i64 k ∧ s = .int .i64 l ∧ 0 ≤ l ∧ l ≤ 1048576 ∧ Hid (l = left - n - (((xs.take k).map szAgent).sum : Nat)) ∧ Below w.heap.size w wr) (fun _ i _ => n - (intOf i).toNat)
    case atStart => exact ⟨0, left - n, by omega, rfl, rfl, by omega, by omega, by simp [Hid], hr⟩
    case round =>
      obtain ⟨k, s, hk, rfl, rfl, hs0, hs1, hs, hq⟩ := hrel
      by_cases hlt : k < n
      · obtain ⟨b, off, x, A1, n1, c1, A2, n2, c2, rfl, hb, hxk, hc0, hc1, hc2, hc3, hc4, ⟨g1, r1⟩, ⟨g2, r2⟩⟩ := (hx.below agentRd_ok (hq.mono hB)).agent hlt
        have Hxk := Lib.hid hxk
        clear hxk
        by_cases hd : s - (szAgent x : Int) < 0
        · have f := szL_neg hd
          have He : Hid (szL left (szAgentS xs) = -1) := szL_neg (by
            have e1 := szAgentS_le xs (k + 1)
            rw [szAgentS_take Hxk.out] at e1
            have e2 := hs.out
            have e3 := lx.out
            unfold szAgentS
            omega)
          go_wp2_with fail
          refine (szAgent_v _ x s _ (B := B) ⟨_, rfl, A1, n1, c1, A2, n2, c2, rfl, ⟨g1, r1⟩, ⟨g2, r2⟩⟩ (Nat.le_trans hB hq.size) hs0 hs1).mono ?_
          rintro e w1 ⟨rfl, q1⟩
          go_wp2_with fail
          go_ret
          exact ⟨by rw [He.out]; rfl, hq.trans (q1.mono hq.size)⟩
        · have f := szL_pos hd
          have Hn : Hid (s - (szAgent x : Int) = left - n - (((xs.take (k + 1)).map szAgent).sum : Nat)) := by
            have e1 := szAgentS_take Hxk.out
            have e2 := hs.out
            show _ = _
            rw [e1]
            omega
          go_wp2_with fail
          refine (szAgent_v _ x s _ (B := B) ⟨_, rfl, A1, n1, c1, A2, n2, c2, rfl, ⟨g1, r1⟩, ⟨g2, r2⟩⟩ (Nat.le_trans hB hq.size) hs0 hs1).mono ?_
          rintro e w1 ⟨rfl, q1⟩
          go_wp2_with fail
          go_roundw
          case rel => exact ⟨k + 1, s - (szAgent x : Int), by omega, by go_num, rfl, by omega, by omega, Hn.out, hq.trans (q1.mono hq.size)⟩
          case measure => simp [intOf]; omega
      · have He : Hid (szL left (szAgentS xs) = s) := by
          have e1 : xs.take k = xs := List.take_of_length_le (by have := lx.out; omega)
          have e2 := hs.out
          rw [e1] at e2
          have e3 := lx.out
          show _ = _
          rw [szL_pos (by unfold szAgentS; omega)]
          unfold szAgentS
          omega
        go_wp2_with fail
        go_ret
        exact ⟨by rw [He.out]; rfl, hq⟩
set_option maxHeartbeats 1000000 in
theorem szNet_v (v : Value) (x : DNet) (left : Int) (w : World) {B : Nat} (h : RdT netRd w B v x) (hB : B ≤ w.heap.size) (h0 : 0 ≤ left) (h1 : left ≤ 1048576) :
    Calls Try.prog 9 #[v, .int .i64 left] w fun e w' => e = .returned (.int .i64 (szL left (szNet x))) ∧ Below w.heap.size w w' := by
  obtain ⟨cs, rfl, A1, n1, c1, rfl, ⟨g1, r1⟩⟩ := h
  have hb : ∀ o1, Below w.heap.size w (w.alloc o1) := fun o1 => (Below.refl _ _).alloc (Nat.le_refl _) _
  obtain ⟨s0, es0⟩ : ∃ s : Nat, s = szAgentS x.agents := ⟨_, rfl⟩
  have Hs : Hid (szNet x = s0) := by show _ = _; rw [es0]; rfl
  have Es0 := Lib.hid es0
  clear es0
  by_cases d0 : left - (s0 : Int) < 0
  · have He : Hid (szL left (szNet x) = -1) := by show _ = _; rw [Hs.out, szL_neg (by omega)]
    go_enter Try.func9, Try.ntmps9
    go_wp2_with fail
    refine (szAgentS_v _ x.agents (left) _ (B := B) ⟨A1, n1, c1, rfl, g1.below agentRd_ok ((hb _).mono hB), r1⟩ (Nat.le_trans hB (hb _).size) (by omega) (by omega)).mono ?_
    rw [← Es0.out, szL_neg (by omega)]
    rintro e w1 ⟨rfl, q1⟩
    have T := (hb _).trans (q1.mono (hb _).size)
    have B1 := (Blk.new w _ _).below q1 (by simp)
    have z1 : w.heap.size + 1 ≤ w1.heap.size := by have := q1.size; simpa using this
    clear q1
    go_wp2_with fail
    go_ret
    exact ⟨by rw [He.out]; rfl, T⟩
  · skip
    have He : Hid (szL left (szNet x) = left - s0) := by show _ = _; rw [Hs.out, szL_pos (by omega)]; try omega
    go_enter Try.func9, Try.ntmps9
    go_wp2_with fail
    refine (szAgentS_v _ x.agents (left) _ (B := B) ⟨A1, n1, c1, rfl, g1.below agentRd_ok ((hb _).mono hB), r1⟩ (Nat.le_trans hB (hb _).size) (by omega) (by omega)).mono ?_
    rw [← Es0.out, szL_pos (by omega)]
    rintro e w1 ⟨rfl, q1⟩
    have T := (hb _).trans (q1.mono (hb _).size)
    have B1 := (Blk.new w _ _).below q1 (by simp)
    have z1 : w.heap.size + 1 ≤ w1.heap.size := by have := q1.size; simpa using this
    clear q1
    go_wp2_with fail
    go_ret
    exact ⟨by rw [He.out]; rfl, T⟩
end
section
open Go.RowKit
set_option linter.unusedVariables false
set_option linter.unusedSimpArgs false
theorem toPort_v (v : Value) (x : DPort) (w : World) {B : Nat} (h : RdT portRd w B v x) :
    Calls Try.prog 12 #[v] w fun e w' => e = .returned (.agg #[.int .i64 x.agent, .int .i64 x.slot]) ∧ Below w.heap.size w w' := by
  obtain ⟨cs, rfl, rfl⟩ := h
  go_enter Try.func12, Try.ntmps12
  go_wp2_with fail
  exact bodyPost_ret (v := .agg #[.int .i64 x.agent, .int .i64 x.slot]) (by simp [results, Try.results12, go_sem]) rfl ⟨rfl, (((Below.refl _ _).alloc (Nat.le_refl _) _).alloc (by simp) _).alloc (by simp; omega) _⟩
theorem info_PortS : (Try.prog.info? 28).map (fun i => (i.zero, i.size, i.bytes)) = some (some (.agg #[.int .i64 0, .int .i64 0]), 2, 16) := by kernel_rfl
set_option maxHeartbeats 1000000 in
theorem toPortS_v (v : Value) (xs : List DPort) (w : World) {B : Nat} (h : RdS portRd 2 w B v xs) (hB : B ≤ w.heap.size) (hs : xs.length ≤ 1048576) :
    Calls Try.prog 89 #[v] w fun e w' => Ret1 (fun v' => OwS portOw 2 w' v' xs w.heap.size w'.heap.size) e ∧ Below w.heap.size w w' := by
  obtain ⟨A, n, c, rfl, hx, hnc, hcm⟩ := h
  have lx := Lib.hid hx.len
  have hlen := hs
  have hn : n ≤ 1048576 := by have := lx.out; omega
  have hmk := run_make_sz 79 28 Try.underlying79 info_PortS n (by omega) (by omega)
  go_enter Try.func89, Try.ntmps89
  go_wp2
  clear hmk
  go_loopw [4] (fun i wr => ∃ k : Nat, k ≤ n ∧ i = .int .i64 k ∧ Below w.heap.size w wr ∧ w.heap.size + 1 ≤ wr.heap.size ∧ (∃ arr, Blk wr w.heap.size 28 arr ∧ Hid (arr.size = n * 2)) ∧ ∃ bs, ElAt portOw 2 wr w.heap.size 0 (xs.take k) bs ∧ bs.Nodup ∧ ∀ b ∈ bs, w.heap.size + 1 ≤ b ∧ b < wr.heap.size) (fun i _ => n - (intOf i).toNat)
  case atStart => exact ⟨0, by omega, rfl, (Below.refl _ _).alloc (Nat.le_refl _) _, by simp, ⟨_, Blk.new _ _ _, by simp [Hid, madeCells_size]⟩, [], rfl, List.nodup_nil, fun b hb => by simp at hb⟩
  case round =>
    obtain ⟨k, hk, rfl, hb, hzz, ⟨arr, BA, hasz⟩, bs, hel, hnd, hin⟩ := hrel
    by_cases hlt : k < n
    · obtain ⟨b, off, x, rfl, hlb, hxk, hc0, hc1⟩ := (hx.below portRd_ok (hb.mono hB)).port hlt
      have Hxk := Lib.hid hxk
      clear hxk
      go_wp2_with fail
      refine (toPort_v _ x _ (B := 0) ⟨_, rfl, rfl⟩).mono ?_
      rintro e w1 ⟨rfl, q1⟩
      obtain ⟨bl, HO, nd1, in1⟩ : ∃ bl, portOw w1 [.int .i64 x.agent, .int .i64 x.slot] x bl ∧ bl.Nodup ∧ ∀ b ∈ bl, wr.heap.size ≤ b ∧ b < w1.heap.size := ⟨[], ⟨rfl, rfl⟩, List.nodup_nil, fun b hb => by simp at hb⟩
      have BA := BA.below q1 (by omega)
      obtain ⟨z0, hz0⟩ := BA.some_ (i := k * 2) (by rw [hasz.out]; omega)
      obtain ⟨z1, hz1⟩ := BA.some_ (i := k * 2 + 1) (by rw [hasz.out]; omega)
      have fz := BA.frozen
      have zz := q1.size
      have Hel := Lib.hid (hel.keep portOw_ok (q1.block _ (by omega)) (fun k hk => q1.block k (hin k hk).2))
      clear hel
      have TB : ∀ y0 y1, Below w.heap.size w ((w1.setCell ⟨w.heap.size, k * 2, none⟩ y0).setCell ⟨w.heap.size, k * 2 + 1, none⟩ y1) := fun y0 y1 => (((hb.trans (q1.mono hb.size)).setCell (p := ⟨w.heap.size, k * 2, none⟩) (Nat.le_refl _) _).setCell (p := ⟨w.heap.size, k * 2 + 1, none⟩) (Nat.le_refl _) _)
      go_wp2_with fail
      go_roundw
      case rel =>
        refine ⟨k + 1, by omega, by go_num, TB _ _, by simp [World.setCell]; omega, ⟨_, ((BA.set_ (k * 2) _).set_ (k * 2 + 1) _), by simpa [Hid] using hasz⟩, bs ++ bl, ?_⟩
        rw [take_succ_some Hxk.out]
        have hlk : (xs.take k).length = k := by have := lx.out; simp; omega
        have h1 := ElAt.setRun portOw_ok (vs := [.int .i64 x.agent, .int .i64 x.slot]) (p := k * 2) Hel.out (fun hh => by have := hin _ hh; omega) (Or.inr (by rw [hlk]; omega))
        have hnn := nodup_two hnd nd1 hin in1 hzz zz
        refine ⟨ElAt.append h1 (ElAt.one (portOw_ok.keep (w' := setRun w1 w.heap.size (k * 2) [.int .i64 x.agent, .int .i64 x.slot]) (fun b hb => setRun_block (fun e => by have := in1 b hb; omega)) HO) ?_), hnn.1, fun b hb => by have := hnn.2 b hb; simp only [World.size_setCell]; exact this⟩
        rw [hlk, Nat.zero_add]
        exact setRun_csAt (vs := [.int .i64 x.agent, .int .i64 x.slot]) (fun j hj => by
          have hj : j < 2 := by simpa using hj
          match j, hj with
          | 0, _ => exact ⟨z0, hz0⟩
          | 1, _ => exact ⟨z1, hz1⟩) (fun j hj => fz _)
      case measure => simp [intOf]; omega
    · have hkn : k = n := by omega
      have e : xs.take k = xs := List.take_of_length_le (by have := lx.out; omega)
      rw [e] at hel
      have Hkn := Lib.hid hkn
      clear hkn e
      go_wp2
      go_ret
      exact ⟨⟨_, rfl, some ⟨w.heap.size, 0, none⟩, n, n, w.heap.size :: bs, rfl, ⟨lx.out, .inr ⟨_, _, bs, rfl, rfl, hel⟩⟩, List.nodup_cons.2 ⟨fun hh => by have := hin _ hh; omega, hnd⟩, fun b hb => by
        rcases List.mem_cons.1 hb with rfl | hb
        · omega
        · have := hin b hb; omega, Nat.le_refl _, by unfold maxLen; omega⟩, hb⟩
end
section
open Go.RowKit
set_option linter.unusedVariables false
set_option linter.unusedSimpArgs false
set_option maxHeartbeats 1000000 in
theorem toAgent_v (v : Value) (x : DAgent) (w : World) {B : Nat} (h : RdT agentRd w B v x) (hB : B ≤ w.heap.size) (hs : szAgent x ≤ 1048576) :
    Calls Try.prog 62 #[v] w fun e w' => Ret1 (fun v' => OwT agentOw w' v' x w.heap.size w'.heap.size) e ∧ Below w.heap.size w w' := by
  obtain ⟨cs, rfl, A1, n1, c1, A2, n2, c2, rfl, ⟨h1, r1⟩, ⟨h2, r2⟩⟩ := h
  unfold szAgent at hs
  have hb : ∀ o1 o2 o3, Below w.heap.size w (((w.alloc o1).alloc o2).alloc o3) := fun o1 o2 o3 => (((Below.refl _ _).alloc (Nat.le_refl _) _).alloc (by simp) _).alloc (by simp; omega) _
  go_enter Try.func62, Try.ntmps62
  go_wp2_with fail
  refine (toInt64S_v _ x.data _ (B := B) ⟨A1, n1, c1, rfl, h1.below intRd_ok ((hb _ _ _).mono hB), r1⟩ (Nat.le_trans hB (hb _ _ _).size) (by first | omega | (unfold lenOk; omega))).mono ?_
  rintro e w1 ⟨⟨v1, rfl, O1⟩, q1⟩
  have z1 : w.heap.size + 1 + 1 + 1 ≤ w1.heap.size := by have := q1.size; simpa using this
  have O1 := O1.wide (lo' := w.heap.size + 1 + 1 + 1) (hi' := w1.heap.size) (by simp) (Nat.le_refl _)
  obtain ⟨A1', m1, d1, bs1, rfl, ow1, nd1, in1, rr1⟩ := O1
  have T1 := (hb _ _ _).trans (q1.mono (hb _ _ _).size)
  have BB := blk3_0.below q1 (by simp <;> omega)
  have BR := blk3_1.below q1 (by simp <;> omega)
  have BO := blk3_2.below q1 (by simp <;> omega)
  clear q1
  have cB := BB.cell
  have cO := BO.cell
  have fO := BO.frozen
  go_wp2_with fail
  clear cB cO fO
  have T1 := T1.setCell (p := ⟨w.heap.size + 1 + 1, 3, none⟩) (by simp; omega) (.slice A1' m1 d1)
  have BB := BB.far (p := ⟨w.heap.size + 1 + 1, 3, none⟩) (by simp; omega) (.slice A1' m1 d1)
  have BR := BR.far (p := ⟨w.heap.size + 1 + 1, 3, none⟩) (by simp) (.slice A1' m1 d1)
  have BO := BO.set_ 3 (.slice A1' m1 d1)
  have ow1 := ow1.keep intOw_ok (w' := World.setCell w1 ⟨w.heap.size + 1 + 1, 3, none⟩ (.slice A1' m1 d1)) (fun k hk => Below.heap_setCell _ _ _ _ (by have := in1 k hk; simp; omega))
  refine (toPortS_v _ x.ports _ (B := B) ⟨A2, n2, c2, rfl, h2.below portRd_ok (T1.mono hB), r2⟩ (Nat.le_trans hB T1.size) (by first | omega | (unfold lenOk; omega))).mono ?_
  rintro e w2 ⟨⟨v2, rfl, O2⟩, q2⟩
  have z2 : w1.heap.size ≤ w2.heap.size := by have := q2.size; simpa using this
  have O2 := O2.wide (lo' := w1.heap.size) (hi' := w2.heap.size) (by simp) (Nat.le_refl _)
  obtain ⟨A2', m2, d2, bs2, rfl, ow2, nd2, in2, rr2⟩ := O2
  have T1 := T1.trans (q2.mono T1.size)
  have BB := BB.below q2 (by simp <;> omega)
  have BR := BR.below q2 (by simp <;> omega)
  have BO := BO.below q2 (by simp <;> omega)
  have ow1 := ow1.keep intOw_ok (w' := w2) (fun k hk => q2.block k (by have := in1 k hk; simp <;> omega))
  clear q2
  have cB := BB.cell
  have cO := BO.cell
  have fO := BO.frozen
  have cR := BR.cell
  have fR := BR.frozen
  go_wp2_with fail
  have hfin : ∀ w', OnlyIn (w.heap.size + 1) (w.heap.size + 1 + 1 + 1) w2 w' → (Ret1 (fun v' => OwT agentOw w' v' x w.heap.size w'.heap.size) (.returned (.agg #[.int .i64 x.kind, .int .i64 x.level, .int .i64 x.value, (.slice A1' m1 d1), (.slice A2' m2 d2)])) ∧ Below w.heap.size w w') := fun w' ho => by
    refine ⟨⟨_, rfl, [.int .i64 x.kind, .int .i64 x.level, .int .i64 x.value, (.slice A1' m1 d1), (.slice A2' m2 d2)], bs1 ++ bs2, rfl, ⟨A1', m1, d1, A2', m2, d2, bs1, bs2, rfl, ⟨ow1.keep intOw_ok (fun k hk => ho.block k (.inr (by have := in1 k hk; omega))), rr1⟩, ⟨ow2.keep portOw_ok (fun k hk => ho.block k (.inr (by have := in2 k hk; omega))), rr2⟩, rfl⟩, ?_⟩, T1.trans (ho.below.mono (by omega))⟩
    have h1 : bs1.Nodup ∧ ∀ b ∈ bs1, w.heap.size ≤ b ∧ b < w1.heap.size := ⟨nd1, fun b hb => by have := in1 b hb; omega⟩
    have h2 := nodup_two (lo := w.heap.size) (mid := w1.heap.size) (hi := w2.heap.size) h1.1 nd2 (fun b hb => by have := h1.2 b hb; omega) in2 (by omega) (by omega)
    exact ⟨h2.1, fun b hb => by have := h2.2 b hb; have := ho.size; omega⟩
  refine bodyPost_ret (v := .agg #[.int .i64 x.kind, .int .i64 x.level, .int .i64 x.value, (.slice A1' m1 d1), (.slice A2' m2 d2)]) (by simp [results, Try.results62, go_sem, cR]) rfl (hfin _ ?_)
  repeat (first | (with_reducible exact OnlyIn.refl _ _ _) | (with_reducible refine OnlyIn.setCell ?_ ⟨by simp, by simp⟩ _))
theorem szAgentS_el {xs : List DAgent} {k : Nat} {x : DAgent} (h : xs[k]? = some x) : szAgent x ≤ szAgentS xs := by
  have h1 := szAgentS_take h
  have h2 := szAgentS_le xs (k + 1)
  unfold szAgentS
  omega
theorem info_AgentS : (Try.prog.info? 81).map (fun i => (i.zero, i.size, i.bytes)) = some (some (.agg #[.int .i64 0, .int .i64 0, .int .i64 0, .slice none 0 0, .slice none 0 0]), 5, 72) := by kernel_rfl
set_option maxHeartbeats 1000000 in
theorem toAgentS_v (v : Value) (xs : List DAgent) (w : World) {B : Nat} (h : RdS agentRd 5 w B v xs) (hB : B ≤ w.heap.size) (hs : szAgentS xs ≤ 1048576) :
    Calls Try.prog 38 #[v] w fun e w' => Ret1 (fun v' => OwS agentOw 5 w' v' xs w.heap.size w'.heap.size) e ∧ Below w.heap.size w w' := by
  obtain ⟨A, n, c, rfl, hx, hnc, hcm⟩ := h
  have lx := Lib.hid hx.len
  have hlen : xs.length ≤ 1048576 := by unfold szAgentS at hs; omega
  have hn : n ≤ 1048576 := by have := lx.out; omega
  have hmk := run_make_sz 31 81 Try.underlying31 info_AgentS n (by omega) (by omega)
  go_enter Try.func38, Try.ntmps38
  go_wp2
  clear hmk
  go_loopw [4] (fun i wr => ∃ k : Nat, k ≤ n ∧ i = .int .i64 k ∧ Below w.heap.size w wr ∧ w.heap.size + 1 ≤ wr.heap.size ∧ (∃ arr, Blk wr w.heap.size 81 arr ∧ Hid (arr.size = n * 5)) ∧ ∃ bs, ElAt agentOw 5 wr w.heap.size 0 (xs.take k) bs ∧ bs.Nodup ∧ ∀ b ∈ bs, w.heap.size + 1 ≤ b ∧ b < wr.heap.size) (fun i _ => n - (intOf i).toNat)
  case atStart => exact ⟨0, by omega, rfl, (Below.refl _ _).alloc (Nat.le_refl _) _, by simp, ⟨_, Blk.new _ _ _, by simp [Hid, madeCells_size]⟩, [], rfl, List.nodup_nil, fun b hb => by simp at hb⟩
  case round =>
    obtain ⟨k, hk, rfl, hb, hzz, ⟨arr, BA, hasz⟩, bs, hel, hnd, hin⟩ := hrel
    by_cases hlt : k < n
    · obtain ⟨b, off, x, A1, n1, c1, A2, n2, c2, rfl, hlb, hxk, hc0, hc1, hc2, hc3, hc4, ⟨h1, r1⟩, ⟨h2, r2⟩⟩ := (hx.below agentRd_ok (hb.mono hB)).agent hlt
      have Hxk := Lib.hid hxk
      clear hxk
      go_wp2_with fail
      refine (toAgent_v _ x _ (B := B) ⟨_, rfl, A1, n1, c1, A2, n2, c2, rfl, ⟨h1, r1⟩, ⟨h2, r2⟩⟩ (Nat.le_trans hB hb.size) (by have := szAgentS_el Hxk.out; omega)).mono ?_
      rintro e w1 ⟨⟨v1, rfl, O1⟩, q1⟩
      obtain ⟨cs1, bl, rfl, HO, nd1, in1⟩ := O1
      have HO' := HO
      obtain ⟨A1', m1, d1, A2', m2, d2, b1, b2, rfl, _⟩ := HO'
      have BA := BA.below q1 (by omega)
      obtain ⟨z0, hz0⟩ := BA.some_ (i := k * 5) (by rw [hasz.out]; omega)
      obtain ⟨z1, hz1⟩ := BA.some_ (i := k * 5 + 1) (by rw [hasz.out]; omega)
      obtain ⟨z2, hz2⟩ := BA.some_ (i := k * 5 + 2) (by rw [hasz.out]; omega)
      obtain ⟨z3, hz3⟩ := BA.some_ (i := k * 5 + 3) (by rw [hasz.out]; omega)
      obtain ⟨z4, hz4⟩ := BA.some_ (i := k * 5 + 4) (by rw [hasz.out]; omega)
      have fz := BA.frozen
      have zz := q1.size
      have Hel := Lib.hid (hel.keep agentOw_ok (q1.block _ (by omega)) (fun k hk => q1.block k (hin k hk).2))
      clear hel
      have TB : ∀ y0 y1 y2 y3 y4, Below w.heap.size w (((((w1.setCell ⟨w.heap.size, k * 5, none⟩ y0).setCell ⟨w.heap.size, k * 5 + 1, none⟩ y1).setCell ⟨w.heap.size, k * 5 + 2, none⟩ y2).setCell ⟨w.heap.size, k * 5 + 3, none⟩ y3).setCell ⟨w.heap.size, k * 5 + 4, none⟩ y4) := fun y0 y1 y2 y3 y4 => ((((((hb.trans (q1.mono hb.size)).setCell (p := ⟨w.heap.size, k * 5, none⟩) (Nat.le_refl _) _).setCell (p := ⟨w.heap.size, k * 5 + 1, none⟩) (Nat.le_refl _) _).setCell (p := ⟨w.heap.size, k * 5 + 2, none⟩) (Nat.le_refl _) _).setCell (p := ⟨w.heap.size, k * 5 + 3, none⟩) (Nat.le_refl _) _).setCell (p := ⟨w.heap.size, k * 5 + 4, none⟩) (Nat.le_refl _) _)
      go_wp2_with fail
      go_roundw
      case rel =>
        refine ⟨k + 1, by omega, by go_num, TB _ _ _ _ _, by simp [World.setCell]; omega, ⟨_, (((((BA.set_ (k * 5) _).set_ (k * 5 + 1) _).set_ (k * 5 + 2) _).set_ (k * 5 + 3) _).set_ (k * 5 + 4) _), by simpa [Hid] using hasz⟩, bs ++ bl, ?_⟩
        rw [take_succ_some Hxk.out]
        have hlk : (xs.take k).length = k := by have := lx.out; simp; omega
        have h1 := ElAt.setRun agentOw_ok (vs := [.int .i64 x.kind, .int .i64 x.level, .int .i64 x.value, .slice A1' m1 d1, .slice A2' m2 d2]) (p := k * 5) Hel.out (fun hh => by have := hin _ hh; omega) (Or.inr (by rw [hlk]; omega))
        have hnn := nodup_two hnd nd1 hin in1 hzz zz
        refine ⟨ElAt.append h1 (ElAt.one (agentOw_ok.keep (w' := setRun w1 w.heap.size (k * 5) [.int .i64 x.kind, .int .i64 x.level, .int .i64 x.value, .slice A1' m1 d1, .slice A2' m2 d2]) (fun b hb => setRun_block (fun e => by have := in1 b hb; omega)) HO) ?_), hnn.1, fun b hb => by have := hnn.2 b hb; simp only [World.size_setCell]; exact this⟩
        rw [hlk, Nat.zero_add]
        exact setRun_csAt (vs := [.int .i64 x.kind, .int .i64 x.level, .int .i64 x.value, .slice A1' m1 d1, .slice A2' m2 d2]) (fun j hj => by
          have hj : j < 5 := by simpa using hj
          match j, hj with
          | 0, _ => exact ⟨z0, hz0⟩
          | 1, _ => exact ⟨z1, hz1⟩
          | 2, _ => exact ⟨z2, hz2⟩
          | 3, _ => exact ⟨z3, hz3⟩
          | 4, _ => exact ⟨z4, hz4⟩) (fun j hj => fz _)
      case measure => simp [intOf]; omega
    · have hkn : k = n := by omega
      have e : xs.take k = xs := List.take_of_length_le (by have := lx.out; omega)
      rw [e] at hel
      have Hkn := Lib.hid hkn
      clear hkn e
      go_wp2
      go_ret
      exact ⟨⟨_, rfl, some ⟨w.heap.size, 0, none⟩, n, n, w.heap.size :: bs, rfl, ⟨lx.out, .inr ⟨_, _, bs, rfl, rfl, hel⟩⟩, List.nodup_cons.2 ⟨fun hh => by have := hin _ hh; omega, hnd⟩, fun b hb => by
        rcases List.mem_cons.1 hb with rfl | hb
        · omega
        · have := hin b hb; omega, Nat.le_refl _, by unfold maxLen; omega⟩, hb⟩
set_option maxHeartbeats 1000000 in
theorem toNet_v (v : Value) (x : DNet) (w : World) {B : Nat} (h : RdT netRd w B v x) (hB : B ≤ w.heap.size) (hs : szNet x ≤ 1048576) :
    Calls Try.prog 11 #[v] w fun e w' => Ret1 (fun v' => OwT netOw w' v' x w.heap.size w'.heap.size) e ∧ Below w.heap.size w w' := by
  obtain ⟨cs, rfl, A1, n1, c1, rfl, ⟨h1, r1⟩⟩ := h
  unfold szNet at hs
  have hb : ∀ o1 o2 o3, Below w.heap.size w (((w.alloc o1).alloc o2).alloc o3) := fun o1 o2 o3 => (((Below.refl _ _).alloc (Nat.le_refl _) _).alloc (by simp) _).alloc (by simp; omega) _
  go_enter Try.func11, Try.ntmps11
  go_wp2_with fail
  refine (toAgentS_v _ x.agents _ (B := B) ⟨A1, n1, c1, rfl, h1.below agentRd_ok ((hb _ _ _).mono hB), r1⟩ (Nat.le_trans hB (hb _ _ _).size) (by first | omega | (unfold lenOk; omega))).mono ?_
  rintro e w1 ⟨⟨v1, rfl, O1⟩, q1⟩
  have z1 : w.heap.size + 1 + 1 + 1 ≤ w1.heap.size := by have := q1.size; simpa using this
  have O1 := O1.wide (lo' := w.heap.size + 1 + 1 + 1) (hi' := w1.heap.size) (by simp) (Nat.le_refl _)
  obtain ⟨A1', m1, d1, bs1, rfl, ow1, nd1, in1, rr1⟩ := O1
  have T1 := (hb _ _ _).trans (q1.mono (hb _ _ _).size)
  have BB := blk3_0.below q1 (by simp <;> omega)
  have BR := blk3_1.below q1 (by simp <;> omega)
  have BO := blk3_2.below q1 (by simp <;> omega)
  clear q1
  have cB := BB.cell
  have cO := BO.cell
  have fO := BO.frozen
  have cR := BR.cell
  have fR := BR.frozen
  go_wp2_with fail
  have hfin : ∀ w', OnlyIn (w.heap.size + 1) (w.heap.size + 1 + 1 + 1) w1 w' → (Ret1 (fun v' => OwT netOw w' v' x w.heap.size w'.heap.size) (.returned (.agg #[(.slice A1' m1 d1)])) ∧ Below w.heap.size w w') := fun w' ho => by
    refine ⟨⟨_, rfl, [(.slice A1' m1 d1)], bs1, rfl, ⟨A1', m1, d1, bs1, rfl, ⟨ow1.keep agentOw_ok (fun k hk => ho.block k (.inr (by have := in1 k hk; omega))), rr1⟩, rfl⟩, ?_⟩, T1.trans (ho.below.mono (by omega))⟩
    have h1 : bs1.Nodup ∧ ∀ b ∈ bs1, w.heap.size ≤ b ∧ b < w1.heap.size := ⟨nd1, fun b hb => by have := in1 b hb; omega⟩
    exact ⟨h1.1, fun b hb => by have := h1.2 b hb; have := ho.size; omega⟩
  refine bodyPost_ret (v := .agg #[(.slice A1' m1 d1)]) (by simp [results, Try.results11, go_sem, cR]) rfl (hfin _ ?_)
  repeat (first | (with_reducible exact OnlyIn.refl _ _ _) | (with_reducible refine OnlyIn.setCell ?_ ⟨by simp, by simp⟩ _))
end
section
open Go.RowKit
set_option linter.unusedVariables false
set_option linter.unusedSimpArgs false
set_option maxHeartbeats 1000000 in
theorem eqPort_v (v u : Value) (x y : DPort) (w : World) {B B' : Nat} (h : RdT portRd w B v x) (h' : RdT portRd w B' u y) (hB : B ≤ w.heap.size) (hB' : B' ≤ w.heap.size) :
    Calls Try.prog 14 #[v, u] w fun e w' => e = .returned (.bool (decide (x = y))) ∧ Below w.heap.size w w' := by
  obtain ⟨cs, rfl, rfl⟩ := h
  obtain ⟨cs, rfl, rfl⟩ := h'
  have hb : ∀ o1 o2, Below w.heap.size w ((w.alloc o1).alloc o2) := fun o1 o2 => ((Below.refl _ _).alloc (Nat.le_refl _) _).alloc (by simp) _
  by_cases e0 : x.agent = y.agent
  · have f0 : (x.agent != y.agent) = false := by simp [e0]
    by_cases e1 : x.slot = y.slot
    · have f1 : (x.slot != y.slot) = false := by simp [e1]
      have He : Hid (decide (x = y) = true) := decide_eq_true (by cases x; cases y; simp_all)
      clear e0 e1
      go_enter Try.func14, Try.ntmps14
      go_wp2_with fail
      go_ret
      exact ⟨by rw [He.out]; rfl, hb _ _⟩
    · have f1 : (x.slot != y.slot) = true := by simp [e1]
      have He : Hid (decide (x = y) = false) := decide_eq_false (by intro exy; exact e1 (by rw [exy]))
      clear e0 e1
      go_enter Try.func14, Try.ntmps14
      go_wp2_with fail
      go_ret
      exact ⟨by rw [He.out]; rfl, hb _ _⟩
  · have f0 : (x.agent != y.agent) = true := by simp [e0]
    have He : Hid (decide (x = y) = false) := decide_eq_false (by intro exy; exact e0 (by rw [exy]))
    clear e0
    go_enter Try.func14, Try.ntmps14
    go_wp2_with fail
    go_ret
    exact ⟨by rw [He.out]; rfl, hb _ _⟩
set_option maxHeartbeats 1000000 in
theorem eqPortS_v (v u : Value) (xs ys : List DPort) (w : World) {B B' : Nat} (h : RdS portRd 2 w B v xs) (h' : RdS portRd 2 w B' u ys) (hB : B ≤ w.heap.size) (hB' : B' ≤ w.heap.size) :
    Calls Try.prog 92 #[v, u] w fun e w' => e = .returned (.bool (eqL xs ys)) ∧ Below w.heap.size w w' := by
  obtain ⟨A, n, c, rfl, hx, hnc, hcm⟩ := h
  obtain ⟨C, m, d, rfl, hy, hmd, hdm⟩ := h'
  unfold maxLen at hcm hdm
  have lx := Lib.hid hx.len
  have ly := Lib.hid hy.len
  have hr := Below.refl w.heap.size w
  by_cases hnm : n = m
  · subst hnm
    go_enter Try.func92, Try.ntmps92
    go_wp2
    go_loopw [5] (fun i wr => ∃ k : Nat, k ≤ n ∧ i = .int .i64 k ∧ Hid (xs.take k = ys.take k) ∧ Below w.heap.size w wr) (fun i _ => n - (intOf i).toNat)
    case atStart => exact ⟨0, by omega, rfl, rfl, hr⟩
    case round =>
      obtain ⟨k, hk, rfl, ht, hq⟩ := hrel
      by_cases hlt : k < n
      · have hx' := hx.below portRd_ok (hq.mono hB)
        have hy' := hy.below portRd_ok (hq.mono hB')
        obtain ⟨b, off, x, rfl, hb, hxk, hc0, hc1⟩ := hx'.port hlt
        obtain ⟨b', off', y, rfl, hb', hyk, hc0', hc1'⟩ := hy'.port hlt
        have Hxk := Lib.hid hxk
        have Hyk := Lib.hid hyk
        clear hxk hyk hx' hy'
        have hzB : B ≤ wr.drew.heap.size := Nat.le_trans hB hq.size
        have hzB' : B' ≤ wr.drew.heap.size := Nat.le_trans hB' hq.size
        by_cases hxy : x = y
        · have hf : decide (x = y) = true := decide_eq_true hxy
          have Hxy := Lib.hid hxy
          clear hxy
          go_wp2_with fail
          go_region_with (go_at_call 14; refine (eqPort_v _ _ x y _ (B := 0) (B' := 0) ⟨_, rfl, rfl⟩ ⟨_, rfl, rfl⟩ (Nat.zero_le _) (Nat.zero_le _)).mono ?_; rintro e w1 ⟨rfl, hq1⟩)
          all_goals
            go_wp2_with fail
            go_roundw
            case rel => exact ⟨k + 1, by omega, by go_num, eqL_step Hxk.out Hyk.out ht.out Hxy.out, hq.drew.trans (hq1.mono hq.size)⟩
            case measure => simp [intOf]; omega
        · have hf : decide (x = y) = false := decide_eq_false hxy
          have Hno := Lib.hid (eqL_no Hxk.out Hyk.out hxy)
          clear hxy
          go_wp2_with fail
          go_region_with (go_at_call 14; refine (eqPort_v _ _ x y _ (B := 0) (B' := 0) ⟨_, rfl, rfl⟩ ⟨_, rfl, rfl⟩ (Nat.zero_le _) (Nat.zero_le _)).mono ?_; rintro e w1 ⟨rfl, hq1⟩)
          all_goals
            go_wp2_with fail
            go_ret
            exact ⟨by rw [Hno.out]; rfl, hq.drew.trans (hq1.mono hq.size)⟩
      · have Hyes := Lib.hid (eqL_yes (k := k) ht.out (by have := lx.out; omega) (by have := ly.out; omega))
        go_wp2
        go_ret
        exact ⟨by rw [Hyes.out]; rfl, hq⟩
  · have Hno := Lib.hid (eqL_len (xs := xs) (ys := ys) (by have := lx.out; have := ly.out; omega))
    have hf : ((n : Int) != (m : Int)) = true := by simp; omega
    go_enter Try.func92, Try.ntmps92
    go_wp2
    go_ret
    exact ⟨by rw [Hno.out]; rfl, hr⟩
end
section
open Go.RowKit
set_option linter.unusedVariables false
set_option linter.unusedSimpArgs false
set_option maxHeartbeats 1000000 in
theorem eqAgent_v (v u : Value) (x y : DAgent) (w : World) {B B' : Nat} (h : RdT agentRd w B v x) (h' : RdT agentRd w B' u y) (hB : B ≤ w.heap.size) (hB' : B' ≤ w.heap.size) :
    Calls Try.prog 67 #[v, u] w fun e w' => e = .returned (.bool (decide (x = y))) ∧ Below w.heap.size w w' := by
  obtain ⟨cs, rfl, A1, n1, c1, A2, n2, c2, rfl, ⟨h1, r1⟩, ⟨h2, r2⟩⟩ := h
  obtain ⟨cs, rfl, A1', n1', c1', A2', n2', c2', rfl, ⟨h1', r1'⟩, ⟨h2', r2'⟩⟩ := h'
  have hb : ∀ o1 o2, Below w.heap.size w ((w.alloc o1).alloc o2) := fun o1 o2 => ((Below.refl _ _).alloc (Nat.le_refl _) _).alloc (by simp) _
  by_cases e0 : x.kind = y.kind
  · have f0 : (x.kind != y.kind) = false := by simp [e0]
    by_cases e1 : x.level = y.level
    · have f1 : (x.level != y.level) = false := by simp [e1]
      by_cases e2 : x.value = y.value
      · have f2 : (x.value != y.value) = false := by simp [e2]
        by_cases e3 : x.data = y.data
        · have f3 : eqL x.data y.data = true := decide_eq_true e3
          by_cases e4 : x.ports = y.ports
          · have f4 : eqL x.ports y.ports = true := decide_eq_true e4
            have He : Hid (decide (x = y) = true) := decide_eq_true (by cases x; cases y; simp_all)
            clear e0 e1 e2 e3 e4
            go_enter Try.func67, Try.ntmps67
            go_wp2_with fail
            refine (eqInt64S_v _ _ x.data y.data _ (B := B) (B' := B') ⟨A1, n1, c1, rfl, h1.below intRd_ok ((hb _ _).mono hB), r1⟩ ⟨A1', n1', c1', rfl, h1'.below intRd_ok ((hb _ _).mono hB'), r1'⟩ (Nat.le_trans hB (hb _ _).size) (Nat.le_trans hB' (hb _ _).size)).mono ?_
            rintro e w1 ⟨rfl, q1⟩
            have T := (hb _ _).trans (q1.mono (hb _ _).size)
            have B1 := blk2_0.below q1 (by simp <;> omega)
            have B2 := blk2_1.below q1 (by simp <;> omega)
            have z1 : w.heap.size + 1 + 1 ≤ w1.heap.size := by have := q1.size; simpa using this
            clear q1
            have g1 := B1.cell
            have g2 := B2.cell
            go_wp2_with fail
            clear g1 g2
            refine (eqPortS_v _ _ x.ports y.ports _ (B := B) (B' := B') ⟨A2, n2, c2, rfl, h2.below portRd_ok ((T).mono hB), r2⟩ ⟨A2', n2', c2', rfl, h2'.below portRd_ok ((T).mono hB'), r2'⟩ (Nat.le_trans hB (T).size) (Nat.le_trans hB' (T).size)).mono ?_
            rintro e w2 ⟨rfl, q2⟩
            have T := T.trans (q2.mono T.size)
            have B1 := B1.below q2 (by omega)
            have B2 := B2.below q2 (by omega)
            have z2 := Nat.le_trans z1 q2.size
            clear q2
            go_wp2_with fail
            go_ret
            exact ⟨by rw [He.out]; rfl, T⟩
          · have f4 : eqL x.ports y.ports = false := decide_eq_false e4
            have He : Hid (decide (x = y) = false) := decide_eq_false (by intro exy; exact e4 (by rw [exy]))
            clear e0 e1 e2 e3 e4
            go_enter Try.func67, Try.ntmps67
            go_wp2_with fail
            refine (eqInt64S_v _ _ x.data y.data _ (B := B) (B' := B') ⟨A1, n1, c1, rfl, h1.below intRd_ok ((hb _ _).mono hB), r1⟩ ⟨A1', n1', c1', rfl, h1'.below intRd_ok ((hb _ _).mono hB'), r1'⟩ (Nat.le_trans hB (hb _ _).size) (Nat.le_trans hB' (hb _ _).size)).mono ?_
            rintro e w1 ⟨rfl, q1⟩
            have T := (hb _ _).trans (q1.mono (hb _ _).size)
            have B1 := blk2_0.below q1 (by simp <;> omega)
            have B2 := blk2_1.below q1 (by simp <;> omega)
            have z1 : w.heap.size + 1 + 1 ≤ w1.heap.size := by have := q1.size; simpa using this
            clear q1
            have g1 := B1.cell
            have g2 := B2.cell
            go_wp2_with fail
            clear g1 g2
            refine (eqPortS_v _ _ x.ports y.ports _ (B := B) (B' := B') ⟨A2, n2, c2, rfl, h2.below portRd_ok ((T).mono hB), r2⟩ ⟨A2', n2', c2', rfl, h2'.below portRd_ok ((T).mono hB'), r2'⟩ (Nat.le_trans hB (T).size) (Nat.le_trans hB' (T).size)).mono ?_
            rintro e w2 ⟨rfl, q2⟩
            have T := T.trans (q2.mono T.size)
            have B1 := B1.below q2 (by omega)
            have B2 := B2.below q2 (by omega)
            have z2 := Nat.le_trans z1 q2.size
            clear q2
            go_wp2_with fail
            go_ret
            exact ⟨by rw [He.out]; rfl, T⟩
        · have f3 : eqL x.data y.data = false := decide_eq_false e3
          have He : Hid (decide (x = y) = false) := decide_eq_false (by intro exy; exact e3 (by rw [exy]))
          clear e0 e1 e2 e3
          go_enter Try.func67, Try.ntmps67
          go_wp2_with fail
          refine (eqInt64S_v _ _ x.data y.data _ (B := B) (B' := B') ⟨A1, n1, c1, rfl, h1.below intRd_ok ((hb _ _).mono hB), r1⟩ ⟨A1', n1', c1', rfl, h1'.below intRd_ok ((hb _ _).mono hB'), r1'⟩ (Nat.le_trans hB (hb _ _).size) (Nat.le_trans hB' (hb _ _).size)).mono ?_
          rintro e w1 ⟨rfl, q1⟩
          have T := (hb _ _).trans (q1.mono (hb _ _).size)
          have B1 := blk2_0.below q1 (by simp <;> omega)
          have B2 := blk2_1.below q1 (by simp <;> omega)
          have z1 : w.heap.size + 1 + 1 ≤ w1.heap.size := by have := q1.size; simpa using this
          clear q1
          go_wp2_with fail
          go_ret
          exact ⟨by rw [He.out]; rfl, T⟩
      · have f2 : (x.value != y.value) = true := by simp [e2]
        have He : Hid (decide (x = y) = false) := decide_eq_false (by intro exy; exact e2 (by rw [exy]))
        clear e0 e1 e2
        go_enter Try.func67, Try.ntmps67
        go_wp2_with fail
        go_ret
        exact ⟨by rw [He.out]; rfl, hb _ _⟩
    · have f1 : (x.level != y.level) = true := by simp [e1]
      have He : Hid (decide (x = y) = false) := decide_eq_false (by intro exy; exact e1 (by rw [exy]))
      clear e0 e1
      go_enter Try.func67, Try.ntmps67
      go_wp2_with fail
      go_ret
      exact ⟨by rw [He.out]; rfl, hb _ _⟩
  · have f0 : (x.kind != y.kind) = true := by simp [e0]
    have He : Hid (decide (x = y) = false) := decide_eq_false (by intro exy; exact e0 (by rw [exy]))
    clear e0
    go_enter Try.func67, Try.ntmps67
    go_wp2_with fail
    go_ret
    exact ⟨by rw [He.out]; rfl, hb _ _⟩
set_option maxHeartbeats 1000000 in
theorem eqAgentS_v (v u : Value) (xs ys : List DAgent) (w : World) {B B' : Nat} (h : RdS agentRd 5 w B v xs) (h' : RdS agentRd 5 w B' u ys) (hB : B ≤ w.heap.size) (hB' : B' ≤ w.heap.size) :
    Calls Try.prog 42 #[v, u] w fun e w' => e = .returned (.bool (eqL xs ys)) ∧ Below w.heap.size w w' := by
  obtain ⟨A, n, c, rfl, hx, hnc, hcm⟩ := h
  obtain ⟨C, m, d, rfl, hy, hmd, hdm⟩ := h'
  unfold maxLen at hcm hdm
  have lx := Lib.hid hx.len
  have ly := Lib.hid hy.len
  have hr := Below.refl w.heap.size w
  by_cases hnm : n = m
  · subst hnm
    go_enter Try.func42, Try.ntmps42
    go_wp2
    go_loopw [5] (fun i wr => ∃ k : Nat, k ≤ n ∧ i = .int .i64 k ∧ Hid (xs.take k = ys.take k) ∧ Below w.heap.size w wr) (fun i _ => n - (intOf i).toNat)
    case atStart => exact ⟨0, by omega, rfl, rfl, hr⟩
    case round =>
      obtain ⟨k, hk, rfl, ht, hq⟩ := hrel
      by_cases hlt : k < n
      · have hx' := hx.below agentRd_ok (hq.mono hB)
        have hy' := hy.below agentRd_ok (hq.mono hB')
        obtain ⟨b, off, x, A1, n1, c1, A2, n2, c2, rfl, hb, hxk, hc0, hc1, hc2, hc3, hc4, ⟨h1, r1⟩, ⟨h2, r2⟩⟩ := hx'.agent hlt
        obtain ⟨b', off', y, A1', n1', c1', A2', n2', c2', rfl, hb', hyk, hc0', hc1', hc2', hc3', hc4', ⟨h1', r1'⟩, ⟨h2', r2'⟩⟩ := hy'.agent hlt
        have Hxk := Lib.hid hxk
        have Hyk := Lib.hid hyk
        clear hxk hyk hx' hy'
        have hzB : B ≤ wr.drew.heap.size := Nat.le_trans hB hq.size
        have hzB' : B' ≤ wr.drew.heap.size := Nat.le_trans hB' hq.size
        by_cases hxy : x = y
        · have hf : decide (x = y) = true := decide_eq_true hxy
          have Hxy := Lib.hid hxy
          clear hxy
          go_wp2_with fail
          go_region_with (go_at_call 67; refine (eqAgent_v _ _ x y _ (B := B) (B' := B') ⟨_, rfl, A1, n1, c1, A2, n2, c2, rfl, ⟨h1.drew intRd_ok, r1⟩, ⟨h2.drew portRd_ok, r2⟩⟩ ⟨_, rfl, A1', n1', c1', A2', n2', c2', rfl, ⟨h1'.drew intRd_ok, r1'⟩, ⟨h2'.drew portRd_ok, r2'⟩⟩ hzB hzB').mono ?_; rintro e w1 ⟨rfl, hq1⟩)
          all_goals
            go_wp2_with fail
            go_roundw
            case rel => exact ⟨k + 1, by omega, by go_num, eqL_step Hxk.out Hyk.out ht.out Hxy.out, hq.drew.trans (hq1.mono hq.size)⟩
            case measure => simp [intOf]; omega
        · have hf : decide (x = y) = false := decide_eq_false hxy
          have Hno := Lib.hid (eqL_no Hxk.out Hyk.out hxy)
          clear hxy
          go_wp2_with fail
          go_region_with (go_at_call 67; refine (eqAgent_v _ _ x y _ (B := B) (B' := B') ⟨_, rfl, A1, n1, c1, A2, n2, c2, rfl, ⟨h1.drew intRd_ok, r1⟩, ⟨h2.drew portRd_ok, r2⟩⟩ ⟨_, rfl, A1', n1', c1', A2', n2', c2', rfl, ⟨h1'.drew intRd_ok, r1'⟩, ⟨h2'.drew portRd_ok, r2'⟩⟩ hzB hzB').mono ?_; rintro e w1 ⟨rfl, hq1⟩)
          all_goals
            go_wp2_with fail
            go_ret
            exact ⟨by rw [Hno.out]; rfl, hq.drew.trans (hq1.mono hq.size)⟩
      · have Hyes := Lib.hid (eqL_yes (k := k) ht.out (by have := lx.out; omega) (by have := ly.out; omega))
        go_wp2
        go_ret
        exact ⟨by rw [Hyes.out]; rfl, hq⟩
  · have Hno := Lib.hid (eqL_len (xs := xs) (ys := ys) (by have := lx.out; have := ly.out; omega))
    have hf : ((n : Int) != (m : Int)) = true := by simp; omega
    go_enter Try.func42, Try.ntmps42
    go_wp2
    go_ret
    exact ⟨by rw [Hno.out]; rfl, hr⟩
set_option maxHeartbeats 1000000 in
theorem eqNet_v (v u : Value) (x y : DNet) (w : World) {B B' : Nat} (h : RdT netRd w B v x) (h' : RdT netRd w B' u y) (hB : B ≤ w.heap.size) (hB' : B' ≤ w.heap.size) :
    Calls Try.prog 15 #[v, u] w fun e w' => e = .returned (.bool (decide (x = y))) ∧ Below w.heap.size w w' := by
  obtain ⟨cs, rfl, A1, n1, c1, rfl, ⟨h1, r1⟩⟩ := h
  obtain ⟨cs, rfl, A1', n1', c1', rfl, ⟨h1', r1'⟩⟩ := h'
  have hb : ∀ o1 o2, Below w.heap.size w ((w.alloc o1).alloc o2) := fun o1 o2 => ((Below.refl _ _).alloc (Nat.le_refl _) _).alloc (by simp) _
  by_cases e0 : x.agents = y.agents
  · have f0 : eqL x.agents y.agents = true := decide_eq_true e0
    have He : Hid (decide (x = y) = true) := decide_eq_true (by cases x; cases y; simp_all)
    clear e0
    go_enter Try.func15, Try.ntmps15
    go_wp2_with fail
    refine (eqAgentS_v _ _ x.agents y.agents _ (B := B) (B' := B') ⟨A1, n1, c1, rfl, h1.below agentRd_ok ((hb _ _).mono hB), r1⟩ ⟨A1', n1', c1', rfl, h1'.below agentRd_ok ((hb _ _).mono hB'), r1'⟩ (Nat.le_trans hB (hb _ _).size) (Nat.le_trans hB' (hb _ _).size)).mono ?_
    rintro e w1 ⟨rfl, q1⟩
    have T := (hb _ _).trans (q1.mono (hb _ _).size)
    have B1 := blk2_0.below q1 (by simp <;> omega)
    have B2 := blk2_1.below q1 (by simp <;> omega)
    have z1 : w.heap.size + 1 + 1 ≤ w1.heap.size := by have := q1.size; simpa using this
    clear q1
    go_wp2_with fail
    go_ret
    exact ⟨by rw [He.out]; rfl, T⟩
  · have f0 : eqL x.agents y.agents = false := decide_eq_false e0
    have He : Hid (decide (x = y) = false) := decide_eq_false (by intro exy; exact e0 (by rw [exy]))
    clear e0
    go_enter Try.func15, Try.ntmps15
    go_wp2_with fail
    refine (eqAgentS_v _ _ x.agents y.agents _ (B := B) (B' := B') ⟨A1, n1, c1, rfl, h1.below agentRd_ok ((hb _ _).mono hB), r1⟩ ⟨A1', n1', c1', rfl, h1'.below agentRd_ok ((hb _ _).mono hB'), r1'⟩ (Nat.le_trans hB (hb _ _).size) (Nat.le_trans hB' (hb _ _).size)).mono ?_
    rintro e w1 ⟨rfl, q1⟩
    have T := (hb _ _).trans (q1.mono (hb _ _).size)
    have B1 := blk2_0.below q1 (by simp <;> omega)
    have B2 := blk2_1.below q1 (by simp <;> omega)
    have z1 : w.heap.size + 1 + 1 ≤ w1.heap.size := by have := q1.size; simpa using this
    clear q1
    go_wp2_with fail
    go_ret
    exact ⟨by rw [He.out]; rfl, T⟩
end
section
open Go.RowKit
set_option linter.unusedVariables false
set_option linter.unusedSimpArgs false
set_option maxRecDepth 100000
set_option maxHeartbeats 8000000 in
theorem walk_ComponentsOf (w : World) (v0 : Value) (x : DNet) (R0 : RdT netRd w w.heap.size v0 x) :
    Calls Try.prog 6 #[v0] w fun e w' => e = .returned (.bool true) ∧ Below w.heap.size w w' := by
  obtain ⟨a0A0, a0n0, a0c0, rfl⟩ : ∃ a0A0 a0n0 a0c0, v0 = .agg #[.slice a0A0 a0n0 a0c0] := by obtain ⟨cs, rfl, ⟨A0, n0, c0, rfl, _⟩⟩ := R0; exact ⟨A0, n0, c0, rfl⟩
  by_cases d0 : (szNet x : Int) ≤ 1048576
  case neg =>
    have T := Below.refl w.heap.size w
    have T : Below w.heap.size w (w.alloc (.cells #[.slice a0A0 a0n0 a0c0] 24)) := T.alloc (by first | exact Nat.le_refl _ | (simp; done) | (simp; omega)) _
    have B0 : Blk (w.alloc (.cells #[.slice a0A0 a0n0 a0c0] 24)) (w.heap.size) 24 #[.slice a0A0 a0n0 a0c0] := by have := Blk.new w 24 #[.slice a0A0 a0n0 a0c0]; simpa using this
    have zb0 : (w.alloc (.cells #[.slice a0A0 a0n0 a0c0] 24)).heap.size = w.heap.size + 1 := by simp
    go_enter Try.func6, Try.ntmps6
    go_wp2_with fail
    refine (szNet_v _ x (1048576) _ (R0.below netRd_ok T) T.size (by omega) (by omega)).mono ?_
    rw [szL_neg (by omega)]
    rintro e w1 ⟨rfl, b1⟩
    have z1 := b1.size
    have B0 := B0.below b1 (by omega)
    have T := T.trans (b1.mono (by omega))
    have gB0 := B0.cell
    go_wp2_with fail
    go_ret
    exact ⟨rfl, T⟩
  have s0 : szNet x ≤ 1048576 := by omega
  have sr := componentsOf_len x s0
  have q_r : eqL ((componentsOf x).1) ((componentsOf x).1) = true := decide_eq_true rfl
  have T := Below.refl w.heap.size w
  have T : Below w.heap.size w (w.alloc (.cells #[.slice a0A0 a0n0 a0c0] 24)) := T.alloc (by first | exact Nat.le_refl _ | (simp; done) | (simp; omega)) _
  have B0 : Blk (w.alloc (.cells #[.slice a0A0 a0n0 a0c0] 24)) (w.heap.size) 24 #[.slice a0A0 a0n0 a0c0] := by have := Blk.new w 24 #[.slice a0A0 a0n0 a0c0]; simpa using this
  have zb0 : (w.alloc (.cells #[.slice a0A0 a0n0 a0c0] 24)).heap.size = w.heap.size + 1 := by simp
  go_enter Try.func6, Try.ntmps6
  go_wp2_with fail
  refine (szNet_v _ x (1048576) _ (R0.below netRd_ok T) T.size (by omega) (by omega)).mono ?_
  rw [szL_pos (by omega)]
  rintro e w1 ⟨rfl, b1⟩
  have z1 := b1.size
  have B0 := B0.below b1 (by omega)
  have T := T.trans (b1.mono (by omega))
  have gB0 := B0.cell
  go_wp2_with fail
  refine (toNet_v _ x _ (R0.below netRd_ok T) T.size s0).mono ?_
  rintro e w2 ⟨⟨t1, rfl, p2⟩, b2⟩
  have z2 := b2.size
  have B0 := B0.below b2 (by omega)
  have T := T.trans (b2.mono (by omega))
  clear gB0
  have gB0 := B0.cell
  go_wp2_with fail
  refine (specComponentsOf_v _ x _ (p2.reads (netOw_reads (w2).heap.size) (by omega)) (Nat.le_refl _) s0).mono ?_
  rintro e w3 ⟨⟨u4, rfl, G3⟩, b3⟩
  have z3 := b3.size
  have B0 := B0.below b3 (by omega)
  have p2 := p2.below netOw_ok b3 (by omega)
  have T := T.trans (b3.mono (by omega))
  clear gB0
  have gB0 := B0.cell
  clear p2
  go_wp2_with fail
  refine (toNet_v _ x _ (R0.below netRd_ok T) T.size s0).mono ?_
  rintro e w4 ⟨⟨t5, rfl, p6⟩, b4⟩
  have z4 := b4.size
  have B0 := B0.below b4 (by omega)
  have G3 := G3.below intsOw_ok b4 (by omega)
  have T := T.trans (b4.mono (by omega))
  clear gB0
  have gB0 := B0.cell
  obtain ⟨l8A0, l8n0, l8c0, rfl⟩ : ∃ l8A0 l8n0 l8c0, t5 = .agg #[.slice l8A0 l8n0 l8c0] := by obtain ⟨cs, bs, rfl, ⟨A0, n0, c0, b0, rfl, _⟩, _⟩ := p6; exact ⟨A0, n0, c0, rfl⟩
  have b5 : Below w4.heap.size w4 (w4.alloc (.cells #[.slice l8A0 l8n0 l8c0] 33)) := (Below.refl _ _).alloc (Nat.le_refl _) _
  have z5 : (w4.alloc (.cells #[.slice l8A0 l8n0 l8c0] 33)).heap.size = w4.heap.size + 1 := World.size_alloc _ _
  have B0 := B0.below b5 (by omega)
  have G3 := G3.below intsOw_ok b5 (by omega)
  have p6 := p6.below netOw_ok b5 (by omega)
  have T := T.trans (b5.mono (by omega))
  have X7 : Blk (w4.alloc (.cells #[.slice l8A0 l8n0 l8c0] 33)) w4.heap.size 33 #[.slice l8A0 l8n0 l8c0] := Blk.new _ _ _
  clear gB0
  have gB0 := B0.cell
  have gX7 := X7.cell
  go_wp2_with fail
  refine (implComponentsOf_v _ x _ (p6.reads (netOw_reads ((w4.alloc (.cells #[.slice l8A0 l8n0 l8c0] 33))).heap.size) (by omega)) (Nat.le_refl _) s0).mono ?_
  rintro e w6 ⟨⟨u10, rfl, G9⟩, b6⟩
  have z6 := b6.size
  have B0 := B0.below b6 (by omega)
  have X7 := X7.below b6 (by omega)
  have G3 := G3.below intsOw_ok b6 (by omega)
  have p6 := p6.below netOw_ok b6 (by omega)
  have T := T.trans (b6.mono (by omega))
  clear gB0
  clear gX7
  have gB0 := B0.cell
  have gX7 := X7.cell
  go_wp2_with fail
  refine (eqInt64SS_v _ _ _ _ _ (G9.reads (intsOw_reads (w6).heap.size) (by omega)) (G3.reads (intsOw_reads (w6).heap.size) (by omega)) (Nat.le_refl _) (Nat.le_refl _)).mono ?_
  rintro e w7 ⟨rfl, b7⟩
  have z7 := b7.size
  have B0 := B0.below b7 (by omega)
  have X7 := X7.below b7 (by omega)
  have G3 := G3.below intsOw_ok b7 (by omega)
  have p6 := p6.below netOw_ok b7 (by omega)
  have G9 := G9.below intsOw_ok b7 (by omega)
  have T := T.trans (b7.mono (by omega))
  clear gB0
  clear gX7
  have gB0 := B0.cell
  have gX7 := X7.cell
  go_wp2_with fail
  have T := T.drew
  have B0 := B0.drew
  have X7 := X7.drew
  have G3 := G3.keep intsOw_ok (w' := w7.drew) (fun _ _ _ => rfl)
  have p6 := p6.keep netOw_ok (w' := w7.drew) (fun _ _ _ => rfl)
  have G9 := G9.keep intsOw_ok (w' := w7.drew) (fun _ _ _ => rfl)
  have zd8 : w7.drew.heap.size = w7.heap.size := rfl
  go_region_held3 (fun w' => w'.cell? ⟨w4.heap.size, 0, none⟩ = some (.slice l8A0 l8n0 l8c0) ∧ w'.cell? ⟨w.heap.size, 0, none⟩ = some (.slice a0A0 a0n0 a0c0)) (exact ⟨gX7 0, gB0 0⟩) (first
    | (go_at_call 11; refine (toNet_v _ x _ (R0.below netRd_ok T) T.size s0).mono ?_; rintro e w9 ⟨⟨t11, rfl, p12⟩, b9⟩; have z9 := b9.size; have B0 := B0.below b9 (by omega); have X7 := X7.below b9 (by omega); have G3 := G3.below intsOw_ok b9 (by omega); have p6 := p6.below netOw_ok b9 (by omega); have G9 := G9.below intsOw_ok b9 (by omega); have T := T.trans (b9.mono (by omega)); clear gB0; clear gX7; have gB0 := B0.cell; have gX7 := X7.cell)
    | (go_at_call 15; refine (eqNet_v _ _ _ _ _ (p6.reads (netOw_reads (w9).heap.size) (by omega)) (p12.reads (netOw_reads (w9).heap.size) (by omega)) (Nat.le_refl _) (Nat.le_refl _)).mono ?_; rintro e w10 ⟨rfl, b10⟩; have z10 := b10.size; have B0 := B0.below b10 (by omega); have X7 := X7.below b10 (by omega); have G3 := G3.below intsOw_ok b10 (by omega); have p6 := p6.below netOw_ok b10 (by omega); have G9 := G9.below intsOw_ok b10 (by omega); have p12 := p12.below netOw_ok b10 (by omega); have T := T.trans (b10.mono (by omega)); clear gB0; clear gX7; have gB0 := B0.cell; have gX7 := X7.cell))
  go_wp2_with fail
  refine (markNet_v _ _ _ _ _ _ p6 (by omega) s0 (by omega) (by omega)).mono ?_
  rintro e w11 ⟨m13, rfl, wb11, b11, e11, b12⟩
  clear p6
  have z11 := b11.size
  have B0 := B0.below b11 (by omega)
  have X7 := X7.below b11 (by omega)
  have G3 := G3.below intsOw_ok b11 (by omega)
  have G9 := G9.below intsOw_ok b11 (by omega)
  have p12 := p12.below netOw_ok b11 (by omega)
  have T := T.trans (b11.mono (by omega))
  have z12 := Nat.le_of_eq e11
  have y12 := Nat.le_of_eq e11.symm
  have B0 := B0.only b12 (by omega)
  have X7 := X7.only b12 (by omega)
  have G3 := G3.only intsOw_ok b12 (by omega)
  have G9 := G9.only intsOw_ok b12 (by omega)
  have p12 := p12.only netOw_ok b12 (by omega)
  have T := T.trans (b12.below.mono (by omega))
  have hm13 : decide ((m13 : Int) < 0) = false := by simp
  clear gB0
  clear gX7
  have gB0 := B0.cell
  have gX7 := X7.cell
  go_wp2_with fail
  refine (eqInt64SS_v _ _ _ _ _ (G9.reads (intsOw_reads (w11).heap.size) (by omega)) (G3.reads (intsOw_reads (w11).heap.size) (by omega)) (Nat.le_refl _) (Nat.le_refl _)).mono ?_
  rintro e w13 ⟨rfl, b13⟩
  have z13 := b13.size
  have B0 := B0.below b13 (by omega)
  have X7 := X7.below b13 (by omega)
  have G3 := G3.below intsOw_ok b13 (by omega)
  have G9 := G9.below intsOw_ok b13 (by omega)
  have p12 := p12.below netOw_ok b13 (by omega)
  have T := T.trans (b13.mono (by omega))
  clear gB0
  clear gX7
  have gB0 := B0.cell
  have gX7 := X7.cell
  go_wp2_with fail
  refine (markInt64SS_v _ _ _ _ _ _ G9 sr (by omega) (by omega)).mono ?_
  rintro e w14 ⟨rfl, G9, b14⟩
  have z14 := Nat.le_of_eq b14.size
  have y14 := Nat.le_of_eq b14.size.symm
  have B0 := B0.only b14 (by omega)
  have X7 := X7.only b14 (by omega)
  have G3 := G3.only intsOw_ok b14 (by omega)
  have p12 := p12.only netOw_ok b14 (by omega)
  have T := T.trans (b14.below.mono (by omega))
  clear gB0
  clear gX7
  have gB0 := B0.cell
  have gX7 := X7.cell
  go_wp2_with fail
  refine (heldInt64SS_v _ (componentsOf x).1 _ _ (G9.reads (intsOw_reads (w14).heap.size) (by omega)) (Nat.le_refl _) sr (by omega) (by omega)).mono ?_
  rintro e w15 ⟨rfl, b15⟩
  have z15 := b15.size
  have B0 := B0.below b15 (by omega)
  have X7 := X7.below b15 (by omega)
  have G3 := G3.below intsOw_ok b15 (by omega)
  have G9 := G9.below intsOw_ok b15 (by omega)
  have p12 := p12.below netOw_ok b15 (by omega)
  have T := T.trans (b15.mono (by omega))
  clear gB0
  clear gX7
  have gB0 := B0.cell
  have gX7 := X7.cell
  go_wp2_with fail
  refine (toNet_v _ x _ (R0.below netRd_ok T) T.size s0).mono ?_
  rintro e w16 ⟨⟨t14, rfl, p15⟩, b16⟩
  have z16 := b16.size
  have B0 := B0.below b16 (by omega)
  have X7 := X7.below b16 (by omega)
  have G3 := G3.below intsOw_ok b16 (by omega)
  have G9 := G9.below intsOw_ok b16 (by omega)
  have p12 := p12.below netOw_ok b16 (by omega)
  have T := T.trans (b16.mono (by omega))
  clear gB0
  clear gX7
  have gB0 := B0.cell
  have gX7 := X7.cell
  go_wp2_with fail
  refine (implComponentsOf_v _ x _ (p15.reads (netOw_reads (w16).heap.size) (by omega)) (Nat.le_refl _) s0).mono ?_
  rintro e w17 ⟨⟨u17, rfl, G16⟩, b17⟩
  have z17 := b17.size
  have B0 := B0.below b17 (by omega)
  have X7 := X7.below b17 (by omega)
  have G3 := G3.below intsOw_ok b17 (by omega)
  have G9 := G9.below intsOw_ok b17 (by omega)
  have p12 := p12.below netOw_ok b17 (by omega)
  have p15 := p15.below netOw_ok b17 (by omega)
  have T := T.trans (b17.mono (by omega))
  clear gB0
  clear gX7
  have gB0 := B0.cell
  have gX7 := X7.cell
  clear p15
  go_wp2_with fail
  refine (eqInt64SS_v _ _ _ _ _ (G16.reads (intsOw_reads (w17).heap.size) (by omega)) (G3.reads (intsOw_reads (w17).heap.size) (by omega)) (Nat.le_refl _) (Nat.le_refl _)).mono ?_
  rintro e w18 ⟨rfl, b18⟩
  have z18 := b18.size
  have B0 := B0.below b18 (by omega)
  have X7 := X7.below b18 (by omega)
  have G3 := G3.below intsOw_ok b18 (by omega)
  have G9 := G9.below intsOw_ok b18 (by omega)
  have p12 := p12.below netOw_ok b18 (by omega)
  have G16 := G16.below intsOw_ok b18 (by omega)
  have T := T.trans (b18.mono (by omega))
  clear gB0
  clear gX7
  have gB0 := B0.cell
  have gX7 := X7.cell
  go_wp2_with fail
  refine (heldInt64SS_v _ (componentsOf x).1 _ _ (G9.reads (intsOw_reads (w18).heap.size) (by omega)) (Nat.le_refl _) sr (by omega) (by omega)).mono ?_
  rintro e w19 ⟨rfl, b19⟩
  have z19 := b19.size
  have B0 := B0.below b19 (by omega)
  have X7 := X7.below b19 (by omega)
  have G3 := G3.below intsOw_ok b19 (by omega)
  have G9 := G9.below intsOw_ok b19 (by omega)
  have p12 := p12.below netOw_ok b19 (by omega)
  have G16 := G16.below intsOw_ok b19 (by omega)
  have T := T.trans (b19.mono (by omega))
  clear gB0
  clear gX7
  have gB0 := B0.cell
  have gX7 := X7.cell
  go_wp2_with fail
  go_ret
  exact ⟨rfl, T⟩
end
section
open Go.RowKit Go.ChangeShapes Go.WideShapes Go.Deep Go.WideMaps
set_option linter.unusedVariables false
def Opens {α : Type} (P : Program) (t : TypeId) (R : Rd α) : Prop := ∀ (H : Type) (enc : TypeId × Value → H) (W : World) (fuel : Nat) (cs : List Value) (x : DataW H × List MemPlace),
  DataW.trod enc P W 0 (fun _ => true) true fuel t cs = some x → ∃ d, R W W.heap.size cs d
theorem opens_int {P : Program} {t : TypeId} (ht : P.underlying t = some (.int .i64)) : Opens P t intRd := fun H enc W fuel cs x h => by
  obtain ⟨n, hc, _, _⟩ := DataW.trod_int ht h
  exact ⟨n, hc⟩
theorem spot_none {w : World} {a : Addr} {v : Value} (h : w.cell? a = some v) : a.spot = none := by
  unfold World.cell? at h
  split at h
  · cases hs : a.spot with
    | none => rfl
    | some s => simp [hs] at h
  · simp at h
theorem opens_slice {α : Type} {P : Program} {t e : TypeId} {R : Rd α} {sz : Nat} (ht : P.underlying t = some (.slice e)) (hsz : P.cellsOf e = sz) (hpos : 0 < sz) (ok : RdOk R sz) (he : Opens P e R) : Opens P t (slRd R sz) := fun H enc W fuel cs x h => by
  rcases open_slice ht h with ⟨rfl, rfl⟩ | ⟨a, len, cap, m, n, D, Pl, rfl, hb, hl, hm, hmm, hx, hel⟩
  · exact ⟨[], none, 0, 0, rfl, SlAt.none_, Nat.le_refl _, Nat.zero_le _⟩
  · have hmc : len ≤ m := by rw [hmm]; simp; omega
    have hel' : ∀ i, i < len → ∃ p : List Value × α, R W W.heap.size p.1 p.2 ∧ ∀ j, j < sz → W.cell? (a.add (i * sz + j)) = p.1[j]? := fun i hi => by
      obtain ⟨cs', hc, htr⟩ := hel i (by omega)
      obtain ⟨d, hd⟩ := he H enc W n cs' (D i, Pl i) htr
      obtain ⟨_, hlen, hat⟩ := World.cells?_some hc
      exact ⟨(cs', d), hd, fun j hj => by
        have := hat j (by rw [hsz]; exact hj)
        rw [hsz, Go.Deep.add_add] at this
        exact this⟩
    rcases Nat.eq_zero_or_pos len with h0 | h0
    · subst h0
      exact ⟨[], some a, 0, cap, rfl, SlAt.none_, Nat.zero_le _, hm⟩
    · have hne : Nonempty (List Value × α) := let ⟨p, _⟩ := hel' 0 h0; ⟨p⟩
      have hf : ∃ f : Nat → List Value × α, ∀ i, i < len → R W W.heap.size (f i).1 (f i).2 ∧ ∀ j, j < sz → W.cell? (a.add (i * sz + j)) = (f i).1[j]? := by
        classical
        refine ⟨fun i => if hi : i < len then Classical.choose (hel' i hi) else Classical.choice hne, fun i hi => ?_⟩
        simp only [dif_pos hi]
        exact Classical.choose_spec (hel' i hi)
      obtain ⟨f, hf⟩ := hf
      have hc0 : ∃ v, W.cell? a = some v := by
        obtain ⟨hR, hc⟩ := hf 0 h0
        have hlR := ok.len hR
        have h1 := hc 0 hpos
        have h2 : a.add (0 * sz + 0) = a := by simp [Addr.add]
        rw [h2, List.getElem?_eq_getElem (by omega)] at h1
        exact ⟨_, h1⟩
      obtain ⟨v0, hv0⟩ := hc0
      have hsp := spot_none hv0
      have hbl := World.block_lt_of_cell? _ _ hv0
      have ea : a = ⟨a.block, a.off, none⟩ := by cases a; simp_all
      refine ⟨(List.range len).map fun i => (f i).2, some a, len, cap, rfl, ⟨by simp, fun _ => ⟨a.block, a.off, by rw [← ea], hbl, fun i x hx => ?_⟩⟩, hl, hm⟩
      have hi : i < len := by simpa using lt_of_some hx
      have hx' : (f i).2 = x := by simpa [hi] using hx
      subst hx'
      obtain ⟨hR, hc⟩ := hf i hi
      refine ⟨_, hR, fun j v hj => ?_⟩
      have hj' : j < sz := by have := lt_of_some hj; rw [ok.len hR] at this; exact this
      have h1 := hc j hj'
      rw [hj] at h1
      have e2 : a.add (i * sz + j) = ⟨a.block, a.off + i * sz + j, none⟩ := by
        rw [ea]; simp only [Addr.add_lit]; congr 1; omega
      rw [← e2]
      exact h1
/-- An argument's value as its cells. -/
theorem opens_arg {α : Type} {P : Program} {t : TypeId} {R : Rd α} (h : Opens P t R) {H : Type} {enc : TypeId × Value → H} {W : World} {v : Value} {d : DataW H} {ps : List MemPlace} (ht : DataW.Trod enc P W 0 (fun _ => true) true t v d ps) : ∃ x, R W W.heap.size v.cells.toList x := by
  obtain ⟨fuel, hf⟩ := ht
  exact h H enc W fuel _ _ hf
end
section
open Go.RowKit
theorem opens_ints : Opens Try.prog 41 (slRd intRd 1) := opens_slice Try.underlying41 (by kernel_rfl) (by decide) intRd_ok (opens_int Try.underlying2)
end
section
open Go.RowKit Go.ChangeShapes Go.WideShapes Go.Deep Go.WideMaps
set_option linter.unusedVariables false
set_option linter.unusedSimpArgs false
theorem trod_fields {P : Program} {t : TypeId} {fs : Array Field} {H : Type} {enc : TypeId × Value → H} {W : World} {fuel : Nat} {cs : List Value} {x : DataW H × List MemPlace} (ht : P.underlying t = some (.struct fs)) (h : DataW.trod enc P W 0 (fun _ => true) true fuel t cs = some x) :
    cs.length = P.cellsOf t ∧ ∃ n, ∀ (i : Nat) (f : Field), fs[i]? = some f → ∃ y, DataW.trod enc P W 0 (fun _ => true) true n f.type ((cs.drop f.offset).take (P.cellsOf f.type)) = some y := by
  obtain ⟨xs, n, _, _, hl, hlen, hf⟩ := DataW.trod_struct ht h
  refine ⟨hl, n, fun i f hi => ?_⟩
  have hlt : i < fs.size := (Array.getElem?_eq_some_iff.1 hi).1
  exact ⟨xs[i], by rw [hf i f hi]; exact List.getElem?_eq_getElem (by omega)⟩
/-- A struct argument. -/
theorem open_st {α : Type} {P : Program} {t : TypeId} {fs : Array Field} {R : Rd α} (h : Opens P t R) (ht : P.underlying t = some (.struct fs)) {r : Reach} {b0 : Nat} {H : Type} {enc : TypeId × Value → H} {W : World} {v : Value} {d : DataW H} {ps : List MemPlace}
    (hv : Value.okWide P W r b0 t v) (hd : DataW.Trod enc P W 0 (fun _ => true) true t v d ps) : ∃ x, RdT R W W.heap.size v x := by
  obtain ⟨cs, rfl, _⟩ := okWide_struct ht hv
  obtain ⟨x, hx⟩ := opens_arg h hd
  exact ⟨x, cs.toList, by simp, by simpa [Value.cells] using hx⟩
theorem len1 {α : Type} {l : List α} (h : l.length = 1) : ∃ a0, l = [a0] := by
  match l, h with
  | [a0], _ => exact ⟨a0, rfl⟩
theorem len2 {α : Type} {l : List α} (h : l.length = 2) : ∃ a0 a1, l = [a0, a1] := by
  match l, h with
  | [a0, a1], _ => exact ⟨a0, a1, rfl⟩
theorem len5 {α : Type} {l : List α} (h : l.length = 5) : ∃ a0 a1 a2 a3 a4, l = [a0, a1, a2, a3, a4] := by
  match l, h with
  | [a0, a1, a2, a3, a4], _ => exact ⟨a0, a1, a2, a3, a4, rfl⟩
theorem opens_Port : Opens Try.prog 26 portRd := fun H enc W fuel cs x h => by
  obtain ⟨hl, m, hf⟩ := trod_fields Try.underlying26 h
  replace hl : cs.length = 2 := hl.trans (by kernel_rfl)
  obtain ⟨a0, a1, rfl⟩ := len2 hl
  obtain ⟨y0, h0⟩ : ∃ y, DataW.trod enc Try.prog W 0 (fun _ => true) true m 2 (([a0, a1].drop 0).take (Try.prog.cellsOf 2)) = some y := hf 0 _ rfl
  have k0 : Try.prog.cellsOf 2 = 1 := by kernel_rfl
  rw [k0] at h0; simp only [List.drop_zero, List.drop_succ_cons, List.take_succ_cons, List.take_zero] at h0
  obtain ⟨d0, e0⟩ := opens_int Try.underlying2 H enc W _ _ _ h0
  unfold intRd at e0; simp only [List.cons.injEq, and_true] at e0
  obtain ⟨y1, h1⟩ : ∃ y, DataW.trod enc Try.prog W 0 (fun _ => true) true m 2 (([a0, a1].drop 1).take (Try.prog.cellsOf 2)) = some y := hf 1 _ rfl
  have k1 : Try.prog.cellsOf 2 = 1 := by kernel_rfl
  rw [k1] at h1; simp only [List.drop_zero, List.drop_succ_cons, List.take_succ_cons, List.take_zero] at h1
  obtain ⟨d1, e1⟩ := opens_int Try.underlying2 H enc W _ _ _ h1
  unfold intRd at e1; simp only [List.cons.injEq, and_true] at e1
  subst e0; subst e1
  exact ⟨⟨d0, d1⟩, rfl⟩
theorem opens_PortS : Opens Try.prog 88 (slRd portRd 2) := opens_slice Try.underlying88 (by kernel_rfl) (by decide) portRd_ok opens_Port
theorem opens_Agent : Opens Try.prog 90 agentRd := fun H enc W fuel cs x h => by
  obtain ⟨hl, m, hf⟩ := trod_fields Try.underlying90 h
  replace hl : cs.length = 5 := hl.trans (by kernel_rfl)
  obtain ⟨a0, a1, a2, a3, a4, rfl⟩ := len5 hl
  obtain ⟨y0, h0⟩ : ∃ y, DataW.trod enc Try.prog W 0 (fun _ => true) true m 2 (([a0, a1, a2, a3, a4].drop 0).take (Try.prog.cellsOf 2)) = some y := hf 0 _ rfl
  have k0 : Try.prog.cellsOf 2 = 1 := by kernel_rfl
  rw [k0] at h0; simp only [List.drop_zero, List.drop_succ_cons, List.take_succ_cons, List.take_zero] at h0
  obtain ⟨d0, e0⟩ := opens_int Try.underlying2 H enc W _ _ _ h0
  unfold intRd at e0; simp only [List.cons.injEq, and_true] at e0
  obtain ⟨y1, h1⟩ : ∃ y, DataW.trod enc Try.prog W 0 (fun _ => true) true m 2 (([a0, a1, a2, a3, a4].drop 1).take (Try.prog.cellsOf 2)) = some y := hf 1 _ rfl
  have k1 : Try.prog.cellsOf 2 = 1 := by kernel_rfl
  rw [k1] at h1; simp only [List.drop_zero, List.drop_succ_cons, List.take_succ_cons, List.take_zero] at h1
  obtain ⟨d1, e1⟩ := opens_int Try.underlying2 H enc W _ _ _ h1
  unfold intRd at e1; simp only [List.cons.injEq, and_true] at e1
  obtain ⟨y2, h2⟩ : ∃ y, DataW.trod enc Try.prog W 0 (fun _ => true) true m 2 (([a0, a1, a2, a3, a4].drop 2).take (Try.prog.cellsOf 2)) = some y := hf 2 _ rfl
  have k2 : Try.prog.cellsOf 2 = 1 := by kernel_rfl
  rw [k2] at h2; simp only [List.drop_zero, List.drop_succ_cons, List.take_succ_cons, List.take_zero] at h2
  obtain ⟨d2, e2⟩ := opens_int Try.underlying2 H enc W _ _ _ h2
  unfold intRd at e2; simp only [List.cons.injEq, and_true] at e2
  obtain ⟨y3, h3⟩ : ∃ y, DataW.trod enc Try.prog W 0 (fun _ => true) true m 41 (([a0, a1, a2, a3, a4].drop 3).take (Try.prog.cellsOf 41)) = some y := hf 3 _ rfl
  have k3 : Try.prog.cellsOf 41 = 1 := by kernel_rfl
  rw [k3] at h3; simp only [List.drop_zero, List.drop_succ_cons, List.take_succ_cons, List.take_zero] at h3
  obtain ⟨d3, A3, n3, c3, e3, g3, r3⟩ := opens_ints H enc W _ _ _ h3
  simp only [List.cons.injEq, and_true] at e3
  obtain ⟨y4, h4⟩ : ∃ y, DataW.trod enc Try.prog W 0 (fun _ => true) true m 88 (([a0, a1, a2, a3, a4].drop 4).take (Try.prog.cellsOf 88)) = some y := hf 4 _ rfl
  have k4 : Try.prog.cellsOf 88 = 1 := by kernel_rfl
  rw [k4] at h4; simp only [List.drop_zero, List.drop_succ_cons, List.take_succ_cons, List.take_zero] at h4
  obtain ⟨d4, A4, n4, c4, e4, g4, r4⟩ := opens_PortS H enc W _ _ _ h4
  simp only [List.cons.injEq, and_true] at e4
  subst e0; subst e1; subst e2; subst e3; subst e4
  exact ⟨⟨d0, d1, d2, d3, d4⟩, A3, n3, c3, A4, n4, c4, rfl, ⟨g3, r3⟩, ⟨g4, r4⟩⟩
theorem opens_AgentS : Opens Try.prog 22 (slRd agentRd 5) := opens_slice Try.underlying22 (by kernel_rfl) (by decide) agentRd_ok opens_Agent
theorem opens_Net : Opens Try.prog 24 netRd := fun H enc W fuel cs x h => by
  obtain ⟨hl, m, hf⟩ := trod_fields Try.underlying24 h
  replace hl : cs.length = 1 := hl.trans (by kernel_rfl)
  obtain ⟨a0, rfl⟩ := len1 hl
  obtain ⟨y0, h0⟩ : ∃ y, DataW.trod enc Try.prog W 0 (fun _ => true) true m 22 (([a0].drop 0).take (Try.prog.cellsOf 22)) = some y := hf 0 _ rfl
  have k0 : Try.prog.cellsOf 22 = 1 := by kernel_rfl
  rw [k0] at h0; simp only [List.drop_zero, List.drop_succ_cons, List.take_succ_cons, List.take_zero] at h0
  obtain ⟨d0, A0, n0, c0, e0, g0, r0⟩ := opens_AgentS H enc W _ _ _ h0
  simp only [List.cons.injEq, and_true] at e0
  subst e0
  exact ⟨⟨d0⟩, A0, n0, c0, rfl, ⟨g0, r0⟩⟩
end
section
open Go.ChangeShapes Go.WideShapes Go.ChangeAt Go.RowKit Go.WideElems
set_option linter.unusedVariables false
theorem own : ownKnob Try.prog.godebug = none := by kernel_rfl
theorem laid : laidOutB Try.prog = true := by kernel_rfl
section
variable {H : Type} {enc : TypeId × Value → H}
theorem trodAll_stays {W W' : World} {sp : Nat → Bool} (hb : Below W.heap.size W W') : ∀ (ts : List TypeId) (vs : List Value) (ds : List (DataW H)) (ps : List MemPlace),
    (∀ t ∈ ts, Try.prog.readableRec t = true ∧ t < Try.prog.types.size) → DataW.TrodAll enc Try.prog W 0 (fun _ => true) true ts vs ds ps →
    (∀ x ∈ ps, x.block < W.heap.size) → (∀ x ∈ ps, sp x.block = true) → DataW.TrodAll enc Try.prog W' 0 sp true ts vs ds ps
  | [], [], [], ps, _, h, _, _ => h
  | t :: ts, v :: vs, d :: ds, ps, hts, h, hlt, hsp => by
    obtain ⟨p, q, h1, h2, rfl⟩ := h
    have ht := hts t (by simp)
    exact ⟨p, q, Trod_stays laid ht.1 ht.2 h1 (fun x hx => hb.same (hlt x (by simp [hx]))) (fun x hx => hsp x (by simp [hx])),
      trodAll_stays hb ts vs ds q (fun t' h' => hts t' (by simp [h'])) h2 (fun x hx => hlt x (by simp [hx])) (fun x hx => hsp x (by simp [hx])), rfl⟩
  | [], _ :: _, _, _, _, h, _, _ => h.elim
  | [], [], _ :: _, _, _, h, _, _ => h.elim
  | _ :: _, [], _, _, _, h, _, _ => h.elim
  | _ :: _, _ :: _, [], _, _, h, _, _ => h.elim
theorem post_law {f : Func} {s : ChangeSpec} {W W' : World} {args : Array Value} {ds : List (DataW H)} {before : List MemPlace}
    (hv : s.vars = []) (hr1 : f.resultTypes = #[4])
    (hp0 : (f.params.toList.all fun t => Try.prog.readableRec t && decide (t < Try.prog.types.size)) = true)
    (hres : (s.fn H (ds ++ [])).results = [.lit (.bool true)]) (hargs : (s.fn H (ds ++ [])).args = ds) (hvars : (s.fn H (ds ++ [])).vars = [])
    (hW : DataW.Whole enc Try.prog f.params.toList s.vars false W args.toList ds [] before)
    (hb : Below W.heap.size W W') :
    s.post enc Try.prog f false true false false W args (.bool true) W' := by
  have hp : ∀ t ∈ f.params.toList, Try.prog.readableRec t = true ∧ t < Try.prog.types.size := fun t ht => by simpa using List.all_eq_true.1 hp0 t ht
  have hlt : ∀ p ∈ before, p.block < W.heap.size := fun p hp => hW.lt p hp
  have hold : ∀ p ∈ before, (fun b => decide (b < W.heap.size)) p.block = true := fun p hp => by simpa using hlt p hp
  have hWh := hW
  obtain ⟨p, q, hA, hV, rfl, hfz, _⟩ := hWh
  rw [hv] at hV
  obtain rfl : q = [] := hV
  rw [List.append_nil] at hlt hold
  have hA' : ∀ sp : Nat → Bool, (∀ x ∈ p, sp x.block = true) → DataW.TrodAll enc Try.prog W' 0 sp true f.params.toList args.toList ds p := fun sp hsp =>
    trodAll_stays hb _ _ _ _ hp hA hlt hsp
  rw [List.append_nil] at hW
  refine ⟨ds, [], p, [], p, [], hW, ?_, ?_, ?_, World.keptBut_mono (fun x hx => ⟨hx, ?_⟩) (hb.frame (· ∈ p)), fun h => by cases h⟩
  · rw [hres, hr1]
    exact trodAll_cons_mk (shut_bool Try.underlying4 _) trodAll_mk0
  · rw [hargs]
    exact hA' _ hold
  · rw [hvars, hv]
    rfl
  · simp [hx]
end
end
end Go.Proofs.Ytebioddcnldjkaa
