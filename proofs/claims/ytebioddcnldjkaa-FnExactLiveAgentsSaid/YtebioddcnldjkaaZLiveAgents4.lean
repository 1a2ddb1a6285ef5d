/- Lemmas of the proof of LiveAgents, part 4. No condition. -/
import Derived.Test.YtebioddcnldjkaaZLiveAgents3
namespace Go.Proofs.Ytebioddcnldjkaa
section
open Go.RowKit
set_option linter.unusedVariables false
set_option linter.unusedSimpArgs false
set_option maxRecDepth 100000
def m_spec_l12Sorted_A1 (xs8 : List Int) : Option (List Int) :=
  some xs8
def m_spec_l12Sorted_A2 (rec1 : List Int → Int → Option (List Int)) (i11 : Int) (xs16 : List Int) : Option (List Int) :=
  ((ck (i11 + 1)).bind fun s18 => (rec1 xs16 s18))
def m_spec_l12Sorted_B2 (rec2 : List Int → Int → Option (List Int)) (K2 : List Int → Option (List Int)) (xs19 : List Int) (i20 : Int) : Option (List Int) :=
  (bif (decide (i20 > 0)) then ((ck (i20 - 1)).bind fun s25 => ((getI xs19 s25).bind fun x28 => ((getI xs19 i20).bind fun x34 => (bif (decide (x28 > x34)) then ((getI xs19 i20).bind fun x42 => ((ck (i20 - 1)).bind fun s47 => ((getI xs19 s47).bind fun x48 => ((getI xs19 i20).bind fun x53 => ((ck (i20 - 1)).bind fun s63 => ((getI (setI xs19 i20 x48) s63).bind fun x64 => ((ck (i20 - 1)).bind fun s74 => (rec2 (setI (setI xs19 i20 x48) s63 x42) s74)))))))) else (K2 xs19))))) else (K2 xs19))
def m_spec_l12Sorted_L2 (K2 : List Int → Option (List Int)) : Nat → List Int → Int → Option (List Int)
  | 0, _, _ => none
  | g + 1, xs19, i20 => m_spec_l12Sorted_B2 (m_spec_l12Sorted_L2 K2 g) K2 xs19 i20
def m_spec_l12Sorted_B1 (rec1 : List Int → Int → Option (List Int)) (K1 : List Int → Option (List Int)) (xs10 : List Int) (i11 : Int) : Option (List Int) :=
  (bif (decide (i11 < (xs10.length : Int))) then (m_spec_l12Sorted_L2 (m_spec_l12Sorted_A2 rec1 i11) (i11.toNat + 2) xs10 i11) else (K1 xs10))
def m_spec_l12Sorted_L1 (K1 : List Int → Option (List Int)) : Nat → List Int → Int → Option (List Int)
  | 0, _, _ => none
  | g + 1, xs10, i11 => m_spec_l12Sorted_B1 (m_spec_l12Sorted_L1 K1 g) K1 xs10 i11
def m_spec_l12Sorted (d0 : List Int) : Option (List Int) :=
  ((m_spec_l00Own d0).bind fun y1 => (m_spec_l12Sorted_L1 m_spec_l12Sorted_A1 (y1.length + 1) y1 1))
set_option maxHeartbeats 2000000 in
theorem c_m_spec_l12Sorted (d0 : List Int) (r : List Int) (hm : m_spec_l12Sorted d0 = some r) (v0 : Value) (w : World) (hv0 : Sl intRd 1 w v0 d0) :
    Calls Try.prog 46 #[v0] w fun e w' => (∃ (v0 : Value), e = .returned (v0) ∧ OwF 2 encI 1 w' w.heap.size v0 r) ∧ Below w.heap.size w w' := by
  obtain ⟨Aa0, na0, ca0, rfl, ha0, ra0⟩ := hv0
  have ea0 := ha0.len; subst ea0
  have qa0 := len_le ra0
  have T := Below.refl w.heap.size w
  unfold m_spec_l12Sorted at hm
  refine enter 50 Try.func46 rfl rfl rfl ?_
  intro f hf
  have s0 : f 0 = .slice Aa0 d0.length ca0 := hf 0 _ rfl
  refine wp_seq ?_
  refine wp_rs rfl ?_
  refine RQ.y rfl (Y.assign (v := .slice none 0 0) rfl) ?_
  refine RQ.nil ?_
  refine then_n ?_
  refine wp_seq ?_
  refine wp_rl rfl ?_
  refine RL.y rfl (Y.move (v := .slice Aa0 d0.length ca0) s0) ?_
  obtain ⟨y1, e2, hm⟩ := bnd hm
  refine RL.call rfl (am1 rfl) (by kernel_rfl) ((c_m_spec_l00Own d0 _ e2 _ _ (slArg intRd_ok ha0 ra0 T)).mono ?_)
  rintro _ w6 ⟨⟨v3, rfl, G4⟩, hb7⟩
  refine ⟨_, rfl, ?_⟩
  have szw6 := hb7.size
  have T0w6 := T.size
  have T := Tt T hb7
  replace G4 := OwF.mono G4 T0w6
  refine RL.y rfl (Y.assign (v := v3) rfl) ?_
  refine RL.nil ?_
  refine then_n ?_
  refine wp_seq ?_
  refine wp_seq ?_
  refine wp_rs rfl ?_
  refine RQ.y rfl (Y.assign (v := .int .i64 1) rfl) ?_
  refine RQ.nil ?_
  refine then_n ?_
  refine wp_block ?_
  obtain ⟨K1, hK1, hm⟩ : ∃ K, K = m_spec_l12Sorted_A1 ∧ m_spec_l12Sorted_L1 K (y1.length + 1) y1 1 = some r := ⟨_, rfl, hm⟩
  refine wp_loopX (fun g f w' => ∃ (xs10 : List Int) (i11 : Int) (uxs10 : Value), f 3 = uxs10 ∧ OwF 2 encI 1 w' w.heap.size uxs10 xs10 ∧ f 4 = .int .i64 i11 ∧ 0 ≤ i11 ∧ Below w.heap.size w w' ∧ m_spec_l12Sorted_L1 K1 g xs10 i11 = some r) 0 (fun f w' => ∃ (xs8 : List Int) (uxs8 : Value), f 3 = uxs8 ∧ OwF 2 encI 1 w' w.heap.size uxs8 xs8 ∧ Below w.heap.size w w' ∧ m_spec_l12Sorted_A1 xs8 = some r) (y1.length + 1) ⟨y1, 1, (v3), rfl, G4, rfl, (by omega), T, hm⟩ ?_ ?_
  · rintro f w9 ⟨xs8, uxs8, s3_1x, Guxs8, T, hm⟩
    unfold m_spec_l12Sorted_A1 at hm
    refine blk_hit (then_n ?_)
    refine wp_seq ?_
    refine wp_rs rfl ?_
    refine RQ.y rfl (Y.move (v := uxs8) s3_1x) ?_
    refine RQ.y rfl (Y.assign (v := uxs8) rfl) ?_
    refine RQ.nil ?_
    refine then_n ?_
    refine wp_ret ?_
    obtain rfl := Option.some.inj hm
    exact (ret1 rfl rfl rfl ⟨⟨_, rfl, Guxs8⟩, T⟩)
  · rintro g f w12 ⟨xs10, i11, uxs10, s3_1, Guxs10, s4_1, nn4_1, T, hm⟩
    rcases g with _ | g
    · simp only [m_spec_l12Sorted_L1] at hm; cases hm
    obtain ⟨rec1, hrec1, hm⟩ : ∃ z, z = m_spec_l12Sorted_L1 K1 g ∧ m_spec_l12Sorted_B1 z K1 xs10 i11 = some r := ⟨_, rfl, hm⟩
    unfold m_spec_l12Sorted_B1 at hm
    refine wp_seq ?_
    refine wp_seq ?_
    refine wp_rs rfl ?_
    refine RQ.y rfl (Y.move (v := .int .i64 i11) s4_1) ?_
    refine RQ.y rfl (Y.move (v := uxs10) s3_1) ?_
    obtain ⟨A13, c14, rfl⟩ := OwF.form Guxs10
    have qbA13 := OwF.bound Guxs10
    refine RQ.y rfl (Y.len (by kernel_rfl) rfl) ?_
    refine RQ.y rfl (Y.binI (v := .bool (decide (i11 < (xs10.length : Int)))) rfl rfl rfl) ?_
    refine RQ.nil ?_
    refine then_n ?_
    rcases bcases (decide (i11 < (xs10.length : Int))) with c15 | c15
    · replace hm := cF c15 hm
      have pc15 := of_decide_eq_false c15
      refine cond_f rfl (vb rfl c15) ?_
      refine wp_exit ?_
      exact (then_x (then_x (hit_x ⟨_, rfl, ⟨xs10, (.slice A13 xs10.length c14), s3_1, Guxs10, T, (by rw [hK1] at hm; exact hm)⟩⟩)))
    · replace hm := cT c15 hm
      have pc15 := of_decide_eq_true c15
      refine cond_t rfl (vb rfl c15) ?_
      refine wp_skip ?_
      refine then_n ?_
      refine wp_seq ?_
      refine wp_block ?_
      refine wp_seq ?_
      refine wp_rs rfl ?_
      refine RQ.y rfl (Y.move (v := .int .i64 i11) s4_1) ?_
      refine RQ.y rfl (Y.assign (v := .int .i64 i11) rfl) ?_
      refine RQ.nil ?_
      refine then_n ?_
      refine wp_block ?_
      obtain ⟨K2, hK2, hm⟩ : ∃ K, K = (m_spec_l12Sorted_A2 rec1 i11) ∧ m_spec_l12Sorted_L2 K (i11.toNat + 2) xs10 i11 = some r := ⟨_, rfl, hm⟩
      refine wp_loopX (fun g f w' => ∃ (xs19 : List Int) (i20 : Int) (uxs19 : Value), f 4 = .int .i64 i11 ∧ f 3 = uxs19 ∧ OwF 2 encI 1 w' w.heap.size uxs19 xs19 ∧ f 5 = .int .i64 i20 ∧ Below w.heap.size w w' ∧ m_spec_l12Sorted_L2 K2 g xs19 i20 = some r) 2 (fun f w' => ∃ (xs16 : List Int) (uxs16 : Value), f 4 = .int .i64 i11 ∧ f 3 = uxs16 ∧ OwF 2 encI 1 w' w.heap.size uxs16 xs16 ∧ Below w.heap.size w w' ∧ m_spec_l12Sorted_A2 rec1 i11 xs16 = some r) (i11.toNat + 2) ⟨xs10, i11, (.slice A13 xs10.length c14), s4_1, s3_1, Guxs10, rfl, T, hm⟩ ?_ ?_
      · rintro f w17 ⟨xs16, uxs16, s4_2x, s3_2x, Guxs16, T, hm⟩
        unfold m_spec_l12Sorted_A2 at hm
        refine blk_hit (blk_n (then_n ?_))
        refine wp_rs rfl ?_
        refine RQ.y rfl (Y.move (v := .int .i64 i11) s4_2x) ?_
        obtain ⟨s18, ks18, hm⟩ := bnd hm
        replace ks18 := ck_some ks18
        refine RQ.y rfl (Y.binI (v := .int .i64 s18) rfl rfl (by rw [binI_add ks18.2, ks18.1])) ?_
        refine RQ.y rfl (Y.assign (v := .int .i64 s18) rfl) ?_
        refine RQ.nil ?_
        exact (then_n ⟨g, _, Nat.lt_succ_self _, rfl, ⟨xs16, s18, (uxs16), s3_2x, Guxs16, rfl, (by omega), T, (by rw [← hrec1]; exact hm)⟩⟩)
      · rintro g f w21 ⟨xs19, i20, uxs19, s4_2, s3_2, Guxs19, s5_2, T, hm⟩
        rcases g with _ | g
        · simp only [m_spec_l12Sorted_L2] at hm; cases hm
        obtain ⟨rec2, hrec2, hm⟩ : ∃ z, z = m_spec_l12Sorted_L2 K2 g ∧ m_spec_l12Sorted_B2 z K2 xs19 i20 = some r := ⟨_, rfl, hm⟩
        unfold m_spec_l12Sorted_B2 at hm
        refine wp_seq ?_
        refine wp_seq ?_
        refine wp_rbd (by kernel_rfl) (by kernel_rfl) ?_
        refine RQ.y rfl (Y.move (v := .int .i64 i20) s5_2) ?_
        refine RQ.y rfl (Y.binI (v := .bool (decide (i20 > 0))) rfl rfl rfl) ?_
        refine RQ.y rfl (Y.move (v := .bool (decide (i20 > 0))) rfl) ?_
        rcases bcases (decide (i20 > 0)) with c22 | c22
        · replace hm := cF c22 hm
          have pc22 := of_decide_eq_false c22
          refine RQ.skip (wantN (dj := 18) rfl (vb rfl c22) rfl) ?_
          refine RQ.skip (wantN (dj := 18) rfl (vb rfl c22) rfl) ?_
          refine RQ.skip (wantN (dj := 18) rfl (vb rfl c22) rfl) ?_
          refine RQ.skip (wantN (dj := 18) rfl (vb rfl c22) rfl) ?_
          refine RQ.skip (wantN (dj := 18) rfl (vb rfl c22) rfl) ?_
          refine RQ.skip (wantN (dj := 18) rfl (vb rfl c22) rfl) ?_
          refine RQ.skip (wantN (dj := 18) rfl (vb rfl c22) rfl) ?_
          refine RQ.skip (wantN (dj := 18) rfl (vb rfl c22) rfl) ?_
          refine RQ.skip (wantN (dj := 18) rfl (vb rfl c22) rfl) ?_
          refine RQ.skip (wantN (dj := 18) rfl (vb rfl c22) rfl) ?_
          refine RQ.y rfl (Y.pick (b := false) (v := .bool false) (vb rfl c22) rfl) ?_
          refine RQ.nil ?_
          intro w23 hb24
          have szw23 := hb24.size
          have Guxs19 := OwF.below Guxs19 hb24
          have T := Tt T hb24
          refine then_n ?_
          refine cond_f rfl rfl ?_
          refine wp_exit ?_
          exact (then_x (then_x (hit_x ⟨_, rfl, ⟨xs19, (uxs19), s4_2, s3_2, Guxs19, T, (by rw [hK2] at hm; exact hm)⟩⟩)))
        · replace hm := cT c22 hm
          have pc22 := of_decide_eq_true c22
          refine RQ.y (wantT (dj := 18) rfl (vb rfl c22)) (Y.move (v := uxs19) s3_2) ?_
          refine RQ.y (wantT (dj := 18) rfl (vb rfl c22)) (Y.move (v := .int .i64 i20) s5_2) ?_
          obtain ⟨s25, ks25, hm⟩ := bnd hm
          replace ks25 := ck_some ks25
          refine RQ.y (wantT (dj := 18) rfl (vb rfl c22)) (Y.binI (v := .int .i64 s25) rfl rfl (by rw [binI_sub ks25.2, ks25.1])) ?_
          obtain ⟨A26, c27, rfl⟩ := OwF.form Guxs19
          have qbA26 := OwF.bound Guxs19
          obtain ⟨x28, hx30, hm⟩ := bnd hm
          obtain ⟨k29, hk31, hl32, hx30⟩ := getI_some hx30
          obtain ⟨b33, rfl⟩ := OwF.addr0 Guxs19 (by omega)
          refine RQ.y (wantT (dj := 18) rfl (vb rfl c22)) (Y.indexAddr (m := k29) (sz := 1) rfl rfl hk31 hl32 (by kernel_rfl)) ?_
          refine RQ.y (wantT (dj := 18) rfl (vb rfl c22)) (Y.load (v := .int .i64 x28) rfl (by kernel_rfl) (beC (OwF.cell fI Guxs19 hx30 (j := 0) rfl))) ?_
          refine RQ.y (wantT (dj := 18) rfl (vb rfl c22)) (Y.move (v := .slice (some ⟨b33, 0, none⟩) xs19.length c27) s3_2) ?_
          refine RQ.y (wantT (dj := 18) rfl (vb rfl c22)) (Y.move (v := .int .i64 i20) s5_2) ?_
          obtain ⟨x34, hx36, hm⟩ := bnd hm
          obtain ⟨k35, hk37, hl38, hx36⟩ := getI_some hx36
          refine RQ.y (wantT (dj := 18) rfl (vb rfl c22)) (Y.indexAddr (m := k35) (sz := 1) rfl rfl hk37 hl38 (by kernel_rfl)) ?_
          refine RQ.y (wantT (dj := 18) rfl (vb rfl c22)) (Y.load (v := .int .i64 x34) rfl (by kernel_rfl) (beC (OwF.cell fI Guxs19 hx36 (j := 0) rfl))) ?_
          refine RQ.y (wantT (dj := 18) rfl (vb rfl c22)) (Y.binI (v := .bool (decide (x28 > x34))) rfl rfl rfl) ?_
          refine RQ.y rfl (Y.pick (b := true) (v := .bool (decide (x28 > x34))) (vb rfl c22) rfl) ?_
          refine RQ.nil ?_
          intro w39 hb40
          have szw39 := hb40.size
          have Guxs19 := OwF.below Guxs19 hb40
          have T := Tt T hb40
          refine then_n ?_
          rcases bcases (decide (x28 > x34)) with c41 | c41
          · replace hm := cF c41 hm
            have pc41 := of_decide_eq_false c41
            refine cond_f rfl (vb rfl c41) ?_
            refine wp_exit ?_
            exact (then_x (then_x (hit_x ⟨_, rfl, ⟨xs19, (.slice (some ⟨b33, 0, none⟩) xs19.length c27), s4_2, s3_2, Guxs19, T, (by rw [hK2] at hm; exact hm)⟩⟩)))
          · replace hm := cT c41 hm
            have pc41 := of_decide_eq_true c41
            refine cond_t rfl (vb rfl c41) ?_
            refine wp_skip ?_
            refine then_n ?_
            refine wp_seq ?_
            refine wp_block ?_
            refine wp_seq ?_
            refine wp_rs rfl ?_
            refine RQ.y rfl (Y.move (v := .slice (some ⟨b33, 0, none⟩) xs19.length c27) s3_2) ?_
            refine RQ.y rfl (Y.move (v := .int .i64 i20) s5_2) ?_
            obtain ⟨x42, hx44, hm⟩ := bnd hm
            obtain ⟨k43, hk45, hl46, hx44⟩ := getI_some hx44
            refine RQ.y rfl (Y.indexAddr (m := k43) (sz := 1) rfl rfl hk45 hl46 (by kernel_rfl)) ?_
            refine RQ.y rfl (Y.load (v := .int .i64 x42) rfl (by kernel_rfl) (eqC (OwF.cell fI Guxs19 hx44 (j := 0) rfl))) ?_
            refine RQ.y rfl (Y.assign (v := .int .i64 x42) rfl) ?_
            refine RQ.nil ?_
            refine then_n ?_
            refine wp_seq ?_
            refine wp_rl rfl ?_
            refine RL.y rfl (Y.move (v := .slice (some ⟨b33, 0, none⟩) xs19.length c27) s3_2) ?_
            refine RL.y rfl (Y.move (v := .int .i64 i20) s5_2) ?_
            refine RL.y rfl (Y.move (v := .slice (some ⟨b33, 0, none⟩) xs19.length c27) s3_2) ?_
            refine RL.y rfl (Y.move (v := .int .i64 i20) s5_2) ?_
            obtain ⟨s47, ks47, hm⟩ := bnd hm
            replace ks47 := ck_some ks47
            refine RL.y rfl (Y.binI (v := .int .i64 s47) rfl rfl (by rw [binI_sub ks47.2, ks47.1])) ?_
            obtain ⟨x48, hx50, hm⟩ := bnd hm
            obtain ⟨k49, hk51, hl52, hx50⟩ := getI_some hx50
            refine RL.y rfl (Y.indexAddr (m := k49) (sz := 1) rfl rfl hk51 hl52 (by kernel_rfl)) ?_
            refine RL.y rfl (Y.load (v := .int .i64 x48) rfl (by kernel_rfl) (eqC (OwF.cell fI Guxs19 hx50 (j := 0) rfl))) ?_
            obtain ⟨x53, hx55, hm⟩ := bnd hm
            obtain ⟨k54, hk56, hl57, hx55⟩ := getI_some hx55
            refine RL.y rfl (Y.indexAddr (m := k54) (sz := 1) rfl rfl hk56 hl57 (by kernel_rfl)) ?_
            refine RL.storeF (k := k54) (a := x48) fI rfl rfl rfl Guxs19 hl57 rfl (by kernel_rfl) (fun w58 G59 ho60 => ?_)
            have szw58 := ho60.size
            have T := T.trans (ho60.below (by intro b hb; simp at hb; subst hb; exact OwF.lo_ Guxs19 _ rfl))
            have G59 : OwF 2 encI 1 w58 w.heap.size (.slice (some ⟨b33, 0, none⟩) xs19.length c27) (setI xs19 i20 x48) := by rw [hk56, setI_nat]; exact G59
            have hx61 : (setI xs19 i20 x48)[k54]? = some x48 := setI_at hk56 hl57
            have hl62 := lt_of_some hx61
            refine RL.nil ?_
            refine then_n ?_
            refine wp_rl rfl ?_
            refine RL.y rfl (Y.move (v := .slice (some ⟨b33, 0, none⟩) xs19.length c27) s3_2) ?_
            refine RL.y rfl (Y.move (v := .int .i64 i20) s5_2) ?_
            obtain ⟨s63, ks63, hm⟩ := bnd hm
            replace ks63 := ck_some ks63
            refine RL.y rfl (Y.binI (v := .int .i64 s63) rfl rfl (by rw [binI_sub ks63.2, ks63.1])) ?_
            refine RL.y rfl (Y.move (v := .int .i64 x42) rfl) ?_
            obtain ⟨x64, hx66, hm⟩ := bnd hm
            obtain ⟨k65, hk67, hl68, hx66⟩ := getI_some hx66
            refine RL.y rfl (Y.indexAddr (m := k65) (sz := 1) rfl rfl hk67 (by simpa [setI] using hl68) (by kernel_rfl)) ?_
            refine RL.storeF (k := k65) (a := x42) fI rfl rfl rfl G59 hl68 rfl (by kernel_rfl) (fun w69 G70 ho71 => ?_)
            have szw69 := ho71.size
            have T := T.trans (ho71.below (by intro b hb; simp at hb; subst hb; exact OwF.lo_ G59 _ rfl))
            have G70 : OwF 2 encI 1 w69 w.heap.size (.slice (some ⟨b33, 0, none⟩) xs19.length c27) (setI (setI xs19 i20 x48) s63 x42) := by rw [hk67, setI_nat]; exact G70
            have hx72 : (setI (setI xs19 i20 x48) s63 x42)[k65]? = some x42 := setI_at hk67 hl68
            have hl73 := lt_of_some hx72
            refine RL.nil ?_
            refine blk_n (then_n ?_)
            refine wp_rs rfl ?_
            refine RQ.y rfl (Y.move (v := .int .i64 i20) s5_2) ?_
            obtain ⟨s74, ks74, hm⟩ := bnd hm
            replace ks74 := ck_some ks74
            refine RQ.y rfl (Y.binI (v := .int .i64 s74) rfl rfl (by rw [binI_sub ks74.2, ks74.1])) ?_
            refine RQ.y rfl (Y.assign (v := .int .i64 s74) rfl) ?_
            refine RQ.nil ?_
            exact (then_n ⟨g, _, Nat.lt_succ_self _, rfl, ⟨(setI (setI xs19 i20 x48) s63 x42), s74, (.slice (some ⟨b33, 0, none⟩) xs19.length c27), s4_2, s3_2, G70, rfl, T, (by rw [← hrec2]; exact hm)⟩⟩)
def m_spec_LiveAgents (d0 : DNet) : Option ((List Int) × Int) :=
  ((m_spec_l11Ok d0).bind fun y6 => (bif y6 then ((m_spec_l12Traverse d0 0).bind fun y17 => ((m_spec_l12Sorted y17.1).bind fun y27 => some (y27, 0))) else some (([] : List Int), 1)))
set_option maxHeartbeats 2000000 in
theorem c_m_spec_LiveAgents (d0 : DNet) (r : (List Int) × Int) (hm : m_spec_LiveAgents d0 = some r) (v0 : Value) (w : World) (hv0 : St netRd w v0 d0) :
    Calls Try.prog 18 #[v0] w fun e w' => (∃ (v0 : Value), e = .returned (.tuple #[v0, .int .i64 r.2]) ∧ OwF 2 encI 1 w' w.heap.size v0 r.1) ∧ Below w.heap.size w w' := by
  obtain ⟨csa0, rfl, ⟨A1, n1, c1, rfl, ⟨h1, r1⟩⟩⟩ := hv0
  have e1 := h1.len; subst e1
  have q1 := len_le r1
  have T := Below.refl w.heap.size w
  unfold m_spec_LiveAgents at hm
  refine enter 15 Try.func18 rfl rfl rfl ?_
  intro f hf
  have s0 : f 0 = .agg #[.slice A1 d0.agents.length c1] := hf 0 _ rfl
  refine wp_seq ?_
  refine wp_rl rfl ?_
  refine RL.box rfl s0 (fun w2 B3 hb4 szw2 => ?_)
  replace B3 : Blk w2 w.heap.size 33 #[.slice A1 d0.agents.length c1] := B3
  have GB3 : w.heap.size ≤ w.heap.size := T.size
  have T := Tt T hb4
  refine RL.y rfl (Y.assign (v := .slice none 0 0) rfl) ?_
  refine RL.y rfl (Y.assign (v := .int .i64 0) rfl) ?_
  refine RL.nil ?_
  refine then_n ?_
  refine wp_seq ?_
  refine wp_seq ?_
  refine wp_rb rfl ?_
  obtain ⟨y6, e7, hm⟩ := bnd hm
  refine RQ.call rfl (am1 rfl) (by kernel_rfl) (v := .bool y6) (bel (K := fun _ => True) fun w' hb' => (c_m_spec_l11Ok d0 _ e7 _ w' (ptBox (R := netRd) (blkT B3 hb') ⟨_, _, _, rfl, ⟨SlAt.now agentRd_ok h1 (Nat.le_refl _) (Tt T hb'), r1⟩⟩))) ?_
  refine RQ.y rfl (Y.not (b' := (!y6)) rfl rfl) ?_
  refine RQ.nil ?_
  intro w8 hb9
  have szw8 := hb9.size
  have B3 := blkT B3 hb9
  have T := Tt T hb9
  refine then_n ?_
  rcases bcases y6 with c10 | c10
  · replace hm := cF c10 hm
    refine cond_t rfl (vbn rfl c10 rfl) ?_
    refine wp_seq ?_
    refine wp_rl rfl ?_
    refine RL.bslice (e := 2) (cells := #[]) rfl pm0 (by kernel_rfl) (fun w11 B12 hb13 szw11 => ?_)
    have ZB12 : w.heap.size ≤ w8.heap.size := T.size
    have No14_ob5 := litNe (n := 0) (c := 0) B3.lt
    have B3 := blkT B3 hb13
    have T := Tt T hb13
    have G15 := OwF.lit (enc := encI) (sz := 1) (xs := ([] : List Int)) B12 ZB12 rfl rfl rfl rfl
    refine RL.y rfl (Y.assign (v := .slice (some ⟨w8.heap.size, 0, none⟩) 0 0) rfl) ?_
    refine RL.y rfl (Y.assign (v := .int .i64 1) rfl) ?_
    refine RL.nil ?_
    refine then_n ?_
    refine wp_ret ?_
    obtain rfl := Option.some.inj hm
    exact (then_r (ret2 rfl rfl rfl rfl ⟨⟨_, rfl, G15⟩, T⟩))
  · replace hm := cT c10 hm
    refine cond_f rfl (vbn rfl c10 rfl) ?_
    refine wp_skip ?_
    refine then_n ?_
    refine wp_seq ?_
    refine wp_rl rfl ?_
    obtain ⟨y17, e18, hm⟩ := bnd hm
    refine RL.call rfl (am2 rfl rfl) (by kernel_rfl) ((c_m_spec_l12Traverse d0 0 _ e18 _ _ (ptBox (R := netRd) B3 ⟨_, _, _, rfl, ⟨SlAt.now agentRd_ok h1 (Nat.le_refl _) T, r1⟩⟩)).mono ?_)
    rintro _ w25 ⟨⟨v19, v22, rfl, G20, G23, Ro21_o24⟩, hb26⟩
    refine ⟨_, rfl, ?_⟩
    have szw25 := hb26.size
    have T0w25 := T.size
    have Zo21_ob5 := ap_ne (Ap.new (OwF.flo G20) (one_hi B3.lt))
    have Zo24_ob5 := ap_ne (Ap.new (OwF.flo G23) (one_hi B3.lt))
    have B3 := blkT B3 hb26
    have T := Tt T hb26
    replace G20 := OwF.mono G20 T0w25
    replace G23 := OwF.mono G23 T0w25
    refine RL.y rfl (Y.move (v := .tuple #[v19, v22]) rfl) ?_
    refine RL.y rfl (Y.extract (i := 0) rfl rfl) ?_
    refine RL.y rfl (Y.extract (i := 1) rfl rfl) ?_
    refine RL.y rfl (Y.assign (v := v19) rfl) ?_
    refine RL.y rfl (Y.assign (v := v22) rfl) ?_
    refine RL.nil ?_
    refine then_n ?_
    refine wp_seq ?_
    refine wp_rl rfl ?_
    refine RL.y rfl (Y.move (v := v19) rfl) ?_
    obtain ⟨y27, e28, hm⟩ := bnd hm
    refine RL.call rfl (am1 rfl) (by kernel_rfl) ((c_m_spec_l12Sorted y17.1 _ e28 _ _ (OwF.arg fI G20)).mono ?_)
    rintro _ w32 ⟨⟨v29, rfl, G30⟩, hb33⟩
    refine ⟨_, rfl, ?_⟩
    have szw32 := hb33.size
    have T0w32 := T.size
    have Zo31_o21 := Ap.dj (Ap.new (OwF.flo G30) (OwF.fhi G20))
    have G20 := OwF.below G20 hb33
    have T := Tt T hb33
    replace G30 := OwF.mono G30 T0w32
    refine RL.y rfl (Y.assign (v := v29) rfl) ?_
    refine RL.y rfl (Y.assign (v := .int .i64 0) rfl) ?_
    refine RL.nil ?_
    refine then_n ?_
    refine wp_ret ?_
    obtain rfl := Option.some.inj hm
    exact (ret2 rfl rfl rfl rfl ⟨⟨_, rfl, G30⟩, T⟩)
def m_impl_Net_liveAgents (d0 : DNet) : Option (List Int) :=
  ((m_impl_Net_traverse d0 0).bind fun y2 => ((mustP (y2.length ≤ 4294967296)).bind fun _ => some (srt y2)))
set_option maxHeartbeats 2000000 in
theorem c_m_impl_Net_liveAgents (d0 : DNet) (r : List Int) (hm : m_impl_Net_liveAgents d0 = some r) (v0 : Value) (w : World) (hv0 : Pt netRd w v0 d0) :
    Calls Try.prog 47 #[v0] w fun e w' => (∃ (v0 : Value), e = .returned (v0) ∧ OwF 2 encI 1 w' w.heap.size v0 r) ∧ Below w.heap.size w w' := by
  obtain ⟨ba0, oa0, csa0, rfl, hba0, hRa0, hca0⟩ := hv0
  have hSa0 := hRa0
  obtain ⟨A1, n1, c1, rfl, ⟨h1, r1⟩⟩ := hRa0
  have e1 := h1.len; subst e1
  have q1 := len_le r1
  have T := Below.refl w.heap.size w
  unfold m_impl_Net_liveAgents at hm
  refine enter 9 Try.func47 rfl rfl rfl ?_
  intro f hf
  have s0 : f 0 = .pointer (some ⟨ba0, oa0, none⟩) := hf 0 _ rfl
  refine wp_seq ?_
  refine wp_rs rfl ?_
  refine RQ.y rfl (Y.assign (v := .slice none 0 0) rfl) ?_
  refine RQ.nil ?_
  refine then_n ?_
  refine wp_seq ?_
  refine wp_rl rfl ?_
  refine RL.y rfl (Y.move (v := .pointer (some ⟨ba0, oa0, none⟩)) s0) ?_
  obtain ⟨y2, e3, hm⟩ := bnd hm
  refine RL.call rfl (am2 rfl rfl) (by kernel_rfl) ((c_m_impl_Net_traverse d0 0 _ e3 _ _ (ptArg netRd_ok hba0 hSa0 hca0 T)).mono ?_)
  rintro _ w7 ⟨⟨v4, rfl, G5⟩, hb8⟩
  refine ⟨_, rfl, ?_⟩
  have szw7 := hb8.size
  have T0w7 := T.size
  have T := Tt T hb8
  replace G5 := OwF.mono G5 T0w7
  refine RL.y rfl (Y.assign (v := v4) rfl) ?_
  refine RL.nil ?_
  refine then_n ?_
  refine wp_seq ?_
  refine wp_rl rfl ?_
  refine RL.y rfl (Y.move (v := v4) rfl) ?_
  obtain ⟨_, m9, hm⟩ := bnd hm
  have hk10 := mustP_some m9
  refine RL.call rfl (am1 rfl) (by kernel_rfl) ((sort_own G5 T.size hk10).mono ?_)
  rintro _ w11 ⟨rfl, G12, hgr13, hbl14⟩
  refine ⟨_, rfl, ?_⟩
  have szw11 := hbl14.size
  have T := T.trans hbl14
  refine RL.nil ?_
  refine then_n ?_
  refine wp_seq ?_
  refine wp_rs rfl ?_
  refine RQ.y rfl (Y.move (v := v4) rfl) ?_
  refine RQ.y rfl (Y.assign (v := v4) rfl) ?_
  refine RQ.nil ?_
  refine then_n ?_
  refine wp_ret ?_
  obtain rfl := Option.some.inj hm
  exact (ret1 rfl rfl rfl ⟨⟨_, rfl, G12⟩, T⟩)
def m_impl_LiveAgents (d0 : DNet) : Option ((List Int) × Int) :=
  ((m_impl_ValidNet d0).bind fun y6 => (bif y6 then ((m_impl_Net_liveAgents d0).bind fun y11 => some (y11, 0)) else some ([], 1)))
set_option maxHeartbeats 2000000 in
theorem c_m_impl_LiveAgents (d0 : DNet) (r : (List Int) × Int) (hm : m_impl_LiveAgents d0 = some r) (v0 : Value) (w : World) (hv0 : St netRd w v0 d0) :
    Calls Try.prog 19 #[v0] w fun e w' => (∃ (v0 : Value), e = .returned (.tuple #[v0, .int .i64 r.2]) ∧ OwF 2 encI 1 w' w.heap.size v0 r.1) ∧ Below w.heap.size w w' := by
  obtain ⟨csa0, rfl, ⟨A1, n1, c1, rfl, ⟨h1, r1⟩⟩⟩ := hv0
  have e1 := h1.len; subst e1
  have q1 := len_le r1
  have T := Below.refl w.heap.size w
  unfold m_impl_LiveAgents at hm
  refine enter 8 Try.func19 rfl rfl rfl ?_
  intro f hf
  have s0 : f 0 = .agg #[.slice A1 d0.agents.length c1] := hf 0 _ rfl
  refine wp_seq ?_
  refine wp_rl rfl ?_
  refine RL.box rfl s0 (fun w2 B3 hb4 szw2 => ?_)
  replace B3 : Blk w2 w.heap.size 33 #[.slice A1 d0.agents.length c1] := B3
  have GB3 : w.heap.size ≤ w.heap.size := T.size
  have T := Tt T hb4
  refine RL.y rfl (Y.assign (v := .slice none 0 0) rfl) ?_
  refine RL.y rfl (Y.assign (v := .int .i64 0) rfl) ?_
  refine RL.nil ?_
  refine then_n ?_
  refine wp_seq ?_
  refine wp_seq ?_
  refine wp_rb rfl ?_
  refine RQ.y rfl (Y.loadN (cs := [.slice A1 d0.agents.length c1]) rfl (by kernel_rfl) (cells1 (beC (blkCell B3 (i := 0) rfl)))) ?_
  obtain ⟨y6, e7, hm⟩ := bnd hm
  refine RQ.call rfl (am1 rfl) (by kernel_rfl) (v := .bool y6) (bel (K := fun _ => True) fun w' hb' => (c_m_impl_ValidNet d0 _ e7 _ w' (stArg (R := netRd) ⟨_, _, _, rfl, ⟨SlAt.now agentRd_ok h1 (Nat.le_refl _) (Tt T hb'), r1⟩⟩))) ?_
  refine RQ.y rfl (Y.not (b' := (!y6)) rfl rfl) ?_
  refine RQ.nil ?_
  intro w8 hb9
  have szw8 := hb9.size
  have B3 := blkT B3 hb9
  have T := Tt T hb9
  refine then_n ?_
  rcases bcases y6 with c10 | c10
  · replace hm := cF c10 hm
    refine cond_t rfl (vbn rfl c10 rfl) ?_
    refine wp_seq ?_
    refine wp_rs rfl ?_
    refine RQ.y rfl (Y.assign (v := .slice none 0 0) rfl) ?_
    refine RQ.y rfl (Y.assign (v := .int .i64 1) rfl) ?_
    refine RQ.nil ?_
    refine then_n ?_
    refine wp_ret ?_
    obtain rfl := Option.some.inj hm
    exact (then_r (ret2 rfl rfl rfl rfl ⟨⟨_, rfl, OwF.nil⟩, T⟩))
  · replace hm := cT c10 hm
    refine cond_f rfl (vbn rfl c10 rfl) ?_
    refine wp_skip ?_
    refine then_n ?_
    refine wp_seq ?_
    refine wp_rl rfl ?_
    obtain ⟨y11, e12, hm⟩ := bnd hm
    refine RL.call rfl (am1 rfl) (by kernel_rfl) ((c_m_impl_Net_liveAgents d0 _ e12 _ _ (ptBox (R := netRd) B3 ⟨_, _, _, rfl, ⟨SlAt.now agentRd_ok h1 (Nat.le_refl _) T, r1⟩⟩)).mono ?_)
    rintro _ w16 ⟨⟨v13, rfl, G14⟩, hb17⟩
    refine ⟨_, rfl, ?_⟩
    have szw16 := hb17.size
    have T0w16 := T.size
    have Zo15_ob5 := ap_ne (Ap.new (OwF.flo G14) (one_hi B3.lt))
    have B3 := blkT B3 hb17
    have T := Tt T hb17
    replace G14 := OwF.mono G14 T0w16
    refine RL.y rfl (Y.assign (v := v13) rfl) ?_
    refine RL.y rfl (Y.assign (v := .int .i64 0) rfl) ?_
    refine RL.nil ?_
    refine then_n ?_
    refine wp_ret ?_
    obtain rfl := Option.some.inj hm
    exact (ret2 rfl rfl rfl rfl ⟨⟨_, rfl, G14⟩, T⟩)
end
section
open Go.RowKit
set_option linter.unusedVariables false
set_option linter.unusedSimpArgs false
theorem insR_app (x : Int) : ∀ (P Q R : List Int), insR x P (Q ++ R) = insR x P Q ++ R
  | [], Q, R => by simp [insR]
  | p :: P, Q, R => by
    unfold insR
    split
    · rw [← List.cons_append]; exact insR_app x P (p :: Q) R
    · simp
theorem sort_inner (K2 : List Int → Option (List Int)) : ∀ (P Q : List Int) (x : Int) (g : Nat), P.length < g → P.length ≤ 4294967296 → m_spec_l12Sorted_L2 K2 g (P.reverse ++ x :: Q) (P.length : Int) = K2 (insR x P Q)
  | [], Q, x, g + 1, _, _ => by
    simp -implicitDefEqProofs only [m_spec_l12Sorted_L2, m_spec_l12Sorted_B2, insR]
    rw [show decide (((([] : List Int).length : Nat) : Int) > 0) = false from rfl, cond_false]
    rfl
  | p :: P, Q, x, g + 1, hg, hP => by
    simp only [List.length_cons] at hg hP
    have e1 : ((p :: P).reverse ++ x :: Q)[P.length]? = some p := by
      rw [List.getElem?_append_left (by simp), List.getElem?_reverse (by simp)]; simp
    have e2 : ((p :: P).reverse ++ x :: Q)[P.length + 1]? = some x := by
      rw [List.getElem?_append_right (by simp)]; simp
    have hk : (((p :: P).length : Nat) : Int) = ((P.length + 1 : Nat) : Int) := by simp
    have hc : ck (((P.length + 1 : Nat) : Int) - 1) = some ((P.length : Nat) : Int) := by
      rw [show ((P.length + 1 : Nat) : Int) - 1 = (P.length : Int) by omega]; exact ck_ok (by omega)
    rw [hk]
    have ih := sort_inner K2 P (p :: Q) x g (by omega) (by omega)
    simp -implicitDefEqProofs only [m_spec_l12Sorted_L2, m_spec_l12Sorted_B2]
    rw [show decide (((P.length + 1 : Nat) : Int) > 0) = true from decide_eq_true (by omega), cond_true, hc]
    simp -implicitDefEqProofs only [Option.bind_some, getI_nat e1, getI_nat e2]
    by_cases h : p > x
    · rw [decide_eq_true h, cond_true]
      rw [setI_nat]
      have e3 : (((p :: P).reverse ++ x :: Q).set (P.length + 1) p)[P.length]? = some p := by
        rw [List.getElem?_set]; rw [if_neg (by omega)]; exact e1
      simp -implicitDefEqProofs only [getI_nat e3, Option.bind_some]
      rw [setI_nat]
      have e4 : (((p :: P).reverse ++ x :: Q).set (P.length + 1) p).set P.length x = P.reverse ++ x :: (p :: Q) := by
        rw [List.reverse_cons, List.append_assoc, List.singleton_append, List.set_append_right _ _ (by simp), List.set_append_right _ _ (by simp)]
        simp
      rw [e4]
      rw [show insR x (p :: P) Q = insR x P (p :: Q) by rw [insR, if_pos h]]
      exact ih
    · rw [decide_eq_false h, cond_false]
      rw [show insR x (p :: P) Q = (p :: P).reverse ++ (x :: Q) by rw [insR, if_neg h]]
theorem p_sSorted (l : List Int) (hl : l.length ≤ 4294967296) : m_spec_l12Sorted l = some (srt l) := by
  unfold m_spec_l12Sorted m_spec_l00Own
  rw [mustP_ok (by simpa using hl), Option.bind_some, Option.bind_some, List.nil_append]
  cases hn : l.length with
  | zero =>
    have h0 : l = [] := List.eq_nil_of_length_eq_zero hn
    subst h0
    simp -implicitDefEqProofs only [m_spec_l12Sorted_L1, m_spec_l12Sorted_B1]
    rw [show decide ((1 : Int) < ((([] : List Int).length : Nat) : Int)) = false from rfl, cond_false]
    unfold m_spec_l12Sorted_A1
    rw [show srt [] = [] from List.eq_nil_of_length_eq_zero (srt_len [])]
  | succ n =>
    have h1 : insK l 1 ++ l.drop 1 = l := by
      cases l with
      | nil => simp at hn
      | cons a l => rfl
    have k1 := traj (L := fun g (s : List Int × Int) => m_spec_l12Sorted_L1 m_spec_l12Sorted_A1 g s.1 s.2) (st := fun k => (insK l (k + 1) ++ l.drop (k + 1), ((k + 1 : Nat) : Int))) (n := n) (r := some (srt l))
      (fun g k hk => by
        have hx := List.getElem?_eq_getElem (show k + 1 < l.length by omega)
        have hlen := insK_len l (k + 1) (by omega)
        have hd : l.drop (k + 1) = l[k + 1] :: l.drop (k + 2) := List.drop_eq_getElem_cons (by omega)
        have hi := sort_inner (m_spec_l12Sorted_A2 (m_spec_l12Sorted_L1 m_spec_l12Sorted_A1 g) ((k + 1 : Nat) : Int)) (insK l (k + 1)).reverse (l.drop (k + 2)) l[k + 1] (((k + 1 : Nat) : Int).toNat + 2) (by rw [List.length_reverse, hlen]; omega) (by rw [List.length_reverse, hlen]; omega)
        rw [List.length_reverse, hlen, List.reverse_reverse, ← hd] at hi
        have hg : insK l (k + 2) = insR l[k + 1] (insK l (k + 1)).reverse [] := by
          rw [insK, List.getD_eq_getElem?_getD, hx]; rfl
        have hR := insR_app l[k + 1] (insK l (k + 1)).reverse [] (l.drop (k + 2))
        rw [List.nil_append, ← hg] at hR
        simp -implicitDefEqProofs only [m_spec_l12Sorted_L1, m_spec_l12Sorted_B1]
        rw [show decide (((k + 1 : Nat) : Int) < ((insK l (k + 1) ++ l.drop (k + 1)).length : Int)) = true by rw [List.length_append, hlen, List.length_drop]; simp; omega, cond_true, hi, hR]
        unfold m_spec_l12Sorted_A2
        rw [ck_ok (by omega), Option.bind_some]
        rw [show ((k + 1 : Nat) : Int) + 1 = ((k + 1 + 1 : Nat) : Int) by omega])
      (fun g => by
        have hlen := insK_len l (n + 1) (by omega)
        have hd : l.drop (n + 1) = [] := List.drop_eq_nil_of_le (by omega)
        simp -implicitDefEqProofs only [m_spec_l12Sorted_L1, m_spec_l12Sorted_B1]
        rw [hd, List.append_nil, hlen]
        rw [dge, cond_false]
        unfold m_spec_l12Sorted_A1
        rw [← hn, insK_all]) (n + 1 + 1) (by omega)
    simp only [h1] at k1
    exact k1
theorem GL.srt {n : Nat} {l : List Int} (h : GL n l) : GL n (srt l) := ⟨(srt_perm l).nodup_iff.2 h.nd, fun a ha => h.inr a (srt_mem.1 ha)⟩
def liveL (xs : List DAgent) : List Int := srt (tr xs 0 xs.length)
theorem Good.live {xs : List DAgent} (G : Good xs) : GL xs.length (liveL xs) := GL.srt (tr_ok G (Int.le_refl 0) (by have := G.one; omega) _)
noncomputable def liveAgents (d : DNet) : List Int × Int := bif validNet d then (liveL d.agents, 0) else ([], 1)
theorem p_sLiveAgents (d : DNet) (hs : Small d.agents) : m_spec_LiveAgents d = some (liveAgents d) := by
  unfold m_spec_LiveAgents liveAgents
  rw [p_ok _ hs, Option.bind_some]
  cases hv : validNet d with
  | false => rfl
  | true =>
    obtain ⟨xs⟩ := d
    have G : Good xs := good hv
    have h1 : 1 ≤ xs.length := G.one
    have hl : (tr xs 0 xs.length).length ≤ xs.length := (tr_ok G (Int.le_refl 0) (by omega) xs.length).len
    have h6 : xs.length ≤ 600 := G.len
    rw [cond_true, cond_true, p_sTraverse G (Int.le_refl 0) (by omega), Option.bind_some, p_sSorted _ (by show (tr xs 0 xs.length).length ≤ _; omega), Option.bind_some]
    rfl
theorem p_iLive {xs : List DAgent} (G : Good xs) : m_impl_Net_liveAgents ⟨xs⟩ = some (liveL xs) := by
  have h1 := G.one
  have hl := (tr_ok G (Int.le_refl 0) (by omega) xs.length).len
  have h6 := G.len
  unfold m_impl_Net_liveAgents
  rw [p_iTraverse G (Int.le_refl 0) (by omega), Option.bind_some, mustP_ok (by omega), Option.bind_some]
  rfl
theorem p_iLiveAgents (d : DNet) (hs : Small d.agents) : m_impl_LiveAgents d = some (liveAgents d) := by
  unfold m_impl_LiveAgents liveAgents
  rw [p_valid _ hs, Option.bind_some]
  cases hv : validNet d with
  | false => rfl
  | true =>
    obtain ⟨xs⟩ := d
    rw [cond_true, cond_true, p_iLive (good hv), Option.bind_some]
theorem liveAgents_len (d : DNet) (hs : szNet d ≤ 1048576) : lenOk (liveAgents d).1 := by
  unfold liveAgents lenOk
  cases hv : validNet d with
  | false => simp
  | true =>
    have G := good hv
    have := G.live.len
    have := G.len
    simp only [cond_true]
    omega
end
section
open Go.RowKit
set_option linter.unusedVariables false
def marksF {α : Type} (f : Nat → α) (s k n : Nat) : List α := (List.range n).map fun i => f (k + s * i)
theorem marksF_len {α : Type} (f : Nat → α) (s k n : Nat) : (marksF f s k n).length = n := by simp [marksF]
theorem marksF_succ {α : Type} (f : Nat → α) (s k n : Nat) : marksF f s k (n + 1) = marksF f s k n ++ [f (k + s * n)] := by simp [marksF, List.range_succ]
def mkPort (k : Nat) : DPort := (⟨(k : Int), (k : Int) + 1⟩ : DPort)
theorem mkPort_cells (k0 k : Nat) : [Value.int .i64 (mkPort (k0 + 2 * k)).agent, Value.int .i64 (mkPort (k0 + 2 * k)).slot] = [.int .i64 ((k0 : Int) + 2 * k), .int .i64 ((k0 : Int) + 2 * k + 1)] := by simp [mkPort]
set_option maxHeartbeats 2000000 in
theorem markPortS_c (A : Option Addr) (n c k0 : Nat) (xs : List DPort) (bs : List Nat) (w : World) (hx : OwAt portOw 2 w A n xs bs) (hnd : bs.Nodup) (hn : n ≤ 4294967296) (hk0 : k0 ≤ 4611686018427387904) :
    Calls Try.prog 76 #[.slice A n c, .int .i64 k0] w fun e w' => e = .returned (.int .i64 ((k0 + 2 * n : Nat) : Int)) ∧ OwAt portOw 2 w' A n (marksF mkPort 2 k0 n) bs ∧ Only bs w w' := by
  have lx := Lib.hid hx.len
  have hmid := Lib.hid hx.mid
  clear hx
  go_enter Try.func76, Try.ntmps76
  go_wp2
  go_loopw [1, 5] (fun kk i wr => ∃ k : Nat, k ≤ n ∧ i = .int .i64 k ∧ kk = .int .i64 ((k0 : Int) + 2 * k) ∧ Only bs w wr ∧ Hid (MidAt portOw 2 wr A (marksF mkPort 2 k0 k) (xs.drop k) bs)) (fun _ i _ => n - (intOf i).toNat)
  case atStart => exact ⟨0, by omega, rfl, by simp, Only.refl _ _, hmid.out⟩
  case round =>
    obtain ⟨k, hk, rfl, rfl, ho, hm⟩ := hrel
    by_cases hlt : k < n
    · obtain ⟨x, hxk⟩ : ∃ x, xs[k]? = some x := ⟨_, List.getElem?_eq_getElem (by have := lx.out; omega)⟩
      have hm := hm.out
      rw [drop_some hxk] at hm
      obtain ⟨b, o, cs, b1, bx, b2, rfl, hbs, hO, hc, h1, h2⟩ := hm.next
      obtain ⟨rfl, rfl⟩ := hO
      rw [marksF_len] at hc h2
      obtain ⟨hc0, hd0⟩ := hc 0 _ rfl
      obtain ⟨hc1, hd1⟩ := hc 1 _ rfl
      rw [Nat.add_zero] at hc0 hd0
      have HN := Lib.hid hbs
      have Hx := Lib.hid hxk
      have H1 := Lib.hid h1
      have H2 := Lib.hid h2
      clear hbs hxk h1 h2 hm hc
      go_wp2
      go_roundw
      case rel =>
        have hnd' := hnd
        rw [HN.out] at hnd'
        have hb : b ∉ b1 ∧ b ∉ b2 := by simpa using (List.nodup_cons.1 hnd').1
        have hlen : (marksF mkPort 2 k0 k).length = k := marksF_len _ _ _ _
        refine ⟨k + 1, by omega, by go_num, by go_num, ?_, ?_⟩
        · exact ((ho.setCell (by rw [HN.out]; simp) _).setCell (by rw [HN.out]; simp) _)
        rw [marksF_succ, HN.out]
        refine MidAt.step (o := o) rfl (ElAt.setRun portOw_ok (vs := [.int .i64 ((k0 : Int) + 2 * k), .int .i64 ((k0 : Int) + 2 * k + 1)]) (p := o + k * 2) H1.out hb.1 (Or.inr (by omega))) (cs := [.int .i64 ((k0 : Int) + 2 * k), .int .i64 ((k0 : Int) + 2 * k + 1)]) ⟨(mkPort_cells k0 k).symm, rfl⟩ ?_ ?_
        · rw [hlen]
          exact setRun_csAt (vs := [.int .i64 ((k0 : Int) + 2 * k), .int .i64 ((k0 : Int) + 2 * k + 1)]) (fun j hj => by
            match j, hj with
            | 0, _ => exact ⟨_, hc0⟩
            | 1, _ => exact ⟨_, hc1⟩
            | j + 2, hj => simp at hj; omega) (fun j hj => by
            match j, hj with
            | 0, _ => exact hd0
            | 1, _ => exact hd1
            | j + 2, hj => simp at hj; omega)
        · rw [hlen]
          exact ElAt.setRun portOw_ok (vs := [.int .i64 ((k0 : Int) + 2 * k), .int .i64 ((k0 : Int) + 2 * k + 1)]) (p := o + k * 2) H2.out hb.2 (Or.inl (by simp))
      case measure => simp [intOf]; omega
    · obtain rfl : n = k := by omega
      have hm := hm.out
      rw [List.drop_of_length_le (by have := lx.out; omega)] at hm
      have Hm := Lib.hid (hm.whole (n := n) (marksF_len _ _ _ _).symm)
      clear hm
      go_wp2
      go_ret
      exact ⟨rfl, Hm.out, ho⟩
end
section
open Go.RowKit
set_option linter.unusedVariables false
theorem Blk.only {w w' : World} {g lo hi : Nat} {t : TypeId} {cs : Array Value} (h : Blk w g t cs) (ho : OnlyIn lo hi w w') (hg : g < lo ∨ hi ≤ g) : Blk w' g t cs := (ho.block g hg).trans h
def cntA (x : DAgent) : Nat := 3 + x.data.length + 2 * x.ports.length
theorem cntL_agents (xs : List DAgent) : cntL cntA xs ≤ 3 * szAgentS xs := by
  unfold szAgentS cntL
  have : ∀ ys : List DAgent, (ys.map cntA).sum ≤ 3 * ys.length + 2 * (ys.map szAgent).sum := by
    intro ys
    induction ys with
    | nil => simp
    | cons y ys ih =>
      have e : szAgent y = y.data.length + y.ports.length := rfl
      simp only [List.map_cons, List.sum_cons, List.length_cons, cntA]
      omega
  have := this xs
  omega
theorem szAgent_mem {xs : List DAgent} {k : Nat} {x : DAgent} (h : xs[k]? = some x) (hs : szAgentS xs ≤ 1048576) : x.data.length ≤ 1048576 ∧ x.ports.length ≤ 1048576 := by
  have h1 : szAgent x ≤ (xs.map szAgent).sum := by
    have hm := List.mem_of_getElem? h
    clear h hs
    induction xs with
    | nil => cases hm
    | cons y ys ih =>
      rcases List.mem_cons.1 hm with rfl | h
      · simp
      · have := ih h; simp; omega
  have e : szAgent x = x.data.length + x.ports.length := rfl
  unfold szAgentS at hs
  omega
theorem set3_block {w : World} {b p j : Nat} {u0 u1 u2 : Value} (h : j ≠ b) : (((w.setCell ⟨b, p, none⟩ u0).setCell ⟨b, p + 1, none⟩ u1).setCell ⟨b, p + 2, none⟩ u2).heap[j]? = w.heap[j]? := by
  rw [Below.heap_setCell _ ⟨b, p + 2, none⟩ _ _ h, Below.heap_setCell _ ⟨b, p + 1, none⟩ _ _ h, Below.heap_setCell _ ⟨b, p, none⟩ _ _ h]
theorem set3_cell {w : World} {b p q : Nat} {u0 u1 u2 : Value} (h : p + 3 ≤ q) : (((w.setCell ⟨b, p, none⟩ u0).setCell ⟨b, p + 1, none⟩ u1).setCell ⟨b, p + 2, none⟩ u2).cell? ⟨b, q, none⟩ = w.cell? ⟨b, q, none⟩ := by
  rw [World.cell?_setCell_other _ _ _ _ (fun e => by injection e with _ e2; omega), World.cell?_setCell_other _ _ _ _ (fun e => by injection e with _ e2; omega), World.cell?_setCell_other _ _ _ _ (fun e => by injection e with _ e2; omega)]
/-- What lies ahead of the loop. -/
def Ahead (wr : World) (A : Option Addr) (k : Nat) (rest : List DAgent) (bs : List Nat) : Prop :=
  rest = [] ∨ ∃ b o b2, A = some ⟨b, o, none⟩ ∧ ElAt agentOw 5 wr b (o + k * 5) rest b2 ∧ b ∈ bs ∧ b ∉ b2 ∧ b2.Nodup ∧ ∀ j ∈ b2, j ∈ bs
set_option maxHeartbeats 4000000 in
theorem markAgentS_c (A : Option Addr) (n c k0 : Nat) (xs : List DAgent) (bs : List Nat) (w : World) (hx : OwAt agentOw 5 w A n xs bs) (hnd : bs.Nodup) (hs : szAgentS xs ≤ 1048576) (hk0 : k0 ≤ 4294967296) :
    Calls Try.prog 48 #[.slice A n c, .int .i64 k0] w fun e w' => e = .returned (.int .i64 ((k0 + cntL cntA xs : Nat) : Int)) ∧ Only bs w w' := by
  have lx := Lib.hid hx.len
  have hn : n ≤ 1048576 := by have := lx.out; unfold szAgentS at hs; omega
  have hcl := cntL_agents xs
  have hst := Lib.hid (show Ahead w A 0 xs bs by
    rcases hx.2 with ⟨e1, e2⟩ | ⟨b, o, b2, e1, e2, h⟩
    · exact .inl e1
    · rw [e2] at hnd ⊢
      exact .inr ⟨b, o, b2, e1, by simpa using h, by simp, (List.nodup_cons.1 hnd).1, (List.nodup_cons.1 hnd).2, fun j hj => by simp [hj]⟩)
  clear hx
  go_enter Try.func48, Try.ntmps48
  go_wp2_with fail
  go_loopw [1, 5] (fun kk i wr => ∃ k : Nat, k ≤ n ∧ i = .int .i64 k ∧ kk = .int .i64 ((k0 : Int) + (cntL cntA (xs.take k) : Nat)) ∧ Only bs w wr ∧ Hid (Ahead wr A k (xs.drop k) bs)) (fun _ i _ => n - (intOf i).toNat)
  case atStart => exact ⟨0, by omega, rfl, by simp [cntL], Only.refl _ _, hst.out⟩
  case round =>
    obtain ⟨k, hk, rfl, rfl, ho, hm⟩ := hrel
    by_cases hlt : k < n
    · obtain ⟨x, hxk⟩ : ∃ x, xs[k]? = some x := ⟨_, List.getElem?_eq_getElem (by have := lx.out; omega)⟩
      have hm := hm.out
      rw [drop_some hxk] at hm
      rcases hm with h0 | ⟨b, o, b2, rfl, hE, hbb, hb2, hn2, hin⟩
      · cases h0
      obtain ⟨cs, bx, b3, hO, hc, rfl, h2⟩ := hE
      obtain ⟨A1, n1, c1, A2, n2, c2, bd, bp, rfl, ⟨hd, rd⟩, ⟨hp, rp⟩, rfl⟩ := hO
      obtain ⟨hc0, hd0⟩ := hc 0 _ rfl
      obtain ⟨hc1, hd1⟩ := hc 1 _ rfl
      obtain ⟨hc2, hd2⟩ := hc 2 _ rfl
      obtain ⟨hc3, hd3⟩ := hc 3 _ rfl
      obtain ⟨hc4, hd4⟩ := hc 4 _ rfl
      rw [Nat.add_zero] at hc0 hd0
      have hsz := szAgent_mem hxk hs
      have hct := cntL_take (cnt := cntA) hxk
      have hcx : cntA x = 3 + x.data.length + 2 * x.ports.length := rfl
      have hcm := cntL_le (cnt := cntA) xs (k + 1)
      have hck := cntL_le (cnt := cntA) xs k
      have nb : b ∉ bd ∧ b ∉ bp ∧ b ∉ b3 := by simpa using hb2
      have hn2' := List.nodup_append.1 hn2
      have hn3 := List.nodup_append.1 hn2'.1
      have ld := Lib.hid hd.len
      have lp := Lib.hid hp.len
      have T0 : ∀ (u0 u1 u2 : Value), Touch b (o + k * 5) 5 (bd ++ bp) wr (((wr.setCell ⟨b, o + k * 5, none⟩ u0).setCell ⟨b, o + k * 5 + 1, none⟩ u1).setCell ⟨b, o + k * 5 + 2, none⟩ u2) := fun u0 u1 u2 =>
        ((Touch.refl.set (by omega) (by omega) _).set (by omega) (by omega) _).set (by omega) (by omega) _
      have HE := Lib.hid h2
      have HD := Lib.hid hd
      have HP := Lib.hid hp
      have HX := Lib.hid hxk
      have HT := Lib.hid T0
      have HI := Lib.hid hin
      have N1 := Lib.hid hn2'
      have N2 := Lib.hid hn3
      have NB := Lib.hid nb
      have HB := Lib.hid hb2
      have HL := Lib.hid hct
      clear h2 hd hp hxk T0 hin hn2' hn3 nb hb2 hc hn2 hct
      go_wp2_with fail
      have T3 := HT.out (.int .i64 ((k0 : Int) + (cntL cntA (xs.take k) : Nat))) (.int .i64 ((k0 : Int) + (cntL cntA (xs.take k) : Nat) + 1)) (.int .i64 ((k0 : Int) + (cntL cntA (xs.take k) : Nat) + 1 + 1))
      rw [show (k0 : Int) + (cntL cntA (xs.take k) : Nat) + 1 + 1 + 1 = ((k0 + cntL cntA (xs.take k) + 3 : Nat) : Int) from by omega]
      have OD : OwAt intOw 1 (((wr.setCell ⟨b, o + k * 5, none⟩ (.int .i64 ((k0 : Int) + (cntL cntA (xs.take k) : Nat)))).setCell ⟨b, o + k * 5 + 1, none⟩ (.int .i64 ((k0 : Int) + (cntL cntA (xs.take k) : Nat) + 1))).setCell ⟨b, o + k * 5 + 2, none⟩ (.int .i64 ((k0 : Int) + (cntL cntA (xs.take k) : Nat) + 1 + 1))) A1 n1 x.data bd :=
        HD.out.keep intOw_ok (fun j hj => set3_block (fun e => NB.out.1 (by rw [← e]; exact hj)))
      refine (markInt64S_c A1 n1 c1 (k0 + cntL cntA (xs.take k) + 3) x.data bd _ OD N2.out.1 (by have := ld.out; omega) (by omega)).mono ?_
      rintro e w4 ⟨rfl, _, o4⟩
      have hc4' : w4.cell? ⟨b, o + k * 5 + 4, none⟩ = some (.slice A2 n2 c2) := ((World.cell?_of_block (a := ⟨b, o + k * 5 + 4, none⟩) (o4.block b NB.out.1)).trans (set3_cell (by omega))).trans hc4
      go_wp2_with fail
      rw [show (k0 : Int) + (cntL cntA (xs.take k) : Nat) + 3 + (n1 : Nat) = ((k0 + cntL cntA (xs.take k) + 3 + n1 : Nat) : Int) from by omega]
      have OP : OwAt portOw 2 w4 A2 n2 x.ports bp := HP.out.keep portOw_ok (fun j hj => (o4.block j (fun hjd => N2.out.2.2 j hjd j hj rfl)).trans (set3_block (fun e => NB.out.2.1 (by rw [← e]; exact hj))))
      refine (markPortS_c A2 n2 c2 _ x.ports bp w4 OP N2.out.2.1 (by have := lp.out; omega) (by have := ld.out; omega)).mono ?_
      rintro e w5 ⟨rfl, _, o5⟩
      go_wp2_with fail
      go_roundw
      case rel =>
        have e1 := ld.out
        have e2 := lp.out
        have e3 := HL.out
        have OO : Only (b :: (bd ++ bp)) wr w5 := (T3.only_.trans (o4.mono (fun j hj => by simp [hj]))).trans (o5.mono (fun j hj => by simp [hj]))
        refine ⟨k + 1, by omega, by go_num, congrArg (Value.int .i64) (by omega), ho.trans (OO.mono (fun j hj => ?_)), .inr ⟨b, o, b3, rfl, ?_, hbb, NB.out.2.2, N1.out.2.1, fun j hj => HI.out j (by simp [hj])⟩⟩
        · rcases List.mem_cons.1 hj with rfl | hj
          · exact hbb
          · exact HI.out j (by simp only [List.mem_append] at hj ⊢; exact .inl hj)
        · rw [show o + (k + 1) * 5 = o + k * 5 + 5 by omega]
          refine ElAt.keepC agentOw_ok (w := wr) (fun q h1 h2 => ?_) (fun j hj => ?_) HE.out
          · have hw3 := T3.cell q (.inr (by omega))
            have hf3 := T3.frozen q
            refine ⟨?_, ?_⟩
            · exact ((World.cell?_of_block (a := ⟨b, q, none⟩) (o5.block b NB.out.2.1)).trans (World.cell?_of_block (a := ⟨b, q, none⟩) (o4.block b NB.out.1))).trans hw3
            · exact ((World.frozen?_of_block (a := ⟨b, q, none⟩) (o5.block b NB.out.2.1)).trans (World.frozen?_of_block (a := ⟨b, q, none⟩) (o4.block b NB.out.1))).trans hf3
          · exact OO.block j (fun hin => by
              rcases List.mem_cons.1 hin with rfl | hin
              · exact NB.out.2.2 hj
              · exact N1.out.2.2 j hin j hj rfl)
      case measure => simp [intOf]; omega
    · obtain rfl : n = k := by omega
      have hlast : xs.take n = xs := List.take_of_length_le (by have := lx.out; omega)
      rw [hlast]
      have HLast := Lib.hid hlast
      clear hlast
      go_wp2_with fail
      go_ret
      exact ⟨retI (by omega), ho⟩
theorem markNet_v (v : Value) (x : DNet) (w : World) (k : Int) (lo hi : Nat) (h : OwT netOw w v x lo hi) (hh : hi ≤ w.heap.size) (hs : szNet x ≤ 1048576) (h0 : 0 ≤ k) (hk : k ≤ 1048576) :
    Calls Try.prog 21 #[v, .int .i64 k] w fun e w' => ∃ m : Nat, e = .returned (.int .i64 (m : Int)) ∧ ∃ wb, Below w.heap.size w wb ∧ wb.heap.size = w'.heap.size ∧ OnlyIn lo hi wb w' := by
  obtain ⟨cs, bs, rfl, ⟨A1, n1, c1, b1, rfl, ⟨h1, r1⟩, rfl⟩, hnd, hb⟩ := h
  obtain ⟨k0, rfl⟩ := Int.eq_ofNat_of_zero_le h0
  have hA : ∀ o1, Below w.heap.size w (w.alloc o1) := fun o1 => (Below.refl _ _).alloc (Nat.le_refl _) _
  have HK := Lib.hid (show ∀ o1, OwAt agentOw 5 (w.alloc o1) A1 n1 x.agents bs from fun o1 => h1.keep agentOw_ok (fun j hj => (hA o1).block j (by have := hb j hj; omega)))
  have HN := Lib.hid hnd
  have HB := Lib.hid hb
  have HS : szAgentS x.agents ≤ 1048576 := hs
  have hcl := cntL_agents x.agents
  clear h1 hb hnd
  go_enter Try.func21, Try.ntmps21
  go_wp2_with fail
  refine (markAgentS_c A1 n1 c1 k0 x.agents bs _ (HK.out _) HN.out HS (by omega)).mono ?_
  rintro e w1 ⟨rfl, o1⟩
  go_wp2_with fail
  go_ret
  exact ⟨_, rfl, _, hA _, o1.size.symm, o1.in_ HB.out⟩
end
section
open Go.RowKit
set_option linter.unusedVariables false
theorem specLiveAgents_v (v : Value) (x : DNet) (w : World) {B : Nat} (h : RdT netRd w B v x) (hB : B ≤ w.heap.size) (hs : szNet x ≤ 1048576) :
    Calls Try.prog 18 #[v] w fun e w' => (∃ v', e = .returned (.tuple #[v', .int .i64 (liveAgents x).2]) ∧ OwS intOw 1 w' v' (liveAgents x).1 w.heap.size w'.heap.size) ∧ Below w.heap.size w w' :=
  (c_m_spec_LiveAgents x _ (p_sLiveAgents x hs) v w (h.more netRd_ok hB)).mono fun e w' ⟨⟨v', he, ho⟩, hb⟩ => ⟨⟨v', he, ho.own fI⟩, hb⟩
theorem implLiveAgents_v (v : Value) (x : DNet) (w : World) {B : Nat} (h : RdT netRd w B v x) (hB : B ≤ w.heap.size) (hs : szNet x ≤ 1048576) :
    Calls Try.prog 19 #[v] w fun e w' => (∃ v', e = .returned (.tuple #[v', .int .i64 (liveAgents x).2]) ∧ OwS intOw 1 w' v' (liveAgents x).1 w.heap.size w'.heap.size) ∧ Below w.heap.size w w' :=
  (c_m_impl_LiveAgents x _ (p_iLiveAgents x hs) v w (h.more netRd_ok hB)).mono fun e w' ⟨⟨v', he, ho⟩, hb⟩ => ⟨⟨v', he, ho.own fI⟩, hb⟩
end
section
open Go.RowKit
set_option linter.unusedVariables false
set_option linter.unusedSimpArgs false
theorem szInt64S_v (v : Value) (xs : List Int) (left : Int) (w : World) {B : Nat} (h : RdS intRd 1 w B v xs) (hB : B ≤ w.heap.size) (h0 : 0 ≤ left) (h1 : left ≤ 1048576) :
    Calls Try.prog 85 #[v, .int .i64 left] w fun e w' => e = .returned (.int .i64 (szL left xs.length)) ∧ Below w.heap.size w w' := by
  obtain ⟨A, n, c, rfl, h, hnc, hcm⟩ := h
  have hr := Below.refl w.heap.size w
  have hl := h.len
  rw [← hl]
  unfold maxLen at hcm
  clear h hl
  by_cases hl : left - n < 0
  · have He := Lib.hid (szL_neg hl)
    go_enter Try.func85, Try.ntmps85
    go_wp2
    go_ret
    exact ⟨by rw [He.out]; rfl, hr⟩
  · have He := Lib.hid (szL_pos hl)
    go_enter Try.func85, Try.ntmps85
    go_wp2
    go_ret
    exact ⟨by rw [He.out]; rfl, hr⟩
theorem szPortS_v (v : Value) (xs : List DPort) (left : Int) (w : World) {B : Nat} (h : RdS portRd 2 w B v xs) (hB : B ≤ w.heap.size) (h0 : 0 ≤ left) (h1 : left ≤ 1048576) :
    Calls Try.prog 86 #[v, .int .i64 left] w fun e w' => e = .returned (.int .i64 (szL left xs.length)) ∧ Below w.heap.size w w' := by
  obtain ⟨A, n, c, rfl, h, hnc, hcm⟩ := h
  have hr := Below.refl w.heap.size w
  have hl := h.len
  rw [← hl]
  unfold maxLen at hcm
  clear h hl
  by_cases hl : left - n < 0
  · have He := Lib.hid (szL_neg hl)
    go_enter Try.func86, Try.ntmps86
    go_wp2
    go_ret
    exact ⟨by rw [He.out]; rfl, hr⟩
  · have He := Lib.hid (szL_pos hl)
    go_enter Try.func86, Try.ntmps86
    go_wp2
    go_ret
    exact ⟨by rw [He.out]; rfl, hr⟩
set_option maxHeartbeats 1000000 in
theorem szAgent_v (v : Value) (x : DAgent) (left : Int) (w : World) {B : Nat} (h : RdT agentRd w B v x) (hB : B ≤ w.heap.size) (h0 : 0 ≤ left) (h1 : left ≤ 1048576) :
    Calls Try.prog 59 #[v, .int .i64 left] w fun e w' => e = .returned (.int .i64 (szL left (szAgent x))) ∧ Below w.heap.size w w' := by
  obtain ⟨cs, rfl, A1, n1, c1, A2, n2, c2, rfl, ⟨g1, r1⟩, ⟨g2, r2⟩⟩ := h
  have hb : ∀ o1, Below w.heap.size w (w.alloc o1) := fun o1 => (Below.refl _ _).alloc (Nat.le_refl _) _
  obtain ⟨s0, es0⟩ : ∃ s : Nat, s = x.data.length := ⟨_, rfl⟩
  obtain ⟨s1, es1⟩ : ∃ s : Nat, s = x.ports.length := ⟨_, rfl⟩
  have Hs : Hid (szAgent x = s0 + s1) := by show _ = _; rw [es0, es1]; rfl
  have Es0 := Lib.hid es0
  have Es1 := Lib.hid es1
  clear es0 es1
  by_cases d0 : left - (s0 : Int) < 0
  · have He : Hid (szL left (szAgent x) = -1) := by show _ = _; rw [Hs.out, szL_neg (by omega)]
    go_enter Try.func59, Try.ntmps59
    go_wp2_with fail
    refine (szInt64S_v _ x.data (left) _ (B := B) ⟨A1, n1, c1, rfl, g1.below intRd_ok ((hb _).mono hB), r1⟩ (Nat.le_trans hB (hb _).size) (by omega) (by omega)).mono ?_
    rw [← Es0.out, szL_neg (by omega)]
    rintro e w1 ⟨rfl, q1⟩
    have T := (hb _).trans (q1.mono (hb _).size)
    have B1 := (Blk.new w _ _).below q1 (by simp)
    have z1 : w.heap.size + 1 ≤ w1.heap.size := by have := q1.size; simpa using this
    clear q1
    go_wp2_with fail
    go_ret
    exact ⟨by rw [He.out]; rfl, T⟩
  · skip
    by_cases d1 : left - s0 - (s1 : Int) < 0
    · have He : Hid (szL left (szAgent x) = -1) := by show _ = _; rw [Hs.out, szL_neg (by omega)]
      go_enter Try.func59, Try.ntmps59
      go_wp2_with fail
      refine (szInt64S_v _ x.data (left) _ (B := B) ⟨A1, n1, c1, rfl, g1.below intRd_ok ((hb _).mono hB), r1⟩ (Nat.le_trans hB (hb _).size) (by omega) (by omega)).mono ?_
      rw [← Es0.out, szL_pos (by omega)]
      rintro e w1 ⟨rfl, q1⟩
      have T := (hb _).trans (q1.mono (hb _).size)
      have B1 := (Blk.new w _ _).below q1 (by simp)
      have z1 : w.heap.size + 1 ≤ w1.heap.size := by have := q1.size; simpa using this
      clear q1
      have cB := B1.cell
      go_wp2_with fail
      clear cB
      refine (szPortS_v _ x.ports (left - s0) _ (B := B) ⟨A2, n2, c2, rfl, g2.below portRd_ok ((T).mono hB), r2⟩ (Nat.le_trans hB (T).size) (by omega) (by omega)).mono ?_
      rw [← Es1.out, szL_neg (by omega)]
      rintro e w2 ⟨rfl, q2⟩
      have T := T.trans (q2.mono T.size)
      have B1 := B1.below q2 (by omega)
      have z2 := Nat.le_trans z1 q2.size
      clear q2
      go_wp2_with fail
      go_ret
      exact ⟨by rw [He.out]; rfl, T⟩
    · skip
      have He : Hid (szL left (szAgent x) = left - s0 - s1) := by show _ = _; rw [Hs.out, szL_pos (by omega)]; try omega
      go_enter Try.func59, Try.ntmps59
      go_wp2_with fail
      refine (szInt64S_v _ x.data (left) _ (B := B) ⟨A1, n1, c1, rfl, g1.below intRd_ok ((hb _).mono hB), r1⟩ (Nat.le_trans hB (hb _).size) (by omega) (by omega)).mono ?_
      rw [← Es0.out, szL_pos (by omega)]
      rintro e w1 ⟨rfl, q1⟩
      have T := (hb _).trans (q1.mono (hb _).size)
      have B1 := (Blk.new w _ _).below q1 (by simp)
      have z1 : w.heap.size + 1 ≤ w1.heap.size := by have := q1.size; simpa using this
      clear q1
      have cB := B1.cell
      go_wp2_with fail
      clear cB
      refine (szPortS_v _ x.ports (left - s0) _ (B := B) ⟨A2, n2, c2, rfl, g2.below portRd_ok ((T).mono hB), r2⟩ (Nat.le_trans hB (T).size) (by omega) (by omega)).mono ?_
      rw [← Es1.out, szL_pos (by omega)]
      rintro e w2 ⟨rfl, q2⟩
      have T := T.trans (q2.mono T.size)
      have B1 := B1.below q2 (by omega)
      have z2 := Nat.le_trans z1 q2.size
      clear q2
      go_wp2_with fail
      go_ret
      exact ⟨by rw [He.out]; rfl, T⟩
theorem szAgentS_take {xs : List DAgent} {k : Nat} {x : DAgent} (h : xs[k]? = some x) : ((xs.take (k + 1)).map szAgent).sum = ((xs.take k).map szAgent).sum + szAgent x := by
  rw [take_succ_some h]; simp
theorem szAgentS_le (xs : List DAgent) (k : Nat) : ((xs.take k).map szAgent).sum ≤ (xs.map szAgent).sum := by
  have h : ((xs.take k ++ xs.drop k).map szAgent).sum = (xs.map szAgent).sum := by rw [List.take_append_drop]
  rw [List.map_append, List.sum_append] at h
  omega
set_option maxHeartbeats 1000000 in
theorem szAgentS_v (v : Value) (xs : List DAgent) (left : Int) (w : World) {B : Nat} (h : RdS agentRd 5 w B v xs) (hB : B ≤ w.heap.size) (h0 : 0 ≤ left) (h1 : left ≤ 1048576) :
    Calls Try.prog 34 #[v, .int .i64 left] w fun e w' => e = .returned (.int .i64 (szL left (szAgentS xs))) ∧ Below w.heap.size w w' := by
  obtain ⟨A, n, c, rfl, hx, hnc, hcm⟩ := h
  have hr := Below.refl w.heap.size w
  unfold maxLen at hcm
  have lx := Lib.hid hx.len
  by_cases hl : left - n < 0
  · have He : Hid (szL left (szAgentS xs) = -1) := szL_neg (by unfold szAgentS; rw [← lx.out]; omega)
    go_enter Try.func34, Try.ntmps34
    go_wp2
    go_ret
    exact ⟨by rw [He.out]; rfl, hr⟩
  · go_enter Try.func34, Try.ntmps34
    go_wp2
    go_loopw [1, 5] (fun s i wr => ∃ (k : Nat) (l : Int), k ≤ n ∧ i = .int .i64 k ∧ s = .int .i64 l ∧ 0 ≤ l ∧ l ≤ 1048576 ∧ Hid (l = left - n - (((xs.take k).map szAgent).sum : Nat)) ∧ Below w.heap.size w wr) (fun _ i _ => n - (intOf i).toNat)
    case atStart => exact ⟨0, left - n, by omega, rfl, rfl, by omega, by omega, by simp [Hid], hr⟩
    case round =>
      obtain ⟨k, s, hk, rfl, rfl, hs0, hs1, hs, hq⟩ := hrel
      by_cases hlt : k < n
      · obtain ⟨b, off, x, A1, n1, c1, A2, n2, c2, rfl, hb, hxk, hc0, hc1, hc2, hc3, hc4, ⟨g1, r1⟩, ⟨g2, r2⟩⟩ := (hx.below agentRd_ok (hq.mono hB)).agent hlt
        have Hxk := Lib.hid hxk
        clear hxk
        by_cases hd : s - (szAgent x : Int) < 0
        · have f := szL_neg hd
          have He : Hid (szL left (szAgentS xs) = -1) := szL_neg (by
            have e1 := szAgentS_le xs (k + 1)
            rw [szAgentS_take Hxk.out] at e1
            have e2 := hs.out
            have e3 := lx.out
            unfold szAgentS
            omega)
          go_wp2_with fail
          refine (szAgent_v _ x s _ (B := B) ⟨_, rfl, A1, n1, c1, A2, n2, c2, rfl, ⟨g1, r1⟩, ⟨g2, r2⟩⟩ (Nat.le_trans hB hq.size) hs0 hs1).mono ?_
          rintro e w1 ⟨rfl, q1⟩
          go_wp2_with fail
          go_ret
          exact ⟨by rw [He.out]; rfl, hq.trans (q1.mono hq.size)⟩
        · have f := szL_pos hd
          have Hn : Hid (s - (szAgent x : Int) = left - n - (((xs.take (k + 1)).map szAgent).sum : Nat)) := by
            have e1 := szAgentS_take Hxk.out
            have e2 := hs.out
            show _ = _
            rw [e1]
            omega
          go_wp2_with fail
          refine (szAgent_v _ x s _ (B := B) ⟨_, rfl, A1, n1, c1, A2, n2, c2, rfl, ⟨g1, r1⟩, ⟨g2, r2⟩⟩ (Nat.le_trans hB hq.size) hs0 hs1).mono ?_
          rintro e w1 ⟨rfl, q1⟩
          go_wp2_with fail
          go_roundw
          case rel => exact ⟨k + 1, s - (szAgent x : Int), by omega, by go_num, rfl, by omega, by omega, Hn.out, hq.trans (q1.mono hq.size)⟩
          case measure => simp [intOf]; omega
      · have He : Hid (szL left (szAgentS xs) = s) := by
          have e1 : xs.take k = xs := List.take_of_length_le (by have := lx.out; omega)
          have e2 := hs.out
          rw [e1] at e2
          have e3 := lx.out
          show _ = _
          rw [szL_pos (by unfold szAgentS; omega)]
          unfold szAgentS
          omega
        go_wp2_with fail
        go_ret
        exact ⟨by rw [He.out]; rfl, hq⟩
set_option maxHeartbeats 1000000 in
theorem szNet_v (v : Value) (x : DNet) (left : Int) (w : World) {B : Nat} (h : RdT netRd w B v x) (hB : B ≤ w.heap.size) (h0 : 0 ≤ left) (h1 : left ≤ 1048576) :
    Calls Try.prog 9 #[v, .int .i64 left] w fun e w' => e = .returned (.int .i64 (szL left (szNet x))) ∧ Below w.heap.size w w' := by
  obtain ⟨cs, rfl, A1, n1, c1, rfl, ⟨g1, r1⟩⟩ := h
  have hb : ∀ o1, Below w.heap.size w (w.alloc o1) := fun o1 => (Below.refl _ _).alloc (Nat.le_refl _) _
  obtain ⟨s0, es0⟩ : ∃ s : Nat, s = szAgentS x.agents := ⟨_, rfl⟩
  have Hs : Hid (szNet x = s0) := by show _ = _; rw [es0]; rfl
  have Es0 := Lib.hid es0
  clear es0
  by_cases d0 : left - (s0 : Int) < 0
  · have He : Hid (szL left (szNet x) = -1) := by show _ = _; rw [Hs.out, szL_neg (by omega)]
    go_enter Try.func9, Try.ntmps9
    go_wp2_with fail
    refine (szAgentS_v _ x.agents (left) _ (B := B) ⟨A1, n1, c1, rfl, g1.below agentRd_ok ((hb _).mono hB), r1⟩ (Nat.le_trans hB (hb _).size) (by omega) (by omega)).mono ?_
    rw [← Es0.out, szL_neg (by omega)]
    rintro e w1 ⟨rfl, q1⟩
    have T := (hb _).trans (q1.mono (hb _).size)
    have B1 := (Blk.new w _ _).below q1 (by simp)
    have z1 : w.heap.size + 1 ≤ w1.heap.size := by have := q1.size; simpa using this
    clear q1
    go_wp2_with fail
    go_ret
    exact ⟨by rw [He.out]; rfl, T⟩
  · skip
    have He : Hid (szL left (szNet x) = left - s0) := by show _ = _; rw [Hs.out, szL_pos (by omega)]; try omega
    go_enter Try.func9, Try.ntmps9
    go_wp2_with fail
    refine (szAgentS_v _ x.agents (left) _ (B := B) ⟨A1, n1, c1, rfl, g1.below agentRd_ok ((hb _).mono hB), r1⟩ (Nat.le_trans hB (hb _).size) (by omega) (by omega)).mono ?_
    rw [← Es0.out, szL_pos (by omega)]
    rintro e w1 ⟨rfl, q1⟩
    have T := (hb _).trans (q1.mono (hb _).size)
    have B1 := (Blk.new w _ _).below q1 (by simp)
    have z1 : w.heap.size + 1 ≤ w1.heap.size := by have := q1.size; simpa using this
    clear q1
    go_wp2_with fail
    go_ret
    exact ⟨by rw [He.out]; rfl, T⟩
end
section
open Go.RowKit
set_option linter.unusedVariables false
set_option linter.unusedSimpArgs false
theorem toPort_v (v : Value) (x : DPort) (w : World) {B : Nat} (h : RdT portRd w B v x) :
    Calls Try.prog 12 #[v] w fun e w' => e = .returned (.agg #[.int .i64 x.agent, .int .i64 x.slot]) ∧ Below w.heap.size w w' := by
  obtain ⟨cs, rfl, rfl⟩ := h
  go_enter Try.func12, Try.ntmps12
  go_wp2_with fail
  exact bodyPost_ret (v := .agg #[.int .i64 x.agent, .int .i64 x.slot]) (by simp [results, Try.results12, go_sem]) rfl ⟨rfl, (((Below.refl _ _).alloc (Nat.le_refl _) _).alloc (by simp) _).alloc (by simp; omega) _⟩
theorem info_PortS : (Try.prog.info? 28).map (fun i => (i.zero, i.size, i.bytes)) = some (some (.agg #[.int .i64 0, .int .i64 0]), 2, 16) := by kernel_rfl
set_option maxHeartbeats 1000000 in
theorem toPortS_v (v : Value) (xs : List DPort) (w : World) {B : Nat} (h : RdS portRd 2 w B v xs) (hB : B ≤ w.heap.size) (hs : xs.length ≤ 1048576) :
    Calls Try.prog 89 #[v] w fun e w' => Ret1 (fun v' => OwS portOw 2 w' v' xs w.heap.size w'.heap.size) e ∧ Below w.heap.size w w' := by
  obtain ⟨A, n, c, rfl, hx, hnc, hcm⟩ := h
  have lx := Lib.hid hx.len
  have hlen := hs
  have hn : n ≤ 1048576 := by have := lx.out; omega
  have hmk := run_make_sz 79 28 Try.underlying79 info_PortS n (by omega) (by omega)
  go_enter Try.func89, Try.ntmps89
  go_wp2
  clear hmk
  go_loopw [4] (fun i wr => ∃ k : Nat, k ≤ n ∧ i = .int .i64 k ∧ Below w.heap.size w wr ∧ w.heap.size + 1 ≤ wr.heap.size ∧ (∃ arr, Blk wr w.heap.size 28 arr ∧ Hid (arr.size = n * 2)) ∧ ∃ bs, ElAt portOw 2 wr w.heap.size 0 (xs.take k) bs ∧ bs.Nodup ∧ ∀ b ∈ bs, w.heap.size + 1 ≤ b ∧ b < wr.heap.size) (fun i _ => n - (intOf i).toNat)
  case atStart => exact ⟨0, by omega, rfl, (Below.refl _ _).alloc (Nat.le_refl _) _, by simp, ⟨_, Blk.new _ _ _, by simp [Hid, madeCells_size]⟩, [], rfl, List.nodup_nil, fun b hb => by simp at hb⟩
  case round =>
    obtain ⟨k, hk, rfl, hb, hzz, ⟨arr, BA, hasz⟩, bs, hel, hnd, hin⟩ := hrel
    by_cases hlt : k < n
    · obtain ⟨b, off, x, rfl, hlb, hxk, hc0, hc1⟩ := (hx.below portRd_ok (hb.mono hB)).port hlt
      have Hxk := Lib.hid hxk
      clear hxk
      go_wp2_with fail
      refine (toPort_v _ x _ (B := 0) ⟨_, rfl, rfl⟩).mono ?_
      rintro e w1 ⟨rfl, q1⟩
      obtain ⟨bl, HO, nd1, in1⟩ : ∃ bl, portOw w1 [.int .i64 x.agent, .int .i64 x.slot] x bl ∧ bl.Nodup ∧ ∀ b ∈ bl, wr.heap.size ≤ b ∧ b < w1.heap.size := ⟨[], ⟨rfl, rfl⟩, List.nodup_nil, fun b hb => by simp at hb⟩
      have BA := BA.below q1 (by omega)
      obtain ⟨z0, hz0⟩ := BA.some_ (i := k * 2) (by rw [hasz.out]; omega)
      obtain ⟨z1, hz1⟩ := BA.some_ (i := k * 2 + 1) (by rw [hasz.out]; omega)
      have fz := BA.frozen
      have zz := q1.size
      have Hel := Lib.hid (hel.keep portOw_ok (q1.block _ (by omega)) (fun k hk => q1.block k (hin k hk).2))
      clear hel
      have TB : ∀ y0 y1, Below w.heap.size w ((w1.setCell ⟨w.heap.size, k * 2, none⟩ y0).setCell ⟨w.heap.size, k * 2 + 1, none⟩ y1) := fun y0 y1 => (((hb.trans (q1.mono hb.size)).setCell (p := ⟨w.heap.size, k * 2, none⟩) (Nat.le_refl _) _).setCell (p := ⟨w.heap.size, k * 2 + 1, none⟩) (Nat.le_refl _) _)
      go_wp2_with fail
      go_roundw
      case rel =>
        refine ⟨k + 1, by omega, by go_num, TB _ _, by simp [World.setCell]; omega, ⟨_, ((BA.set_ (k * 2) _).set_ (k * 2 + 1) _), by simpa [Hid] using hasz⟩, bs ++ bl, ?_⟩
        rw [take_succ_some Hxk.out]
        have hlk : (xs.take k).length = k := by have := lx.out; simp; omega
        have h1 := ElAt.setRun portOw_ok (vs := [.int .i64 x.agent, .int .i64 x.slot]) (p := k * 2) Hel.out (fun hh => by have := hin _ hh; omega) (Or.inr (by rw [hlk]; omega))
        have hnn := nodup_two hnd nd1 hin in1 hzz zz
        refine ⟨ElAt.append h1 (ElAt.one (portOw_ok.keep (w' := setRun w1 w.heap.size (k * 2) [.int .i64 x.agent, .int .i64 x.slot]) (fun b hb => setRun_block (fun e => by have := in1 b hb; omega)) HO) ?_), hnn.1, fun b hb => by have := hnn.2 b hb; simp only [World.size_setCell]; exact this⟩
        rw [hlk, Nat.zero_add]
        exact setRun_csAt (vs := [.int .i64 x.agent, .int .i64 x.slot]) (fun j hj => by
          have hj : j < 2 := by simpa using hj
          match j, hj with
          | 0, _ => exact ⟨z0, hz0⟩
          | 1, _ => exact ⟨z1, hz1⟩) (fun j hj => fz _)
      case measure => simp [intOf]; omega
    · have hkn : k = n := by omega
      have e : xs.take k = xs := List.take_of_length_le (by have := lx.out; omega)
      rw [e] at hel
      have Hkn := Lib.hid hkn
      clear hkn e
      go_wp2
      go_ret
      exact ⟨⟨_, rfl, some ⟨w.heap.size, 0, none⟩, n, n, w.heap.size :: bs, rfl, ⟨lx.out, .inr ⟨_, _, bs, rfl, rfl, hel⟩⟩, List.nodup_cons.2 ⟨fun hh => by have := hin _ hh; omega, hnd⟩, fun b hb => by
        rcases List.mem_cons.1 hb with rfl | hb
        · omega
        · have := hin b hb; omega, Nat.le_refl _, by unfold maxLen; omega⟩, hb⟩
end
section
open Go.RowKit
set_option linter.unusedVariables false
set_option linter.unusedSimpArgs false
set_option maxHeartbeats 1000000 in
theorem toAgent_v (v : Value) (x : DAgent) (w : World) {B : Nat} (h : RdT agentRd w B v x) (hB : B ≤ w.heap.size) (hs : szAgent x ≤ 1048576) :
    Calls Try.prog 62 #[v] w fun e w' => Ret1 (fun v' => OwT agentOw w' v' x w.heap.size w'.heap.size) e ∧ Below w.heap.size w w' := by
  obtain ⟨cs, rfl, A1, n1, c1, A2, n2, c2, rfl, ⟨h1, r1⟩, ⟨h2, r2⟩⟩ := h
  unfold szAgent at hs
  have hb : ∀ o1 o2 o3, Below w.heap.size w (((w.alloc o1).alloc o2).alloc o3) := fun o1 o2 o3 => (((Below.refl _ _).alloc (Nat.le_refl _) _).alloc (by simp) _).alloc (by simp; omega) _
  go_enter Try.func62, Try.ntmps62
  go_wp2_with fail
  refine (toInt64S_v _ x.data _ (B := B) ⟨A1, n1, c1, rfl, h1.below intRd_ok ((hb _ _ _).mono hB), r1⟩ (Nat.le_trans hB (hb _ _ _).size) (by first | omega | (unfold lenOk; omega))).mono ?_
  rintro e w1 ⟨⟨v1, rfl, O1⟩, q1⟩
  have z1 : w.heap.size + 1 + 1 + 1 ≤ w1.heap.size := by have := q1.size; simpa using this
  have O1 := O1.wide (lo' := w.heap.size + 1 + 1 + 1) (hi' := w1.heap.size) (by simp) (Nat.le_refl _)
  obtain ⟨A1', m1, d1, bs1, rfl, ow1, nd1, in1, rr1⟩ := O1
  have T1 := (hb _ _ _).trans (q1.mono (hb _ _ _).size)
  have BB := blk3_0.below q1 (by simp <;> omega)
  have BR := blk3_1.below q1 (by simp <;> omega)
  have BO := blk3_2.below q1 (by simp <;> omega)
  clear q1
  have cB := BB.cell
  have cO := BO.cell
  have fO := BO.frozen
  go_wp2_with fail
  clear cB cO fO
  have T1 := T1.setCell (p := ⟨w.heap.size + 1 + 1, 3, none⟩) (by simp; omega) (.slice A1' m1 d1)
  have BB := BB.far (p := ⟨w.heap.size + 1 + 1, 3, none⟩) (by simp; omega) (.slice A1' m1 d1)
  have BR := BR.far (p := ⟨w.heap.size + 1 + 1, 3, none⟩) (by simp) (.slice A1' m1 d1)
  have BO := BO.set_ 3 (.slice A1' m1 d1)
  have ow1 := ow1.keep intOw_ok (w' := World.setCell w1 ⟨w.heap.size + 1 + 1, 3, none⟩ (.slice A1' m1 d1)) (fun k hk => Below.heap_setCell _ _ _ _ (by have := in1 k hk; simp; omega))
  refine (toPortS_v _ x.ports _ (B := B) ⟨A2, n2, c2, rfl, h2.below portRd_ok (T1.mono hB), r2⟩ (Nat.le_trans hB T1.size) (by first | omega | (unfold lenOk; omega))).mono ?_
  rintro e w2 ⟨⟨v2, rfl, O2⟩, q2⟩
  have z2 : w1.heap.size ≤ w2.heap.size := by have := q2.size; simpa using this
  have O2 := O2.wide (lo' := w1.heap.size) (hi' := w2.heap.size) (by simp) (Nat.le_refl _)
  obtain ⟨A2', m2, d2, bs2, rfl, ow2, nd2, in2, rr2⟩ := O2
  have T1 := T1.trans (q2.mono T1.size)
  have BB := BB.below q2 (by simp <;> omega)
  have BR := BR.below q2 (by simp <;> omega)
  have BO := BO.below q2 (by simp <;> omega)
  have ow1 := ow1.keep intOw_ok (w' := w2) (fun k hk => q2.block k (by have := in1 k hk; simp <;> omega))
  clear q2
  have cB := BB.cell
  have cO := BO.cell
  have fO := BO.frozen
  have cR := BR.cell
  have fR := BR.frozen
  go_wp2_with fail
  have hfin : ∀ w', OnlyIn (w.heap.size + 1) (w.heap.size + 1 + 1 + 1) w2 w' → (Ret1 (fun v' => OwT agentOw w' v' x w.heap.size w'.heap.size) (.returned (.agg #[.int .i64 x.kind, .int .i64 x.level, .int .i64 x.value, (.slice A1' m1 d1), (.slice A2' m2 d2)])) ∧ Below w.heap.size w w') := fun w' ho => by
    refine ⟨⟨_, rfl, [.int .i64 x.kind, .int .i64 x.level, .int .i64 x.value, (.slice A1' m1 d1), (.slice A2' m2 d2)], bs1 ++ bs2, rfl, ⟨A1', m1, d1, A2', m2, d2, bs1, bs2, rfl, ⟨ow1.keep intOw_ok (fun k hk => ho.block k (.inr (by have := in1 k hk; omega))), rr1⟩, ⟨ow2.keep portOw_ok (fun k hk => ho.block k (.inr (by have := in2 k hk; omega))), rr2⟩, rfl⟩, ?_⟩, T1.trans (ho.below.mono (by omega))⟩
    have h1 : bs1.Nodup ∧ ∀ b ∈ bs1, w.heap.size ≤ b ∧ b < w1.heap.size := ⟨nd1, fun b hb => by have := in1 b hb; omega⟩
    have h2 := nodup_two (lo := w.heap.size) (mid := w1.heap.size) (hi := w2.heap.size) h1.1 nd2 (fun b hb => by have := h1.2 b hb; omega) in2 (by omega) (by omega)
    exact ⟨h2.1, fun b hb => by have := h2.2 b hb; have := ho.size; omega⟩
  refine bodyPost_ret (v := .agg #[.int .i64 x.kind, .int .i64 x.level, .int .i64 x.value, (.slice A1' m1 d1), (.slice A2' m2 d2)]) (by simp [results, Try.results62, go_sem, cR]) rfl (hfin _ ?_)
  repeat (first | (with_reducible exact OnlyIn.refl _ _ _) | (with_reducible refine OnlyIn.setCell ?_ ⟨by simp, by simp⟩ _))
theorem szAgentS_el {xs : List DAgent} {k : Nat} {x : DAgent} (h : xs[k]? = some x) : szAgent x ≤ szAgentS xs := by
  have h1 := szAgentS_take h
  have h2 := szAgentS_le xs (k + 1)
  unfold szAgentS
  omega
theorem info_AgentS : (Try.prog.info? 81).map (fun i => (i.zero, i.size, i.bytes)) = some (some (.agg #[.int .i64 0, .int .i64 0, .int .i64 0, .slice none 0 0, .slice none 0 0]), 5, 72) := by kernel_rfl
set_option maxHeartbeats 1000000 in
theorem toAgentS_v (v : Value) (xs : List DAgent) (w : World) {B : Nat} (h : RdS agentRd 5 w B v xs) (hB : B ≤ w.heap.size) (hs : szAgentS xs ≤ 1048576) :
    Calls Try.prog 38 #[v] w fun e w' => Ret1 (fun v' => OwS agentOw 5 w' v' xs w.heap.size w'.heap.size) e ∧ Below w.heap.size w w' := by
  obtain ⟨A, n, c, rfl, hx, hnc, hcm⟩ := h
  have lx := Lib.hid hx.len
  have hlen : xs.length ≤ 1048576 := by unfold szAgentS at hs; omega
  have hn : n ≤ 1048576 := by have := lx.out; omega
  have hmk := run_make_sz 31 81 Try.underlying31 info_AgentS n (by omega) (by omega)
  go_enter Try.func38, Try.ntmps38
  go_wp2
  clear hmk
  go_loopw [4] (fun i wr => ∃ k : Nat, k ≤ n ∧ i = .int .i64 k ∧ Below w.heap.size w wr ∧ w.heap.size + 1 ≤ wr.heap.size ∧ (∃ arr, Blk wr w.heap.size 81 arr ∧ Hid (arr.size = n * 5)) ∧ ∃ bs, ElAt agentOw 5 wr w.heap.size 0 (xs.take k) bs ∧ bs.Nodup ∧ ∀ b ∈ bs, w.heap.size + 1 ≤ b ∧ b < wr.heap.size) (fun i _ => n - (intOf i).toNat)
  case atStart => exact ⟨0, by omega, rfl, (Below.refl _ _).alloc (Nat.le_refl _) _, by simp, ⟨_, Blk.new _ _ _, by simp [Hid, madeCells_size]⟩, [], rfl, List.nodup_nil, fun b hb => by simp at hb⟩
  case round =>
    obtain ⟨k, hk, rfl, hb, hzz, ⟨arr, BA, hasz⟩, bs, hel, hnd, hin⟩ := hrel
    by_cases hlt : k < n
    · obtain ⟨b, off, x, A1, n1, c1, A2, n2, c2, rfl, hlb, hxk, hc0, hc1, hc2, hc3, hc4, ⟨h1, r1⟩, ⟨h2, r2⟩⟩ := (hx.below agentRd_ok (hb.mono hB)).agent hlt
      have Hxk := Lib.hid hxk
      clear hxk
      go_wp2_with fail
      refine (toAgent_v _ x _ (B := B) ⟨_, rfl, A1, n1, c1, A2, n2, c2, rfl, ⟨h1, r1⟩, ⟨h2, r2⟩⟩ (Nat.le_trans hB hb.size) (by have := szAgentS_el Hxk.out; omega)).mono ?_
      rintro e w1 ⟨⟨v1, rfl, O1⟩, q1⟩
      obtain ⟨cs1, bl, rfl, HO, nd1, in1⟩ := O1
      have HO' := HO
      obtain ⟨A1', m1, d1, A2', m2, d2, b1, b2, rfl, _⟩ := HO'
      have BA := BA.below q1 (by omega)
      obtain ⟨z0, hz0⟩ := BA.some_ (i := k * 5) (by rw [hasz.out]; omega)
      obtain ⟨z1, hz1⟩ := BA.some_ (i := k * 5 + 1) (by rw [hasz.out]; omega)
      obtain ⟨z2, hz2⟩ := BA.some_ (i := k * 5 + 2) (by rw [hasz.out]; omega)
      obtain ⟨z3, hz3⟩ := BA.some_ (i := k * 5 + 3) (by rw [hasz.out]; omega)
      obtain ⟨z4, hz4⟩ := BA.some_ (i := k * 5 + 4) (by rw [hasz.out]; omega)
      have fz := BA.frozen
      have zz := q1.size
      have Hel := Lib.hid (hel.keep agentOw_ok (q1.block _ (by omega)) (fun k hk => q1.block k (hin k hk).2))
      clear hel
      have TB : ∀ y0 y1 y2 y3 y4, Below w.heap.size w (((((w1.setCell ⟨w.heap.size, k * 5, none⟩ y0).setCell ⟨w.heap.size, k * 5 + 1, none⟩ y1).setCell ⟨w.heap.size, k * 5 + 2, none⟩ y2).setCell ⟨w.heap.size, k * 5 + 3, none⟩ y3).setCell ⟨w.heap.size, k * 5 + 4, none⟩ y4) := fun y0 y1 y2 y3 y4 => ((((((hb.trans (q1.mono hb.size)).setCell (p := ⟨w.heap.size, k * 5, none⟩) (Nat.le_refl _) _).setCell (p := ⟨w.heap.size, k * 5 + 1, none⟩) (Nat.le_refl _) _).setCell (p := ⟨w.heap.size, k * 5 + 2, none⟩) (Nat.le_refl _) _).setCell (p := ⟨w.heap.size, k * 5 + 3, none⟩) (Nat.le_refl _) _).setCell (p := ⟨w.heap.size, k * 5 + 4, none⟩) (Nat.le_refl _) _)
      go_wp2_with fail
      go_roundw
      case rel =>
        refine ⟨k + 1, by omega, by go_num, TB _ _ _ _ _, by simp [World.setCell]; omega, ⟨_, (((((BA.set_ (k * 5) _).set_ (k * 5 + 1) _).set_ (k * 5 + 2) _).set_ (k * 5 + 3) _).set_ (k * 5 + 4) _), by simpa [Hid] using hasz⟩, bs ++ bl, ?_⟩
        rw [take_succ_some Hxk.out]
        have hlk : (xs.take k).length = k := by have := lx.out; simp; omega
        have h1 := ElAt.setRun agentOw_ok (vs := [.int .i64 x.kind, .int .i64 x.level, .int .i64 x.value, .slice A1' m1 d1, .slice A2' m2 d2]) (p := k * 5) Hel.out (fun hh => by have := hin _ hh; omega) (Or.inr (by rw [hlk]; omega))
        have hnn := nodup_two hnd nd1 hin in1 hzz zz
        refine ⟨ElAt.append h1 (ElAt.one (agentOw_ok.keep (w' := setRun w1 w.heap.size (k * 5) [.int .i64 x.kind, .int .i64 x.level, .int .i64 x.value, .slice A1' m1 d1, .slice A2' m2 d2]) (fun b hb => setRun_block (fun e => by have := in1 b hb; omega)) HO) ?_), hnn.1, fun b hb => by have := hnn.2 b hb; simp only [World.size_setCell]; exact this⟩
        rw [hlk, Nat.zero_add]
        exact setRun_csAt (vs := [.int .i64 x.kind, .int .i64 x.level, .int .i64 x.value, .slice A1' m1 d1, .slice A2' m2 d2]) (fun j hj => by
          have hj : j < 5 := by simpa using hj
          match j, hj with
          | 0, _ => exact ⟨z0, hz0⟩
          | 1, _ => exact ⟨z1, hz1⟩
          | 2, _ => exact ⟨z2, hz2⟩
          | 3, _ => exact ⟨z3, hz3⟩
          | 4, _ => exact ⟨z4, hz4⟩) (fun j hj => fz _)
      case measure => simp [intOf]; omega
    · have hkn : k = n := by omega
      have e : xs.take k = xs := List.take_of_length_le (by have := lx.out; omega)
      rw [e] at hel
      have Hkn := Lib.hid hkn
      clear hkn e
      go_wp2
      go_ret
      exact ⟨⟨_, rfl, some ⟨w.heap.size, 0, none⟩, n, n, w.heap.size :: bs, rfl, ⟨lx.out, .inr ⟨_, _, bs, rfl, rfl, hel⟩⟩, List.nodup_cons.2 ⟨fun hh => by have := hin _ hh; omega, hnd⟩, fun b hb => by
        rcases List.mem_cons.1 hb with rfl | hb
        · omega
        · have := hin b hb; omega, Nat.le_refl _, by unfold maxLen; omega⟩, hb⟩
set_option maxHeartbeats 1000000 in
theorem toNet_v (v : Value) (x : DNet) (w : World) {B : Nat} (h : RdT netRd w B v x) (hB : B ≤ w.heap.size) (hs : szNet x ≤ 1048576) :
    Calls Try.prog 11 #[v] w fun e w' => Ret1 (fun v' => OwT netOw w' v' x w.heap.size w'.heap.size) e ∧ Below w.heap.size w w' := by
  obtain ⟨cs, rfl, A1, n1, c1, rfl, ⟨h1, r1⟩⟩ := h
  unfold szNet at hs
  have hb : ∀ o1 o2 o3, Below w.heap.size w (((w.alloc o1).alloc o2).alloc o3) := fun o1 o2 o3 => (((Below.refl _ _).alloc (Nat.le_refl _) _).alloc (by simp) _).alloc (by simp; omega) _
  go_enter Try.func11, Try.ntmps11
  go_wp2_with fail
  refine (toAgentS_v _ x.agents _ (B := B) ⟨A1, n1, c1, rfl, h1.below agentRd_ok ((hb _ _ _).mono hB), r1⟩ (Nat.le_trans hB (hb _ _ _).size) (by first | omega | (unfold lenOk; omega))).mono ?_
  rintro e w1 ⟨⟨v1, rfl, O1⟩, q1⟩
  have z1 : w.heap.size + 1 + 1 + 1 ≤ w1.heap.size := by have := q1.size; simpa using this
  have O1 := O1.wide (lo' := w.heap.size + 1 + 1 + 1) (hi' := w1.heap.size) (by simp) (Nat.le_refl _)
  obtain ⟨A1', m1, d1, bs1, rfl, ow1, nd1, in1, rr1⟩ := O1
  have T1 := (hb _ _ _).trans (q1.mono (hb _ _ _).size)
  have BB := blk3_0.below q1 (by simp <;> omega)
  have BR := blk3_1.below q1 (by simp <;> omega)
  have BO := blk3_2.below q1 (by simp <;> omega)
  clear q1
  have cB := BB.cell
  have cO := BO.cell
  have fO := BO.frozen
  have cR := BR.cell
  have fR := BR.frozen
  go_wp2_with fail
  have hfin : ∀ w', OnlyIn (w.heap.size + 1) (w.heap.size + 1 + 1 + 1) w1 w' → (Ret1 (fun v' => OwT netOw w' v' x w.heap.size w'.heap.size) (.returned (.agg #[(.slice A1' m1 d1)])) ∧ Below w.heap.size w w') := fun w' ho => by
    refine ⟨⟨_, rfl, [(.slice A1' m1 d1)], bs1, rfl, ⟨A1', m1, d1, bs1, rfl, ⟨ow1.keep agentOw_ok (fun k hk => ho.block k (.inr (by have := in1 k hk; omega))), rr1⟩, rfl⟩, ?_⟩, T1.trans (ho.below.mono (by omega))⟩
    have h1 : bs1.Nodup ∧ ∀ b ∈ bs1, w.heap.size ≤ b ∧ b < w1.heap.size := ⟨nd1, fun b hb => by have := in1 b hb; omega⟩
    exact ⟨h1.1, fun b hb => by have := h1.2 b hb; have := ho.size; omega⟩
  refine bodyPost_ret (v := .agg #[(.slice A1' m1 d1)]) (by simp [results, Try.results11, go_sem, cR]) rfl (hfin _ ?_)
  repeat (first | (with_reducible exact OnlyIn.refl _ _ _) | (with_reducible refine OnlyIn.setCell ?_ ⟨by simp, by simp⟩ _))
end
section
open Go.RowKit
set_option linter.unusedVariables false
set_option linter.unusedSimpArgs false
set_option maxHeartbeats 1000000 in
theorem eqPort_v (v u : Value) (x y : DPort) (w : World) {B B' : Nat} (h : RdT portRd w B v x) (h' : RdT portRd w B' u y) (hB : B ≤ w.heap.size) (hB' : B' ≤ w.heap.size) :
    Calls Try.prog 14 #[v, u] w fun e w' => e = .returned (.bool (decide (x = y))) ∧ Below w.heap.size w w' := by
  obtain ⟨cs, rfl, rfl⟩ := h
  obtain ⟨cs, rfl, rfl⟩ := h'
  have hb : ∀ o1 o2, Below w.heap.size w ((w.alloc o1).alloc o2) := fun o1 o2 => ((Below.refl _ _).alloc (Nat.le_refl _) _).alloc (by simp) _
  by_cases e0 : x.agent = y.agent
  · have f0 : (x.agent != y.agent) = false := by simp [e0]
    by_cases e1 : x.slot = y.slot
    · have f1 : (x.slot != y.slot) = false := by simp [e1]
      have He : Hid (decide (x = y) = true) := decide_eq_true (by cases x; cases y; simp_all)
      clear e0 e1
      go_enter Try.func14, Try.ntmps14
      go_wp2_with fail
      go_ret
      exact ⟨by rw [He.out]; rfl, hb _ _⟩
    · have f1 : (x.slot != y.slot) = true := by simp [e1]
      have He : Hid (decide (x = y) = false) := decide_eq_false (by intro exy; exact e1 (by rw [exy]))
      clear e0 e1
      go_enter Try.func14, Try.ntmps14
      go_wp2_with fail
      go_ret
      exact ⟨by rw [He.out]; rfl, hb _ _⟩
  · have f0 : (x.agent != y.agent) = true := by simp [e0]
    have He : Hid (decide (x = y) = false) := decide_eq_false (by intro exy; exact e0 (by rw [exy]))
    clear e0
    go_enter Try.func14, Try.ntmps14
    go_wp2_with fail
    go_ret
    exact ⟨by rw [He.out]; rfl, hb _ _⟩
set_option maxHeartbeats 1000000 in
theorem eqPortS_v (v u : Value) (xs ys : List DPort) (w : World) {B B' : Nat} (h : RdS portRd 2 w B v xs) (h' : RdS portRd 2 w B' u ys) (hB : B ≤ w.heap.size) (hB' : B' ≤ w.heap.size) :
    Calls Try.prog 92 #[v, u] w fun e w' => e = .returned (.bool (eqL xs ys)) ∧ Below w.heap.size w w' := by
  obtain ⟨A, n, c, rfl, hx, hnc, hcm⟩ := h
  obtain ⟨C, m, d, rfl, hy, hmd, hdm⟩ := h'
  unfold maxLen at hcm hdm
  have lx := Lib.hid hx.len
  have ly := Lib.hid hy.len
  have hr := Below.refl w.heap.size w
  by_cases hnm : n = m
  · subst hnm
    go_enter Try.func92, Try.ntmps92
    go_wp2
    go_loopw [5] (fun i wr => ∃ k : Nat, k ≤ n ∧ i = .int .i64 k ∧ Hid (xs.take k = ys.take k) ∧ Below w.heap.size w wr) (fun i _ => n - (intOf i).toNat)
    case atStart => exact ⟨0, by omega, rfl, rfl, hr⟩
    case round =>
      obtain ⟨k, hk, rfl, ht, hq⟩ := hrel
      by_cases hlt : k < n
      · have hx' := hx.below portRd_ok (hq.mono hB)
        have hy' := hy.below portRd_ok (hq.mono hB')
        obtain ⟨b, off, x, rfl, hb, hxk, hc0, hc1⟩ := hx'.port hlt
        obtain ⟨b', off', y, rfl, hb', hyk, hc0', hc1'⟩ := hy'.port hlt
        have Hxk := Lib.hid hxk
        have Hyk := Lib.hid hyk
        clear hxk hyk hx' hy'
        have hzB : B ≤ wr.drew.heap.size := Nat.le_trans hB hq.size
        have hzB' : B' ≤ wr.drew.heap.size := Nat.le_trans hB' hq.size
        by_cases hxy : x = y
        · have hf : decide (x = y) = true := decide_eq_true hxy
          have Hxy := Lib.hid hxy
          clear hxy
          go_wp2_with fail
          go_region_with (go_at_call 14; refine (eqPort_v _ _ x y _ (B := 0) (B' := 0) ⟨_, rfl, rfl⟩ ⟨_, rfl, rfl⟩ (Nat.zero_le _) (Nat.zero_le _)).mono ?_; rintro e w1 ⟨rfl, hq1⟩)
          all_goals
            go_wp2_with fail
            go_roundw
            case rel => exact ⟨k + 1, by omega, by go_num, eqL_step Hxk.out Hyk.out ht.out Hxy.out, hq.drew.trans (hq1.mono hq.size)⟩
            case measure => simp [intOf]; omega
        · have hf : decide (x = y) = false := decide_eq_false hxy
          have Hno := Lib.hid (eqL_no Hxk.out Hyk.out hxy)
          clear hxy
          go_wp2_with fail
          go_region_with (go_at_call 14; refine (eqPort_v _ _ x y _ (B := 0) (B' := 0) ⟨_, rfl, rfl⟩ ⟨_, rfl, rfl⟩ (Nat.zero_le _) (Nat.zero_le _)).mono ?_; rintro e w1 ⟨rfl, hq1⟩)
          all_goals
            go_wp2_with fail
            go_ret
            exact ⟨by rw [Hno.out]; rfl, hq.drew.trans (hq1.mono hq.size)⟩
      · have Hyes := Lib.hid (eqL_yes (k := k) ht.out (by have := lx.out; omega) (by have := ly.out; omega))
        go_wp2
        go_ret
        exact ⟨by rw [Hyes.out]; rfl, hq⟩
  · have Hno := Lib.hid (eqL_len (xs := xs) (ys := ys) (by have := lx.out; have := ly.out; omega))
    have hf : ((n : Int) != (m : Int)) = true := by simp; omega
    go_enter Try.func92, Try.ntmps92
    go_wp2
    go_ret
    exact ⟨by rw [Hno.out]; rfl, hr⟩
end
section
open Go.RowKit
set_option linter.unusedVariables false
set_option linter.unusedSimpArgs false
set_option maxHeartbeats 1000000 in
theorem eqAgent_v (v u : Value) (x y : DAgent) (w : World) {B B' : Nat} (h : RdT agentRd w B v x) (h' : RdT agentRd w B' u y) (hB : B ≤ w.heap.size) (hB' : B' ≤ w.heap.size) :
    Calls Try.prog 67 #[v, u] w fun e w' => e = .returned (.bool (decide (x = y))) ∧ Below w.heap.size w w' := by
  obtain ⟨cs, rfl, A1, n1, c1, A2, n2, c2, rfl, ⟨h1, r1⟩, ⟨h2, r2⟩⟩ := h
  obtain ⟨cs, rfl, A1', n1', c1', A2', n2', c2', rfl, ⟨h1', r1'⟩, ⟨h2', r2'⟩⟩ := h'
  have hb : ∀ o1 o2, Below w.heap.size w ((w.alloc o1).alloc o2) := fun o1 o2 => ((Below.refl _ _).alloc (Nat.le_refl _) _).alloc (by simp) _
  by_cases e0 : x.kind = y.kind
  · have f0 : (x.kind != y.kind) = false := by simp [e0]
    by_cases e1 : x.level = y.level
    · have f1 : (x.level != y.level) = false := by simp [e1]
      by_cases e2 : x.value = y.value
      · have f2 : (x.value != y.value) = false := by simp [e2]
        by_cases e3 : x.data = y.data
        · have f3 : eqL x.data y.data = true := decide_eq_true e3
          by_cases e4 : x.ports = y.ports
          · have f4 : eqL x.ports y.ports = true := decide_eq_true e4
            have He : Hid (decide (x = y) = true) := decide_eq_true (by cases x; cases y; simp_all)
            clear e0 e1 e2 e3 e4
            go_enter Try.func67, Try.ntmps67
            go_wp2_with fail
            refine (eqInt64S_v _ _ x.data y.data _ (B := B) (B' := B') ⟨A1, n1, c1, rfl, h1.below intRd_ok ((hb _ _).mono hB), r1⟩ ⟨A1', n1', c1', rfl, h1'.below intRd_ok ((hb _ _).mono hB'), r1'⟩ (Nat.le_trans hB (hb _ _).size) (Nat.le_trans hB' (hb _ _).size)).mono ?_
            rintro e w1 ⟨rfl, q1⟩
            have T := (hb _ _).trans (q1.mono (hb _ _).size)
            have B1 := blk2_0.below q1 (by simp <;> omega)
            have B2 := blk2_1.below q1 (by simp <;> omega)
            have z1 : w.heap.size + 1 + 1 ≤ w1.heap.size := by have := q1.size; simpa using this
            clear q1
            have g1 := B1.cell
            have g2 := B2.cell
            go_wp2_with fail
            clear g1 g2
            refine (eqPortS_v _ _ x.ports y.ports _ (B := B) (B' := B') ⟨A2, n2, c2, rfl, h2.below portRd_ok ((T).mono hB), r2⟩ ⟨A2', n2', c2', rfl, h2'.below portRd_ok ((T).mono hB'), r2'⟩ (Nat.le_trans hB (T).size) (Nat.le_trans hB' (T).size)).mono ?_
            rintro e w2 ⟨rfl, q2⟩
            have T := T.trans (q2.mono T.size)
            have B1 := B1.below q2 (by omega)
            have B2 := B2.below q2 (by omega)
            have z2 := Nat.le_trans z1 q2.size
            clear q2
            go_wp2_with fail
            go_ret
            exact ⟨by rw [He.out]; rfl, T⟩
          · have f4 : eqL x.ports y.ports = false := decide_eq_false e4
            have He : Hid (decide (x = y) = false) := decide_eq_false (by intro exy; exact e4 (by rw [exy]))
            clear e0 e1 e2 e3 e4
            go_enter Try.func67, Try.ntmps67
            go_wp2_with fail
            refine (eqInt64S_v _ _ x.data y.data _ (B := B) (B' := B') ⟨A1, n1, c1, rfl, h1.below intRd_ok ((hb _ _).mono hB), r1⟩ ⟨A1', n1', c1', rfl, h1'.below intRd_ok ((hb _ _).mono hB'), r1'⟩ (Nat.le_trans hB (hb _ _).size) (Nat.le_trans hB' (hb _ _).size)).mono ?_
            rintro e w1 ⟨rfl, q1⟩
            have T := (hb _ _).trans (q1.mono (hb _ _).size)
            have B1 := blk2_0.below q1 (by simp <;> omega)
            have B2 := blk2_1.below q1 (by simp <;> omega)
            have z1 : w.heap.size + 1 + 1 ≤ w1.heap.size := by have := q1.size; simpa using this
            clear q1
            have g1 := B1.cell
            have g2 := B2.cell
            go_wp2_with fail
            clear g1 g2
            refine (eqPortS_v _ _ x.ports y.ports _ (B := B) (B' := B') ⟨A2, n2, c2, rfl, h2.below portRd_ok ((T).mono hB), r2⟩ ⟨A2', n2', c2', rfl, h2'.below portRd_ok ((T).mono hB'), r2'⟩ (Nat.le_trans hB (T).size) (Nat.le_trans hB' (T).size)).mono ?_
            rintro e w2 ⟨rfl, q2⟩
            have T := T.trans (q2.mono T.size)
            have B1 := B1.below q2 (by omega)
            have B2 := B2.below q2 (by omega)
            have z2 := Nat.le_trans z1 q2.size
            clear q2
            go_wp2_with fail
            go_ret
            exact ⟨by rw [He.out]; rfl, T⟩
        · have f3 : eqL x.data y.data = false := decide_eq_false e3
          have He : Hid (decide (x = y) = false) := decide_eq_false (by intro exy; exact e3 (by rw [exy]))
          clear e0 e1 e2 e3
          go_enter Try.func67, Try.ntmps67
          go_wp2_with fail
          refine (eqInt64S_v _ _ x.data y.data _ (B := B) (B' := B') ⟨A1, n1, c1, rfl, h1.below intRd_ok ((hb _ _).mono hB), r1⟩ ⟨A1', n1', c1', rfl, h1'.below intRd_ok ((hb _ _).mono hB'), r1'⟩ (Nat.le_trans hB (hb _ _).size) (Nat.le_trans hB' (hb _ _).size)).mono ?_
          rintro e w1 ⟨rfl, q1⟩
          have T := (hb _ _).trans (q1.mono (hb _ _).size)
          have B1 := blk2_0.below q1 (by simp <;> omega)
          have B2 := blk2_1.below q1 (by simp <;> omega)
          have z1 : w.heap.size + 1 + 1 ≤ w1.heap.size := by have := q1.size; simpa using this
          clear q1
          go_wp2_with fail
          go_ret
          exact ⟨by rw [He.out]; rfl, T⟩
      · have f2 : (x.value != y.value) = true := by simp [e2]
        have He : Hid (decide (x = y) = false) := decide_eq_false (by intro exy; exact e2 (by rw [exy]))
        clear e0 e1 e2
        go_enter Try.func67, Try.ntmps67
        go_wp2_with fail
        go_ret
        exact ⟨by rw [He.out]; rfl, hb _ _⟩
    · have f1 : (x.level != y.level) = true := by simp [e1]
      have He : Hid (decide (x = y) = false) := decide_eq_false (by intro exy; exact e1 (by rw [exy]))
      clear e0 e1
      go_enter Try.func67, Try.ntmps67
      go_wp2_with fail
      go_ret
      exact ⟨by rw [He.out]; rfl, hb _ _⟩
  · have f0 : (x.kind != y.kind) = true := by simp [e0]
    have He : Hid (decide (x = y) = false) := decide_eq_false (by intro exy; exact e0 (by rw [exy]))
    clear e0
    go_enter Try.func67, Try.ntmps67
    go_wp2_with fail
    go_ret
    exact ⟨by rw [He.out]; rfl, hb _ _⟩
set_option maxHeartbeats 1000000 in
theorem eqAgentS_v (v u : Value) (xs ys : List DAgent) (w : World) {B B' : Nat} (h : RdS agentRd 5 w B v xs) (h' : RdS agentRd 5 w B' u ys) (hB : B ≤ w.heap.size) (hB' : B' ≤ w.heap.size) :
    Calls Try.prog 42 #[v, u] w fun e w' => e = .returned (.bool (eqL xs ys)) ∧ Below w.heap.size w w' := by
  obtain ⟨A, n, c, rfl, hx, hnc, hcm⟩ := h
  obtain ⟨C, m, d, rfl, hy, hmd, hdm⟩ := h'
  unfold maxLen at hcm hdm
  have lx := Lib.hid hx.len
  have ly := Lib.hid hy.len
  have hr := Below.refl w.heap.size w
  by_cases hnm : n = m
  · subst hnm
    go_enter Try.func42, Try.ntmps42
    go_wp2
    go_loopw [5] (fun i wr => ∃ k : Nat, k ≤ n ∧ i = .int .i64 k ∧ Hid (xs.take k = ys.take k) ∧ Below w.heap.size w wr) (fun i _ => n - (intOf i).toNat)
    case atStart => exact ⟨0, by omega, rfl, rfl, hr⟩
    case round =>
      obtain ⟨k, hk, rfl, ht, hq⟩ := hrel
      by_cases hlt : k < n
      · have hx' := hx.below agentRd_ok (hq.mono hB)
        have hy' := hy.below agentRd_ok (hq.mono hB')
        obtain ⟨b, off, x, A1, n1, c1, A2, n2, c2, rfl, hb, hxk, hc0, hc1, hc2, hc3, hc4, ⟨h1, r1⟩, ⟨h2, r2⟩⟩ := hx'.agent hlt
        obtain ⟨b', off', y, A1', n1', c1', A2', n2', c2', rfl, hb', hyk, hc0', hc1', hc2', hc3', hc4', ⟨h1', r1'⟩, ⟨h2', r2'⟩⟩ := hy'.agent hlt
        have Hxk := Lib.hid hxk
        have Hyk := Lib.hid hyk
        clear hxk hyk hx' hy'
        have hzB : B ≤ wr.drew.heap.size := Nat.le_trans hB hq.size
        have hzB' : B' ≤ wr.drew.heap.size := Nat.le_trans hB' hq.size
        by_cases hxy : x = y
        · have hf : decide (x = y) = true := decide_eq_true hxy
          have Hxy := Lib.hid hxy
          clear hxy
          go_wp2_with fail
          go_region_with (go_at_call 67; refine (eqAgent_v _ _ x y _ (B := B) (B' := B') ⟨_, rfl, A1, n1, c1, A2, n2, c2, rfl, ⟨h1.drew intRd_ok, r1⟩, ⟨h2.drew portRd_ok, r2⟩⟩ ⟨_, rfl, A1', n1', c1', A2', n2', c2', rfl, ⟨h1'.drew intRd_ok, r1'⟩, ⟨h2'.drew portRd_ok, r2'⟩⟩ hzB hzB').mono ?_; rintro e w1 ⟨rfl, hq1⟩)
          all_goals
            go_wp2_with fail
            go_roundw
            case rel => exact ⟨k + 1, by omega, by go_num, eqL_step Hxk.out Hyk.out ht.out Hxy.out, hq.drew.trans (hq1.mono hq.size)⟩
            case measure => simp [intOf]; omega
        · have hf : decide (x = y) = false := decide_eq_false hxy
          have Hno := Lib.hid (eqL_no Hxk.out Hyk.out hxy)
          clear hxy
          go_wp2_with fail
          go_region_with (go_at_call 67; refine (eqAgent_v _ _ x y _ (B := B) (B' := B') ⟨_, rfl, A1, n1, c1, A2, n2, c2, rfl, ⟨h1.drew intRd_ok, r1⟩, ⟨h2.drew portRd_ok, r2⟩⟩ ⟨_, rfl, A1', n1', c1', A2', n2', c2', rfl, ⟨h1'.drew intRd_ok, r1'⟩, ⟨h2'.drew portRd_ok, r2'⟩⟩ hzB hzB').mono ?_; rintro e w1 ⟨rfl, hq1⟩)
          all_goals
            go_wp2_with fail
            go_ret
            exact ⟨by rw [Hno.out]; rfl, hq.drew.trans (hq1.mono hq.size)⟩
      · have Hyes := Lib.hid (eqL_yes (k := k) ht.out (by have := lx.out; omega) (by have := ly.out; omega))
        go_wp2
        go_ret
        exact ⟨by rw [Hyes.out]; rfl, hq⟩
  · have Hno := Lib.hid (eqL_len (xs := xs) (ys := ys) (by have := lx.out; have := ly.out; omega))
    have hf : ((n : Int) != (m : Int)) = true := by simp; omega
    go_enter Try.func42, Try.ntmps42
    go_wp2
    go_ret
    exact ⟨by rw [Hno.out]; rfl, hr⟩
set_option maxHeartbeats 1000000 in
theorem eqNet_v (v u : Value) (x y : DNet) (w : World) {B B' : Nat} (h : RdT netRd w B v x) (h' : RdT netRd w B' u y) (hB : B ≤ w.heap.size) (hB' : B' ≤ w.heap.size) :
    Calls Try.prog 15 #[v, u] w fun e w' => e = .returned (.bool (decide (x = y))) ∧ Below w.heap.size w w' := by
  obtain ⟨cs, rfl, A1, n1, c1, rfl, ⟨h1, r1⟩⟩ := h
  obtain ⟨cs, rfl, A1', n1', c1', rfl, ⟨h1', r1'⟩⟩ := h'
  have hb : ∀ o1 o2, Below w.heap.size w ((w.alloc o1).alloc o2) := fun o1 o2 => ((Below.refl _ _).alloc (Nat.le_refl _) _).alloc (by simp) _
  by_cases e0 : x.agents = y.agents
  · have f0 : eqL x.agents y.agents = true := decide_eq_true e0
    have He : Hid (decide (x = y) = true) := decide_eq_true (by cases x; cases y; simp_all)
    clear e0
    go_enter Try.func15, Try.ntmps15
    go_wp2_with fail
    refine (eqAgentS_v _ _ x.agents y.agents _ (B := B) (B' := B') ⟨A1, n1, c1, rfl, h1.below agentRd_ok ((hb _ _).mono hB), r1⟩ ⟨A1', n1', c1', rfl, h1'.below agentRd_ok ((hb _ _).mono hB'), r1'⟩ (Nat.le_trans hB (hb _ _).size) (Nat.le_trans hB' (hb _ _).size)).mono ?_
    rintro e w1 ⟨rfl, q1⟩
    have T := (hb _ _).trans (q1.mono (hb _ _).size)
    have B1 := blk2_0.below q1 (by simp <;> omega)
    have B2 := blk2_1.below q1 (by simp <;> omega)
    have z1 : w.heap.size + 1 + 1 ≤ w1.heap.size := by have := q1.size; simpa using this
    clear q1
    go_wp2_with fail
    go_ret
    exact ⟨by rw [He.out]; rfl, T⟩
  · have f0 : eqL x.agents y.agents = false := decide_eq_false e0
    have He : Hid (decide (x = y) = false) := decide_eq_false (by intro exy; exact e0 (by rw [exy]))
    clear e0
    go_enter Try.func15, Try.ntmps15
    go_wp2_with fail
    refine (eqAgentS_v _ _ x.agents y.agents _ (B := B) (B' := B') ⟨A1, n1, c1, rfl, h1.below agentRd_ok ((hb _ _).mono hB), r1⟩ ⟨A1', n1', c1', rfl, h1'.below agentRd_ok ((hb _ _).mono hB'), r1'⟩ (Nat.le_trans hB (hb _ _).size) (Nat.le_trans hB' (hb _ _).size)).mono ?_
    rintro e w1 ⟨rfl, q1⟩
    have T := (hb _ _).trans (q1.mono (hb _ _).size)
    have B1 := blk2_0.below q1 (by simp <;> omega)
    have B2 := blk2_1.below q1 (by simp <;> omega)
    have z1 : w.heap.size + 1 + 1 ≤ w1.heap.size := by have := q1.size; simpa using this
    clear q1
    go_wp2_with fail
    go_ret
    exact ⟨by rw [He.out]; rfl, T⟩
end
section
open Go.RowKit
set_option linter.unusedVariables false
set_option linter.unusedSimpArgs false
set_option maxRecDepth 100000
set_option maxHeartbeats 8000000 in
theorem walk_LiveAgents (w : World) (v0 : Value) (x : DNet) (R0 : RdT netRd w w.heap.size v0 x) :
    Calls Try.prog 5 #[v0] w fun e w' => e = .returned (.bool true) ∧ Below w.heap.size w w' := by
  obtain ⟨a0A0, a0n0, a0c0, rfl⟩ : ∃ a0A0 a0n0 a0c0, v0 = .agg #[.slice a0A0 a0n0 a0c0] := by obtain ⟨cs, rfl, ⟨A0, n0, c0, rfl, _⟩⟩ := R0; exact ⟨A0, n0, c0, rfl⟩
  by_cases d0 : (szNet x : Int) ≤ 1048576
  case neg =>
    have T := Below.refl w.heap.size w
    have T : Below w.heap.size w (w.alloc (.cells #[.slice a0A0 a0n0 a0c0] 24)) := T.alloc (by first | exact Nat.le_refl _ | (simp; done) | (simp; omega)) _
    have B0 : Blk (w.alloc (.cells #[.slice a0A0 a0n0 a0c0] 24)) (w.heap.size) 24 #[.slice a0A0 a0n0 a0c0] := by have := Blk.new w 24 #[.slice a0A0 a0n0 a0c0]; simpa using this
    have zb0 : (w.alloc (.cells #[.slice a0A0 a0n0 a0c0] 24)).heap.size = w.heap.size + 1 := by simp
    go_enter Try.func5, Try.ntmps5
    go_wp2_with fail
    refine (szNet_v _ x (1048576) _ (R0.below netRd_ok T) T.size (by omega) (by omega)).mono ?_
    rw [szL_neg (by omega)]
    rintro e w1 ⟨rfl, b1⟩
    have z1 := b1.size
    have B0 := B0.below b1 (by omega)
    have T := T.trans (b1.mono (by omega))
    have gB0 := B0.cell
    go_wp2_with fail
    go_ret
    exact ⟨rfl, T⟩
  have s0 : szNet x ≤ 1048576 := by omega
  have sr := liveAgents_len x s0
  have q_r : eqL ((liveAgents x).1) ((liveAgents x).1) = true := decide_eq_true rfl
  have T := Below.refl w.heap.size w
  have T : Below w.heap.size w (w.alloc (.cells #[.slice a0A0 a0n0 a0c0] 24)) := T.alloc (by first | exact Nat.le_refl _ | (simp; done) | (simp; omega)) _
  have B0 : Blk (w.alloc (.cells #[.slice a0A0 a0n0 a0c0] 24)) (w.heap.size) 24 #[.slice a0A0 a0n0 a0c0] := by have := Blk.new w 24 #[.slice a0A0 a0n0 a0c0]; simpa using this
  have zb0 : (w.alloc (.cells #[.slice a0A0 a0n0 a0c0] 24)).heap.size = w.heap.size + 1 := by simp
  go_enter Try.func5, Try.ntmps5
  go_wp2_with fail
  refine (szNet_v _ x (1048576) _ (R0.below netRd_ok T) T.size (by omega) (by omega)).mono ?_
  rw [szL_pos (by omega)]
  rintro e w1 ⟨rfl, b1⟩
  have z1 := b1.size
  have B0 := B0.below b1 (by omega)
  have T := T.trans (b1.mono (by omega))
  have gB0 := B0.cell
  go_wp2_with fail
  refine (toNet_v _ x _ (R0.below netRd_ok T) T.size s0).mono ?_
  rintro e w2 ⟨⟨t1, rfl, p2⟩, b2⟩
  have z2 := b2.size
  have B0 := B0.below b2 (by omega)
  have T := T.trans (b2.mono (by omega))
  clear gB0
  have gB0 := B0.cell
  go_wp2_with fail
  refine (specLiveAgents_v _ x _ (p2.reads (netOw_reads (w2).heap.size) (by omega)) (Nat.le_refl _) s0).mono ?_
  rintro e w3 ⟨⟨u4, rfl, G3⟩, b3⟩
  have z3 := b3.size
  have B0 := B0.below b3 (by omega)
  have p2 := p2.below netOw_ok b3 (by omega)
  have T := T.trans (b3.mono (by omega))
  clear gB0
  have gB0 := B0.cell
  clear p2
  go_wp2_with fail
  refine (toNet_v _ x _ (R0.below netRd_ok T) T.size s0).mono ?_
  rintro e w4 ⟨⟨t5, rfl, p6⟩, b4⟩
  have z4 := b4.size
  have B0 := B0.below b4 (by omega)
  have G3 := G3.below intOw_ok b4 (by omega)
  have T := T.trans (b4.mono (by omega))
  clear gB0
  have gB0 := B0.cell
  obtain ⟨l8A0, l8n0, l8c0, rfl⟩ : ∃ l8A0 l8n0 l8c0, t5 = .agg #[.slice l8A0 l8n0 l8c0] := by obtain ⟨cs, bs, rfl, ⟨A0, n0, c0, b0, rfl, _⟩, _⟩ := p6; exact ⟨A0, n0, c0, rfl⟩
  have b5 : Below w4.heap.size w4 (w4.alloc (.cells #[.slice l8A0 l8n0 l8c0] 33)) := (Below.refl _ _).alloc (Nat.le_refl _) _
  have z5 : (w4.alloc (.cells #[.slice l8A0 l8n0 l8c0] 33)).heap.size = w4.heap.size + 1 := World.size_alloc _ _
  have B0 := B0.below b5 (by omega)
  have G3 := G3.below intOw_ok b5 (by omega)
  have p6 := p6.below netOw_ok b5 (by omega)
  have T := T.trans (b5.mono (by omega))
  have X7 : Blk (w4.alloc (.cells #[.slice l8A0 l8n0 l8c0] 33)) w4.heap.size 33 #[.slice l8A0 l8n0 l8c0] := Blk.new _ _ _
  clear gB0
  have gB0 := B0.cell
  have gX7 := X7.cell
  go_wp2_with fail
  refine (implLiveAgents_v _ x _ (p6.reads (netOw_reads ((w4.alloc (.cells #[.slice l8A0 l8n0 l8c0] 33))).heap.size) (by omega)) (Nat.le_refl _) s0).mono ?_
  rintro e w6 ⟨⟨u10, rfl, G9⟩, b6⟩
  have z6 := b6.size
  have B0 := B0.below b6 (by omega)
  have X7 := X7.below b6 (by omega)
  have G3 := G3.below intOw_ok b6 (by omega)
  have p6 := p6.below netOw_ok b6 (by omega)
  have T := T.trans (b6.mono (by omega))
  clear gB0
  clear gX7
  have gB0 := B0.cell
  have gX7 := X7.cell
  go_wp2_with fail
  refine (eqInt64S_v _ _ _ _ _ (G9.reads (intOw_reads (w6).heap.size) (by omega)) (G3.reads (intOw_reads (w6).heap.size) (by omega)) (Nat.le_refl _) (Nat.le_refl _)).mono ?_
  rintro e w7 ⟨rfl, b7⟩
  have z7 := b7.size
  have B0 := B0.below b7 (by omega)
  have X7 := X7.below b7 (by omega)
  have G3 := G3.below intOw_ok b7 (by omega)
  have p6 := p6.below netOw_ok b7 (by omega)
  have G9 := G9.below intOw_ok b7 (by omega)
  have T := T.trans (b7.mono (by omega))
  clear gB0
  clear gX7
  have gB0 := B0.cell
  have gX7 := X7.cell
  go_wp2_with fail
  have T := T.drew
  have B0 := B0.drew
  have X7 := X7.drew
  have G3 := G3.keep intOw_ok (w' := w7.drew) (fun _ _ _ => rfl)
  have p6 := p6.keep netOw_ok (w' := w7.drew) (fun _ _ _ => rfl)
  have G9 := G9.keep intOw_ok (w' := w7.drew) (fun _ _ _ => rfl)
  have zd8 : w7.drew.heap.size = w7.heap.size := rfl
  go_region_held3 (fun w' => w'.cell? ⟨w4.heap.size, 0, none⟩ = some (.slice l8A0 l8n0 l8c0) ∧ w'.cell? ⟨w.heap.size, 0, none⟩ = some (.slice a0A0 a0n0 a0c0)) (exact ⟨gX7 0, gB0 0⟩) (first
    | (go_at_call 11; refine (toNet_v _ x _ (R0.below netRd_ok T) T.size s0).mono ?_; rintro e w9 ⟨⟨t11, rfl, p12⟩, b9⟩; have z9 := b9.size; have B0 := B0.below b9 (by omega); have X7 := X7.below b9 (by omega); have G3 := G3.below intOw_ok b9 (by omega); have p6 := p6.below netOw_ok b9 (by omega); have G9 := G9.below intOw_ok b9 (by omega); have T := T.trans (b9.mono (by omega)); clear gB0; clear gX7; have gB0 := B0.cell; have gX7 := X7.cell)
    | (go_at_call 15; refine (eqNet_v _ _ _ _ _ (p6.reads (netOw_reads (w9).heap.size) (by omega)) (p12.reads (netOw_reads (w9).heap.size) (by omega)) (Nat.le_refl _) (Nat.le_refl _)).mono ?_; rintro e w10 ⟨rfl, b10⟩; have z10 := b10.size; have B0 := B0.below b10 (by omega); have X7 := X7.below b10 (by omega); have G3 := G3.below intOw_ok b10 (by omega); have p6 := p6.below netOw_ok b10 (by omega); have G9 := G9.below intOw_ok b10 (by omega); have p12 := p12.below netOw_ok b10 (by omega); have T := T.trans (b10.mono (by omega)); clear gB0; clear gX7; have gB0 := B0.cell; have gX7 := X7.cell))
  go_wp2_with fail
  refine (markNet_v _ _ _ _ _ _ p6 (by omega) s0 (by omega) (by omega)).mono ?_
  rintro e w11 ⟨m13, rfl, wb11, b11, e11, b12⟩
  clear p6
  have z11 := b11.size
  have B0 := B0.below b11 (by omega)
  have X7 := X7.below b11 (by omega)
  have G3 := G3.below intOw_ok b11 (by omega)
  have G9 := G9.below intOw_ok b11 (by omega)
  have p12 := p12.below netOw_ok b11 (by omega)
  have T := T.trans (b11.mono (by omega))
  have z12 := Nat.le_of_eq e11
  have y12 := Nat.le_of_eq e11.symm
  have B0 := B0.only b12 (by omega)
  have X7 := X7.only b12 (by omega)
  have G3 := G3.only intOw_ok b12 (by omega)
  have G9 := G9.only intOw_ok b12 (by omega)
  have p12 := p12.only netOw_ok b12 (by omega)
  have T := T.trans (b12.below.mono (by omega))
  have hm13 : decide ((m13 : Int) < 0) = false := by simp
  clear gB0
  clear gX7
  have gB0 := B0.cell
  have gX7 := X7.cell
  go_wp2_with fail
  refine (eqInt64S_v _ _ _ _ _ (G9.reads (intOw_reads (w11).heap.size) (by omega)) (G3.reads (intOw_reads (w11).heap.size) (by omega)) (Nat.le_refl _) (Nat.le_refl _)).mono ?_
  rintro e w13 ⟨rfl, b13⟩
  have z13 := b13.size
  have B0 := B0.below b13 (by omega)
  have X7 := X7.below b13 (by omega)
  have G3 := G3.below intOw_ok b13 (by omega)
  have G9 := G9.below intOw_ok b13 (by omega)
  have p12 := p12.below netOw_ok b13 (by omega)
  have T := T.trans (b13.mono (by omega))
  clear gB0
  clear gX7
  have gB0 := B0.cell
  have gX7 := X7.cell
  go_wp2_with fail
  refine (markInt64S_v _ _ _ _ _ _ G9 sr (by omega) (by omega)).mono ?_
  rintro e w14 ⟨rfl, G9, b14⟩
  have z14 := Nat.le_of_eq b14.size
  have y14 := Nat.le_of_eq b14.size.symm
  have B0 := B0.only b14 (by omega)
  have X7 := X7.only b14 (by omega)
  have G3 := G3.only intOw_ok b14 (by omega)
  have p12 := p12.only netOw_ok b14 (by omega)
  have T := T.trans (b14.below.mono (by omega))
  clear gB0
  clear gX7
  have gB0 := B0.cell
  have gX7 := X7.cell
  go_wp2_with fail
  refine (heldInt64S_v _ (liveAgents x).1 _ _ (G9.reads (intOw_reads (w14).heap.size) (by omega)) sr (by omega) (by omega)).mono ?_
  rintro e w15 ⟨rfl, b15⟩
  have z15 := b15.size
  have B0 := B0.below b15 (by omega)
  have X7 := X7.below b15 (by omega)
  have G3 := G3.below intOw_ok b15 (by omega)
  have G9 := G9.below intOw_ok b15 (by omega)
  have p12 := p12.below netOw_ok b15 (by omega)
  have T := T.trans (b15.mono (by omega))
  clear gB0
  clear gX7
  have gB0 := B0.cell
  have gX7 := X7.cell
  go_wp2_with fail
  refine (toNet_v _ x _ (R0.below netRd_ok T) T.size s0).mono ?_
  rintro e w16 ⟨⟨t14, rfl, p15⟩, b16⟩
  have z16 := b16.size
  have B0 := B0.below b16 (by omega)
  have X7 := X7.below b16 (by omega)
  have G3 := G3.below intOw_ok b16 (by omega)
  have G9 := G9.below intOw_ok b16 (by omega)
  have p12 := p12.below netOw_ok b16 (by omega)
  have T := T.trans (b16.mono (by omega))
  clear gB0
  clear gX7
  have gB0 := B0.cell
  have gX7 := X7.cell
  go_wp2_with fail
  refine (implLiveAgents_v _ x _ (p15.reads (netOw_reads (w16).heap.size) (by omega)) (Nat.le_refl _) s0).mono ?_
  rintro e w17 ⟨⟨u17, rfl, G16⟩, b17⟩
  have z17 := b17.size
  have B0 := B0.below b17 (by omega)
  have X7 := X7.below b17 (by omega)
  have G3 := G3.below intOw_ok b17 (by omega)
  have G9 := G9.below intOw_ok b17 (by omega)
  have p12 := p12.below netOw_ok b17 (by omega)
  have p15 := p15.below netOw_ok b17 (by omega)
  have T := T.trans (b17.mono (by omega))
  clear gB0
  clear gX7
  have gB0 := B0.cell
  have gX7 := X7.cell
  clear p15
  go_wp2_with fail
  refine (eqInt64S_v _ _ _ _ _ (G16.reads (intOw_reads (w17).heap.size) (by omega)) (G3.reads (intOw_reads (w17).heap.size) (by omega)) (Nat.le_refl _) (Nat.le_refl _)).mono ?_
  rintro e w18 ⟨rfl, b18⟩
  have z18 := b18.size
  have B0 := B0.below b18 (by omega)
  have X7 := X7.below b18 (by omega)
  have G3 := G3.below intOw_ok b18 (by omega)
  have G9 := G9.below intOw_ok b18 (by omega)
  have p12 := p12.below netOw_ok b18 (by omega)
  have G16 := G16.below intOw_ok b18 (by omega)
  have T := T.trans (b18.mono (by omega))
  clear gB0
  clear gX7
  have gB0 := B0.cell
  have gX7 := X7.cell
  go_wp2_with fail
  refine (heldInt64S_v _ (liveAgents x).1 _ _ (G9.reads (intOw_reads (w18).heap.size) (by omega)) sr (by omega) (by omega)).mono ?_
  rintro e w19 ⟨rfl, b19⟩
  have z19 := b19.size
  have B0 := B0.below b19 (by omega)
  have X7 := X7.below b19 (by omega)
  have G3 := G3.below intOw_ok b19 (by omega)
  have G9 := G9.below intOw_ok b19 (by omega)
  have p12 := p12.below netOw_ok b19 (by omega)
  have G16 := G16.below intOw_ok b19 (by omega)
  have T := T.trans (b19.mono (by omega))
  clear gB0
  clear gX7
  have gB0 := B0.cell
  have gX7 := X7.cell
  go_wp2_with fail
  go_ret
  exact ⟨rfl, T⟩
end
section
open Go.RowKit Go.ChangeShapes Go.WideShapes Go.Deep Go.WideMaps
set_option linter.unusedVariables false
def Opens {α : Type} (P : Program) (t : TypeId) (R : Rd α) : Prop := ∀ (H : Type) (enc : TypeId × Value → H) (W : World) (fuel : Nat) (cs : List Value) (x : DataW H × List MemPlace),
  DataW.trod enc P W 0 (fun _ => true) true fuel t cs = some x → ∃ d, R W W.heap.size cs d
theorem opens_int {P : Program} {t : TypeId} (ht : P.underlying t = some (.int .i64)) : Opens P t intRd := fun H enc W fuel cs x h => by
  obtain ⟨n, hc, _, _⟩ := DataW.trod_int ht h
  exact ⟨n, hc⟩
theorem spot_none {w : World} {a : Addr} {v : Value} (h : w.cell? a = some v) : a.spot = none := by
  unfold World.cell? at h
  split at h
  · cases hs : a.spot with
    | none => rfl
    | some s => simp [hs] at h
  · simp at h
theorem opens_slice {α : Type} {P : Program} {t e : TypeId} {R : Rd α} {sz : Nat} (ht : P.underlying t = some (.slice e)) (hsz : P.cellsOf e = sz) (hpos : 0 < sz) (ok : RdOk R sz) (he : Opens P e R) : Opens P t (slRd R sz) := fun H enc W fuel cs x h => by
  rcases open_slice ht h with ⟨rfl, rfl⟩ | ⟨a, len, cap, m, n, D, Pl, rfl, hb, hl, hm, hmm, hx, hel⟩
  · exact ⟨[], none, 0, 0, rfl, SlAt.none_, Nat.le_refl _, Nat.zero_le _⟩
  · have hmc : len ≤ m := by rw [hmm]; simp; omega
    have hel' : ∀ i, i < len → ∃ p : List Value × α, R W W.heap.size p.1 p.2 ∧ ∀ j, j < sz → W.cell? (a.add (i * sz + j)) = p.1[j]? := fun i hi => by
      obtain ⟨cs', hc, htr⟩ := hel i (by omega)
      obtain ⟨d, hd⟩ := he H enc W n cs' (D i, Pl i) htr
      obtain ⟨_, hlen, hat⟩ := World.cells?_some hc
      exact ⟨(cs', d), hd, fun j hj => by
        have := hat j (by rw [hsz]; exact hj)
        rw [hsz, Go.Deep.add_add] at this
        exact this⟩
    rcases Nat.eq_zero_or_pos len with h0 | h0
    · subst h0
      exact ⟨[], some a, 0, cap, rfl, SlAt.none_, Nat.zero_le _, hm⟩
    · have hne : Nonempty (List Value × α) := let ⟨p, _⟩ := hel' 0 h0; ⟨p⟩
      have hf : ∃ f : Nat → List Value × α, ∀ i, i < len → R W W.heap.size (f i).1 (f i).2 ∧ ∀ j, j < sz → W.cell? (a.add (i * sz + j)) = (f i).1[j]? := by
        classical
        refine ⟨fun i => if hi : i < len then Classical.choose (hel' i hi) else Classical.choice hne, fun i hi => ?_⟩
        simp only [dif_pos hi]
        exact Classical.choose_spec (hel' i hi)
      obtain ⟨f, hf⟩ := hf
      have hc0 : ∃ v, W.cell? a = some v := by
        obtain ⟨hR, hc⟩ := hf 0 h0
        have hlR := ok.len hR
        have h1 := hc 0 hpos
        have h2 : a.add (0 * sz + 0) = a := by simp [Addr.add]
        rw [h2, List.getElem?_eq_getElem (by omega)] at h1
        exact ⟨_, h1⟩
      obtain ⟨v0, hv0⟩ := hc0
      have hsp := spot_none hv0
      have hbl := World.block_lt_of_cell? _ _ hv0
      have ea : a = ⟨a.block, a.off, none⟩ := by cases a; simp_all
      refine ⟨(List.range len).map fun i => (f i).2, some a, len, cap, rfl, ⟨by simp, fun _ => ⟨a.block, a.off, by rw [← ea], hbl, fun i x hx => ?_⟩⟩, hl, hm⟩
      have hi : i < len := by simpa using lt_of_some hx
      have hx' : (f i).2 = x := by simpa [hi] using hx
      subst hx'
      obtain ⟨hR, hc⟩ := hf i hi
      refine ⟨_, hR, fun j v hj => ?_⟩
      have hj' : j < sz := by have := lt_of_some hj; rw [ok.len hR] at this; exact this
      have h1 := hc j hj'
      rw [hj] at h1
      have e2 : a.add (i * sz + j) = ⟨a.block, a.off + i * sz + j, none⟩ := by
        rw [ea]; simp only [Addr.add_lit]; congr 1; omega
      rw [← e2]
      exact h1
/-- An argument's value as its cells. -/
theorem opens_arg {α : Type} {P : Program} {t : TypeId} {R : Rd α} (h : Opens P t R) {H : Type} {enc : TypeId × Value → H} {W : World} {v : Value} {d : DataW H} {ps : List MemPlace} (ht : DataW.Trod enc P W 0 (fun _ => true) true t v d ps) : ∃ x, R W W.heap.size v.cells.toList x := by
  obtain ⟨fuel, hf⟩ := ht
  exact h H enc W fuel _ _ hf
end
section
open Go.RowKit
theorem opens_ints : Opens Try.prog 41 (slRd intRd 1) := opens_slice Try.underlying41 (by kernel_rfl) (by decide) intRd_ok (opens_int Try.underlying2)
end
section
open Go.RowKit Go.ChangeShapes Go.WideShapes Go.Deep Go.WideMaps
set_option linter.unusedVariables false
set_option linter.unusedSimpArgs false
theorem trod_fields {P : Program} {t : TypeId} {fs : Array Field} {H : Type} {enc : TypeId × Value → H} {W : World} {fuel : Nat} {cs : List Value} {x : DataW H × List MemPlace} (ht : P.underlying t = some (.struct fs)) (h : DataW.trod enc P W 0 (fun _ => true) true fuel t cs = some x) :
    cs.length = P.cellsOf t ∧ ∃ n, ∀ (i : Nat) (f : Field), fs[i]? = some f → ∃ y, DataW.trod enc P W 0 (fun _ => true) true n f.type ((cs.drop f.offset).take (P.cellsOf f.type)) = some y := by
  obtain ⟨xs, n, _, _, hl, hlen, hf⟩ := DataW.trod_struct ht h
  refine ⟨hl, n, fun i f hi => ?_⟩
  have hlt : i < fs.size := (Array.getElem?_eq_some_iff.1 hi).1
  exact ⟨xs[i], by rw [hf i f hi]; exact List.getElem?_eq_getElem (by omega)⟩
/-- A struct argument. -/
theorem open_st {α : Type} {P : Program} {t : TypeId} {fs : Array Field} {R : Rd α} (h : Opens P t R) (ht : P.underlying t = some (.struct fs)) {r : Reach} {b0 : Nat} {H : Type} {enc : TypeId × Value → H} {W : World} {v : Value} {d : DataW H} {ps : List MemPlace}
    (hv : Value.okWide P W r b0 t v) (hd : DataW.Trod enc P W 0 (fun _ => true) true t v d ps) : ∃ x, RdT R W W.heap.size v x := by
  obtain ⟨cs, rfl, _⟩ := okWide_struct ht hv
  obtain ⟨x, hx⟩ := opens_arg h hd
  exact ⟨x, cs.toList, by simp, by simpa [Value.cells] using hx⟩
theorem len1 {α : Type} {l : List α} (h : l.length = 1) : ∃ a0, l = [a0] := by
  match l, h with
  | [a0], _ => exact ⟨a0, rfl⟩
theorem len2 {α : Type} {l : List α} (h : l.length = 2) : ∃ a0 a1, l = [a0, a1] := by
  match l, h with
  | [a0, a1], _ => exact ⟨a0, a1, rfl⟩
theorem len5 {α : Type} {l : List α} (h : l.length = 5) : ∃ a0 a1 a2 a3 a4, l = [a0, a1, a2, a3, a4] := by
  match l, h with
  | [a0, a1, a2, a3, a4], _ => exact ⟨a0, a1, a2, a3, a4, rfl⟩
theorem opens_Port : Opens Try.prog 26 portRd := fun H enc W fuel cs x h => by
  obtain ⟨hl, m, hf⟩ := trod_fields Try.underlying26 h
  replace hl : cs.length = 2 := hl.trans (by kernel_rfl)
  obtain ⟨a0, a1, rfl⟩ := len2 hl
  obtain ⟨y0, h0⟩ : ∃ y, DataW.trod enc Try.prog W 0 (fun _ => true) true m 2 (([a0, a1].drop 0).take (Try.prog.cellsOf 2)) = some y := hf 0 _ rfl
  have k0 : Try.prog.cellsOf 2 = 1 := by kernel_rfl
  rw [k0] at h0; simp only [List.drop_zero, List.drop_succ_cons, List.take_succ_cons, List.take_zero] at h0
  obtain ⟨d0, e0⟩ := opens_int Try.underlying2 H enc W _ _ _ h0
  unfold intRd at e0; simp only [List.cons.injEq, and_true] at e0
  obtain ⟨y1, h1⟩ : ∃ y, DataW.trod enc Try.prog W 0 (fun _ => true) true m 2 (([a0, a1].drop 1).take (Try.prog.cellsOf 2)) = some y := hf 1 _ rfl
  have k1 : Try.prog.cellsOf 2 = 1 := by kernel_rfl
  rw [k1] at h1; simp only [List.drop_zero, List.drop_succ_cons, List.take_succ_cons, List.take_zero] at h1
  obtain ⟨d1, e1⟩ := opens_int Try.underlying2 H enc W _ _ _ h1
  unfold intRd at e1; simp only [List.cons.injEq, and_true] at e1
  subst e0; subst e1
  exact ⟨⟨d0, d1⟩, rfl⟩
theorem opens_PortS : Opens Try.prog 88 (slRd portRd 2) := opens_slice Try.underlying88 (by kernel_rfl) (by decide) portRd_ok opens_Port
theorem opens_Agent : Opens Try.prog 90 agentRd := fun H enc W fuel cs x h => by
  obtain ⟨hl, m, hf⟩ := trod_fields Try.underlying90 h
  replace hl : cs.length = 5 := hl.trans (by kernel_rfl)
  obtain ⟨a0, a1, a2, a3, a4, rfl⟩ := len5 hl
  obtain ⟨y0, h0⟩ : ∃ y, DataW.trod enc Try.prog W 0 (fun _ => true) true m 2 (([a0, a1, a2, a3, a4].drop 0).take (Try.prog.cellsOf 2)) = some y := hf 0 _ rfl
  have k0 : Try.prog.cellsOf 2 = 1 := by kernel_rfl
  rw [k0] at h0; simp only [List.drop_zero, List.drop_succ_cons, List.take_succ_cons, List.take_zero] at h0
  obtain ⟨d0, e0⟩ := opens_int Try.underlying2 H enc W _ _ _ h0
  unfold intRd at e0; simp only [List.cons.injEq, and_true] at e0
  obtain ⟨y1, h1⟩ : ∃ y, DataW.trod enc Try.prog W 0 (fun _ => true) true m 2 (([a0, a1, a2, a3, a4].drop 1).take (Try.prog.cellsOf 2)) = some y := hf 1 _ rfl
  have k1 : Try.prog.cellsOf 2 = 1 := by kernel_rfl
  rw [k1] at h1; simp only [List.drop_zero, List.drop_succ_cons, List.take_succ_cons, List.take_zero] at h1
  obtain ⟨d1, e1⟩ := opens_int Try.underlying2 H enc W _ _ _ h1
  unfold intRd at e1; simp only [List.cons.injEq, and_true] at e1
  obtain ⟨y2, h2⟩ : ∃ y, DataW.trod enc Try.prog W 0 (fun _ => true) true m 2 (([a0, a1, a2, a3, a4].drop 2).take (Try.prog.cellsOf 2)) = some y := hf 2 _ rfl
  have k2 : Try.prog.cellsOf 2 = 1 := by kernel_rfl
  rw [k2] at h2; simp only [List.drop_zero, List.drop_succ_cons, List.take_succ_cons, List.take_zero] at h2
  obtain ⟨d2, e2⟩ := opens_int Try.underlying2 H enc W _ _ _ h2
  unfold intRd at e2; simp only [List.cons.injEq, and_true] at e2
  obtain ⟨y3, h3⟩ : ∃ y, DataW.trod enc Try.prog W 0 (fun _ => true) true m 41 (([a0, a1, a2, a3, a4].drop 3).take (Try.prog.cellsOf 41)) = some y := hf 3 _ rfl
  have k3 : Try.prog.cellsOf 41 = 1 := by kernel_rfl
  rw [k3] at h3; simp only [List.drop_zero, List.drop_succ_cons, List.take_succ_cons, List.take_zero] at h3
  obtain ⟨d3, A3, n3, c3, e3, g3, r3⟩ := opens_ints H enc W _ _ _ h3
  simp only [List.cons.injEq, and_true] at e3
  obtain ⟨y4, h4⟩ : ∃ y, DataW.trod enc Try.prog W 0 (fun _ => true) true m 88 (([a0, a1, a2, a3, a4].drop 4).take (Try.prog.cellsOf 88)) = some y := hf 4 _ rfl
  have k4 : Try.prog.cellsOf 88 = 1 := by kernel_rfl
  rw [k4] at h4; simp only [List.drop_zero, List.drop_succ_cons, List.take_succ_cons, List.take_zero] at h4
  obtain ⟨d4, A4, n4, c4, e4, g4, r4⟩ := opens_PortS H enc W _ _ _ h4
  simp only [List.cons.injEq, and_true] at e4
  subst e0; subst e1; subst e2; subst e3; subst e4
  exact ⟨⟨d0, d1, d2, d3, d4⟩, A3, n3, c3, A4, n4, c4, rfl, ⟨g3, r3⟩, ⟨g4, r4⟩⟩
theorem opens_AgentS : Opens Try.prog 22 (slRd agentRd 5) := opens_slice Try.underlying22 (by kernel_rfl) (by decide) agentRd_ok opens_Agent
theorem opens_Net : Opens Try.prog 24 netRd := fun H enc W fuel cs x h => by
  obtain ⟨hl, m, hf⟩ := trod_fields Try.underlying24 h
  replace hl : cs.length = 1 := hl.trans (by kernel_rfl)
  obtain ⟨a0, rfl⟩ := len1 hl
  obtain ⟨y0, h0⟩ : ∃ y, DataW.trod enc Try.prog W 0 (fun _ => true) true m 22 (([a0].drop 0).take (Try.prog.cellsOf 22)) = some y := hf 0 _ rfl
  have k0 : Try.prog.cellsOf 22 = 1 := by kernel_rfl
  rw [k0] at h0; simp only [List.drop_zero, List.drop_succ_cons, List.take_succ_cons, List.take_zero] at h0
  obtain ⟨d0, A0, n0, c0, e0, g0, r0⟩ := opens_AgentS H enc W _ _ _ h0
  simp only [List.cons.injEq, and_true] at e0
  subst e0
  exact ⟨⟨d0⟩, A0, n0, c0, rfl, ⟨g0, r0⟩⟩
end
section
open Go.ChangeShapes Go.WideShapes Go.ChangeAt Go.RowKit Go.WideElems
set_option linter.unusedVariables false
theorem own : ownKnob Try.prog.godebug = none := by kernel_rfl
theorem laid : laidOutB Try.prog = true := by kernel_rfl
section
variable {H : Type} {enc : TypeId × Value → H}
theorem trodAll_stays {W W' : World} {sp : Nat → Bool} (hb : Below W.heap.size W W') : ∀ (ts : List TypeId) (vs : List Value) (ds : List (DataW H)) (ps : List MemPlace),
    (∀ t ∈ ts, Try.prog.readableRec t = true ∧ t < Try.prog.types.size) → DataW.TrodAll enc Try.prog W 0 (fun _ => true) true ts vs ds ps →
    (∀ x ∈ ps, x.block < W.heap.size) → (∀ x ∈ ps, sp x.block = true) → DataW.TrodAll enc Try.prog W' 0 sp true ts vs ds ps
  | [], [], [], ps, _, h, _, _ => h
  | t :: ts, v :: vs, d :: ds, ps, hts, h, hlt, hsp => by
    obtain ⟨p, q, h1, h2, rfl⟩ := h
    have ht := hts t (by simp)
    exact ⟨p, q, Trod_stays laid ht.1 ht.2 h1 (fun x hx => hb.same (hlt x (by simp [hx]))) (fun x hx => hsp x (by simp [hx])),
      trodAll_stays hb ts vs ds q (fun t' h' => hts t' (by simp [h'])) h2 (fun x hx => hlt x (by simp [hx])) (fun x hx => hsp x (by simp [hx])), rfl⟩
  | [], _ :: _, _, _, _, h, _, _ => h.elim
  | [], [], _ :: _, _, _, h, _, _ => h.elim
  | _ :: _, [], _, _, _, h, _, _ => h.elim
  | _ :: _, _ :: _, [], _, _, h, _, _ => h.elim
theorem post_law {f : Func} {s : ChangeSpec} {W W' : World} {args : Array Value} {ds : List (DataW H)} {before : List MemPlace}
    (hv : s.vars = []) (hr1 : f.resultTypes = #[4])
    (hp0 : (f.params.toList.all fun t => Try.prog.readableRec t && decide (t < Try.prog.types.size)) = true)
    (hres : (s.fn H (ds ++ [])).results = [.lit (.bool true)]) (hargs : (s.fn H (ds ++ [])).args = ds) (hvars : (s.fn H (ds ++ [])).vars = [])
    (hW : DataW.Whole enc Try.prog f.params.toList s.vars false W args.toList ds [] before)
    (hb : Below W.heap.size W W') :
    s.post enc Try.prog f false true false false W args (.bool true) W' := by
  have hp : ∀ t ∈ f.params.toList, Try.prog.readableRec t = true ∧ t < Try.prog.types.size := fun t ht => by simpa using List.all_eq_true.1 hp0 t ht
  have hlt : ∀ p ∈ before, p.block < W.heap.size := fun p hp => hW.lt p hp
  have hold : ∀ p ∈ before, (fun b => decide (b < W.heap.size)) p.block = true := fun p hp => by simpa using hlt p hp
  have hWh := hW
  obtain ⟨p, q, hA, hV, rfl, hfz, _⟩ := hWh
  rw [hv] at hV
  obtain rfl : q = [] := hV
  rw [List.append_nil] at hlt hold
  have hA' : ∀ sp : Nat → Bool, (∀ x ∈ p, sp x.block = true) → DataW.TrodAll enc Try.prog W' 0 sp true f.params.toList args.toList ds p := fun sp hsp =>
    trodAll_stays hb _ _ _ _ hp hA hlt hsp
  rw [List.append_nil] at hW
  refine ⟨ds, [], p, [], p, [], hW, ?_, ?_, ?_, World.keptBut_mono (fun x hx => ⟨hx, ?_⟩) (hb.frame (· ∈ p)), fun h => by cases h⟩
  · rw [hres, hr1]
    exact trodAll_cons_mk (shut_bool Try.underlying4 _) trodAll_mk0
  · rw [hargs]
    exact hA' _ hold
  · rw [hvars, hv]
    rfl
  · simp [hx]
end
end
end Go.Proofs.Ytebioddcnldjkaa
