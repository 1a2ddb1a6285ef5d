/- Models and contracts of functions, printed by wg.py. -/
import Derived.Test.YtampijkiidjcmaaWkG
import Derived.Test.YtampijkiidjcmaaWkT
import Derived.Test.YtampijkiidjcmaaRows
namespace Go.Proofs.Ytampijkiidjcmaa
open Go.RowKit
set_option linter.unusedVariables false
set_option linter.unusedSimpArgs false
set_option maxRecDepth 100000

def m_laws_toBoolS_A1 (xs8 : List Bool) : Option (List Bool) :=
  some xs8
def m_laws_toBoolS_B1 (d0 : List Bool) (rec1 : List Bool → Int → Option (List Bool)) (K1 : List Bool → Option (List Bool)) (xs10 : List Bool) (i11 : Int) : Option (List Bool) :=
  (bif (decide (i11 < (d0.length : Int))) then ((getI d0 i11).bind fun x14 => ((getI xs10 i11).bind fun x25 => (rec1 (setI xs10 i11 x14) (i11 + 1)))) else (K1 xs10))
def m_laws_toBoolS_L1 (d0 : List Bool) (K1 : List Bool → Option (List Bool)) : Nat → List Bool → Int → Option (List Bool)
  | 0, _, _ => none
  | g + 1, xs10, i11 => m_laws_toBoolS_B1 d0 (m_laws_toBoolS_L1 d0 K1 g) K1 xs10 i11
def m_laws_toBoolS (d0 : List Bool) : Option (List Bool) :=
  ((mustP (d0.length ≤ 4294967296)).bind fun _ => (m_laws_toBoolS_L1 d0 m_laws_toBoolS_A1 (d0.length + 1) (List.replicate d0.length false) 0))
set_option maxHeartbeats 2000000 in
theorem c_m_laws_toBoolS (d0 : List Bool) (r : List Bool) (hm : m_laws_toBoolS d0 = some r) (v0 : Value) (w : World) (hv0 : Sl boolRd 1 w v0 d0) :
    Calls Try.prog 35 #[v0] w fun e w' => (∃ v, e = .returned v ∧ OwF 4 encB 1 w' w.heap.size v r) ∧ Below w.heap.size w w' := by
  obtain ⟨Aa0, na0, ca0, rfl, ha0, ra0⟩ := hv0
  have ea0 := ha0.len; subst ea0
  have qa0 := len_le ra0
  have T := Below.refl w.heap.size w
  unfold m_laws_toBoolS at hm
  refine enter 22 Try.func35 rfl rfl rfl ?_
  intro f hf
  have s0 : f 0 = .slice Aa0 d0.length ca0 := hf 0 _ rfl
  refine wp_seq ?_
  refine wp_rs rfl ?_
  refine RQ.y rfl (Y.assign (v := .slice none 0 0) rfl) ?_
  refine RQ.nil ?_
  refine then_n ?_
  refine wp_seq ?_
  refine wp_rl rfl ?_
  refine RL.y rfl (Y.move (v := .slice Aa0 d0.length ca0) s0) ?_
  refine RL.y rfl (Y.len (by kernel_rfl) rfl) ?_
  obtain ⟨_, m1, hm⟩ := bnd hm
  have hk2 := mustP_some m1
  refine RL.make (enc := encB) (z0 := false) (n := d0.length) app_bool (by decide) rfl rfl rfl rfl hk2 (fun w3 G4 hb5 szw3 => ?_)
  replace G4 := OwF.mono G4 T.size
  have T := Tt T hb5
  refine RL.y rfl (Y.assign (v := .slice (some ⟨w.heap.size, 0, none⟩) d0.length d0.length) rfl) ?_
  refine RL.nil ?_
  refine then_n ?_
  refine wp_seq ?_
  refine wp_seq ?_
  refine wp_rs rfl ?_
  refine RQ.y rfl (Y.assign (v := .int .i64 0) rfl) ?_
  refine RQ.nil ?_
  refine then_n ?_
  refine wp_block ?_
  obtain ⟨K1, hK1, hm⟩ : ∃ K, K = m_laws_toBoolS_A1 ∧ m_laws_toBoolS_L1 d0 K (d0.length + 1) (List.replicate d0.length false) 0 = some r := ⟨_, rfl, hm⟩
  refine wp_loopX (fun g f w' => ∃ (xs10 : List Bool) (i11 : Int) (uxs10 : Value), f 0 = .slice Aa0 d0.length ca0 ∧ f 3 = uxs10 ∧ OwF 4 encB 1 w' w.heap.size uxs10 xs10 ∧ f 4 = .int .i64 i11 ∧ 0 ≤ i11 ∧ Below w.heap.size w w' ∧ m_laws_toBoolS_L1 d0 K1 g xs10 i11 = some r) 0 (fun f w' => ∃ (xs8 : List Bool) (uxs8 : Value), f 3 = uxs8 ∧ OwF 4 encB 1 w' w.heap.size uxs8 xs8 ∧ Below w.heap.size w w' ∧ m_laws_toBoolS_A1 xs8 = some r) (d0.length + 1) ⟨(List.replicate d0.length false), 0, (.slice (some ⟨w.heap.size, 0, none⟩) d0.length d0.length), s0, rfl, G4, rfl, (by omega), T, hm⟩ ?_ ?_
  · rintro f w9 ⟨xs8, uxs8, s3_1x, Gxs8, T, hm⟩
    unfold m_laws_toBoolS_A1 at hm
    refine blk_hit (then_n ?_)
    refine wp_seq ?_
    refine wp_rs rfl ?_
    refine RQ.y rfl (Y.move (v := uxs8) s3_1x) ?_
    refine RQ.y rfl (Y.assign (v := uxs8) rfl) ?_
    refine RQ.nil ?_
    refine then_n ?_
    refine wp_ret ?_
    obtain rfl := Option.some.inj hm
    exact (ret1 rfl rfl rfl ⟨⟨_, rfl, Gxs8⟩, T⟩)
  · rintro g f w12 ⟨xs10, i11, uxs10, s0_1, s3_1, Gxs10, s4_1, nn4_1, T, hm⟩
    rcases g with _ | g
    · simp only [m_laws_toBoolS_L1] at hm; cases hm
    obtain ⟨rec1, hrec1, hm⟩ : ∃ z, z = m_laws_toBoolS_L1 d0 K1 g ∧ m_laws_toBoolS_B1 d0 z K1 xs10 i11 = some r := ⟨_, rfl, hm⟩
    unfold m_laws_toBoolS_B1 at hm
    refine wp_seq ?_
    refine wp_seq ?_
    refine wp_rs rfl ?_
    refine RQ.y rfl (Y.move (v := .int .i64 i11) s4_1) ?_
    refine RQ.y rfl (Y.move (v := .slice Aa0 d0.length ca0) s0_1) ?_
    refine RQ.y rfl (Y.len (by kernel_rfl) rfl) ?_
    refine RQ.y rfl (Y.binI (v := .bool (decide (i11 < (d0.length : Int)))) rfl rfl rfl) ?_
    refine RQ.nil ?_
    refine then_n ?_
    rcases bcases (decide (i11 < (d0.length : Int))) with c13 | c13
    · replace hm := cF c13 hm
      have pc13 := of_decide_eq_false c13
      refine cond_f rfl (vb rfl c13) ?_
      refine wp_exit ?_
      exact (then_x (then_x (hit_x ⟨_, rfl, ⟨xs10, (uxs10), s3_1, Gxs10, T, (by rw [hK1] at hm; exact hm)⟩⟩)))
    · replace hm := cT c13 hm
      have pc13 := of_decide_eq_true c13
      refine cond_t rfl (vb rfl c13) ?_
      refine wp_skip ?_
      refine then_n ?_
      refine wp_seq ?_
      refine wp_block ?_
      refine wp_rl rfl ?_
      refine RL.y rfl (Y.move (v := uxs10) s3_1) ?_
      refine RL.y rfl (Y.move (v := .int .i64 i11) s4_1) ?_
      refine RL.y rfl (Y.move (v := .slice Aa0 d0.length ca0) s0_1) ?_
      refine RL.y rfl (Y.move (v := .int .i64 i11) s4_1) ?_
      obtain ⟨x14, hx17, hm⟩ := bnd hm
      obtain ⟨k15, hk18, hl19, hx17⟩ := getI_some hx17
      obtain ⟨b21, o22, rfl, hbb21⟩ := ha0.addr (by omega)
      obtain ⟨cs16, hRcs16, hc20⟩ := ha0.el hx17
      have hScs16 := hRcs16
      obtain rfl := hRcs16
      refine RL.y rfl (Y.indexAddr (m := k15) (sz := 1) rfl rfl hk18 hl19 (by kernel_rfl)) ?_
      refine RL.y rfl (Y.load (v := .bool x14) rfl (by kernel_rfl) (eqC (cellT T (hc20 0 _ rfl)))) ?_
      obtain ⟨A23, c24, rfl⟩ := OwF.form Gxs10
      have qbA23 := OwF.bound Gxs10
      obtain ⟨x25, hx27, hm⟩ := bnd hm
      obtain ⟨k26, hk28, hl29, hx27⟩ := getI_some hx27
      obtain ⟨b30, rfl⟩ := OwF.addr0 Gxs10 (by omega)
      refine RL.y rfl (Y.indexAddr (m := k26) (sz := 1) rfl rfl hk28 hl29 (by kernel_rfl)) ?_
      refine RL.storeF (k := k26) (a := x14) fB rfl rfl rfl Gxs10 hl29 rfl (by kernel_rfl) (fun w31 G32 ho33 => ?_)
      have szw31 := ho33.size
      have T := T.trans (ho33.below (by intro b hb; simp at hb; subst hb; exact OwF.lo_ Gxs10 _ rfl))
      have G32 : OwF 4 encB 1 w31 w.heap.size (.slice (some ⟨b30, 0, none⟩) xs10.length c24) (setI xs10 i11 x14) := by rw [hk28, setI_nat]; exact G32
      refine RL.nil ?_
      refine blk_n (then_n ?_)
      refine wp_rs rfl ?_
      refine RQ.y rfl (Y.move (v := .int .i64 i11) s4_1) ?_
      refine RQ.y rfl (Y.binI rfl rfl (binI_add (m := i11) (by omega))) ?_
      refine RQ.y rfl (Y.assign (v := .int .i64 (i11 + 1)) rfl) ?_
      refine RQ.nil ?_
      exact (then_n ⟨g, _, Nat.lt_succ_self _, rfl, ⟨(setI xs10 i11 x14), (i11 + 1), (.slice (some ⟨b30, 0, none⟩) xs10.length c24), s0_1, s3_1, G32, rfl, (by omega), T, (by rw [← hrec1]; exact hm)⟩⟩)

def m_laws_eqBoolS_A1 : Option Bool :=
  some true
def m_laws_eqBoolS_B1 (d0 : List Bool) (d1 : List Bool) (rec1 : Int → Option Bool) (K1 : Option Bool) (i3 : Int) : Option Bool :=
  (bif (decide (i3 < (d0.length : Int))) then ((getI d0 i3).bind fun x6 => ((getI d1 i3).bind fun x15 => (bif (x6 != x15) then some false else (rec1 (i3 + 1))))) else (K1))
def m_laws_eqBoolS_L1 (d0 : List Bool) (d1 : List Bool) (K1 : Option Bool) : Nat → Int → Option Bool
  | 0, _ => none
  | g + 1, i3 => m_laws_eqBoolS_B1 d0 d1 (m_laws_eqBoolS_L1 d0 d1 K1 g) K1 i3
def m_laws_eqBoolS (d0 : List Bool) (d1 : List Bool) : Option Bool :=
  (bif ((d0.length : Int) != (d1.length : Int)) then some false else (m_laws_eqBoolS_L1 d0 d1 m_laws_eqBoolS_A1 (d0.length + 1) 0))
set_option maxHeartbeats 2000000 in
theorem c_m_laws_eqBoolS (d0 : List Bool) (d1 : List Bool) (r : Bool) (hm : m_laws_eqBoolS d0 d1 = some r) (v0 : Value) (v1 : Value) (w : World) (hv0 : Sl boolRd 1 w v0 d0) (hv1 : Sl boolRd 1 w v1 d1) :
    Calls Try.prog 37 #[v0, v1] w fun e w' => e = .returned (.bool r) ∧ Below w.heap.size w w' := by
  obtain ⟨Aa0, na0, ca0, rfl, ha0, ra0⟩ := hv0
  have ea0 := ha0.len; subst ea0
  have qa0 := len_le ra0
  obtain ⟨Aa1, na1, ca1, rfl, ha1, ra1⟩ := hv1
  have ea1 := ha1.len; subst ea1
  have qa1 := len_le ra1
  have T := Below.refl w.heap.size w
  unfold m_laws_eqBoolS at hm
  refine enter 26 Try.func37 rfl rfl rfl ?_
  intro f hf
  have s0 : f 0 = .slice Aa0 d0.length ca0 := hf 0 _ rfl
  have s1 : f 1 = .slice Aa1 d1.length ca1 := hf 1 _ rfl
  refine wp_seq ?_
  refine wp_rs rfl ?_
  refine RQ.y rfl (Y.assign (v := .bool false) rfl) ?_
  refine RQ.nil ?_
  refine then_n ?_
  refine wp_seq ?_
  refine wp_seq ?_
  refine wp_rs rfl ?_
  refine RQ.y rfl (Y.move (v := .slice Aa0 d0.length ca0) s0) ?_
  refine RQ.y rfl (Y.len (by kernel_rfl) rfl) ?_
  refine RQ.y rfl (Y.move (v := .slice Aa1 d1.length ca1) s1) ?_
  refine RQ.y rfl (Y.len (by kernel_rfl) rfl) ?_
  refine RQ.y rfl (Y.binI (v := .bool ((d0.length : Int) != (d1.length : Int))) rfl rfl rfl) ?_
  refine RQ.nil ?_
  refine then_n ?_
  rcases bcases ((d0.length : Int) != (d1.length : Int)) with c1 | c1
  · replace hm := cF c1 hm
    refine cond_f rfl (vb rfl c1) ?_
    refine wp_skip ?_
    refine then_n ?_
    refine wp_seq ?_
    refine wp_seq ?_
    refine wp_rs rfl ?_
    refine RQ.y rfl (Y.assign (v := .int .i64 0) rfl) ?_
    refine RQ.nil ?_
    refine then_n ?_
    refine wp_block ?_
    obtain ⟨K1, hK1, hm⟩ : ∃ K, K = m_laws_eqBoolS_A1 ∧ m_laws_eqBoolS_L1 d0 d1 K (d0.length + 1) 0 = some r := ⟨_, rfl, hm⟩
    refine wp_loopX (fun g f w' => ∃ (i3 : Int), f 0 = .slice Aa0 d0.length ca0 ∧ f 1 = .slice Aa1 d1.length ca1 ∧ f 5 = .int .i64 i3 ∧ 0 ≤ i3 ∧ Below w.heap.size w w' ∧ m_laws_eqBoolS_L1 d0 d1 K1 g i3 = some r) 0 (fun f w' => Below w.heap.size w w' ∧ m_laws_eqBoolS_A1  = some r) (d0.length + 1) ⟨0, s0, s1, rfl, (by omega), T, hm⟩ ?_ ?_
    · rintro f w2 ⟨T, hm⟩
      unfold m_laws_eqBoolS_A1 at hm
      refine blk_hit (then_n ?_)
      refine wp_seq ?_
      refine wp_rs rfl ?_
      refine RQ.y rfl (Y.assign (v := .bool true) rfl) ?_
      refine RQ.nil ?_
      refine then_n ?_
      refine wp_ret ?_
      obtain rfl := Option.some.inj hm
      exact (ret1 rfl rfl rfl ⟨rfl, T⟩)
    · rintro g f w4 ⟨i3, s0_1, s1_1, s5_1, nn5_1, T, hm⟩
      rcases g with _ | g
      · simp only [m_laws_eqBoolS_L1] at hm; cases hm
      obtain ⟨rec1, hrec1, hm⟩ : ∃ z, z = m_laws_eqBoolS_L1 d0 d1 K1 g ∧ m_laws_eqBoolS_B1 d0 d1 z K1 i3 = some r := ⟨_, rfl, hm⟩
      unfold m_laws_eqBoolS_B1 at hm
      refine wp_seq ?_
      refine wp_seq ?_
      refine wp_rs rfl ?_
      refine RQ.y rfl (Y.move (v := .int .i64 i3) s5_1) ?_
      refine RQ.y rfl (Y.move (v := .slice Aa0 d0.length ca0) s0_1) ?_
      refine RQ.y rfl (Y.len (by kernel_rfl) rfl) ?_
      refine RQ.y rfl (Y.binI (v := .bool (decide (i3 < (d0.length : Int)))) rfl rfl rfl) ?_
      refine RQ.nil ?_
      refine then_n ?_
      rcases bcases (decide (i3 < (d0.length : Int))) with c5 | c5
      · replace hm := cF c5 hm
        have pc5 := of_decide_eq_false c5
        refine cond_f rfl (vb rfl c5) ?_
        refine wp_exit ?_
        exact (then_x (then_x (hit_x ⟨_, rfl, ⟨T, (by rw [hK1] at hm; exact hm)⟩⟩)))
      · replace hm := cT c5 hm
        have pc5 := of_decide_eq_true c5
        refine cond_t rfl (vb rfl c5) ?_
        refine wp_skip ?_
        refine then_n ?_
        refine wp_seq ?_
        refine wp_block ?_
        refine wp_seq ?_
        refine wp_rbd (by kernel_rfl) (by kernel_rfl) ?_
        refine RQ.y rfl (Y.move (v := .slice Aa0 d0.length ca0) s0_1) ?_
        refine RQ.y rfl (Y.move (v := .int .i64 i3) s5_1) ?_
        obtain ⟨x6, hx9, hm⟩ := bnd hm
        obtain ⟨k7, hk10, hl11, hx9⟩ := getI_some hx9
        obtain ⟨b13, o14, rfl, hbb13⟩ := ha0.addr (by omega)
        obtain ⟨cs8, hRcs8, hc12⟩ := ha0.el hx9
        have hScs8 := hRcs8
        obtain rfl := hRcs8
        refine RQ.y rfl (Y.indexAddr (m := k7) (sz := 1) rfl rfl hk10 hl11 (by kernel_rfl)) ?_
        refine RQ.y rfl (Y.load (v := .bool x6) rfl (by kernel_rfl) (beC (cellT T (hc12 0 _ rfl)))) ?_
        refine RQ.y rfl (Y.move (v := .slice Aa1 d1.length ca1) s1_1) ?_
        refine RQ.y rfl (Y.move (v := .int .i64 i3) s5_1) ?_
        obtain ⟨x15, hx18, hm⟩ := bnd hm
        obtain ⟨k16, hk19, hl20, hx18⟩ := getI_some hx18
        obtain ⟨b22, o23, rfl, hbb22⟩ := ha1.addr (by omega)
        obtain ⟨cs17, hRcs17, hc21⟩ := ha1.el hx18
        have hScs17 := hRcs17
        obtain rfl := hRcs17
        refine RQ.y rfl (Y.indexAddr (m := k16) (sz := 1) rfl rfl hk19 hl20 (by kernel_rfl)) ?_
        refine RQ.y rfl (Y.load (v := .bool x15) rfl (by kernel_rfl) (beC (cellT T (hc21 0 _ rfl)))) ?_
        refine RQ.y rfl (Y.beq (c := (x6 != x15)) (by kernel_rfl) rfl rfl (.inr ⟨rfl, rfl⟩)) ?_
        refine RQ.nil ?_
        intro w24 hb25
        have szw24 := hb25.size
        have T := Tt T hb25
        refine then_n ?_
        rcases bcases (x6 != x15) with c26 | c26
        · replace hm := cF c26 hm
          refine cond_f rfl (vb rfl c26) ?_
          refine wp_skip ?_
          refine blk_n (then_n ?_)
          refine wp_rs rfl ?_
          refine RQ.y rfl (Y.move (v := .int .i64 i3) s5_1) ?_
          refine RQ.y rfl (Y.binI rfl rfl (binI_add (m := i3) (by omega))) ?_
          refine RQ.y rfl (Y.assign (v := .int .i64 (i3 + 1)) rfl) ?_
          refine RQ.nil ?_
          exact (then_n ⟨g, _, Nat.lt_succ_self _, rfl, ⟨(i3 + 1), s0_1, s1_1, rfl, (by omega), T, (by rw [← hrec1]; exact hm)⟩⟩)
        · replace hm := cT c26 hm
          refine cond_t rfl (vb rfl c26) ?_
          refine wp_seq ?_
          refine wp_rs rfl ?_
          refine RQ.y rfl (Y.assign (v := .bool false) rfl) ?_
          refine RQ.nil ?_
          refine then_n ?_
          refine wp_ret ?_
          obtain rfl := Option.some.inj hm
          exact (blk_r (then_r (then_r (hit_r (blk_r (then_r (ret1 rfl rfl rfl ⟨rfl, T⟩)))))))
  · replace hm := cT c1 hm
    refine cond_t rfl (vb rfl c1) ?_
    refine wp_seq ?_
    refine wp_rs rfl ?_
    refine RQ.y rfl (Y.assign (v := .bool false) rfl) ?_
    refine RQ.nil ?_
    refine then_n ?_
    refine wp_ret ?_
    obtain rfl := Option.some.inj hm
    exact (then_r (ret1 rfl rfl rfl ⟨rfl, T⟩))

end Go.Proofs.Ytampijkiidjcmaa
