/- Lemmas of the proof of SameTyped, part 3. No condition. -/
import Derived.Test.YtpbobilkejblgaaZSameTyped2
namespace Go.Proofs.Ytpbobilkejblgaa
section
open Go.RowKit
set_option linter.unusedVariables false
set_option linter.unusedSimpArgs false
set_option maxRecDepth 100000
noncomputable def m_laws_toPort (d0 : DPort) : Option DPort :=
  some (⟨d0.agent, d0.slot⟩ : DPort)
set_option maxHeartbeats 2000000 in
theorem c_m_laws_toPort (d0 : DPort) (r : DPort) (hm : m_laws_toPort d0 = some r)  (w : World)  :
    Calls Try.prog 153 #[.agg #[.int .i64 d0.agent, .int .i64 d0.slot]] w fun e w' => e = .returned (.agg #[.int .i64 r.agent, .int .i64 r.slot]) ∧ Below w.heap.size w w' := by
  have T := Below.refl w.heap.size w
  unfold m_laws_toPort at hm
  refine enter 11 Try.func153 rfl rfl rfl ?_
  intro f hf
  have s0 : f 0 = .agg #[.int .i64 d0.agent, .int .i64 d0.slot] := hf 0 _ rfl
  refine wp_seq ?_
  refine wp_rl rfl ?_
  refine RL.box rfl s0 (fun w1 B2 hb3 szw1 => ?_)
  replace B2 : Blk w1 w.heap.size 194 #[.int .i64 d0.agent, .int .i64 d0.slot] := B2
  have GB2 : w.heap.size ≤ w.heap.size := T.size
  have T := Tt T hb3
  refine RL.alloc (z := .agg #[.int .i64 0, .int .i64 0]) rfl (by kernel_rfl) (fun w5 B6 hb7 szw5 => ?_)
  replace B6 : Blk w5 w1.heap.size 81 #[.int .i64 0, .int .i64 0] := B6
  have GB6 : w.heap.size ≤ w1.heap.size := T.size
  have Eob8_ob4 := Nat.ne_of_lt B2.lt
  have B2 := blkT B2 hb7
  have T := Tt T hb7
  refine RL.nil ?_
  refine then_n ?_
  refine wp_seq ?_
  refine wp_rl rfl ?_
  refine RL.alloc (z := .agg #[.int .i64 0, .int .i64 0]) rfl (by kernel_rfl) (fun w9 B10 hb11 szw9 => ?_)
  replace B10 : Blk w9 w5.heap.size 81 #[.int .i64 0, .int .i64 0] := B10
  have GB10 : w.heap.size ≤ w5.heap.size := T.size
  have Eob12_ob4 := Nat.ne_of_lt B2.lt
  have Eob12_ob8 := Nat.ne_of_lt B6.lt
  have B2 := blkT B2 hb11
  have B6 := blkT B6 hb11
  have T := Tt T hb11
  refine RL.nil ?_
  refine then_n ?_
  refine wp_seq ?_
  refine wp_rl rfl ?_
  refine RL.y rfl (Y.fieldAddr (off := 0) rfl (by kernel_rfl)) ?_
  refine RL.y rfl (Y.load (v := .int .i64 d0.agent) rfl (by kernel_rfl) (eqC (blkCell B2 (i := 0) rfl))) ?_
  refine RL.y rfl (Y.fieldAddr (off := 0) rfl (by kernel_rfl)) ?_
  refine RL.store (v := .int .i64 d0.agent) (cs' := #[.int .i64 d0.agent, .int .i64 0]) rfl rfl rfl B10 (by kernel_rfl) (by rfl) (by rfl) (by rfl) (fun w13 B14 ho15 => ?_)
  have szw13 := ho15.size
  have B2 := B2.only_ ho15 (by intro hin; simp at hin; exact Eob12_ob4 hin)
  have B6 := B6.only_ ho15 (by intro hin; simp at hin; exact Eob12_ob8 hin)
  have T := T.trans (ho15.below (by first | (simp; done) | (simp; omega)))
  refine RL.nil ?_
  refine then_n ?_
  refine wp_seq ?_
  refine wp_rl rfl ?_
  refine RL.y rfl (Y.fieldAddr (off := 1) rfl (by kernel_rfl)) ?_
  refine RL.y rfl (Y.load (v := .int .i64 d0.slot) rfl (by kernel_rfl) (eqC (blkCell B2 (i := 1) rfl))) ?_
  refine RL.y rfl (Y.fieldAddr (off := 1) rfl (by kernel_rfl)) ?_
  refine RL.store (v := .int .i64 d0.slot) (cs' := #[.int .i64 d0.agent, .int .i64 d0.slot]) rfl rfl rfl B14 (by kernel_rfl) (by rfl) (by rfl) (by rfl) (fun w16 B17 ho18 => ?_)
  have szw16 := ho18.size
  have B2 := B2.only_ ho18 (by intro hin; simp at hin; exact Eob12_ob4 hin)
  have B6 := B6.only_ ho18 (by intro hin; simp at hin; exact Eob12_ob8 hin)
  have T := T.trans (ho18.below (by first | (simp; done) | (simp; omega)))
  refine RL.nil ?_
  refine then_n ?_
  refine wp_seq ?_
  refine wp_rl rfl ?_
  refine RL.y rfl (Y.loadN (cs := [.int .i64 d0.agent, .int .i64 d0.slot]) rfl (by kernel_rfl) (cells2 (eqC (blkCell B17 (i := 0) rfl)) (eqC (blkCell B17 (i := 1) rfl)))) ?_
  refine RL.store (v := .agg #[.int .i64 d0.agent, .int .i64 d0.slot]) (cs' := #[.int .i64 d0.agent, .int .i64 d0.slot]) rfl rfl rfl B6 (by kernel_rfl) (by rfl) (by rfl) (by rfl) (fun w19 B20 ho21 => ?_)
  have szw19 := ho21.size
  have B17 := B17.only_ ho21 (by intro hin; simp at hin; exact Eob12_ob8.symm hin)
  have T := T.trans (ho21.below (by first | (simp; done) | (simp; omega)))
  refine RL.nil ?_
  refine then_n ?_
  refine wp_ret ?_
  obtain rfl := Option.some.inj hm
  exact (retc (cs := [.int .i64 d0.agent, .int .i64 d0.slot]) rfl rfl rfl (by kernel_rfl) (blkCells B20) ⟨rfl, T⟩)
noncomputable def m_laws_toPortS_A1 (xs8 : List DPort) : Option (List DPort) :=
  some xs8
noncomputable def m_laws_toPortS_B1 (d0 : List DPort) (rec1 : List DPort → Int → Option (List DPort)) (K1 : List DPort → Option (List DPort)) (xs10 : List DPort) (i11 : Int) : Option (List DPort) :=
  (bif (decide (i11 < (d0.length : Int))) then ((getI d0 i11).bind fun x14 => ((m_laws_toPort x14).bind fun y23 => ((getI xs10 i11).bind fun x29 => (rec1 (setI xs10 i11 y23) (i11 + 1))))) else (K1 xs10))
noncomputable def m_laws_toPortS_L1 (d0 : List DPort) (K1 : List DPort → Option (List DPort)) : Nat → List DPort → Int → Option (List DPort)
  | 0, _, _ => none
  | g + 1, xs10, i11 => m_laws_toPortS_B1 d0 (m_laws_toPortS_L1 d0 K1 g) K1 xs10 i11
noncomputable def m_laws_toPortS (d0 : List DPort) : Option (List DPort) :=
  ((mustP (d0.length ≤ 4294967296)).bind fun _ => (m_laws_toPortS_L1 d0 m_laws_toPortS_A1 (d0.length + 1) (List.replicate d0.length ((⟨0, 0⟩ : DPort) : DPort)) 0))
set_option maxHeartbeats 2000000 in
theorem c_m_laws_toPortS (d0 : List DPort) (r : List DPort) (hm : m_laws_toPortS d0 = some r) (v0 : Value) (w : World) (hv0 : Sl portRd 2 w v0 d0) :
    Calls Try.prog 125 #[v0] w fun e w' => (∃ (v0 : Value), e = .returned (v0) ∧ OwF 81 encPort 2 w' w.heap.size v0 r) ∧ Below w.heap.size w w' := by
  obtain ⟨Aa0, na0, ca0, rfl, ha0, ra0⟩ := hv0
  have ea0 := ha0.len; subst ea0
  have qa0 := len_le ra0
  have T := Below.refl w.heap.size w
  unfold m_laws_toPortS at hm
  refine enter 23 Try.func125 rfl rfl rfl ?_
  intro f hf
  have s0 : f 0 = .slice Aa0 d0.length ca0 := hf 0 _ rfl
  refine wp_seq ?_
  refine wp_rs rfl ?_
  refine RQ.y rfl (Y.assign (v := .slice none 0 0) rfl) ?_
  refine RQ.nil ?_
  refine then_n ?_
  refine wp_seq ?_
  refine wp_rl rfl ?_
  refine RL.y rfl (Y.move (v := .slice Aa0 d0.length ca0) s0) ?_
  refine RL.y rfl (Y.len (by kernel_rfl) rfl) ?_
  obtain ⟨_, m1, hm⟩ := bnd hm
  have hk2 := mustP_some m1
  refine RL.make (enc := encPort) (z0 := ((⟨0, 0⟩ : DPort) : DPort)) (n := d0.length) app_impl_Port (by decide) rfl rfl rfl rfl hk2 (fun w3 G4 hb5 szw3 => ?_)
  replace G4 := OwF.mono G4 T.size
  have T := Tt T hb5
  refine RL.y rfl (Y.assign (v := .slice (some ⟨w.heap.size, 0, none⟩) d0.length d0.length) rfl) ?_
  refine RL.nil ?_
  refine then_n ?_
  refine wp_seq ?_
  refine wp_seq ?_
  refine wp_rs rfl ?_
  refine RQ.y rfl (Y.assign (v := .int .i64 0) rfl) ?_
  refine RQ.nil ?_
  refine then_n ?_
  refine wp_block ?_
  obtain ⟨K1, hK1, hm⟩ : ∃ K, K = m_laws_toPortS_A1 ∧ m_laws_toPortS_L1 d0 K (d0.length + 1) (List.replicate d0.length ((⟨0, 0⟩ : DPort) : DPort)) 0 = some r := ⟨_, rfl, hm⟩
  refine wp_loopX (fun g f w' => ∃ (xs10 : List DPort) (i11 : Int) (uxs10 : Value), f 0 = .slice Aa0 d0.length ca0 ∧ f 3 = uxs10 ∧ OwF 81 encPort 2 w' w.heap.size uxs10 xs10 ∧ f 4 = .int .i64 i11 ∧ 0 ≤ i11 ∧ Below w.heap.size w w' ∧ m_laws_toPortS_L1 d0 K1 g xs10 i11 = some r) 0 (fun f w' => ∃ (xs8 : List DPort) (uxs8 : Value), f 3 = uxs8 ∧ OwF 81 encPort 2 w' w.heap.size uxs8 xs8 ∧ Below w.heap.size w w' ∧ m_laws_toPortS_A1 xs8 = some r) (d0.length + 1) ⟨(List.replicate d0.length ((⟨0, 0⟩ : DPort) : DPort)), 0, (.slice (some ⟨w.heap.size, 0, none⟩) d0.length d0.length), s0, rfl, G4, rfl, (by omega), T, hm⟩ ?_ ?_
  · rintro f w9 ⟨xs8, uxs8, s3_1x, Guxs8, T, hm⟩
    unfold m_laws_toPortS_A1 at hm
    refine blk_hit (then_n ?_)
    refine wp_seq ?_
    refine wp_rs rfl ?_
    refine RQ.y rfl (Y.move (v := uxs8) s3_1x) ?_
    refine RQ.y rfl (Y.assign (v := uxs8) rfl) ?_
    refine RQ.nil ?_
    refine then_n ?_
    refine wp_ret ?_
    obtain rfl := Option.some.inj hm
    exact (ret1 rfl rfl rfl ⟨⟨_, rfl, Guxs8⟩, T⟩)
  · rintro g f w12 ⟨xs10, i11, uxs10, s0_1, s3_1, Guxs10, s4_1, nn4_1, T, hm⟩
    rcases g with _ | g
    · simp only [m_laws_toPortS_L1] at hm; cases hm
    obtain ⟨rec1, hrec1, hm⟩ : ∃ z, z = m_laws_toPortS_L1 d0 K1 g ∧ m_laws_toPortS_B1 d0 z K1 xs10 i11 = some r := ⟨_, rfl, hm⟩
    unfold m_laws_toPortS_B1 at hm
    refine wp_seq ?_
    refine wp_seq ?_
    refine wp_rs rfl ?_
    refine RQ.y rfl (Y.move (v := .int .i64 i11) s4_1) ?_
    refine RQ.y rfl (Y.move (v := .slice Aa0 d0.length ca0) s0_1) ?_
    refine RQ.y rfl (Y.len (by kernel_rfl) rfl) ?_
    refine RQ.y rfl (Y.binI (v := .bool (decide (i11 < (d0.length : Int)))) rfl rfl rfl) ?_
    refine RQ.nil ?_
    refine then_n ?_
    rcases bcases (decide (i11 < (d0.length : Int))) with c13 | c13
    · replace hm := cF c13 hm
      have pc13 := of_decide_eq_false c13
      refine cond_f rfl (vb rfl c13) ?_
      refine wp_exit ?_
      exact (then_x (then_x (hit_x ⟨_, rfl, ⟨xs10, (uxs10), s3_1, Guxs10, T, (by rw [hK1] at hm; exact hm)⟩⟩)))
    · replace hm := cT c13 hm
      have pc13 := of_decide_eq_true c13
      refine cond_t rfl (vb rfl c13) ?_
      refine wp_skip ?_
      refine then_n ?_
      refine wp_seq ?_
      refine wp_block ?_
      refine wp_rl rfl ?_
      refine RL.y rfl (Y.move (v := uxs10) s3_1) ?_
      refine RL.y rfl (Y.move (v := .int .i64 i11) s4_1) ?_
      refine RL.y rfl (Y.move (v := .slice Aa0 d0.length ca0) s0_1) ?_
      refine RL.y rfl (Y.move (v := .int .i64 i11) s4_1) ?_
      obtain ⟨x14, hx17, hm⟩ := bnd hm
      obtain ⟨k15, hk18, hl19, hx17⟩ := getI_some hx17
      obtain ⟨b21, o22, rfl, hbb21⟩ := ha0.addr (by omega)
      obtain ⟨cs16, hRcs16, hc20⟩ := ha0.el hx17
      have hScs16 := hRcs16
      obtain rfl := hRcs16
      refine RL.y rfl (Y.indexAddr (m := k15) (sz := 2) rfl rfl hk18 hl19 (by kernel_rfl)) ?_
      refine RL.y rfl (Y.loadN (cs := [.int .i64 x14.agent, .int .i64 x14.slot]) rfl (by kernel_rfl) (cells2 (eqC (cellT T (hc20 0 _ rfl))) (eqC (cellT T (hc20 1 _ rfl))))) ?_
      obtain ⟨y23, e24, hm⟩ := bnd hm
      refine RL.call rfl (am1 rfl) (by kernel_rfl) ((c_m_laws_toPort x14 _ e24  _ ).mono ?_)
      rintro _ w25 ⟨rfl, hb26⟩
      refine ⟨_, rfl, ?_⟩
      have szw25 := hb26.size
      have Guxs10 := OwF.below Guxs10 hb26
      have T := Tt T hb26
      obtain ⟨A27, c28, rfl⟩ := OwF.form Guxs10
      have qbA27 := OwF.bound Guxs10
      obtain ⟨x29, hx31, hm⟩ := bnd hm
      obtain ⟨k30, hk32, hl33, hx31⟩ := getI_some hx31
      obtain ⟨b34, rfl⟩ := OwF.addr0 Guxs10 (by omega)
      refine RL.y rfl (Y.indexAddr (m := k30) (sz := 2) rfl rfl hk32 hl33 (by kernel_rfl)) ?_
      refine RL.storeF (k := k30) (a := y23) fPort rfl rfl rfl Guxs10 hl33 rfl (by kernel_rfl) (fun w35 G36 ho37 => ?_)
      have szw35 := ho37.size
      have T := T.trans (ho37.below (by intro b hb; simp at hb; subst hb; exact OwF.lo_ Guxs10 _ rfl))
      have G36 : OwF 81 encPort 2 w35 w.heap.size (.slice (some ⟨b34, 0, none⟩) xs10.length c28) (setI xs10 i11 y23) := by rw [setI_eq hk32]; exact G36
      have hx38 : (setI xs10 i11 y23)[k30]? = some y23 := setI_at hk32 hl33
      have hl39 := lt_of_some hx38
      refine RL.nil ?_
      refine blk_n (then_n ?_)
      refine wp_rs rfl ?_
      refine RQ.y rfl (Y.move (v := .int .i64 i11) s4_1) ?_
      refine RQ.y rfl (Y.binI rfl rfl (binI_add (m := i11) (by omega))) ?_
      refine RQ.y rfl (Y.assign (v := .int .i64 (i11 + 1)) rfl) ?_
      refine RQ.nil ?_
      exact (then_n ⟨g, _, Nat.lt_succ_self _, rfl, ⟨(setI xs10 i11 y23), (i11 + 1), (.slice (some ⟨b34, 0, none⟩) xs10.length c28), s0_1, s3_1, G36, rfl, (by omega), T, (by rw [← hrec1]; exact hm)⟩⟩)
noncomputable def m_laws_toInt64S_A1 (xs8 : List Int) : Option (List Int) :=
  some xs8
noncomputable def m_laws_toInt64S_B1 (d0 : List Int) (rec1 : List Int → Int → Option (List Int)) (K1 : List Int → Option (List Int)) (xs10 : List Int) (i11 : Int) : Option (List Int) :=
  (bif (decide (i11 < (d0.length : Int))) then ((getI d0 i11).bind fun x14 => ((getI xs10 i11).bind fun x25 => (rec1 (setI xs10 i11 x14) (i11 + 1)))) else (K1 xs10))
noncomputable def m_laws_toInt64S_L1 (d0 : List Int) (K1 : List Int → Option (List Int)) : Nat → List Int → Int → Option (List Int)
  | 0, _, _ => none
  | g + 1, xs10, i11 => m_laws_toInt64S_B1 d0 (m_laws_toInt64S_L1 d0 K1 g) K1 xs10 i11
noncomputable def m_laws_toInt64S (d0 : List Int) : Option (List Int) :=
  ((mustP (d0.length ≤ 4294967296)).bind fun _ => (m_laws_toInt64S_L1 d0 m_laws_toInt64S_A1 (d0.length + 1) (List.replicate d0.length 0) 0))
set_option maxHeartbeats 2000000 in
theorem c_m_laws_toInt64S (d0 : List Int) (r : List Int) (hm : m_laws_toInt64S d0 = some r) (v0 : Value) (w : World) (hv0 : Sl intRd 1 w v0 d0) :
    Calls Try.prog 124 #[v0] w fun e w' => (∃ (v0 : Value), e = .returned (v0) ∧ OwF 2 encI 1 w' w.heap.size v0 r) ∧ Below w.heap.size w w' := by
  obtain ⟨Aa0, na0, ca0, rfl, ha0, ra0⟩ := hv0
  have ea0 := ha0.len; subst ea0
  have qa0 := len_le ra0
  have T := Below.refl w.heap.size w
  unfold m_laws_toInt64S at hm
  refine enter 22 Try.func124 rfl rfl rfl ?_
  intro f hf
  have s0 : f 0 = .slice Aa0 d0.length ca0 := hf 0 _ rfl
  refine wp_seq ?_
  refine wp_rs rfl ?_
  refine RQ.y rfl (Y.assign (v := .slice none 0 0) rfl) ?_
  refine RQ.nil ?_
  refine then_n ?_
  refine wp_seq ?_
  refine wp_rl rfl ?_
  refine RL.y rfl (Y.move (v := .slice Aa0 d0.length ca0) s0) ?_
  refine RL.y rfl (Y.len (by kernel_rfl) rfl) ?_
  obtain ⟨_, m1, hm⟩ := bnd hm
  have hk2 := mustP_some m1
  refine RL.make (enc := encI) (z0 := 0) (n := d0.length) app_int64 (by decide) rfl rfl rfl rfl hk2 (fun w3 G4 hb5 szw3 => ?_)
  replace G4 := OwF.mono G4 T.size
  have T := Tt T hb5
  refine RL.y rfl (Y.assign (v := .slice (some ⟨w.heap.size, 0, none⟩) d0.length d0.length) rfl) ?_
  refine RL.nil ?_
  refine then_n ?_
  refine wp_seq ?_
  refine wp_seq ?_
  refine wp_rs rfl ?_
  refine RQ.y rfl (Y.assign (v := .int .i64 0) rfl) ?_
  refine RQ.nil ?_
  refine then_n ?_
  refine wp_block ?_
  obtain ⟨K1, hK1, hm⟩ : ∃ K, K = m_laws_toInt64S_A1 ∧ m_laws_toInt64S_L1 d0 K (d0.length + 1) (List.replicate d0.length 0) 0 = some r := ⟨_, rfl, hm⟩
  refine wp_loopX (fun g f w' => ∃ (xs10 : List Int) (i11 : Int) (uxs10 : Value), f 0 = .slice Aa0 d0.length ca0 ∧ f 3 = uxs10 ∧ OwF 2 encI 1 w' w.heap.size uxs10 xs10 ∧ f 4 = .int .i64 i11 ∧ 0 ≤ i11 ∧ Below w.heap.size w w' ∧ m_laws_toInt64S_L1 d0 K1 g xs10 i11 = some r) 0 (fun f w' => ∃ (xs8 : List Int) (uxs8 : Value), f 3 = uxs8 ∧ OwF 2 encI 1 w' w.heap.size uxs8 xs8 ∧ Below w.heap.size w w' ∧ m_laws_toInt64S_A1 xs8 = some r) (d0.length + 1) ⟨(List.replicate d0.length 0), 0, (.slice (some ⟨w.heap.size, 0, none⟩) d0.length d0.length), s0, rfl, G4, rfl, (by omega), T, hm⟩ ?_ ?_
  · rintro f w9 ⟨xs8, uxs8, s3_1x, Guxs8, T, hm⟩
    unfold m_laws_toInt64S_A1 at hm
    refine blk_hit (then_n ?_)
    refine wp_seq ?_
    refine wp_rs rfl ?_
    refine RQ.y rfl (Y.move (v := uxs8) s3_1x) ?_
    refine RQ.y rfl (Y.assign (v := uxs8) rfl) ?_
    refine RQ.nil ?_
    refine then_n ?_
    refine wp_ret ?_
    obtain rfl := Option.some.inj hm
    exact (ret1 rfl rfl rfl ⟨⟨_, rfl, Guxs8⟩, T⟩)
  · rintro g f w12 ⟨xs10, i11, uxs10, s0_1, s3_1, Guxs10, s4_1, nn4_1, T, hm⟩
    rcases g with _ | g
    · simp only [m_laws_toInt64S_L1] at hm; cases hm
    obtain ⟨rec1, hrec1, hm⟩ : ∃ z, z = m_laws_toInt64S_L1 d0 K1 g ∧ m_laws_toInt64S_B1 d0 z K1 xs10 i11 = some r := ⟨_, rfl, hm⟩
    unfold m_laws_toInt64S_B1 at hm
    refine wp_seq ?_
    refine wp_seq ?_
    refine wp_rs rfl ?_
    refine RQ.y rfl (Y.move (v := .int .i64 i11) s4_1) ?_
    refine RQ.y rfl (Y.move (v := .slice Aa0 d0.length ca0) s0_1) ?_
    refine RQ.y rfl (Y.len (by kernel_rfl) rfl) ?_
    refine RQ.y rfl (Y.binI (v := .bool (decide (i11 < (d0.length : Int)))) rfl rfl rfl) ?_
    refine RQ.nil ?_
    refine then_n ?_
    rcases bcases (decide (i11 < (d0.length : Int))) with c13 | c13
    · replace hm := cF c13 hm
      have pc13 := of_decide_eq_false c13
      refine cond_f rfl (vb rfl c13) ?_
      refine wp_exit ?_
      exact (then_x (then_x (hit_x ⟨_, rfl, ⟨xs10, (uxs10), s3_1, Guxs10, T, (by rw [hK1] at hm; exact hm)⟩⟩)))
    · replace hm := cT c13 hm
      have pc13 := of_decide_eq_true c13
      refine cond_t rfl (vb rfl c13) ?_
      refine wp_skip ?_
      refine then_n ?_
      refine wp_seq ?_
      refine wp_block ?_
      refine wp_rl rfl ?_
      refine RL.y rfl (Y.move (v := uxs10) s3_1) ?_
      refine RL.y rfl (Y.move (v := .int .i64 i11) s4_1) ?_
      refine RL.y rfl (Y.move (v := .slice Aa0 d0.length ca0) s0_1) ?_
      refine RL.y rfl (Y.move (v := .int .i64 i11) s4_1) ?_
      obtain ⟨x14, hx17, hm⟩ := bnd hm
      obtain ⟨k15, hk18, hl19, hx17⟩ := getI_some hx17
      obtain ⟨b21, o22, rfl, hbb21⟩ := ha0.addr (by omega)
      obtain ⟨cs16, hRcs16, hc20⟩ := ha0.el hx17
      have hScs16 := hRcs16
      obtain rfl := hRcs16
      refine RL.y rfl (Y.indexAddr (m := k15) (sz := 1) rfl rfl hk18 hl19 (by kernel_rfl)) ?_
      refine RL.y rfl (Y.load (v := .int .i64 x14) rfl (by kernel_rfl) (eqC (cellT T (hc20 0 _ rfl)))) ?_
      obtain ⟨A23, c24, rfl⟩ := OwF.form Guxs10
      have qbA23 := OwF.bound Guxs10
      obtain ⟨x25, hx27, hm⟩ := bnd hm
      obtain ⟨k26, hk28, hl29, hx27⟩ := getI_some hx27
      obtain ⟨b30, rfl⟩ := OwF.addr0 Guxs10 (by omega)
      refine RL.y rfl (Y.indexAddr (m := k26) (sz := 1) rfl rfl hk28 hl29 (by kernel_rfl)) ?_
      refine RL.storeF (k := k26) (a := x14) fI rfl rfl rfl Guxs10 hl29 rfl (by kernel_rfl) (fun w31 G32 ho33 => ?_)
      have szw31 := ho33.size
      have T := T.trans (ho33.below (by intro b hb; simp at hb; subst hb; exact OwF.lo_ Guxs10 _ rfl))
      have G32 : OwF 2 encI 1 w31 w.heap.size (.slice (some ⟨b30, 0, none⟩) xs10.length c24) (setI xs10 i11 x14) := by rw [setI_eq hk28]; exact G32
      have hx34 : (setI xs10 i11 x14)[k26]? = some x14 := setI_at hk28 hl29
      have hl35 := lt_of_some hx34
      refine RL.nil ?_
      refine blk_n (then_n ?_)
      refine wp_rs rfl ?_
      refine RQ.y rfl (Y.move (v := .int .i64 i11) s4_1) ?_
      refine RQ.y rfl (Y.binI rfl rfl (binI_add (m := i11) (by omega))) ?_
      refine RQ.y rfl (Y.assign (v := .int .i64 (i11 + 1)) rfl) ?_
      refine RQ.nil ?_
      exact (then_n ⟨g, _, Nat.lt_succ_self _, rfl, ⟨(setI xs10 i11 x14), (i11 + 1), (.slice (some ⟨b30, 0, none⟩) xs10.length c24), s0_1, s3_1, G32, rfl, (by omega), T, (by rw [← hrec1]; exact hm)⟩⟩)
noncomputable def m_laws_toAgent (d0 : DAgent) : Option DAgent :=
  ((m_laws_toInt64S d0.data).bind fun y24 => ((m_laws_toPortS d0.ports).bind fun y36 => some (⟨d0.kind, d0.level, d0.value, y24, y36⟩ : DAgent)))
set_option maxHeartbeats 2000000 in
theorem c_m_laws_toAgent (d0 : DAgent) (r : DAgent) (hm : m_laws_toAgent d0 = some r) (v0 : Value) (w : World) (hv0 : St agentRd w v0 d0) :
    Calls Try.prog 78 #[v0] w fun e w' => (∃ (v0 : Value) (v1 : Value), e = .returned (.agg #[.int .i64 r.kind, .int .i64 r.level, .int .i64 r.value, v0, v1]) ∧ OwF 2 encI 1 w' w.heap.size v0 r.data ∧ OwF 81 encPort 2 w' w.heap.size v1 r.ports ∧ Dj v0 v1) ∧ Below w.heap.size w w' := by
  obtain ⟨csa0, rfl, ⟨A1, n1, c1, A2, n2, c2, rfl, ⟨h1, r1⟩, ⟨h2, r2⟩⟩⟩ := hv0
  have e1 := h1.len; subst e1
  have q1 := len_le r1
  have e2 := h2.len; subst e2
  have q2 := len_le r2
  have T := Below.refl w.heap.size w
  unfold m_laws_toAgent at hm
  refine enter 22 Try.func78 rfl rfl rfl ?_
  intro f hf
  have s0 : f 0 = .agg #[.int .i64 d0.kind, .int .i64 d0.level, .int .i64 d0.value, .slice A1 d0.data.length c1, .slice A2 d0.ports.length c2] := hf 0 _ rfl
  refine wp_seq ?_
  refine wp_rl rfl ?_
  refine RL.box rfl s0 (fun w3 B4 hb5 szw3 => ?_)
  replace B4 : Blk w3 w.heap.size 117 #[.int .i64 d0.kind, .int .i64 d0.level, .int .i64 d0.value, .slice A1 d0.data.length c1, .slice A2 d0.ports.length c2] := B4
  have GB4 : w.heap.size ≤ w.heap.size := T.size
  have T := Tt T hb5
  refine RL.alloc (z := .agg #[.int .i64 0, .int .i64 0, .int .i64 0, .slice none 0 0, .slice none 0 0]) rfl (by kernel_rfl) (fun w7 B8 hb9 szw7 => ?_)
  replace B8 : Blk w7 w3.heap.size 122 #[.int .i64 0, .int .i64 0, .int .i64 0, .slice none 0 0, .slice none 0 0] := B8
  have GB8 : w.heap.size ≤ w3.heap.size := T.size
  have Eob10_ob6 := Nat.ne_of_lt B4.lt
  have B4 := blkT B4 hb9
  have T := Tt T hb9
  refine RL.nil ?_
  refine then_n ?_
  refine wp_seq ?_
  refine wp_rl rfl ?_
  refine RL.alloc (z := .agg #[.int .i64 0, .int .i64 0, .int .i64 0, .slice none 0 0, .slice none 0 0]) rfl (by kernel_rfl) (fun w11 B12 hb13 szw11 => ?_)
  replace B12 : Blk w11 w7.heap.size 122 #[.int .i64 0, .int .i64 0, .int .i64 0, .slice none 0 0, .slice none 0 0] := B12
  have GB12 : w.heap.size ≤ w7.heap.size := T.size
  have Eob14_ob6 := Nat.ne_of_lt B4.lt
  have Eob14_ob10 := Nat.ne_of_lt B8.lt
  have B4 := blkT B4 hb13
  have B8 := blkT B8 hb13
  have T := Tt T hb13
  refine RL.nil ?_
  refine then_n ?_
  refine wp_seq ?_
  refine wp_rl rfl ?_
  refine RL.y rfl (Y.fieldAddr (off := 0) rfl (by kernel_rfl)) ?_
  refine RL.y rfl (Y.load (v := .int .i64 d0.kind) rfl (by kernel_rfl) (eqC (blkCell B4 (i := 0) rfl))) ?_
  refine RL.y rfl (Y.fieldAddr (off := 0) rfl (by kernel_rfl)) ?_
  refine RL.store (v := .int .i64 d0.kind) (cs' := #[.int .i64 d0.kind, .int .i64 0, .int .i64 0, .slice none 0 0, .slice none 0 0]) rfl rfl rfl B12 (by kernel_rfl) (by rfl) (by rfl) (by rfl) (fun w15 B16 ho17 => ?_)
  have szw15 := ho17.size
  have B4 := B4.only_ ho17 (by intro hin; simp at hin; exact Eob14_ob6 hin)
  have B8 := B8.only_ ho17 (by intro hin; simp at hin; exact Eob14_ob10 hin)
  have T := T.trans (ho17.below (by first | (simp; done) | (simp; omega)))
  refine RL.nil ?_
  refine then_n ?_
  refine wp_seq ?_
  refine wp_rl rfl ?_
  refine RL.y rfl (Y.fieldAddr (off := 1) rfl (by kernel_rfl)) ?_
  refine RL.y rfl (Y.load (v := .int .i64 d0.level) rfl (by kernel_rfl) (eqC (blkCell B4 (i := 1) rfl))) ?_
  refine RL.y rfl (Y.fieldAddr (off := 1) rfl (by kernel_rfl)) ?_
  refine RL.store (v := .int .i64 d0.level) (cs' := #[.int .i64 d0.kind, .int .i64 d0.level, .int .i64 0, .slice none 0 0, .slice none 0 0]) rfl rfl rfl B16 (by kernel_rfl) (by rfl) (by rfl) (by rfl) (fun w18 B19 ho20 => ?_)
  have szw18 := ho20.size
  have B4 := B4.only_ ho20 (by intro hin; simp at hin; exact Eob14_ob6 hin)
  have B8 := B8.only_ ho20 (by intro hin; simp at hin; exact Eob14_ob10 hin)
  have T := T.trans (ho20.below (by first | (simp; done) | (simp; omega)))
  refine RL.nil ?_
  refine then_n ?_
  refine wp_seq ?_
  refine wp_rl rfl ?_
  refine RL.y rfl (Y.fieldAddr (off := 2) rfl (by kernel_rfl)) ?_
  refine RL.y rfl (Y.load (v := .int .i64 d0.value) rfl (by kernel_rfl) (eqC (blkCell B4 (i := 2) rfl))) ?_
  refine RL.y rfl (Y.fieldAddr (off := 2) rfl (by kernel_rfl)) ?_
  refine RL.store (v := .int .i64 d0.value) (cs' := #[.int .i64 d0.kind, .int .i64 d0.level, .int .i64 d0.value, .slice none 0 0, .slice none 0 0]) rfl rfl rfl B19 (by kernel_rfl) (by rfl) (by rfl) (by rfl) (fun w21 B22 ho23 => ?_)
  have szw21 := ho23.size
  have B4 := B4.only_ ho23 (by intro hin; simp at hin; exact Eob14_ob6 hin)
  have B8 := B8.only_ ho23 (by intro hin; simp at hin; exact Eob14_ob10 hin)
  have T := T.trans (ho23.below (by first | (simp; done) | (simp; omega)))
  refine RL.nil ?_
  refine then_n ?_
  refine wp_seq ?_
  refine wp_rl rfl ?_
  refine RL.y rfl (Y.fieldAddr (off := 3) rfl (by kernel_rfl)) ?_
  refine RL.y rfl (Y.load (v := .slice A1 d0.data.length c1) rfl (by kernel_rfl) (eqC (blkCell B4 (i := 3) rfl))) ?_
  obtain ⟨y24, e25, hm⟩ := bnd hm
  refine RL.call rfl (am1 rfl) (by kernel_rfl) ((c_m_laws_toInt64S d0.data _ e25 _ _ (slArg intRd_ok h1 r1 T)).mono ?_)
  rintro _ w29 ⟨⟨v26, rfl, G27⟩, hb30⟩
  refine ⟨_, rfl, ?_⟩
  have szw29 := hb30.size
  have T0w29 := T.size
  have Zo28_ob6 := ap_ne (Ap.new (OwF.flo G27) (one_hi B4.lt))
  have Zo28_ob10 := ap_ne (Ap.new (OwF.flo G27) (one_hi B8.lt))
  have Zo28_ob14 := ap_ne (Ap.new (OwF.flo G27) (one_hi B22.lt))
  have B4 := blkT B4 hb30
  have B8 := blkT B8 hb30
  have B22 := blkT B22 hb30
  have T := Tt T hb30
  replace G27 := OwF.mono G27 T0w29
  refine RL.y rfl (Y.fieldAddr (off := 3) rfl (by kernel_rfl)) ?_
  obtain ⟨A31, c32, rfl⟩ := OwF.form G27
  have qbA31 := OwF.bound G27
  refine RL.store (v := .slice A31 y24.length c32) (cs' := #[.int .i64 d0.kind, .int .i64 d0.level, .int .i64 d0.value, .slice A31 y24.length c32, .slice none 0 0]) rfl rfl rfl B22 (by kernel_rfl) (by rfl) (by rfl) (by rfl) (fun w33 B34 ho35 => ?_)
  have szw33 := ho35.size
  have B4 := B4.only_ ho35 (by intro hin; simp at hin; exact Eob14_ob6 hin)
  have B8 := B8.only_ ho35 (by intro hin; simp at hin; exact Eob14_ob10 hin)
  have G27 := OwF.only G27 ho35 Zo28_ob14
  have T := T.trans (ho35.below (by first | (simp; done) | (simp; omega)))
  refine RL.nil ?_
  refine then_n ?_
  refine wp_seq ?_
  refine wp_rl rfl ?_
  refine RL.y rfl (Y.fieldAddr (off := 4) rfl (by kernel_rfl)) ?_
  refine RL.y rfl (Y.load (v := .slice A2 d0.ports.length c2) rfl (by kernel_rfl) (eqC (blkCell B4 (i := 4) rfl))) ?_
  obtain ⟨y36, e37, hm⟩ := bnd hm
  refine RL.call rfl (am1 rfl) (by kernel_rfl) ((c_m_laws_toPortS d0.ports _ e37 _ _ (slArg portRd_ok h2 r2 T)).mono ?_)
  rintro _ w41 ⟨⟨v38, rfl, G39⟩, hb42⟩
  refine ⟨_, rfl, ?_⟩
  have szw41 := hb42.size
  have T0w41 := T.size
  have Zo40_ob6 := ap_ne (Ap.new (OwF.flo G39) (one_hi B4.lt))
  have Zo40_ob10 := ap_ne (Ap.new (OwF.flo G39) (one_hi B8.lt))
  have Zo40_ob14 := ap_ne (Ap.new (OwF.flo G39) (one_hi B34.lt))
  have Zo40_o28 := Ap.dj (Ap.new (OwF.flo G39) (OwF.fhi G27))
  have B4 := blkT B4 hb42
  have B8 := blkT B8 hb42
  have B34 := blkT B34 hb42
  have G27 := OwF.below G27 hb42
  have T := Tt T hb42
  replace G39 := OwF.mono G39 T0w41
  refine RL.y rfl (Y.fieldAddr (off := 4) rfl (by kernel_rfl)) ?_
  obtain ⟨A43, c44, rfl⟩ := OwF.form G39
  have qbA43 := OwF.bound G39
  refine RL.store (v := .slice A43 y36.length c44) (cs' := #[.int .i64 d0.kind, .int .i64 d0.level, .int .i64 d0.value, .slice A31 y24.length c32, .slice A43 y36.length c44]) rfl rfl rfl B34 (by kernel_rfl) (by rfl) (by rfl) (by rfl) (fun w45 B46 ho47 => ?_)
  have szw45 := ho47.size
  have B4 := B4.only_ ho47 (by intro hin; simp at hin; exact Eob14_ob6 hin)
  have B8 := B8.only_ ho47 (by intro hin; simp at hin; exact Eob14_ob10 hin)
  have G27 := OwF.only G27 ho47 Zo28_ob14
  have G39 := OwF.only G39 ho47 Zo40_ob14
  have T := T.trans (ho47.below (by first | (simp; done) | (simp; omega)))
  refine RL.nil ?_
  refine then_n ?_
  refine wp_seq ?_
  refine wp_rl rfl ?_
  refine RL.y rfl (Y.loadN (cs := [.int .i64 d0.kind, .int .i64 d0.level, .int .i64 d0.value, .slice A31 y24.length c32, .slice A43 y36.length c44]) rfl (by kernel_rfl) (cells5 (eqC (blkCell B46 (i := 0) rfl)) (eqC (blkCell B46 (i := 1) rfl)) (eqC (blkCell B46 (i := 2) rfl)) (eqC (blkCell B46 (i := 3) rfl)) (eqC (blkCell B46 (i := 4) rfl)))) ?_
  refine RL.store (v := .agg #[.int .i64 d0.kind, .int .i64 d0.level, .int .i64 d0.value, .slice A31 y24.length c32, .slice A43 y36.length c44]) (cs' := #[.int .i64 d0.kind, .int .i64 d0.level, .int .i64 d0.value, .slice A31 y24.length c32, .slice A43 y36.length c44]) rfl rfl rfl B8 (by kernel_rfl) (by rfl) (by rfl) (by rfl) (fun w48 B49 ho50 => ?_)
  have szw48 := ho50.size
  have B46 := B46.only_ ho50 (by intro hin; simp at hin; exact Eob14_ob10.symm hin)
  have G27 := OwF.only G27 ho50 Zo28_ob10
  have G39 := OwF.only G39 ho50 Zo40_ob10
  have T := T.trans (ho50.below (by first | (simp; done) | (simp; omega)))
  refine RL.nil ?_
  refine then_n ?_
  refine wp_ret ?_
  obtain rfl := Option.some.inj hm
  exact (retc (cs := [.int .i64 d0.kind, .int .i64 d0.level, .int .i64 d0.value, .slice A31 y24.length c32, .slice A43 y36.length c44]) rfl rfl rfl (by kernel_rfl) (blkCells B49) ⟨⟨_, _, rfl, G27, G39, (Ap.dj (Ap.symm (Dj.ap Zo40_o28)))⟩, T⟩)
noncomputable def m_laws_toAgentS_A1 (xs8 : List DAgent) : Option (List DAgent) :=
  some xs8
noncomputable def m_laws_toAgentS_B1 (d0 : List DAgent) (rec1 : List DAgent → Int → Option (List DAgent)) (K1 : List DAgent → Option (List DAgent)) (xs10 : List DAgent) (i11 : Int) : Option (List DAgent) :=
  (bif (decide (i11 < (d0.length : Int))) then ((getI d0 i11).bind fun x14 => ((m_laws_toAgent x14).bind fun y25 => ((getI xs10 i11).bind fun x37 => (rec1 (setI xs10 i11 y25) (i11 + 1))))) else (K1 xs10))
noncomputable def m_laws_toAgentS_L1 (d0 : List DAgent) (K1 : List DAgent → Option (List DAgent)) : Nat → List DAgent → Int → Option (List DAgent)
  | 0, _, _ => none
  | g + 1, xs10, i11 => m_laws_toAgentS_B1 d0 (m_laws_toAgentS_L1 d0 K1 g) K1 xs10 i11
noncomputable def m_laws_toAgentS (d0 : List DAgent) : Option (List DAgent) :=
  ((mustP (d0.length ≤ 4294967296)).bind fun _ => (m_laws_toAgentS_L1 d0 m_laws_toAgentS_A1 (d0.length + 1) (List.replicate d0.length ((⟨0, 0, 0, [], []⟩ : DAgent) : DAgent)) 0))
set_option maxHeartbeats 2000000 in
theorem c_m_laws_toAgentS (d0 : List DAgent) (r : List DAgent) (hm : m_laws_toAgentS d0 = some r) (v0 : Value) (w : World) (hv0 : Sl agentRd 5 w v0 d0) :
    Calls Try.prog 37 #[v0] w fun e w' => (∃ (v0 : Value) (bs0 : List Nat), e = .returned (v0) ∧ OwN 122 agentOw 5 w' w.heap.size v0 r bs0) ∧ Below w.heap.size w w' := by
  obtain ⟨Aa0, na0, ca0, rfl, ha0, ra0⟩ := hv0
  have ea0 := ha0.len; subst ea0
  have qa0 := len_le ra0
  have T := Below.refl w.heap.size w
  unfold m_laws_toAgentS at hm
  refine enter 23 Try.func37 rfl rfl rfl ?_
  intro f hf
  have s0 : f 0 = .slice Aa0 d0.length ca0 := hf 0 _ rfl
  refine wp_seq ?_
  refine wp_rs rfl ?_
  refine RQ.y rfl (Y.assign (v := .slice none 0 0) rfl) ?_
  refine RQ.nil ?_
  refine then_n ?_
  refine wp_seq ?_
  refine wp_rl rfl ?_
  refine RL.y rfl (Y.move (v := .slice Aa0 d0.length ca0) s0) ?_
  refine RL.y rfl (Y.len (by kernel_rfl) rfl) ?_
  obtain ⟨_, m1, hm⟩ := bnd hm
  have hk2 := mustP_some m1
  refine RL.makeN (O := agentOw) (x0 := (⟨0, 0, 0, [], []⟩ : DAgent)) (n := d0.length) app_impl_Agent (by decide) (fun w => ⟨none, 0, 0, none, 0, 0, [], [], rfl, ⟨⟨rfl, .inl ⟨rfl, rfl⟩⟩, Nat.le_refl _, Nat.zero_le _⟩, ⟨⟨rfl, .inl ⟨rfl, rfl⟩⟩, Nat.le_refl _, Nat.zero_le _⟩, rfl⟩) rfl rfl rfl hk2 (fun w3 G4 hb5 szw3 => ?_)
  replace G4 := OwN.mono G4 T.size
  have T := Tt T hb5
  refine RL.y rfl (Y.assign (v := .slice (some ⟨w.heap.size, 0, none⟩) d0.length d0.length) rfl) ?_
  refine RL.nil ?_
  refine then_n ?_
  refine wp_seq ?_
  refine wp_seq ?_
  refine wp_rs rfl ?_
  refine RQ.y rfl (Y.assign (v := .int .i64 0) rfl) ?_
  refine RQ.nil ?_
  refine then_n ?_
  refine wp_block ?_
  obtain ⟨K1, hK1, hm⟩ : ∃ K, K = m_laws_toAgentS_A1 ∧ m_laws_toAgentS_L1 d0 K (d0.length + 1) (List.replicate d0.length ((⟨0, 0, 0, [], []⟩ : DAgent) : DAgent)) 0 = some r := ⟨_, rfl, hm⟩
  refine wp_loopX (fun g f w' => ∃ (xs10 : List DAgent) (i11 : Int) (uxs10 : Value) (bsxs10 : List Nat), f 0 = .slice Aa0 d0.length ca0 ∧ f 3 = uxs10 ∧ OwN 122 agentOw 5 w' w.heap.size uxs10 xs10 bsxs10 ∧ f 4 = .int .i64 i11 ∧ 0 ≤ i11 ∧ Below w.heap.size w w' ∧ m_laws_toAgentS_L1 d0 K1 g xs10 i11 = some r) 0 (fun f w' => ∃ (xs8 : List DAgent) (uxs8 : Value) (bsxs8 : List Nat), f 3 = uxs8 ∧ OwN 122 agentOw 5 w' w.heap.size uxs8 xs8 bsxs8 ∧ Below w.heap.size w w' ∧ m_laws_toAgentS_A1 xs8 = some r) (d0.length + 1) ⟨(List.replicate d0.length ((⟨0, 0, 0, [], []⟩ : DAgent) : DAgent)), 0, (.slice (some ⟨w.heap.size, 0, none⟩) d0.length d0.length), ([w.heap.size]), s0, rfl, G4, rfl, (by omega), T, hm⟩ ?_ ?_
  · rintro f w9 ⟨xs8, uxs8, bsxs8, s3_1x, Guxs8, T, hm⟩
    unfold m_laws_toAgentS_A1 at hm
    refine blk_hit (then_n ?_)
    refine wp_seq ?_
    refine wp_rs rfl ?_
    refine RQ.y rfl (Y.move (v := uxs8) s3_1x) ?_
    refine RQ.y rfl (Y.assign (v := uxs8) rfl) ?_
    refine RQ.nil ?_
    refine then_n ?_
    refine wp_ret ?_
    obtain rfl := Option.some.inj hm
    exact (ret1 rfl rfl rfl ⟨⟨_, _, rfl, Guxs8⟩, T⟩)
  · rintro g f w12 ⟨xs10, i11, uxs10, bsxs10, s0_1, s3_1, Guxs10, s4_1, nn4_1, T, hm⟩
    rcases g with _ | g
    · simp only [m_laws_toAgentS_L1] at hm; cases hm
    obtain ⟨rec1, hrec1, hm⟩ : ∃ z, z = m_laws_toAgentS_L1 d0 K1 g ∧ m_laws_toAgentS_B1 d0 z K1 xs10 i11 = some r := ⟨_, rfl, hm⟩
    unfold m_laws_toAgentS_B1 at hm
    refine wp_seq ?_
    refine wp_seq ?_
    refine wp_rs rfl ?_
    refine RQ.y rfl (Y.move (v := .int .i64 i11) s4_1) ?_
    refine RQ.y rfl (Y.move (v := .slice Aa0 d0.length ca0) s0_1) ?_
    refine RQ.y rfl (Y.len (by kernel_rfl) rfl) ?_
    refine RQ.y rfl (Y.binI (v := .bool (decide (i11 < (d0.length : Int)))) rfl rfl rfl) ?_
    refine RQ.nil ?_
    refine then_n ?_
    rcases bcases (decide (i11 < (d0.length : Int))) with c13 | c13
    · replace hm := cF c13 hm
      have pc13 := of_decide_eq_false c13
      refine cond_f rfl (vb rfl c13) ?_
      refine wp_exit ?_
      exact (then_x (then_x (hit_x ⟨_, rfl, ⟨xs10, (uxs10), bsxs10, s3_1, Guxs10, T, (by rw [hK1] at hm; exact hm)⟩⟩)))
    · replace hm := cT c13 hm
      have pc13 := of_decide_eq_true c13
      refine cond_t rfl (vb rfl c13) ?_
      refine wp_skip ?_
      refine then_n ?_
      refine wp_seq ?_
      refine wp_block ?_
      refine wp_rl rfl ?_
      refine RL.y rfl (Y.move (v := uxs10) s3_1) ?_
      refine RL.y rfl (Y.move (v := .int .i64 i11) s4_1) ?_
      refine RL.y rfl (Y.move (v := .slice Aa0 d0.length ca0) s0_1) ?_
      refine RL.y rfl (Y.move (v := .int .i64 i11) s4_1) ?_
      obtain ⟨x14, hx17, hm⟩ := bnd hm
      obtain ⟨k15, hk18, hl19, hx17⟩ := getI_some hx17
      obtain ⟨b21, o22, rfl, hbb21⟩ := ha0.addr (by omega)
      obtain ⟨cs16, hRcs16, hc20⟩ := ha0.el hx17
      have hScs16 := hRcs16
      obtain ⟨A23, n23, c23, A24, n24, c24, rfl, ⟨h23, r23⟩, ⟨h24, r24⟩⟩ := hRcs16
      have e23 := h23.len; subst e23
      have q23 := len_le r23
      have e24 := h24.len; subst e24
      have q24 := len_le r24
      refine RL.y rfl (Y.indexAddr (m := k15) (sz := 5) rfl rfl hk18 hl19 (by kernel_rfl)) ?_
      refine RL.y rfl (Y.loadN (cs := [.int .i64 x14.kind, .int .i64 x14.level, .int .i64 x14.value, .slice A23 x14.data.length c23, .slice A24 x14.ports.length c24]) rfl (by kernel_rfl) (cells5 (eqC (cellT T (hc20 0 _ rfl))) (eqC (cellT T (hc20 1 _ rfl))) (eqC (cellT T (hc20 2 _ rfl))) (eqC (cellT T (hc20 3 _ rfl))) (eqC (cellT T (hc20 4 _ rfl))))) ?_
      obtain ⟨y25, e26, hm⟩ := bnd hm
      refine RL.call rfl (am1 rfl) (by kernel_rfl) ((c_m_laws_toAgent x14 _ e26 _ _ (stArg (R := agentRd) ⟨_, _, _, _, _, _, rfl, ⟨SlAt.now intRd_ok h23 (Nat.le_refl _) T, r23⟩, ⟨SlAt.now portRd_ok h24 (Nat.le_refl _) T, r24⟩⟩)).mono ?_)
      rintro _ w33 ⟨⟨v27, v30, rfl, G28, G31, Ro29_o32⟩, hb34⟩
      refine ⟨_, rfl, ?_⟩
      have szw33 := hb34.size
      have T0w33 := T.size
      have Zo29_oxs10 : Ap (fb v27) bsxs10 := (Ap.new (OwF.flo G28) (OwN.hi Guxs10))
      have Zo32_oxs10 : Ap (fb v30) bsxs10 := (Ap.new (OwF.flo G31) (OwN.hi Guxs10))
      have Guxs10 := OwN.below agentOw_ok Guxs10 hb34
      have T := Tt T hb34
      replace G28 := OwF.mono G28 T0w33
      replace G31 := OwF.mono G31 T0w33
      obtain ⟨A35, c36, rfl⟩ := OwN.form Guxs10
      have qbA35 := OwN.bound Guxs10
      obtain ⟨x37, hx39, hm⟩ := bnd hm
      obtain ⟨k38, hk40, hl41, hx39⟩ := getI_some hx39
      obtain ⟨b42, rfl⟩ := OwN.addr0 Guxs10 (by omega)
      refine RL.y rfl (Y.indexAddr (m := k38) (sz := 5) rfl rfl hk40 hl41 (by kernel_rfl)) ?_
      obtain ⟨A43, c44, rfl⟩ := OwF.form G28
      have qbA43 := OwF.bound G28
      obtain ⟨A45, c46, rfl⟩ := OwF.form G31
      have qbA45 := OwF.bound G31
      obtain ⟨l48, a47, nd49, sb50, r51⟩ := OwF.own2 fI G28
      obtain ⟨l53, a52, nd54, sb55, r56⟩ := OwF.own2 fPort G31
      refine RL.storeNW (k := k38) (a' := y25) (l := (l48 ++ l53)) (fp := ((fb (.slice A43 y25.data.length c44)) ++ (fb (.slice A45 y25.ports.length c46)))) agentOw_ok agentOw_one rfl rfl rfl Guxs10 hx39 ⟨_, _, _, _, _, _, l48, l53, rfl, ⟨a47, r51⟩, ⟨a52, r56⟩, rfl⟩ (nodup2 nd49 nd54 sb50 sb55 (Dj.ap Ro29_o32)) (sub2 sb50 sb55) (Ap.symm (Ap.append Zo29_oxs10 Zo32_oxs10)) (all2 (OwF.fboth G28 (Nat.le_refl _)) (OwF.fboth G31 (Nat.le_refl _))) (by kernel_rfl) (fun w57 G58 ho59 => ?_)
      have szw57 := ho59.size
      have T := T.trans (ho59.below (by intro b hb; simp at hb; subst hb; exact OwN.lo_ Guxs10 _ (OwN.row Guxs10 rfl)))
      have G58 : OwN 122 agentOw 5 w57 w.heap.size (.slice (some ⟨b42, 0, none⟩) xs10.length c36) (setI xs10 i11 y25) (bsxs10 ++ ((fb (.slice A43 y25.data.length c44)) ++ (fb (.slice A45 y25.ports.length c46)))) := by rw [setI_eq hk40]; exact G58
      refine RL.nil ?_
      refine blk_n (then_n ?_)
      refine wp_rs rfl ?_
      refine RQ.y rfl (Y.move (v := .int .i64 i11) s4_1) ?_
      refine RQ.y rfl (Y.binI rfl rfl (binI_add (m := i11) (by omega))) ?_
      refine RQ.y rfl (Y.assign (v := .int .i64 (i11 + 1)) rfl) ?_
      refine RQ.nil ?_
      exact (then_n ⟨g, _, Nat.lt_succ_self _, rfl, ⟨(setI xs10 i11 y25), (i11 + 1), (.slice (some ⟨b42, 0, none⟩) xs10.length c36), (bsxs10 ++ ((fb (.slice A43 y25.data.length c44)) ++ (fb (.slice A45 y25.ports.length c46)))), s0_1, s3_1, G58, rfl, (by omega), T, (by rw [← hrec1]; exact hm)⟩⟩)
noncomputable def m_laws_toNet (d0 : DNet) : Option DNet :=
  ((m_laws_toAgentS d0.agents).bind fun y14 => some (⟨y14⟩ : DNet))
set_option maxHeartbeats 2000000 in
theorem c_m_laws_toNet (d0 : DNet) (r : DNet) (hm : m_laws_toNet d0 = some r) (v0 : Value) (w : World) (hv0 : St netRd w v0 d0) :
    Calls Try.prog 10 #[v0] w fun e w' => (∃ (v0 : Value) (bs0 : List Nat), e = .returned (.agg #[v0]) ∧ OwN 122 agentOw 5 w' w.heap.size v0 r.agents bs0) ∧ Below w.heap.size w w' := by
  obtain ⟨csa0, rfl, ⟨A1, n1, c1, rfl, ⟨h1, r1⟩⟩⟩ := hv0
  have e1 := h1.len; subst e1
  have q1 := len_le r1
  have T := Below.refl w.heap.size w
  unfold m_laws_toNet at hm
  refine enter 9 Try.func10 rfl rfl rfl ?_
  intro f hf
  have s0 : f 0 = .agg #[.slice A1 d0.agents.length c1] := hf 0 _ rfl
  refine wp_seq ?_
  refine wp_rl rfl ?_
  refine RL.box rfl s0 (fun w2 B3 hb4 szw2 => ?_)
  replace B3 : Blk w2 w.heap.size 24 #[.slice A1 d0.agents.length c1] := B3
  have GB3 : w.heap.size ≤ w.heap.size := T.size
  have T := Tt T hb4
  refine RL.alloc (z := .agg #[.slice none 0 0]) rfl (by kernel_rfl) (fun w6 B7 hb8 szw6 => ?_)
  replace B7 : Blk w6 w2.heap.size 31 #[.slice none 0 0] := B7
  have GB7 : w.heap.size ≤ w2.heap.size := T.size
  have Eob9_ob5 := Nat.ne_of_lt B3.lt
  have B3 := blkT B3 hb8
  have T := Tt T hb8
  refine RL.nil ?_
  refine then_n ?_
  refine wp_seq ?_
  refine wp_rl rfl ?_
  refine RL.alloc (z := .agg #[.slice none 0 0]) rfl (by kernel_rfl) (fun w10 B11 hb12 szw10 => ?_)
  replace B11 : Blk w10 w6.heap.size 31 #[.slice none 0 0] := B11
  have GB11 : w.heap.size ≤ w6.heap.size := T.size
  have Eob13_ob5 := Nat.ne_of_lt B3.lt
  have Eob13_ob9 := Nat.ne_of_lt B7.lt
  have B3 := blkT B3 hb12
  have B7 := blkT B7 hb12
  have T := Tt T hb12
  refine RL.nil ?_
  refine then_n ?_
  refine wp_seq ?_
  refine wp_rl rfl ?_
  refine RL.y rfl (Y.fieldAddr (off := 0) rfl (by kernel_rfl)) ?_
  refine RL.y rfl (Y.load (v := .slice A1 d0.agents.length c1) rfl (by kernel_rfl) (eqC (blkCell B3 (i := 0) rfl))) ?_
  obtain ⟨y14, e15, hm⟩ := bnd hm
  refine RL.call rfl (am1 rfl) (by kernel_rfl) ((c_m_laws_toAgentS d0.agents _ e15 _ _ (slArg agentRd_ok h1 r1 T)).mono ?_)
  rintro _ w20 ⟨⟨v16, bs19, rfl, G17⟩, hb21⟩
  refine ⟨_, rfl, ?_⟩
  have szw20 := hb21.size
  have T0w20 := T.size
  have Zo18_ob5 : Ap bs19 [w.heap.size] := (Ap.new (OwN.lo_ G17) (one_hi B3.lt))
  have Zo18_ob9 : Ap bs19 [w2.heap.size] := (Ap.new (OwN.lo_ G17) (one_hi B7.lt))
  have Zo18_ob13 : Ap bs19 [w6.heap.size] := (Ap.new (OwN.lo_ G17) (one_hi B11.lt))
  have B3 := blkT B3 hb21
  have B7 := blkT B7 hb21
  have B11 := blkT B11 hb21
  have T := Tt T hb21
  replace G17 := OwN.mono G17 T0w20
  refine RL.y rfl (Y.fieldAddr (off := 0) rfl (by kernel_rfl)) ?_
  obtain ⟨A22, c23, rfl⟩ := OwN.form G17
  have qbA22 := OwN.bound G17
  refine RL.store (v := .slice A22 y14.length c23) (cs' := #[.slice A22 y14.length c23]) rfl rfl rfl B11 (by kernel_rfl) (by rfl) (by rfl) (by rfl) (fun w24 B25 ho26 => ?_)
  have szw24 := ho26.size
  have B3 := B3.only_ ho26 (by intro hin; simp at hin; exact Eob13_ob5 hin)
  have B7 := B7.only_ ho26 (by intro hin; simp at hin; exact Eob13_ob9 hin)
  have G17 := OwN.only agentOw_ok G17 ho26 (Ap.one Zo18_ob13)
  have T := T.trans (ho26.below (by first | (simp; done) | (simp; omega)))
  refine RL.nil ?_
  refine then_n ?_
  refine wp_seq ?_
  refine wp_rl rfl ?_
  refine RL.y rfl (Y.loadN (cs := [.slice A22 y14.length c23]) rfl (by kernel_rfl) (cells1 (eqC (blkCell B25 (i := 0) rfl)))) ?_
  refine RL.store (v := .agg #[.slice A22 y14.length c23]) (cs' := #[.slice A22 y14.length c23]) rfl rfl rfl B7 (by kernel_rfl) (by rfl) (by rfl) (by rfl) (fun w27 B28 ho29 => ?_)
  have szw27 := ho29.size
  have B25 := B25.only_ ho29 (by intro hin; simp at hin; exact Eob13_ob9.symm hin)
  have G17 := OwN.only agentOw_ok G17 ho29 (Ap.one Zo18_ob9)
  have T := T.trans (ho29.below (by first | (simp; done) | (simp; omega)))
  refine RL.nil ?_
  refine then_n ?_
  refine wp_ret ?_
  obtain rfl := Option.some.inj hm
  exact (retc (cs := [.slice A22 y14.length c23]) rfl rfl rfl (by kernel_rfl) (blkCells B28) ⟨⟨_, _, rfl, G17⟩, T⟩)
noncomputable def m_laws_toTypeSS_A1 (xs8 : List (List DType)) : Option (List (List DType)) :=
  some xs8
noncomputable def m_laws_toTypeSS_B1 (d0 : List (List DType)) (rec1 : List (List DType) → Int → Option (List (List DType))) (K1 : List (List DType) → Option (List (List DType))) (xs10 : List (List DType)) (i11 : Int) : Option (List (List DType)) :=
  (bif (decide (i11 < (d0.length : Int))) then ((getI d0 i11).bind fun x14 => ((m_laws_toTypeS (SizeOf.sizeOf x14) x14).bind fun y24 => ((getI xs10 i11).bind fun x34 => (rec1 (setI xs10 i11 y24) (i11 + 1))))) else (K1 xs10))
noncomputable def m_laws_toTypeSS_L1 (d0 : List (List DType)) (K1 : List (List DType) → Option (List (List DType))) : Nat → List (List DType) → Int → Option (List (List DType))
  | 0, _, _ => none
  | g + 1, xs10, i11 => m_laws_toTypeSS_B1 d0 (m_laws_toTypeSS_L1 d0 K1 g) K1 xs10 i11
noncomputable def m_laws_toTypeSS (d0 : List (List DType)) : Option (List (List DType)) :=
  ((mustP (d0.length ≤ 4294967296)).bind fun _ => (m_laws_toTypeSS_L1 d0 m_laws_toTypeSS_A1 (d0.length + 1) (List.replicate d0.length ([] : List DType)) 0))
set_option maxHeartbeats 2000000 in
theorem c_m_laws_toTypeSS (d0 : List (List DType)) (r : List (List DType)) (hm : m_laws_toTypeSS d0 = some r) (v0 : Value) (w : World) (hv0 : Sl (slRd typeRd 3) 1 w v0 d0) :
    Calls Try.prog 54 #[v0] w fun e w' => (∃ (v0 : Value) (bs0 : List Nat), e = .returned (v0) ∧ OwN 64 (slOw typeOw 3) 1 w' w.heap.size v0 r bs0) ∧ Below w.heap.size w w' := by
  obtain ⟨Aa0, na0, ca0, rfl, ha0, ra0⟩ := hv0
  have ea0 := ha0.len; subst ea0
  have qa0 := len_le ra0
  have T := Below.refl w.heap.size w
  unfold m_laws_toTypeSS at hm
  refine enter 23 Try.func54 rfl rfl rfl ?_
  intro f hf
  have s0 : f 0 = .slice Aa0 d0.length ca0 := hf 0 _ rfl
  refine wp_seq ?_
  refine wp_rs rfl ?_
  refine RQ.y rfl (Y.assign (v := .slice none 0 0) rfl) ?_
  refine RQ.nil ?_
  refine then_n ?_
  refine wp_seq ?_
  refine wp_rl rfl ?_
  refine RL.y rfl (Y.move (v := .slice Aa0 d0.length ca0) s0) ?_
  refine RL.y rfl (Y.len (by kernel_rfl) rfl) ?_
  obtain ⟨_, m1, hm⟩ := bnd hm
  have hk2 := mustP_some m1
  refine RL.makeN (O := (slOw typeOw 3)) (x0 := []) (n := d0.length) app_impl_Type_ (by decide) (fun w => ⟨none, 0, 0, rfl, ⟨rfl, .inl ⟨rfl, rfl⟩⟩, Nat.le_refl _, Nat.zero_le _⟩) rfl rfl rfl hk2 (fun w3 G4 hb5 szw3 => ?_)
  replace G4 := OwN.mono G4 T.size
  have T := Tt T hb5
  refine RL.y rfl (Y.assign (v := .slice (some ⟨w.heap.size, 0, none⟩) d0.length d0.length) rfl) ?_
  refine RL.nil ?_
  refine then_n ?_
  refine wp_seq ?_
  refine wp_seq ?_
  refine wp_rs rfl ?_
  refine RQ.y rfl (Y.assign (v := .int .i64 0) rfl) ?_
  refine RQ.nil ?_
  refine then_n ?_
  refine wp_block ?_
  obtain ⟨K1, hK1, hm⟩ : ∃ K, K = m_laws_toTypeSS_A1 ∧ m_laws_toTypeSS_L1 d0 K (d0.length + 1) (List.replicate d0.length ([] : List DType)) 0 = some r := ⟨_, rfl, hm⟩
  refine wp_loopX (fun g f w' => ∃ (xs10 : List (List DType)) (i11 : Int) (uxs10 : Value) (bsxs10 : List Nat), f 0 = .slice Aa0 d0.length ca0 ∧ f 3 = uxs10 ∧ OwN 64 (slOw typeOw 3) 1 w' w.heap.size uxs10 xs10 bsxs10 ∧ f 4 = .int .i64 i11 ∧ 0 ≤ i11 ∧ Below w.heap.size w w' ∧ m_laws_toTypeSS_L1 d0 K1 g xs10 i11 = some r) 0 (fun f w' => ∃ (xs8 : List (List DType)) (uxs8 : Value) (bsxs8 : List Nat), f 3 = uxs8 ∧ OwN 64 (slOw typeOw 3) 1 w' w.heap.size uxs8 xs8 bsxs8 ∧ Below w.heap.size w w' ∧ m_laws_toTypeSS_A1 xs8 = some r) (d0.length + 1) ⟨(List.replicate d0.length ([] : List DType)), 0, (.slice (some ⟨w.heap.size, 0, none⟩) d0.length d0.length), ([w.heap.size]), s0, rfl, G4, rfl, (by omega), T, hm⟩ ?_ ?_
  · rintro f w9 ⟨xs8, uxs8, bsxs8, s3_1x, Guxs8, T, hm⟩
    unfold m_laws_toTypeSS_A1 at hm
    refine blk_hit (then_n ?_)
    refine wp_seq ?_
    refine wp_rs rfl ?_
    refine RQ.y rfl (Y.move (v := uxs8) s3_1x) ?_
    refine RQ.y rfl (Y.assign (v := uxs8) rfl) ?_
    refine RQ.nil ?_
    refine then_n ?_
    refine wp_ret ?_
    obtain rfl := Option.some.inj hm
    exact (ret1 rfl rfl rfl ⟨⟨_, _, rfl, Guxs8⟩, T⟩)
  · rintro g f w12 ⟨xs10, i11, uxs10, bsxs10, s0_1, s3_1, Guxs10, s4_1, nn4_1, T, hm⟩
    rcases g with _ | g
    · simp only [m_laws_toTypeSS_L1] at hm; cases hm
    obtain ⟨rec1, hrec1, hm⟩ : ∃ z, z = m_laws_toTypeSS_L1 d0 K1 g ∧ m_laws_toTypeSS_B1 d0 z K1 xs10 i11 = some r := ⟨_, rfl, hm⟩
    unfold m_laws_toTypeSS_B1 at hm
    refine wp_seq ?_
    refine wp_seq ?_
    refine wp_rs rfl ?_
    refine RQ.y rfl (Y.move (v := .int .i64 i11) s4_1) ?_
    refine RQ.y rfl (Y.move (v := .slice Aa0 d0.length ca0) s0_1) ?_
    refine RQ.y rfl (Y.len (by kernel_rfl) rfl) ?_
    refine RQ.y rfl (Y.binI (v := .bool (decide (i11 < (d0.length : Int)))) rfl rfl rfl) ?_
    refine RQ.nil ?_
    refine then_n ?_
    rcases bcases (decide (i11 < (d0.length : Int))) with c13 | c13
    · replace hm := cF c13 hm
      have pc13 := of_decide_eq_false c13
      refine cond_f rfl (vb rfl c13) ?_
      refine wp_exit ?_
      exact (then_x (then_x (hit_x ⟨_, rfl, ⟨xs10, (uxs10), bsxs10, s3_1, Guxs10, T, (by rw [hK1] at hm; exact hm)⟩⟩)))
    · replace hm := cT c13 hm
      have pc13 := of_decide_eq_true c13
      refine cond_t rfl (vb rfl c13) ?_
      refine wp_skip ?_
      refine then_n ?_
      refine wp_seq ?_
      refine wp_block ?_
      refine wp_rl rfl ?_
      refine RL.y rfl (Y.move (v := uxs10) s3_1) ?_
      refine RL.y rfl (Y.move (v := .int .i64 i11) s4_1) ?_
      refine RL.y rfl (Y.move (v := .slice Aa0 d0.length ca0) s0_1) ?_
      refine RL.y rfl (Y.move (v := .int .i64 i11) s4_1) ?_
      obtain ⟨x14, hx17, hm⟩ := bnd hm
      obtain ⟨k15, hk18, hl19, hx17⟩ := getI_some hx17
      obtain ⟨b21, o22, rfl, hbb21⟩ := ha0.addr (by omega)
      obtain ⟨cs16, hRcs16, hc20⟩ := ha0.el hx17
      have hScs16 := hRcs16
      obtain ⟨A23, n23, c23, rfl, h23, r23⟩ := hRcs16
      have e23 := h23.len; subst e23
      have q23 := len_le r23
      refine RL.y rfl (Y.indexAddr (m := k15) (sz := 1) rfl rfl hk18 hl19 (by kernel_rfl)) ?_
      refine RL.y rfl (Y.load (v := .slice A23 x14.length c23) rfl (by kernel_rfl) (eqC (cellT T (hc20 0 _ rfl)))) ?_
      obtain ⟨y24, e25, hm⟩ := bnd hm
      refine RL.call rfl (am1 rfl) (by kernel_rfl) ((c_m_laws_toTypeS (SizeOf.sizeOf x14) x14 _ e25 _ _ (slArg typeRd_ok h23 r23 T)).mono ?_)
      rintro _ w30 ⟨⟨v26, bs29, rfl, G27⟩, hb31⟩
      refine ⟨_, rfl, ?_⟩
      have szw30 := hb31.size
      have T0w30 := T.size
      have Zo28_oxs10 : Ap bs29 bsxs10 := (Ap.new (OwN.lo_ G27) (OwN.hi Guxs10))
      have Guxs10 := OwN.below (slOw_ok typeOw_ok) Guxs10 hb31
      have T := Tt T hb31
      replace G27 := OwN.mono G27 T0w30
      obtain ⟨A32, c33, rfl⟩ := OwN.form Guxs10
      have qbA32 := OwN.bound Guxs10
      obtain ⟨x34, hx36, hm⟩ := bnd hm
      obtain ⟨k35, hk37, hl38, hx36⟩ := getI_some hx36
      obtain ⟨b39, rfl⟩ := OwN.addr0 Guxs10 (by omega)
      refine RL.y rfl (Y.indexAddr (m := k35) (sz := 1) rfl rfl hk37 hl38 (by kernel_rfl)) ?_
      obtain ⟨A40, c41, rfl⟩ := OwN.form G27
      have qbA40 := OwN.bound G27
      obtain ⟨_, _, _, l43, hea42, a42, nd44, sb45, r46⟩ := OwN.own1 typeOw_ok G27
      injection hea42 with e1 e2 e3; subst e1 e2 e3
      refine RL.storeNW (k := k35) (a' := y24) (l := l43) (fp := bs29) (slOw_ok typeOw_ok) slOw_one rfl rfl rfl Guxs10 hx36 ⟨_, _, _, rfl, a42, r46⟩ nd44 sb45 (Ap.symm Zo28_oxs10) (OwN.both G27 (Nat.le_refl _)) (by kernel_rfl) (fun w47 G48 ho49 => ?_)
      have szw47 := ho49.size
      have T := T.trans (ho49.below (by intro b hb; simp at hb; subst hb; exact OwN.lo_ Guxs10 _ (OwN.row Guxs10 rfl)))
      have G48 : OwN 64 (slOw typeOw 3) 1 w47 w.heap.size (.slice (some ⟨b39, 0, none⟩) xs10.length c33) (setI xs10 i11 y24) (bsxs10 ++ bs29) := by rw [setI_eq hk37]; exact G48
      refine RL.nil ?_
      refine blk_n (then_n ?_)
      refine wp_rs rfl ?_
      refine RQ.y rfl (Y.move (v := .int .i64 i11) s4_1) ?_
      refine RQ.y rfl (Y.binI rfl rfl (binI_add (m := i11) (by omega))) ?_
      refine RQ.y rfl (Y.assign (v := .int .i64 (i11 + 1)) rfl) ?_
      refine RQ.nil ?_
      exact (then_n ⟨g, _, Nat.lt_succ_self _, rfl, ⟨(setI xs10 i11 y24), (i11 + 1), (.slice (some ⟨b39, 0, none⟩) xs10.length c33), (bsxs10 ++ bs29), s0_1, s3_1, G48, rfl, (by omega), T, (by rw [← hrec1]; exact hm)⟩⟩)
noncomputable def m_laws_toTypedNet (d0 : DTypedNet) : Option DTypedNet :=
  ((m_laws_toNet (⟨d0.net.agents⟩ : DNet)).bind fun y15 => ((m_laws_toTypeSS d0.types).bind fun y28 => some (⟨(⟨y15.agents⟩ : DNet), y28⟩ : DTypedNet)))
set_option maxHeartbeats 2000000 in
theorem c_m_laws_toTypedNet (d0 : DTypedNet) (r : DTypedNet) (hm : m_laws_toTypedNet d0 = some r) (v0 : Value) (w : World) (hv0 : St typedNetRd w v0 d0) :
    Calls Try.prog 26 #[v0] w fun e w' => (∃ (v0 : Value) (bs0 : List Nat) (v1 : Value) (bs1 : List Nat), e = .returned (.agg #[v0, v1]) ∧ OwN 122 agentOw 5 w' w.heap.size v0 r.net.agents bs0 ∧ OwN 64 (slOw typeOw 3) 1 w' w.heap.size v1 r.types bs1 ∧ Ap bs0 bs1) ∧ Below w.heap.size w w' := by
  obtain ⟨csa0, rfl, ⟨A1, n1, c1, A2, n2, c2, rfl, ⟨h1, r1⟩, ⟨h2, r2⟩⟩⟩ := hv0
  have e1 := h1.len; subst e1
  have q1 := len_le r1
  have e2 := h2.len; subst e2
  have q2 := len_le r2
  have T := Below.refl w.heap.size w
  unfold m_laws_toTypedNet at hm
  refine enter 13 Try.func26 rfl rfl rfl ?_
  intro f hf
  have s0 : f 0 = .agg #[.slice A1 d0.net.agents.length c1, .slice A2 d0.types.length c2] := hf 0 _ rfl
  refine wp_seq ?_
  refine wp_rl rfl ?_
  refine RL.box rfl s0 (fun w3 B4 hb5 szw3 => ?_)
  replace B4 : Blk w3 w.heap.size 49 #[.slice A1 d0.net.agents.length c1, .slice A2 d0.types.length c2] := B4
  have GB4 : w.heap.size ≤ w.heap.size := T.size
  have T := Tt T hb5
  refine RL.alloc (z := .agg #[.slice none 0 0, .slice none 0 0]) rfl (by kernel_rfl) (fun w7 B8 hb9 szw7 => ?_)
  replace B8 : Blk w7 w3.heap.size 54 #[.slice none 0 0, .slice none 0 0] := B8
  have GB8 : w.heap.size ≤ w3.heap.size := T.size
  have Eob10_ob6 := Nat.ne_of_lt B4.lt
  have B4 := blkT B4 hb9
  have T := Tt T hb9
  refine RL.nil ?_
  refine then_n ?_
  refine wp_seq ?_
  refine wp_rl rfl ?_
  refine RL.alloc (z := .agg #[.slice none 0 0, .slice none 0 0]) rfl (by kernel_rfl) (fun w11 B12 hb13 szw11 => ?_)
  replace B12 : Blk w11 w7.heap.size 54 #[.slice none 0 0, .slice none 0 0] := B12
  have GB12 : w.heap.size ≤ w7.heap.size := T.size
  have Eob14_ob6 := Nat.ne_of_lt B4.lt
  have Eob14_ob10 := Nat.ne_of_lt B8.lt
  have B4 := blkT B4 hb13
  have B8 := blkT B8 hb13
  have T := Tt T hb13
  refine RL.nil ?_
  refine then_n ?_
  refine wp_seq ?_
  refine wp_rl rfl ?_
  refine RL.y rfl (Y.fieldAddr (off := 0) rfl (by kernel_rfl)) ?_
  refine RL.y rfl (Y.loadN (cs := [.slice A1 d0.net.agents.length c1]) rfl (by kernel_rfl) (cells1 (eqC (blkCell B4 (i := 0) rfl)))) ?_
  obtain ⟨y15, e16, hm⟩ := bnd hm
  refine RL.call rfl (am1 rfl) (by kernel_rfl) ((c_m_laws_toNet (⟨d0.net.agents⟩ : DNet) _ e16 _ _ (stArg (R := netRd) ⟨_, _, _, rfl, ⟨SlAt.now agentRd_ok h1 (Nat.le_refl _) T, r1⟩⟩)).mono ?_)
  rintro _ w21 ⟨⟨v17, bs20, rfl, G18⟩, hb22⟩
  refine ⟨_, rfl, ?_⟩
  have szw21 := hb22.size
  have T0w21 := T.size
  have Zo19_ob6 : Ap bs20 [w.heap.size] := (Ap.new (OwN.lo_ G18) (one_hi B4.lt))
  have Zo19_ob10 : Ap bs20 [w3.heap.size] := (Ap.new (OwN.lo_ G18) (one_hi B8.lt))
  have Zo19_ob14 : Ap bs20 [w7.heap.size] := (Ap.new (OwN.lo_ G18) (one_hi B12.lt))
  have B4 := blkT B4 hb22
  have B8 := blkT B8 hb22
  have B12 := blkT B12 hb22
  have T := Tt T hb22
  replace G18 := OwN.mono G18 T0w21
  refine RL.y rfl (Y.fieldAddr (off := 0) rfl (by kernel_rfl)) ?_
  obtain ⟨A23, c24, rfl⟩ := OwN.form G18
  have qbA23 := OwN.bound G18
  refine RL.store (v := .agg #[.slice A23 y15.agents.length c24]) (cs' := #[.slice A23 y15.agents.length c24, .slice none 0 0]) rfl rfl rfl B12 (by kernel_rfl) (by rfl) (by rfl) (by rfl) (fun w25 B26 ho27 => ?_)
  have szw25 := ho27.size
  have B4 := B4.only_ ho27 (by intro hin; simp at hin; exact Eob14_ob6 hin)
  have B8 := B8.only_ ho27 (by intro hin; simp at hin; exact Eob14_ob10 hin)
  have G18 := OwN.only agentOw_ok G18 ho27 (Ap.one Zo19_ob14)
  have T := T.trans (ho27.below (by first | (simp; done) | (simp; omega)))
  refine RL.nil ?_
  refine then_n ?_
  refine wp_seq ?_
  refine wp_rl rfl ?_
  refine RL.y rfl (Y.fieldAddr (off := 1) rfl (by kernel_rfl)) ?_
  refine RL.y rfl (Y.load (v := .slice A2 d0.types.length c2) rfl (by kernel_rfl) (eqC (blkCell B4 (i := 1) rfl))) ?_
  obtain ⟨y28, e29, hm⟩ := bnd hm
  refine RL.call rfl (am1 rfl) (by kernel_rfl) ((c_m_laws_toTypeSS d0.types _ e29 _ _ (slArg (slRd_ok typeRd_ok) h2 r2 T)).mono ?_)
  rintro _ w34 ⟨⟨v30, bs33, rfl, G31⟩, hb35⟩
  refine ⟨_, rfl, ?_⟩
  have szw34 := hb35.size
  have T0w34 := T.size
  have Zo32_ob6 : Ap bs33 [w.heap.size] := (Ap.new (OwN.lo_ G31) (one_hi B4.lt))
  have Zo32_ob10 : Ap bs33 [w3.heap.size] := (Ap.new (OwN.lo_ G31) (one_hi B8.lt))
  have Zo32_ob14 : Ap bs33 [w7.heap.size] := (Ap.new (OwN.lo_ G31) (one_hi B26.lt))
  have Zo32_o19 : Ap bs33 bs20 := (Ap.new (OwN.lo_ G31) (OwN.hi G18))
  have B4 := blkT B4 hb35
  have B8 := blkT B8 hb35
  have B26 := blkT B26 hb35
  have G18 := OwN.below agentOw_ok G18 hb35
  have T := Tt T hb35
  replace G31 := OwN.mono G31 T0w34
  refine RL.y rfl (Y.fieldAddr (off := 1) rfl (by kernel_rfl)) ?_
  obtain ⟨A36, c37, rfl⟩ := OwN.form G31
  have qbA36 := OwN.bound G31
  refine RL.store (v := .slice A36 y28.length c37) (cs' := #[.slice A23 y15.agents.length c24, .slice A36 y28.length c37]) rfl rfl rfl B26 (by kernel_rfl) (by rfl) (by rfl) (by rfl) (fun w38 B39 ho40 => ?_)
  have szw38 := ho40.size
  have B4 := B4.only_ ho40 (by intro hin; simp at hin; exact Eob14_ob6 hin)
  have B8 := B8.only_ ho40 (by intro hin; simp at hin; exact Eob14_ob10 hin)
  have G18 := OwN.only agentOw_ok G18 ho40 (Ap.one Zo19_ob14)
  have G31 := OwN.only (slOw_ok typeOw_ok) G31 ho40 (Ap.one Zo32_ob14)
  have T := T.trans (ho40.below (by first | (simp; done) | (simp; omega)))
  refine RL.nil ?_
  refine then_n ?_
  refine wp_seq ?_
  refine wp_rl rfl ?_
  refine RL.y rfl (Y.loadN (cs := [.slice A23 y15.agents.length c24, .slice A36 y28.length c37]) rfl (by kernel_rfl) (cells2 (eqC (blkCell B39 (i := 0) rfl)) (eqC (blkCell B39 (i := 1) rfl)))) ?_
  refine RL.store (v := .agg #[.slice A23 y15.agents.length c24, .slice A36 y28.length c37]) (cs' := #[.slice A23 y15.agents.length c24, .slice A36 y28.length c37]) rfl rfl rfl B8 (by kernel_rfl) (by rfl) (by rfl) (by rfl) (fun w41 B42 ho43 => ?_)
  have szw41 := ho43.size
  have B39 := B39.only_ ho43 (by intro hin; simp at hin; exact Eob14_ob10.symm hin)
  have G18 := OwN.only agentOw_ok G18 ho43 (Ap.one Zo19_ob10)
  have G31 := OwN.only (slOw_ok typeOw_ok) G31 ho43 (Ap.one Zo32_ob10)
  have T := T.trans (ho43.below (by first | (simp; done) | (simp; omega)))
  refine RL.nil ?_
  refine then_n ?_
  refine wp_ret ?_
  obtain rfl := Option.some.inj hm
  exact (retc (cs := [.slice A23 y15.agents.length c24, .slice A36 y28.length c37]) rfl rfl rfl (by kernel_rfl) (blkCells B42) ⟨⟨_, _, _, _, rfl, G18, G31, (Ap.symm Zo32_o19)⟩, T⟩)
noncomputable def m_laws_szTypeSS_A1 (i3 : Int) : Option Int :=
  some i3
noncomputable def m_laws_szTypeSS_B1 (d0 : List (List DType)) (rec1 : Int → Int → Option Int) (K1 : Int → Option Int) (i5 : Int) (i6 : Int) : Option Int :=
  (bif (decide (i6 < (d0.length : Int))) then ((getI d0 i6).bind fun x9 => ((m_laws_szTypeS (SizeOf.sizeOf x9) x9 i5).bind fun y19 => (bif (decide (y19 < 0)) then some (-1) else (rec1 y19 (i6 + 1))))) else (K1 i5))
noncomputable def m_laws_szTypeSS_L1 (d0 : List (List DType)) (K1 : Int → Option Int) : Nat → Int → Int → Option Int
  | 0, _, _ => none
  | g + 1, i5, i6 => m_laws_szTypeSS_B1 d0 (m_laws_szTypeSS_L1 d0 K1 g) K1 i5 i6
noncomputable def m_laws_szTypeSS (d0 : List (List DType)) (d1 : Int) : Option Int :=
  ((ck (d1 - (d0.length : Int))).bind fun s1 => (bif (decide (s1 < 0)) then some (-1) else (m_laws_szTypeSS_L1 d0 m_laws_szTypeSS_A1 (d0.length + 1) s1 0)))
set_option maxHeartbeats 2000000 in
theorem c_m_laws_szTypeSS (d0 : List (List DType)) (d1 : Int) (r : Int) (hm : m_laws_szTypeSS d0 d1 = some r) (v0 : Value) (w : World) (hv0 : Sl (slRd typeRd 3) 1 w v0 d0) :
    Calls Try.prog 51 #[v0, .int .i64 d1] w fun e w' => e = .returned (.int .i64 r) ∧ Below w.heap.size w w' := by
  obtain ⟨Aa0, na0, ca0, rfl, ha0, ra0⟩ := hv0
  have ea0 := ha0.len; subst ea0
  have qa0 := len_le ra0
  have T := Below.refl w.heap.size w
  unfold m_laws_szTypeSS at hm
  refine enter 27 Try.func51 rfl rfl rfl ?_
  intro f hf
  have s0 : f 0 = .slice Aa0 d0.length ca0 := hf 0 _ rfl
  have s1 : f 1 = .int .i64 d1 := hf 1 _ rfl
  refine wp_seq ?_
  refine wp_rs rfl ?_
  refine RQ.y rfl (Y.assign (v := .int .i64 0) rfl) ?_
  refine RQ.nil ?_
  refine then_n ?_
  refine wp_seq ?_
  refine wp_rs rfl ?_
  refine RQ.y rfl (Y.move (v := .int .i64 d1) s1) ?_
  refine RQ.y rfl (Y.move (v := .slice Aa0 d0.length ca0) s0) ?_
  refine RQ.y rfl (Y.len (by kernel_rfl) rfl) ?_
  obtain ⟨s1, ks1, hm⟩ := bnd hm
  replace ks1 := ck_some ks1
  refine RQ.y rfl (Y.binI (v := .int .i64 s1) rfl rfl (by rw [binI_sub ks1.2, ks1.1])) ?_
  refine RQ.y rfl (Y.assign (v := .int .i64 s1) rfl) ?_
  refine RQ.nil ?_
  refine then_n ?_
  refine wp_seq ?_
  refine wp_seq ?_
  refine wp_rs rfl ?_
  refine RQ.y rfl (Y.move (v := .int .i64 s1) rfl) ?_
  refine RQ.y rfl (Y.binI (v := .bool (decide (s1 < 0))) rfl rfl rfl) ?_
  refine RQ.nil ?_
  refine then_n ?_
  rcases bcases (decide (s1 < 0)) with c2 | c2
  · replace hm := cF c2 hm
    have pc2 := of_decide_eq_false c2
    refine cond_f rfl (vb rfl c2) ?_
    refine wp_skip ?_
    refine then_n ?_
    refine wp_seq ?_
    refine wp_seq ?_
    refine wp_rs rfl ?_
    refine RQ.y rfl (Y.assign (v := .int .i64 0) rfl) ?_
    refine RQ.nil ?_
    refine then_n ?_
    refine wp_block ?_
    obtain ⟨K1, hK1, hm⟩ : ∃ K, K = m_laws_szTypeSS_A1 ∧ m_laws_szTypeSS_L1 d0 K (d0.length + 1) s1 0 = some r := ⟨_, rfl, hm⟩
    refine wp_loopX (fun g f w' => ∃ (i5 : Int) (i6 : Int), f 0 = .slice Aa0 d0.length ca0 ∧ f 1 = .int .i64 i5 ∧ f 5 = .int .i64 i6 ∧ 0 ≤ i6 ∧ Below w.heap.size w w' ∧ m_laws_szTypeSS_L1 d0 K1 g i5 i6 = some r) 0 (fun f w' => ∃ (i3 : Int), f 1 = .int .i64 i3 ∧ Below w.heap.size w w' ∧ m_laws_szTypeSS_A1 i3 = some r) (d0.length + 1) ⟨s1, 0, s0, rfl, rfl, (by omega), T, hm⟩ ?_ ?_
    · rintro f w4 ⟨i3, s1_1x, T, hm⟩
      unfold m_laws_szTypeSS_A1 at hm
      refine blk_hit (then_n ?_)
      refine wp_seq ?_
      refine wp_rs rfl ?_
      refine RQ.y rfl (Y.move (v := .int .i64 i3) s1_1x) ?_
      refine RQ.y rfl (Y.assign (v := .int .i64 i3) rfl) ?_
      refine RQ.nil ?_
      refine then_n ?_
      refine wp_ret ?_
      obtain rfl := Option.some.inj hm
      exact (ret1 rfl rfl rfl ⟨rfl, T⟩)
    · rintro g f w7 ⟨i5, i6, s0_1, s1_1, s5_1, nn5_1, T, hm⟩
      rcases g with _ | g
      · simp only [m_laws_szTypeSS_L1] at hm; cases hm
      obtain ⟨rec1, hrec1, hm⟩ : ∃ z, z = m_laws_szTypeSS_L1 d0 K1 g ∧ m_laws_szTypeSS_B1 d0 z K1 i5 i6 = some r := ⟨_, rfl, hm⟩
      unfold m_laws_szTypeSS_B1 at hm
      refine wp_seq ?_
      refine wp_seq ?_
      refine wp_rs rfl ?_
      refine RQ.y rfl (Y.move (v := .int .i64 i6) s5_1) ?_
      refine RQ.y rfl (Y.move (v := .slice Aa0 d0.length ca0) s0_1) ?_
      refine RQ.y rfl (Y.len (by kernel_rfl) rfl) ?_
      refine RQ.y rfl (Y.binI (v := .bool (decide (i6 < (d0.length : Int)))) rfl rfl rfl) ?_
      refine RQ.nil ?_
      refine then_n ?_
      rcases bcases (decide (i6 < (d0.length : Int))) with c8 | c8
      · replace hm := cF c8 hm
        have pc8 := of_decide_eq_false c8
        refine cond_f rfl (vb rfl c8) ?_
        refine wp_exit ?_
        exact (then_x (then_x (hit_x ⟨_, rfl, ⟨i5, s1_1, T, (by rw [hK1] at hm; exact hm)⟩⟩)))
      · replace hm := cT c8 hm
        have pc8 := of_decide_eq_true c8
        refine cond_t rfl (vb rfl c8) ?_
        refine wp_skip ?_
        refine then_n ?_
        refine wp_seq ?_
        refine wp_block ?_
        refine wp_seq ?_
        refine wp_rb rfl ?_
        refine RQ.y rfl (Y.move (v := .slice Aa0 d0.length ca0) s0_1) ?_
        refine RQ.y rfl (Y.move (v := .int .i64 i6) s5_1) ?_
        obtain ⟨x9, hx12, hm⟩ := bnd hm
        obtain ⟨k10, hk13, hl14, hx12⟩ := getI_some hx12
        obtain ⟨b16, o17, rfl, hbb16⟩ := ha0.addr (by omega)
        obtain ⟨cs11, hRcs11, hc15⟩ := ha0.el hx12
        have hScs11 := hRcs11
        obtain ⟨A18, n18, c18, rfl, h18, r18⟩ := hRcs11
        have e18 := h18.len; subst e18
        have q18 := len_le r18
        refine RQ.y rfl (Y.indexAddr (m := k10) (sz := 1) rfl rfl hk13 hl14 (by kernel_rfl)) ?_
        refine RQ.y rfl (Y.load (v := .slice A18 x9.length c18) rfl (by kernel_rfl) (beC (cellT T (hc15 0 _ rfl)))) ?_
        refine RQ.y rfl (Y.move (v := .int .i64 i5) s1_1) ?_
        obtain ⟨y19, e20, hm⟩ := bnd hm
        refine RQ.call rfl (am2 rfl rfl) (by kernel_rfl) (v := .int .i64 y19) (bel (K := fun _ => True) fun w' hb' => (c_m_laws_szTypeS (SizeOf.sizeOf x9) x9 i5 _ e20 _ w' (slArg typeRd_ok h18 r18 (Tt T hb')))) ?_
        refine RQ.y rfl (Y.assign (v := .int .i64 y19) rfl) ?_
        refine RQ.nil ?_
        intro w21 hb22
        have szw21 := hb22.size
        have T := Tt T hb22
        refine then_n ?_
        refine wp_seq ?_
        refine wp_rs rfl ?_
        refine RQ.y rfl (Y.move (v := .int .i64 y19) rfl) ?_
        refine RQ.y rfl (Y.binI (v := .bool (decide (y19 < 0))) rfl rfl rfl) ?_
        refine RQ.nil ?_
        refine then_n ?_
        rcases bcases (decide (y19 < 0)) with c23 | c23
        · replace hm := cF c23 hm
          have pc23 := of_decide_eq_false c23
          refine cond_f rfl (vb rfl c23) ?_
          refine wp_skip ?_
          refine blk_n (then_n ?_)
          refine wp_rs rfl ?_
          refine RQ.y rfl (Y.move (v := .int .i64 i6) s5_1) ?_
          refine RQ.y rfl (Y.binI rfl rfl (binI_add (m := i6) (by omega))) ?_
          refine RQ.y rfl (Y.assign (v := .int .i64 (i6 + 1)) rfl) ?_
          refine RQ.nil ?_
          exact (then_n ⟨g, _, Nat.lt_succ_self _, rfl, ⟨y19, (i6 + 1), s0_1, rfl, rfl, (by omega), T, (by rw [← hrec1]; exact hm)⟩⟩)
        · replace hm := cT c23 hm
          have pc23 := of_decide_eq_true c23
          refine cond_t rfl (vb rfl c23) ?_
          refine wp_seq ?_
          refine wp_rs rfl ?_
          refine RQ.y rfl (Y.assign (v := .int .i64 (-1)) rfl) ?_
          refine RQ.nil ?_
          refine then_n ?_
          refine wp_ret ?_
          obtain rfl := Option.some.inj hm
          exact (blk_r (then_r (then_r (hit_r (blk_r (then_r (ret1 rfl rfl rfl ⟨rfl, T⟩)))))))
  · replace hm := cT c2 hm
    have pc2 := of_decide_eq_true c2
    refine cond_t rfl (vb rfl c2) ?_
    refine wp_seq ?_
    refine wp_rs rfl ?_
    refine RQ.y rfl (Y.assign (v := .int .i64 (-1)) rfl) ?_
    refine RQ.nil ?_
    refine then_n ?_
    refine wp_ret ?_
    obtain rfl := Option.some.inj hm
    exact (then_r (ret1 rfl rfl rfl ⟨rfl, T⟩))
noncomputable def m_laws_szTypedNet (d0 : DTypedNet) (d1 : Int) : Option Int :=
  ((szNetM (⟨d0.net.agents⟩ : DNet) d1).bind fun y7 => (bif (decide (y7 < 0)) then some (-1) else ((m_laws_szTypeSS d0.types y7).bind fun y12 => (bif (decide (y12 < 0)) then some (-1) else some y12))))
set_option maxHeartbeats 2000000 in
theorem c_m_laws_szTypedNet (d0 : DTypedNet) (d1 : Int) (r : Int) (hm : m_laws_szTypedNet d0 d1 = some r) (v0 : Value) (w : World) (hv0 : St typedNetRd w v0 d0) :
    Calls Try.prog 24 #[v0, .int .i64 d1] w fun e w' => e = .returned (.int .i64 r) ∧ Below w.heap.size w w' := by
  obtain ⟨csa0, rfl, ⟨A1, n1, c1, A2, n2, c2, rfl, ⟨h1, r1⟩, ⟨h2, r2⟩⟩⟩ := hv0
  have e1 := h1.len; subst e1
  have q1 := len_le r1
  have e2 := h2.len; subst e2
  have q2 := len_le r2
  have T := Below.refl w.heap.size w
  unfold m_laws_szTypedNet at hm
  refine enter 18 Try.func24 rfl rfl rfl ?_
  intro f hf
  have s0 : f 0 = .agg #[.slice A1 d0.net.agents.length c1, .slice A2 d0.types.length c2] := hf 0 _ rfl
  have s1 : f 1 = .int .i64 d1 := hf 1 _ rfl
  refine wp_seq ?_
  refine wp_rl rfl ?_
  refine RL.box rfl s0 (fun w3 B4 hb5 szw3 => ?_)
  replace B4 : Blk w3 w.heap.size 49 #[.slice A1 d0.net.agents.length c1, .slice A2 d0.types.length c2] := B4
  have GB4 : w.heap.size ≤ w.heap.size := T.size
  have T := Tt T hb5
  refine RL.y rfl (Y.assign (v := .int .i64 0) rfl) ?_
  refine RL.nil ?_
  refine then_n ?_
  refine wp_seq ?_
  refine wp_rb rfl ?_
  refine RQ.y rfl (Y.fieldAddr (off := 0) rfl (by kernel_rfl)) ?_
  refine RQ.y rfl (Y.loadN (cs := [.slice A1 d0.net.agents.length c1]) rfl (by kernel_rfl) (cells1 (beC (blkCell B4 (i := 0) rfl)))) ?_
  refine RQ.y rfl (Y.move (v := .int .i64 d1) s1) ?_
  obtain ⟨y7, e8, hm⟩ := bnd hm
  refine RQ.call rfl (am2 rfl rfl) (by kernel_rfl) (v := .int .i64 y7) (bel (K := fun _ => True) fun w' hb' => (c_szNetM (⟨d0.net.agents⟩ : DNet) d1 _ e8 _ w' (stArg (R := netRd) ⟨_, _, _, rfl, ⟨SlAt.now agentRd_ok h1 (Nat.le_refl _) (Tt T hb'), r1⟩⟩))) ?_
  refine RQ.y rfl (Y.assign (v := .int .i64 y7) rfl) ?_
  refine RQ.nil ?_
  intro w9 hb10
  have szw9 := hb10.size
  have B4 := blkT B4 hb10
  have T := Tt T hb10
  refine then_n ?_
  refine wp_seq ?_
  refine wp_seq ?_
  refine wp_rs rfl ?_
  refine RQ.y rfl (Y.move (v := .int .i64 y7) rfl) ?_
  refine RQ.y rfl (Y.binI (v := .bool (decide (y7 < 0))) rfl rfl rfl) ?_
  refine RQ.nil ?_
  refine then_n ?_
  rcases bcases (decide (y7 < 0)) with c11 | c11
  · replace hm := cF c11 hm
    have pc11 := of_decide_eq_false c11
    refine cond_f rfl (vb rfl c11) ?_
    refine wp_skip ?_
    refine then_n ?_
    refine wp_seq ?_
    refine wp_rb rfl ?_
    refine RQ.y rfl (Y.fieldAddr (off := 1) rfl (by kernel_rfl)) ?_
    refine RQ.y rfl (Y.load (v := .slice A2 d0.types.length c2) rfl (by kernel_rfl) (beC (blkCell B4 (i := 1) rfl))) ?_
    refine RQ.y rfl (Y.move (v := .int .i64 y7) rfl) ?_
    obtain ⟨y12, e13, hm⟩ := bnd hm
    refine RQ.call rfl (am2 rfl rfl) (by kernel_rfl) (v := .int .i64 y12) (bel (K := fun _ => True) fun w' hb' => (c_m_laws_szTypeSS d0.types y7 _ e13 _ w' (slArg (slRd_ok typeRd_ok) h2 r2 (Tt T hb')))) ?_
    refine RQ.y rfl (Y.assign (v := .int .i64 y12) rfl) ?_
    refine RQ.nil ?_
    intro w14 hb15
    have szw14 := hb15.size
    have T := Tt T hb15
    refine then_n ?_
    refine wp_seq ?_
    refine wp_seq ?_
    refine wp_rs rfl ?_
    refine RQ.y rfl (Y.move (v := .int .i64 y12) rfl) ?_
    refine RQ.y rfl (Y.binI (v := .bool (decide (y12 < 0))) rfl rfl rfl) ?_
    refine RQ.nil ?_
    refine then_n ?_
    rcases bcases (decide (y12 < 0)) with c16 | c16
    · replace hm := cF c16 hm
      have pc16 := of_decide_eq_false c16
      refine cond_f rfl (vb rfl c16) ?_
      refine wp_skip ?_
      refine then_n ?_
      refine wp_seq ?_
      refine wp_rs rfl ?_
      refine RQ.y rfl (Y.move (v := .int .i64 y12) rfl) ?_
      refine RQ.y rfl (Y.assign (v := .int .i64 y12) rfl) ?_
      refine RQ.nil ?_
      refine then_n ?_
      refine wp_ret ?_
      obtain rfl := Option.some.inj hm
      exact (ret1 rfl rfl rfl ⟨rfl, T⟩)
    · replace hm := cT c16 hm
      have pc16 := of_decide_eq_true c16
      refine cond_t rfl (vb rfl c16) ?_
      refine wp_seq ?_
      refine wp_rs rfl ?_
      refine RQ.y rfl (Y.assign (v := .int .i64 (-1)) rfl) ?_
      refine RQ.nil ?_
      refine then_n ?_
      refine wp_ret ?_
      obtain rfl := Option.some.inj hm
      exact (then_r (ret1 rfl rfl rfl ⟨rfl, T⟩))
  · replace hm := cT c11 hm
    have pc11 := of_decide_eq_true c11
    refine cond_t rfl (vb rfl c11) ?_
    refine wp_seq ?_
    refine wp_rs rfl ?_
    refine RQ.y rfl (Y.assign (v := .int .i64 (-1)) rfl) ?_
    refine RQ.nil ?_
    refine then_n ?_
    refine wp_ret ?_
    obtain rfl := Option.some.inj hm
    exact (then_r (ret1 rfl rfl rfl ⟨rfl, T⟩))
noncomputable def m_laws_eqTypeSS_A1 : Option Bool :=
  some true
noncomputable def m_laws_eqTypeSS_B1 (d0 : List (List DType)) (d1 : List (List DType)) (rec1 : Int → Option Bool) (K1 : Option Bool) (i3 : Int) : Option Bool :=
  (bif (decide (i3 < (d0.length : Int))) then ((getI d0 i3).bind fun x6 => ((getI d1 i3).bind fun x16 => ((m_laws_eqTypeS (SizeOf.sizeOf x6) x6 x16).bind fun y26 => (bif y26 then (rec1 (i3 + 1)) else some false)))) else (K1))
noncomputable def m_laws_eqTypeSS_L1 (d0 : List (List DType)) (d1 : List (List DType)) (K1 : Option Bool) : Nat → Int → Option Bool
  | 0, _ => none
  | g + 1, i3 => m_laws_eqTypeSS_B1 d0 d1 (m_laws_eqTypeSS_L1 d0 d1 K1 g) K1 i3
noncomputable def m_laws_eqTypeSS (d0 : List (List DType)) (d1 : List (List DType)) : Option Bool :=
  (bif ((d0.length : Int) != (d1.length : Int)) then some false else (m_laws_eqTypeSS_L1 d0 d1 m_laws_eqTypeSS_A1 (d0.length + 1) 0))
set_option maxHeartbeats 2000000 in
theorem c_m_laws_eqTypeSS (d0 : List (List DType)) (d1 : List (List DType)) (r : Bool) (hm : m_laws_eqTypeSS d0 d1 = some r) (v0 : Value) (v1 : Value) (w : World) (hv0 : Sl (slRd typeRd 3) 1 w v0 d0) (hv1 : Sl (slRd typeRd 3) 1 w v1 d1) :
    Calls Try.prog 58 #[v0, v1] w fun e w' => e = .returned (.bool r) ∧ Below w.heap.size w w' := by
  obtain ⟨Aa0, na0, ca0, rfl, ha0, ra0⟩ := hv0
  have ea0 := ha0.len; subst ea0
  have qa0 := len_le ra0
  obtain ⟨Aa1, na1, ca1, rfl, ha1, ra1⟩ := hv1
  have ea1 := ha1.len; subst ea1
  have qa1 := len_le ra1
  have T := Below.refl w.heap.size w
  unfold m_laws_eqTypeSS at hm
  refine enter 27 Try.func58 rfl rfl rfl ?_
  intro f hf
  have s0 : f 0 = .slice Aa0 d0.length ca0 := hf 0 _ rfl
  have s1 : f 1 = .slice Aa1 d1.length ca1 := hf 1 _ rfl
  refine wp_seq ?_
  refine wp_rs rfl ?_
  refine RQ.y rfl (Y.assign (v := .bool false) rfl) ?_
  refine RQ.nil ?_
  refine then_n ?_
  refine wp_seq ?_
  refine wp_seq ?_
  refine wp_rs rfl ?_
  refine RQ.y rfl (Y.move (v := .slice Aa0 d0.length ca0) s0) ?_
  refine RQ.y rfl (Y.len (by kernel_rfl) rfl) ?_
  refine RQ.y rfl (Y.move (v := .slice Aa1 d1.length ca1) s1) ?_
  refine RQ.y rfl (Y.len (by kernel_rfl) rfl) ?_
  refine RQ.y rfl (Y.binI (v := .bool ((d0.length : Int) != (d1.length : Int))) rfl rfl rfl) ?_
  refine RQ.nil ?_
  refine then_n ?_
  rcases bcases ((d0.length : Int) != (d1.length : Int)) with c1 | c1
  · replace hm := cF c1 hm
    refine cond_f rfl (vb rfl c1) ?_
    refine wp_skip ?_
    refine then_n ?_
    refine wp_seq ?_
    refine wp_seq ?_
    refine wp_rs rfl ?_
    refine RQ.y rfl (Y.assign (v := .int .i64 0) rfl) ?_
    refine RQ.nil ?_
    refine then_n ?_
    refine wp_block ?_
    obtain ⟨K1, hK1, hm⟩ : ∃ K, K = m_laws_eqTypeSS_A1 ∧ m_laws_eqTypeSS_L1 d0 d1 K (d0.length + 1) 0 = some r := ⟨_, rfl, hm⟩
    refine wp_loopX (fun g f w' => ∃ (i3 : Int), f 0 = .slice Aa0 d0.length ca0 ∧ f 1 = .slice Aa1 d1.length ca1 ∧ f 5 = .int .i64 i3 ∧ 0 ≤ i3 ∧ Below w.heap.size w w' ∧ m_laws_eqTypeSS_L1 d0 d1 K1 g i3 = some r) 0 (fun f w' => Below w.heap.size w w' ∧ m_laws_eqTypeSS_A1  = some r) (d0.length + 1) ⟨0, s0, s1, rfl, (by omega), T, hm⟩ ?_ ?_
    · rintro f w2 ⟨T, hm⟩
      unfold m_laws_eqTypeSS_A1 at hm
      refine blk_hit (then_n ?_)
      refine wp_seq ?_
      refine wp_rs rfl ?_
      refine RQ.y rfl (Y.assign (v := .bool true) rfl) ?_
      refine RQ.nil ?_
      refine then_n ?_
      refine wp_ret ?_
      obtain rfl := Option.some.inj hm
      exact (ret1 rfl rfl rfl ⟨rfl, T⟩)
    · rintro g f w4 ⟨i3, s0_1, s1_1, s5_1, nn5_1, T, hm⟩
      rcases g with _ | g
      · simp only [m_laws_eqTypeSS_L1] at hm; cases hm
      obtain ⟨rec1, hrec1, hm⟩ : ∃ z, z = m_laws_eqTypeSS_L1 d0 d1 K1 g ∧ m_laws_eqTypeSS_B1 d0 d1 z K1 i3 = some r := ⟨_, rfl, hm⟩
      unfold m_laws_eqTypeSS_B1 at hm
      refine wp_seq ?_
      refine wp_seq ?_
      refine wp_rs rfl ?_
      refine RQ.y rfl (Y.move (v := .int .i64 i3) s5_1) ?_
      refine RQ.y rfl (Y.move (v := .slice Aa0 d0.length ca0) s0_1) ?_
      refine RQ.y rfl (Y.len (by kernel_rfl) rfl) ?_
      refine RQ.y rfl (Y.binI (v := .bool (decide (i3 < (d0.length : Int)))) rfl rfl rfl) ?_
      refine RQ.nil ?_
      refine then_n ?_
      rcases bcases (decide (i3 < (d0.length : Int))) with c5 | c5
      · replace hm := cF c5 hm
        have pc5 := of_decide_eq_false c5
        refine cond_f rfl (vb rfl c5) ?_
        refine wp_exit ?_
        exact (then_x (then_x (hit_x ⟨_, rfl, ⟨T, (by rw [hK1] at hm; exact hm)⟩⟩)))
      · replace hm := cT c5 hm
        have pc5 := of_decide_eq_true c5
        refine cond_t rfl (vb rfl c5) ?_
        refine wp_skip ?_
        refine then_n ?_
        refine wp_seq ?_
        refine wp_block ?_
        refine wp_seq ?_
        refine wp_rbd (by kernel_rfl) (by kernel_rfl) ?_
        refine RQ.y rfl (Y.move (v := .slice Aa0 d0.length ca0) s0_1) ?_
        refine RQ.y rfl (Y.move (v := .int .i64 i3) s5_1) ?_
        obtain ⟨x6, hx9, hm⟩ := bnd hm
        obtain ⟨k7, hk10, hl11, hx9⟩ := getI_some hx9
        obtain ⟨b13, o14, rfl, hbb13⟩ := ha0.addr (by omega)
        obtain ⟨cs8, hRcs8, hc12⟩ := ha0.el hx9
        have hScs8 := hRcs8
        obtain ⟨A15, n15, c15, rfl, h15, r15⟩ := hRcs8
        have e15 := h15.len; subst e15
        have q15 := len_le r15
        refine RQ.y rfl (Y.indexAddr (m := k7) (sz := 1) rfl rfl hk10 hl11 (by kernel_rfl)) ?_
        refine RQ.y rfl (Y.load (v := .slice A15 x6.length c15) rfl (by kernel_rfl) (beC (cellT T (hc12 0 _ rfl)))) ?_
        refine RQ.y rfl (Y.move (v := .slice Aa1 d1.length ca1) s1_1) ?_
        refine RQ.y rfl (Y.move (v := .int .i64 i3) s5_1) ?_
        obtain ⟨x16, hx19, hm⟩ := bnd hm
        obtain ⟨k17, hk20, hl21, hx19⟩ := getI_some hx19
        obtain ⟨b23, o24, rfl, hbb23⟩ := ha1.addr (by omega)
        obtain ⟨cs18, hRcs18, hc22⟩ := ha1.el hx19
        have hScs18 := hRcs18
        obtain ⟨A25, n25, c25, rfl, h25, r25⟩ := hRcs18
        have e25 := h25.len; subst e25
        have q25 := len_le r25
        refine RQ.y rfl (Y.indexAddr (m := k17) (sz := 1) rfl rfl hk20 hl21 (by kernel_rfl)) ?_
        refine RQ.y rfl (Y.load (v := .slice A25 x16.length c25) rfl (by kernel_rfl) (beC (cellT T (hc22 0 _ rfl)))) ?_
        obtain ⟨y26, e27, hm⟩ := bnd hm
        refine RQ.call rfl (am2 rfl rfl) (by kernel_rfl) (v := .bool y26) (bel (K := fun _ => True) fun w' hb' => (c_m_laws_eqTypeS (SizeOf.sizeOf x6) x6 x16 _ e27 _ _ w' (slArg typeRd_ok h15 r15 (Tt T hb')) (slArg typeRd_ok h25 r25 (Tt T hb')))) ?_
        refine RQ.y rfl (Y.not (b' := (!y26)) rfl rfl) ?_
        refine RQ.nil ?_
        intro w28 hb29
        have szw28 := hb29.size
        have T := Tt T hb29
        refine then_n ?_
        rcases bcases y26 with c30 | c30
        · replace hm := cF c30 hm
          refine cond_t rfl (vbn rfl c30 rfl) ?_
          refine wp_seq ?_
          refine wp_rs rfl ?_
          refine RQ.y rfl (Y.assign (v := .bool false) rfl) ?_
          refine RQ.nil ?_
          refine then_n ?_
          refine wp_ret ?_
          obtain rfl := Option.some.inj hm
          exact (blk_r (then_r (then_r (hit_r (blk_r (then_r (ret1 rfl rfl rfl ⟨rfl, T⟩)))))))
        · replace hm := cT c30 hm
          refine cond_f rfl (vbn rfl c30 rfl) ?_
          refine wp_skip ?_
          refine blk_n (then_n ?_)
          refine wp_rs rfl ?_
          refine RQ.y rfl (Y.move (v := .int .i64 i3) s5_1) ?_
          refine RQ.y rfl (Y.binI rfl rfl (binI_add (m := i3) (by omega))) ?_
          refine RQ.y rfl (Y.assign (v := .int .i64 (i3 + 1)) rfl) ?_
          refine RQ.nil ?_
          exact (then_n ⟨g, _, Nat.lt_succ_self _, rfl, ⟨(i3 + 1), s0_1, s1_1, rfl, (by omega), T, (by rw [← hrec1]; exact hm)⟩⟩)
  · replace hm := cT c1 hm
    refine cond_t rfl (vb rfl c1) ?_
    refine wp_seq ?_
    refine wp_rs rfl ?_
    refine RQ.y rfl (Y.assign (v := .bool false) rfl) ?_
    refine RQ.nil ?_
    refine then_n ?_
    refine wp_ret ?_
    obtain rfl := Option.some.inj hm
    exact (then_r (ret1 rfl rfl rfl ⟨rfl, T⟩))
noncomputable def m_laws_eqTypedNet (d0 : DTypedNet) (d1 : DTypedNet) : Option Bool :=
  ((eqNetM (⟨d0.net.agents⟩ : DNet) (⟨d1.net.agents⟩ : DNet)).bind fun y13 => (bif y13 then ((m_laws_eqTypeSS d0.types d1.types).bind fun y18 => (bif y18 then some true else some false)) else some false))
set_option maxHeartbeats 2000000 in
theorem c_m_laws_eqTypedNet (d0 : DTypedNet) (d1 : DTypedNet) (r : Bool) (hm : m_laws_eqTypedNet d0 d1 = some r) (v0 : Value) (v1 : Value) (w : World) (hv0 : St typedNetRd w v0 d0) (hv1 : St typedNetRd w v1 d1) :
    Calls Try.prog 28 #[v0, v1] w fun e w' => e = .returned (.bool r) ∧ Below w.heap.size w w' := by
  obtain ⟨csa0, rfl, ⟨A1, n1, c1, A2, n2, c2, rfl, ⟨h1, r1⟩, ⟨h2, r2⟩⟩⟩ := hv0
  have e1 := h1.len; subst e1
  have q1 := len_le r1
  have e2 := h2.len; subst e2
  have q2 := len_le r2
  obtain ⟨csa1, rfl, ⟨A3, n3, c3, A4, n4, c4, rfl, ⟨h3, r3⟩, ⟨h4, r4⟩⟩⟩ := hv1
  have e3 := h3.len; subst e3
  have q3 := len_le r3
  have e4 := h4.len; subst e4
  have q4 := len_le r4
  have T := Below.refl w.heap.size w
  unfold m_laws_eqTypedNet at hm
  refine enter 17 Try.func28 rfl rfl rfl ?_
  intro f hf
  have s0 : f 0 = .agg #[.slice A1 d0.net.agents.length c1, .slice A2 d0.types.length c2] := hf 0 _ rfl
  have s1 : f 1 = .agg #[.slice A3 d1.net.agents.length c3, .slice A4 d1.types.length c4] := hf 1 _ rfl
  refine wp_seq ?_
  refine wp_rl rfl ?_
  refine RL.box rfl s0 (fun w5 B6 hb7 szw5 => ?_)
  replace B6 : Blk w5 w.heap.size 54 #[.slice A1 d0.net.agents.length c1, .slice A2 d0.types.length c2] := B6
  have GB6 : w.heap.size ≤ w.heap.size := T.size
  have T := Tt T hb7
  refine RL.box rfl s1 (fun w9 B10 hb11 szw9 => ?_)
  replace B10 : Blk w9 w5.heap.size 54 #[.slice A3 d1.net.agents.length c3, .slice A4 d1.types.length c4] := B10
  have GB10 : w.heap.size ≤ w5.heap.size := T.size
  have Eob12_ob8 := Nat.ne_of_lt B6.lt
  have B6 := blkT B6 hb11
  have T := Tt T hb11
  refine RL.y rfl (Y.assign (v := .bool false) rfl) ?_
  refine RL.nil ?_
  refine then_n ?_
  refine wp_seq ?_
  refine wp_seq ?_
  refine wp_rb rfl ?_
  refine RQ.y rfl (Y.fieldAddr (off := 0) rfl (by kernel_rfl)) ?_
  refine RQ.y rfl (Y.loadN (cs := [.slice A1 d0.net.agents.length c1]) rfl (by kernel_rfl) (cells1 (beC (blkCell B6 (i := 0) rfl)))) ?_
  refine RQ.y rfl (Y.fieldAddr (off := 0) rfl (by kernel_rfl)) ?_
  refine RQ.y rfl (Y.loadN (cs := [.slice A3 d1.net.agents.length c3]) rfl (by kernel_rfl) (cells1 (beC (blkCell B10 (i := 0) rfl)))) ?_
  obtain ⟨y13, e14, hm⟩ := bnd hm
  refine RQ.call rfl (am2 rfl rfl) (by kernel_rfl) (v := .bool y13) (bel (K := fun _ => True) fun w' hb' => (c_eqNetM (⟨d0.net.agents⟩ : DNet) (⟨d1.net.agents⟩ : DNet) _ e14 _ _ w' (stArg (R := netRd) ⟨_, _, _, rfl, ⟨SlAt.now agentRd_ok h1 (Nat.le_refl _) (Tt T hb'), r1⟩⟩) (stArg (R := netRd) ⟨_, _, _, rfl, ⟨SlAt.now agentRd_ok h3 (Nat.le_refl _) (Tt T hb'), r3⟩⟩))) ?_
  refine RQ.y rfl (Y.not (b' := (!y13)) rfl rfl) ?_
  refine RQ.nil ?_
  intro w15 hb16
  have szw15 := hb16.size
  have B6 := blkT B6 hb16
  have B10 := blkT B10 hb16
  have T := Tt T hb16
  refine then_n ?_
  rcases bcases y13 with c17 | c17
  · replace hm := cF c17 hm
    refine cond_t rfl (vbn rfl c17 rfl) ?_
    refine wp_seq ?_
    refine wp_rs rfl ?_
    refine RQ.y rfl (Y.assign (v := .bool false) rfl) ?_
    refine RQ.nil ?_
    refine then_n ?_
    refine wp_ret ?_
    obtain rfl := Option.some.inj hm
    exact (then_r (ret1 rfl rfl rfl ⟨rfl, T⟩))
  · replace hm := cT c17 hm
    refine cond_f rfl (vbn rfl c17 rfl) ?_
    refine wp_skip ?_
    refine then_n ?_
    refine wp_seq ?_
    refine wp_seq ?_
    refine wp_rb rfl ?_
    refine RQ.y rfl (Y.fieldAddr (off := 1) rfl (by kernel_rfl)) ?_
    refine RQ.y rfl (Y.load (v := .slice A2 d0.types.length c2) rfl (by kernel_rfl) (beC (blkCell B6 (i := 1) rfl))) ?_
    refine RQ.y rfl (Y.fieldAddr (off := 1) rfl (by kernel_rfl)) ?_
    refine RQ.y rfl (Y.load (v := .slice A4 d1.types.length c4) rfl (by kernel_rfl) (beC (blkCell B10 (i := 1) rfl))) ?_
    obtain ⟨y18, e19, hm⟩ := bnd hm
    refine RQ.call rfl (am2 rfl rfl) (by kernel_rfl) (v := .bool y18) (bel (K := fun _ => True) fun w' hb' => (c_m_laws_eqTypeSS d0.types d1.types _ e19 _ _ w' (slArg (slRd_ok typeRd_ok) h2 r2 (Tt T hb')) (slArg (slRd_ok typeRd_ok) h4 r4 (Tt T hb')))) ?_
    refine RQ.y rfl (Y.not (b' := (!y18)) rfl rfl) ?_
    refine RQ.nil ?_
    intro w20 hb21
    have szw20 := hb21.size
    have T := Tt T hb21
    refine then_n ?_
    rcases bcases y18 with c22 | c22
    · replace hm := cF c22 hm
      refine cond_t rfl (vbn rfl c22 rfl) ?_
      refine wp_seq ?_
      refine wp_rs rfl ?_
      refine RQ.y rfl (Y.assign (v := .bool false) rfl) ?_
      refine RQ.nil ?_
      refine then_n ?_
      refine wp_ret ?_
      obtain rfl := Option.some.inj hm
      exact (then_r (ret1 rfl rfl rfl ⟨rfl, T⟩))
    · replace hm := cT c22 hm
      refine cond_f rfl (vbn rfl c22 rfl) ?_
      refine wp_skip ?_
      refine then_n ?_
      refine wp_seq ?_
      refine wp_rs rfl ?_
      refine RQ.y rfl (Y.assign (v := .bool true) rfl) ?_
      refine RQ.nil ?_
      refine then_n ?_
      refine wp_ret ?_
      obtain rfl := Option.some.inj hm
      exact (ret1 rfl rfl rfl ⟨rfl, T⟩)
noncomputable def m_spec_SameTyped_A1 : Option Bool :=
  some true
noncomputable def m_spec_SameTyped_B1 (d0 : DTypedNet) (d1 : DTypedNet) (rec1 : Int → Option Bool) (K1 : Option Bool) (i22 : Int) : Option Bool :=
  (bif (decide (i22 < (d0.types.length : Int))) then ((getI d0.types i22).bind fun x25 => ((getI d1.types i22).bind fun x35 => ((m_spec_l03SameTypes x25 x35).bind fun y45 => (bif y45 then (rec1 (i22 + 1)) else some false)))) else (K1))
noncomputable def m_spec_SameTyped_L1 (d0 : DTypedNet) (d1 : DTypedNet) (K1 : Option Bool) : Nat → Int → Option Bool
  | 0, _ => none
  | g + 1, i22 => m_spec_SameTyped_B1 d0 d1 (m_spec_SameTyped_L1 d0 d1 K1 g) K1 i22
noncomputable def m_spec_SameTyped (d0 : DTypedNet) (d1 : DTypedNet) : Option Bool :=
  ((m_spec_l11Same (⟨d0.net.agents⟩ : DNet) (⟨d1.net.agents⟩ : DNet)).bind fun y13 => (bif y13 then (bif ((d0.types.length : Int) != (d1.types.length : Int)) then some false else (m_spec_SameTyped_L1 d0 d1 m_spec_SameTyped_A1 (d0.types.length + 1) 0)) else some false))
set_option maxHeartbeats 2000000 in
theorem c_m_spec_SameTyped (d0 : DTypedNet) (d1 : DTypedNet) (r : Bool) (hm : m_spec_SameTyped d0 d1 = some r) (v0 : Value) (v1 : Value) (w : World) (hv0 : St typedNetRd w v0 d0) (hv1 : St typedNetRd w v1 d1) :
    Calls Try.prog 25 #[v0, v1] w fun e w' => e = .returned (.bool r) ∧ Below w.heap.size w w' := by
  obtain ⟨csa0, rfl, ⟨A1, n1, c1, A2, n2, c2, rfl, ⟨h1, r1⟩, ⟨h2, r2⟩⟩⟩ := hv0
  have e1 := h1.len; subst e1
  have q1 := len_le r1
  have e2 := h2.len; subst e2
  have q2 := len_le r2
  obtain ⟨csa1, rfl, ⟨A3, n3, c3, A4, n4, c4, rfl, ⟨h3, r3⟩, ⟨h4, r4⟩⟩⟩ := hv1
  have e3 := h3.len; subst e3
  have q3 := len_le r3
  have e4 := h4.len; subst e4
  have q4 := len_le r4
  have T := Below.refl w.heap.size w
  unfold m_spec_SameTyped at hm
  refine enter 38 Try.func25 rfl rfl rfl ?_
  intro f hf
  have s0 : f 0 = .agg #[.slice A1 d0.net.agents.length c1, .slice A2 d0.types.length c2] := hf 0 _ rfl
  have s1 : f 1 = .agg #[.slice A3 d1.net.agents.length c3, .slice A4 d1.types.length c4] := hf 1 _ rfl
  refine wp_seq ?_
  refine wp_rl rfl ?_
  refine RL.box rfl s0 (fun w5 B6 hb7 szw5 => ?_)
  replace B6 : Blk w5 w.heap.size 54 #[.slice A1 d0.net.agents.length c1, .slice A2 d0.types.length c2] := B6
  have GB6 : w.heap.size ≤ w.heap.size := T.size
  have T := Tt T hb7
  refine RL.box rfl s1 (fun w9 B10 hb11 szw9 => ?_)
  replace B10 : Blk w9 w5.heap.size 54 #[.slice A3 d1.net.agents.length c3, .slice A4 d1.types.length c4] := B10
  have GB10 : w.heap.size ≤ w5.heap.size := T.size
  have Eob12_ob8 := Nat.ne_of_lt B6.lt
  have B6 := blkT B6 hb11
  have T := Tt T hb11
  refine RL.y rfl (Y.assign (v := .bool false) rfl) ?_
  refine RL.nil ?_
  refine then_n ?_
  refine wp_seq ?_
  refine wp_seq ?_
  refine wp_rb rfl ?_
  refine RQ.y rfl (Y.fieldAddr (off := 0) rfl (by kernel_rfl)) ?_
  refine RQ.y rfl (Y.fieldAddr (off := 0) rfl (by kernel_rfl)) ?_
  obtain ⟨y13, e14, hm⟩ := bnd hm
  refine RQ.call rfl (am2 rfl rfl) (by kernel_rfl) (v := .bool y13) (bel (K := fun _ => True) fun w' hb' => (c_m_spec_l11Same (⟨d0.net.agents⟩ : DNet) (⟨d1.net.agents⟩ : DNet) _ e14 _ _ w' (ptBoxS (R := netRd) (pre := []) (cs := [.slice A1 d0.net.agents.length c1]) (post := [.slice A2 d0.types.length c2]) (blkT B6 hb') ⟨_, _, _, rfl, ⟨SlAt.now agentRd_ok h1 (Nat.le_refl _) (Tt T hb'), r1⟩⟩ rfl) (ptBoxS (R := netRd) (pre := []) (cs := [.slice A3 d1.net.agents.length c3]) (post := [.slice A4 d1.types.length c4]) (blkT B10 hb') ⟨_, _, _, rfl, ⟨SlAt.now agentRd_ok h3 (Nat.le_refl _) (Tt T hb'), r3⟩⟩ rfl))) ?_
  refine RQ.y rfl (Y.not (b' := (!y13)) rfl rfl) ?_
  refine RQ.y rfl (Y.move (v := .bool (!y13)) rfl) ?_
  rcases bcases y13 with c15 | c15
  · replace hm := cF c15 hm
    refine RQ.skip (wantN (dj := 10) rfl (vbn rfl c15 rfl) rfl) ?_
    refine RQ.skip (wantN (dj := 10) rfl (vbn rfl c15 rfl) rfl) ?_
    refine RQ.skip (wantN (dj := 10) rfl (vbn rfl c15 rfl) rfl) ?_
    refine RQ.skip (wantN (dj := 10) rfl (vbn rfl c15 rfl) rfl) ?_
    refine RQ.skip (wantN (dj := 10) rfl (vbn rfl c15 rfl) rfl) ?_
    refine RQ.skip (wantN (dj := 10) rfl (vbn rfl c15 rfl) rfl) ?_
    refine RQ.skip (wantN (dj := 10) rfl (vbn rfl c15 rfl) rfl) ?_
    refine RQ.y rfl (Y.pick (b := true) (v := .bool true) (vbn rfl c15 rfl) rfl) ?_
    refine RQ.nil ?_
    intro w16 hb17
    have szw16 := hb17.size
    have B6 := blkT B6 hb17
    have B10 := blkT B10 hb17
    have T := Tt T hb17
    refine then_n ?_
    refine cond_t rfl rfl ?_
    refine wp_seq ?_
    refine wp_rs rfl ?_
    refine RQ.y rfl (Y.assign (v := .bool false) rfl) ?_
    refine RQ.nil ?_
    refine then_n ?_
    refine wp_ret ?_
    obtain rfl := Option.some.inj hm
    exact (then_r (ret1 rfl rfl rfl ⟨rfl, T⟩))
  · replace hm := cT c15 hm
    refine RQ.y (wantT (dj := 10) rfl (vbn rfl c15 rfl)) (Y.fieldAddr (off := 1) rfl (by kernel_rfl)) ?_
    refine RQ.y (wantT (dj := 10) rfl (vbn rfl c15 rfl)) (Y.load (v := .slice A2 d0.types.length c2) rfl (by kernel_rfl) (beC (blkCell B6 (i := 1) rfl))) ?_
    refine RQ.y (wantT (dj := 10) rfl (vbn rfl c15 rfl)) (Y.len (by kernel_rfl) rfl) ?_
    refine RQ.y (wantT (dj := 10) rfl (vbn rfl c15 rfl)) (Y.fieldAddr (off := 1) rfl (by kernel_rfl)) ?_
    refine RQ.y (wantT (dj := 10) rfl (vbn rfl c15 rfl)) (Y.load (v := .slice A4 d1.types.length c4) rfl (by kernel_rfl) (beC (blkCell B10 (i := 1) rfl))) ?_
    refine RQ.y (wantT (dj := 10) rfl (vbn rfl c15 rfl)) (Y.len (by kernel_rfl) rfl) ?_
    refine RQ.y (wantT (dj := 10) rfl (vbn rfl c15 rfl)) (Y.binI (v := .bool ((d0.types.length : Int) != (d1.types.length : Int))) rfl rfl rfl) ?_
    refine RQ.y rfl (Y.pick (b := false) (v := .bool ((d0.types.length : Int) != (d1.types.length : Int))) (vbn rfl c15 rfl) rfl) ?_
    refine RQ.nil ?_
    intro w18 hb19
    have szw18 := hb19.size
    have B6 := blkT B6 hb19
    have B10 := blkT B10 hb19
    have T := Tt T hb19
    refine then_n ?_
    rcases bcases ((d0.types.length : Int) != (d1.types.length : Int)) with c20 | c20
    · replace hm := cF c20 hm
      refine cond_f rfl (vb rfl c20) ?_
      refine wp_skip ?_
      refine then_n ?_
      refine wp_seq ?_
      refine wp_seq ?_
      refine wp_rs rfl ?_
      refine RQ.y rfl (Y.assign (v := .int .i64 0) rfl) ?_
      refine RQ.nil ?_
      refine then_n ?_
      refine wp_block ?_
      obtain ⟨K1, hK1, hm⟩ : ∃ K, K = m_spec_SameTyped_A1 ∧ m_spec_SameTyped_L1 d0 d1 K (d0.types.length + 1) 0 = some r := ⟨_, rfl, hm⟩
      refine wp_loopX (fun g f w' => ∃ (i22 : Int), f 2 = .pointer (some ⟨w.heap.size, 0, none⟩) ∧ f 3 = .pointer (some ⟨w5.heap.size, 0, none⟩) ∧ f 5 = .int .i64 i22 ∧ 0 ≤ i22 ∧ Blk w' w.heap.size 54 #[.slice A1 d0.net.agents.length c1, .slice A2 d0.types.length c2] ∧ Blk w' w5.heap.size 54 #[.slice A3 d1.net.agents.length c3, .slice A4 d1.types.length c4] ∧ Below w.heap.size w w' ∧ m_spec_SameTyped_L1 d0 d1 K1 g i22 = some r) 0 (fun f w' => Blk w' w.heap.size 54 #[.slice A1 d0.net.agents.length c1, .slice A2 d0.types.length c2] ∧ Blk w' w5.heap.size 54 #[.slice A3 d1.net.agents.length c3, .slice A4 d1.types.length c4] ∧ Below w.heap.size w w' ∧ m_spec_SameTyped_A1  = some r) (d0.types.length + 1) ⟨0, rfl, rfl, rfl, (by omega), B6, B10, T, hm⟩ ?_ ?_
      · rintro f w21 ⟨B6, B10, T, hm⟩
        unfold m_spec_SameTyped_A1 at hm
        refine blk_hit (then_n ?_)
        refine wp_seq ?_
        refine wp_rs rfl ?_
        refine RQ.y rfl (Y.assign (v := .bool true) rfl) ?_
        refine RQ.nil ?_
        refine then_n ?_
        refine wp_ret ?_
        obtain rfl := Option.some.inj hm
        exact (ret1 rfl rfl rfl ⟨rfl, T⟩)
      · rintro g f w23 ⟨i22, s2_1, s3_1, s5_1, nn5_1, B6, B10, T, hm⟩
        rcases g with _ | g
        · simp only [m_spec_SameTyped_L1] at hm; cases hm
        obtain ⟨rec1, hrec1, hm⟩ : ∃ z, z = m_spec_SameTyped_L1 d0 d1 K1 g ∧ m_spec_SameTyped_B1 d0 d1 z K1 i22 = some r := ⟨_, rfl, hm⟩
        unfold m_spec_SameTyped_B1 at hm
        refine wp_seq ?_
        refine wp_seq ?_
        refine wp_rs rfl ?_
        refine RQ.y rfl (Y.move (v := .int .i64 i22) s5_1) ?_
        refine RQ.y rfl (Y.fieldAddr (off := 1) s2_1 (by kernel_rfl)) ?_
        refine RQ.y rfl (Y.load (v := .slice A2 d0.types.length c2) rfl (by kernel_rfl) (eqC (blkCell B6 (i := 1) rfl))) ?_
        refine RQ.y rfl (Y.len (by kernel_rfl) rfl) ?_
        refine RQ.y rfl (Y.binI (v := .bool (decide (i22 < (d0.types.length : Int)))) rfl rfl rfl) ?_
        refine RQ.nil ?_
        refine then_n ?_
        rcases bcases (decide (i22 < (d0.types.length : Int))) with c24 | c24
        · replace hm := cF c24 hm
          have pc24 := of_decide_eq_false c24
          refine cond_f rfl (vb rfl c24) ?_
          refine wp_exit ?_
          exact (then_x (then_x (hit_x ⟨_, rfl, ⟨B6, B10, T, (by rw [hK1] at hm; exact hm)⟩⟩)))
        · replace hm := cT c24 hm
          have pc24 := of_decide_eq_true c24
          refine cond_t rfl (vb rfl c24) ?_
          refine wp_skip ?_
          refine then_n ?_
          refine wp_seq ?_
          refine wp_block ?_
          refine wp_seq ?_
          refine wp_rbd (by kernel_rfl) (by kernel_rfl) ?_
          refine RQ.y rfl (Y.fieldAddr (off := 1) s2_1 (by kernel_rfl)) ?_
          refine RQ.y rfl (Y.load (v := .slice A2 d0.types.length c2) rfl (by kernel_rfl) (beC (blkCell B6 (i := 1) rfl))) ?_
          refine RQ.y rfl (Y.move (v := .int .i64 i22) s5_1) ?_
          obtain ⟨x25, hx28, hm⟩ := bnd hm
          obtain ⟨k26, hk29, hl30, hx28⟩ := getI_some hx28
          obtain ⟨b32, o33, rfl, hbb32⟩ := h2.addr (by omega)
          obtain ⟨cs27, hRcs27, hc31⟩ := h2.el hx28
          have hScs27 := hRcs27
          obtain ⟨A34, n34, c34, rfl, h34, r34⟩ := hRcs27
          have e34 := h34.len; subst e34
          have q34 := len_le r34
          refine RQ.y rfl (Y.indexAddr (m := k26) (sz := 1) rfl rfl hk29 hl30 (by kernel_rfl)) ?_
          refine RQ.y rfl (Y.load (v := .slice A34 x25.length c34) rfl (by kernel_rfl) (beC (cellT T (hc31 0 _ rfl)))) ?_
          refine RQ.y rfl (Y.fieldAddr (off := 1) s3_1 (by kernel_rfl)) ?_
          refine RQ.y rfl (Y.load (v := .slice A4 d1.types.length c4) rfl (by kernel_rfl) (beC (blkCell B10 (i := 1) rfl))) ?_
          refine RQ.y rfl (Y.move (v := .int .i64 i22) s5_1) ?_
          obtain ⟨x35, hx38, hm⟩ := bnd hm
          obtain ⟨k36, hk39, hl40, hx38⟩ := getI_some hx38
          obtain ⟨b42, o43, rfl, hbb42⟩ := h4.addr (by omega)
          obtain ⟨cs37, hRcs37, hc41⟩ := h4.el hx38
          have hScs37 := hRcs37
          obtain ⟨A44, n44, c44, rfl, h44, r44⟩ := hRcs37
          have e44 := h44.len; subst e44
          have q44 := len_le r44
          refine RQ.y rfl (Y.indexAddr (m := k36) (sz := 1) rfl rfl hk39 hl40 (by kernel_rfl)) ?_
          refine RQ.y rfl (Y.load (v := .slice A44 x35.length c44) rfl (by kernel_rfl) (beC (cellT T (hc41 0 _ rfl)))) ?_
          obtain ⟨y45, e46, hm⟩ := bnd hm
          refine RQ.call rfl (am2 rfl rfl) (by kernel_rfl) (v := .bool y45) (bel (K := fun _ => True) fun w' hb' => (c_m_spec_l03SameTypes x25 x35 _ e46 _ _ w' (slArg typeRd_ok h34 r34 (Tt T hb')) (slArg typeRd_ok h44 r44 (Tt T hb')))) ?_
          refine RQ.y rfl (Y.not (b' := (!y45)) rfl rfl) ?_
          refine RQ.nil ?_
          intro w47 hb48
          have szw47 := hb48.size
          have B6 := blkT B6 hb48
          have B10 := blkT B10 hb48
          have T := Tt T hb48
          refine then_n ?_
          rcases bcases y45 with c49 | c49
          · replace hm := cF c49 hm
            refine cond_t rfl (vbn rfl c49 rfl) ?_
            refine wp_seq ?_
            refine wp_rs rfl ?_
            refine RQ.y rfl (Y.assign (v := .bool false) rfl) ?_
            refine RQ.nil ?_
            refine then_n ?_
            refine wp_ret ?_
            obtain rfl := Option.some.inj hm
            exact (blk_r (then_r (then_r (hit_r (blk_r (then_r (ret1 rfl rfl rfl ⟨rfl, T⟩)))))))
          · replace hm := cT c49 hm
            refine cond_f rfl (vbn rfl c49 rfl) ?_
            refine wp_skip ?_
            refine blk_n (then_n ?_)
            refine wp_rs rfl ?_
            refine RQ.y rfl (Y.move (v := .int .i64 i22) s5_1) ?_
            refine RQ.y rfl (Y.binI rfl rfl (binI_add (m := i22) (by omega))) ?_
            refine RQ.y rfl (Y.assign (v := .int .i64 (i22 + 1)) rfl) ?_
            refine RQ.nil ?_
            exact (then_n ⟨g, _, Nat.lt_succ_self _, rfl, ⟨(i22 + 1), s2_1, s3_1, rfl, (by omega), B6, B10, T, (by rw [← hrec1]; exact hm)⟩⟩)
    · replace hm := cT c20 hm
      refine cond_t rfl (vb rfl c20) ?_
      refine wp_seq ?_
      refine wp_rs rfl ?_
      refine RQ.y rfl (Y.assign (v := .bool false) rfl) ?_
      refine RQ.nil ?_
      refine then_n ?_
      refine wp_ret ?_
      obtain rfl := Option.some.inj hm
      exact (then_r (ret1 rfl rfl rfl ⟨rfl, T⟩))
noncomputable def m_slices_EqualFunc_SS_impl_Type_SS_impl_Type_impl_Type_impl_Type_A1 : Option Bool :=
  some true
noncomputable def m_slices_EqualFunc_SS_impl_Type_SS_impl_Type_impl_Type_impl_Type_B1 (d0 : List (List DType)) (d1 : List (List DType)) (d2 : List DType → List DType → Option Bool) (rec1 : Int → Option Bool) (K1 : Option Bool) (i3 : Int) : Option Bool :=
  (bif (decide (i3 < (d0.length : Int))) then ((getI d0 i3).bind fun x6 => ((getI d1 i3).bind fun x16 => ((d2 x6 x16).bind fun y26 => (bif y26 then (rec1 (i3 + 1)) else some false)))) else (K1))
noncomputable def m_slices_EqualFunc_SS_impl_Type_SS_impl_Type_impl_Type_impl_Type_L1 (d0 : List (List DType)) (d1 : List (List DType)) (d2 : List DType → List DType → Option Bool) (K1 : Option Bool) : Nat → Int → Option Bool
  | 0, _ => none
  | g + 1, i3 => m_slices_EqualFunc_SS_impl_Type_SS_impl_Type_impl_Type_impl_Type_B1 d0 d1 d2 (m_slices_EqualFunc_SS_impl_Type_SS_impl_Type_impl_Type_impl_Type_L1 d0 d1 d2 K1 g) K1 i3
noncomputable def m_slices_EqualFunc_SS_impl_Type_SS_impl_Type_impl_Type_impl_Type (d0 : List (List DType)) (d1 : List (List DType)) (d2 : List DType → List DType → Option Bool) : Option Bool :=
  (bif ((d0.length : Int) != (d1.length : Int)) then some false else (m_slices_EqualFunc_SS_impl_Type_SS_impl_Type_impl_Type_impl_Type_L1 d0 d1 d2 m_slices_EqualFunc_SS_impl_Type_SS_impl_Type_impl_Type_impl_Type_A1 (d0.length + 1) 0))
set_option maxHeartbeats 2000000 in
theorem c_m_slices_EqualFunc_SS_impl_Type_SS_impl_Type_impl_Type_impl_Type (d0 : List (List DType)) (d1 : List (List DType)) (d2 : List DType → List DType → Option Bool) (r : Bool) (hm : m_slices_EqualFunc_SS_impl_Type_SS_impl_Type_impl_Type_impl_Type d0 d1 d2 = some r) (v0 : Value) (v1 : Value) (gf2 : FuncId) (caps2 : Array Value) (w : World) (hv0 : Sl (slRd typeRd 3) 1 w v0 d0) (hv1 : Sl (slRd typeRd 3) 1 w v1 d1) (hgo2 : isGo Try.prog gf2 = true) (hf2 : ∀ (x0 : List DType) (x1 : List DType) (b : Bool), d2 x0 x1 = some b → ∀ w1, Below w.heap.size w w1 → ∀ y0, Sl typeRd 3 w1 y0 x0 → ∀ y1, Sl typeRd 3 w1 y1 x1 → Calls Try.prog gf2 (#[y0, y1] ++ caps2) w1 fun e w2 => e = .returned (.bool b) ∧ Below w1.heap.size w1 w2) :
    Calls Try.prog 56 #[v0, v1, .func (.func gf2) #[] caps2] w fun e w' => e = .returned (.bool r) ∧ Below w.heap.size w w' := by
  obtain ⟨Aa0, na0, ca0, rfl, ha0, ra0⟩ := hv0
  have ea0 := ha0.len; subst ea0
  have qa0 := len_le ra0
  obtain ⟨Aa1, na1, ca1, rfl, ha1, ra1⟩ := hv1
  have ea1 := ha1.len; subst ea1
  have qa1 := len_le ra1
  have T := Below.refl w.heap.size w
  unfold m_slices_EqualFunc_SS_impl_Type_SS_impl_Type_impl_Type_impl_Type at hm
  refine enter 32 Try.func56 rfl rfl rfl ?_
  intro f hf
  have s0 : f 0 = .slice Aa0 d0.length ca0 := hf 0 _ rfl
  have s1 : f 1 = .slice Aa1 d1.length ca1 := hf 1 _ rfl
  have s2 : f 2 = .func (.func gf2) #[] caps2 := hf 2 _ rfl
  refine wp_seq ?_
  refine wp_rs rfl ?_
  refine RQ.y rfl (Y.assign (v := .bool false) rfl) ?_
  refine RQ.nil ?_
  refine then_n ?_
  refine wp_seq ?_
  refine wp_seq ?_
  refine wp_rs rfl ?_
  refine RQ.y rfl (Y.move (v := .slice Aa0 d0.length ca0) s0) ?_
  refine RQ.y rfl (Y.len (by kernel_rfl) rfl) ?_
  refine RQ.y rfl (Y.move (v := .slice Aa1 d1.length ca1) s1) ?_
  refine RQ.y rfl (Y.len (by kernel_rfl) rfl) ?_
  refine RQ.y rfl (Y.binI (v := .bool ((d0.length : Int) != (d1.length : Int))) rfl rfl rfl) ?_
  refine RQ.nil ?_
  refine then_n ?_
  rcases bcases ((d0.length : Int) != (d1.length : Int)) with c1 | c1
  · replace hm := cF c1 hm
    refine cond_f rfl (vb rfl c1) ?_
    refine wp_skip ?_
    refine then_n ?_
    refine wp_seq ?_
    refine wp_seq ?_
    refine wp_rs rfl ?_
    refine RQ.y rfl (Y.move (v := .slice Aa0 d0.length ca0) s0) ?_
    refine RQ.y rfl (Y.len (by kernel_rfl) rfl) ?_
    refine RQ.y rfl (Y.move (v := .int .i64 0) rfl) ?_
    refine RQ.nil ?_
    refine then_n ?_
    refine wp_block ?_
    obtain ⟨K1, hK1, hm⟩ : ∃ K, K = m_slices_EqualFunc_SS_impl_Type_SS_impl_Type_impl_Type_impl_Type_A1 ∧ m_slices_EqualFunc_SS_impl_Type_SS_impl_Type_impl_Type_impl_Type_L1 d0 d1 d2 K (d0.length + 1) 0 = some r := ⟨_, rfl, hm⟩
    refine wp_loopX (fun g f w' => ∃ (i3 : Int), f 1 = .slice Aa1 d1.length ca1 ∧ f 2 = .func (.func gf2) #[] caps2 ∧ f 15 = .slice Aa0 d0.length ca0 ∧ f 16 = .int .i64 (d0.length : Int) ∧ f 17 = .int .i64 i3 ∧ 0 ≤ i3 ∧ Below w.heap.size w w' ∧ m_slices_EqualFunc_SS_impl_Type_SS_impl_Type_impl_Type_impl_Type_L1 d0 d1 d2 K1 g i3 = some r) 0 (fun f w' => Below w.heap.size w w' ∧ m_slices_EqualFunc_SS_impl_Type_SS_impl_Type_impl_Type_impl_Type_A1  = some r) (d0.length + 1) ⟨0, s1, s2, rfl, rfl, rfl, (by omega), T, hm⟩ ?_ ?_
    · rintro f w2 ⟨T, hm⟩
      unfold m_slices_EqualFunc_SS_impl_Type_SS_impl_Type_impl_Type_impl_Type_A1 at hm
      refine blk_hit (then_n ?_)
      refine wp_seq ?_
      refine wp_rs rfl ?_
      refine RQ.y rfl (Y.assign (v := .bool true) rfl) ?_
      refine RQ.nil ?_
      refine then_n ?_
      refine wp_ret ?_
      obtain rfl := Option.some.inj hm
      exact (ret1 rfl rfl rfl ⟨rfl, T⟩)
    · rintro g f w4 ⟨i3, s1_1, s2_1, s15_1, s16_1, s17_1, nn17_1, T, hm⟩
      rcases g with _ | g
      · simp only [m_slices_EqualFunc_SS_impl_Type_SS_impl_Type_impl_Type_impl_Type_L1] at hm; cases hm
      obtain ⟨rec1, hrec1, hm⟩ : ∃ z, z = m_slices_EqualFunc_SS_impl_Type_SS_impl_Type_impl_Type_impl_Type_L1 d0 d1 d2 K1 g ∧ m_slices_EqualFunc_SS_impl_Type_SS_impl_Type_impl_Type_impl_Type_B1 d0 d1 d2 z K1 i3 = some r := ⟨_, rfl, hm⟩
      unfold m_slices_EqualFunc_SS_impl_Type_SS_impl_Type_impl_Type_impl_Type_B1 at hm
      refine wp_seq ?_
      refine wp_rs rfl ?_
      refine RQ.y rfl (Y.binI (v := .bool (decide (i3 < (d0.length : Int)))) s17_1 s16_1 rfl) ?_
      refine RQ.nil ?_
      refine then_n ?_
      refine wp_seq ?_
      rcases bcases (decide (i3 < (d0.length : Int))) with c5 | c5
      · replace hm := cF c5 hm
        have pc5 := of_decide_eq_false c5
        refine cond_f rfl (vb rfl c5) ?_
        refine wp_exit ?_
        exact (then_x (then_x (hit_x ⟨_, rfl, ⟨T, (by rw [hK1] at hm; exact hm)⟩⟩)))
      · replace hm := cT c5 hm
        have pc5 := of_decide_eq_true c5
        refine cond_t rfl (vb rfl c5) ?_
        refine wp_skip ?_
        refine then_n ?_
        refine wp_seq ?_
        refine wp_block ?_
        refine wp_seq ?_
        refine wp_rs rfl ?_
        refine RQ.y rfl (Y.move (v := .int .i64 i3) s17_1) ?_
        obtain ⟨x6, hx9, hm⟩ := bnd hm
        obtain ⟨k7, hk10, hl11, hx9⟩ := getI_some hx9
        obtain ⟨b13, o14, rfl, hbb13⟩ := ha0.addr (by omega)
        obtain ⟨cs8, hRcs8, hc12⟩ := ha0.el hx9
        have hScs8 := hRcs8
        obtain ⟨A15, n15, c15, rfl, h15, r15⟩ := hRcs8
        have e15 := h15.len; subst e15
        have q15 := len_le r15
        refine RQ.y rfl (Y.indexAddr (m := k7) (sz := 1) s15_1 s17_1 hk10 hl11 (by kernel_rfl)) ?_
        refine RQ.y rfl (Y.load (v := .slice A15 x6.length c15) rfl (by kernel_rfl) (eqC (cellT T (hc12 0 _ rfl)))) ?_
        refine RQ.y rfl (Y.assign (v := .int .i64 i3) rfl) ?_
        refine RQ.y rfl (Y.assign (v := .slice A15 x6.length c15) rfl) ?_
        refine RQ.nil ?_
        refine then_n ?_
        refine wp_seq ?_
        refine wp_rs rfl ?_
        refine RQ.y rfl (Y.move (v := .slice Aa1 d1.length ca1) s1_1) ?_
        refine RQ.y rfl (Y.move (v := .int .i64 i3) rfl) ?_
        obtain ⟨x16, hx19, hm⟩ := bnd hm
        obtain ⟨k17, hk20, hl21, hx19⟩ := getI_some hx19
        obtain ⟨b23, o24, rfl, hbb23⟩ := ha1.addr (by omega)
        obtain ⟨cs18, hRcs18, hc22⟩ := ha1.el hx19
        have hScs18 := hRcs18
        obtain ⟨A25, n25, c25, rfl, h25, r25⟩ := hRcs18
        have e25 := h25.len; subst e25
        have q25 := len_le r25
        refine RQ.y rfl (Y.indexAddr (m := k17) (sz := 1) rfl rfl hk20 hl21 (by kernel_rfl)) ?_
        refine RQ.y rfl (Y.load (v := .slice A25 x16.length c25) rfl (by kernel_rfl) (eqC (cellT T (hc22 0 _ rfl)))) ?_
        refine RQ.y rfl (Y.assign (v := .slice A25 x16.length c25) rfl) ?_
        refine RQ.nil ?_
        refine then_n ?_
        refine wp_seq ?_
        refine wp_rb rfl ?_
        refine RQ.y rfl (Y.move (v := .func (.func gf2) #[] caps2) s2_1) ?_
        refine RQ.y rfl (Y.move (v := .slice A15 x6.length c15) rfl) ?_
        refine RQ.y rfl (Y.move (v := .slice A25 x16.length c25) rfl) ?_
        obtain ⟨y26, e27, hm⟩ := bnd hm
        refine RQ.callV rfl rfl (am2 rfl rfl) hgo2 (v := .bool y26) (bel (K := fun _ => True) fun w' hb' => hf2 x6 x16 y26 e27 w' (Tt T hb') _ (slArg typeRd_ok h15 r15 (Tt T hb')) _ (slArg typeRd_ok h25 r25 (Tt T hb'))) ?_
        refine RQ.y rfl (Y.not (b' := (!y26)) rfl rfl) ?_
        refine RQ.nil ?_
        intro w28 hb29
        have szw28 := hb29.size
        have T := Tt T hb29
        refine then_n ?_
        rcases bcases y26 with c30 | c30
        · replace hm := cF c30 hm
          refine cond_t rfl (vbn rfl c30 rfl) ?_
          refine wp_seq ?_
          refine wp_rs rfl ?_
          refine RQ.y rfl (Y.assign (v := .bool false) rfl) ?_
          refine RQ.nil ?_
          refine then_n ?_
          refine wp_ret ?_
          obtain rfl := Option.some.inj hm
          exact (blk_r (then_r (then_r (hit_r (blk_r (then_r (ret1 rfl rfl rfl ⟨rfl, T⟩)))))))
        · replace hm := cT c30 hm
          refine cond_f rfl (vbn rfl c30 rfl) ?_
          refine wp_skip ?_
          refine blk_n (then_n ?_)
          refine wp_rs rfl ?_
          refine RQ.y rfl (Y.binI s17_1 rfl (binI_add (m := i3) (by omega))) ?_
          refine RQ.y rfl (Y.move (v := .int .i64 (i3 + 1)) rfl) ?_
          refine RQ.nil ?_
          exact (then_n ⟨g, _, Nat.lt_succ_self _, rfl, ⟨(i3 + 1), s1_1, s2_1, s15_1, s16_1, rfl, (by omega), T, (by rw [← hrec1]; exact hm)⟩⟩)
  · replace hm := cT c1 hm
    refine cond_t rfl (vb rfl c1) ?_
    refine wp_seq ?_
    refine wp_rs rfl ?_
    refine RQ.y rfl (Y.assign (v := .bool false) rfl) ?_
    refine RQ.nil ?_
    refine then_n ?_
    refine wp_ret ?_
    obtain rfl := Option.some.inj hm
    exact (then_r (ret1 rfl rfl rfl ⟨rfl, T⟩))
noncomputable def m_impl_SameTyped (d0 : DTypedNet) (d1 : DTypedNet) : Option Bool :=
  ((m_impl_SameNet (⟨d0.net.agents⟩ : DNet) (⟨d1.net.agents⟩ : DNet)).bind fun y13 => (bif y13 then ((m_slices_EqualFunc_SS_impl_Type_SS_impl_Type_impl_Type_impl_Type d0.types d1.types (fun x0 x1 => m_impl_sameTypes x0 x1)).bind fun y18 => some y18) else some false))
set_option maxHeartbeats 2000000 in
theorem c_m_impl_SameTyped (d0 : DTypedNet) (d1 : DTypedNet) (r : Bool) (hm : m_impl_SameTyped d0 d1 = some r) (v0 : Value) (v1 : Value) (w : World) (hv0 : St typedNetRd w v0 d0) (hv1 : St typedNetRd w v1 d1) :
    Calls Try.prog 27 #[v0, v1] w fun e w' => e = .returned (.bool r) ∧ Below w.heap.size w w' := by
  obtain ⟨csa0, rfl, ⟨A1, n1, c1, A2, n2, c2, rfl, ⟨h1, r1⟩, ⟨h2, r2⟩⟩⟩ := hv0
  have e1 := h1.len; subst e1
  have q1 := len_le r1
  have e2 := h2.len; subst e2
  have q2 := len_le r2
  obtain ⟨csa1, rfl, ⟨A3, n3, c3, A4, n4, c4, rfl, ⟨h3, r3⟩, ⟨h4, r4⟩⟩⟩ := hv1
  have e3 := h3.len; subst e3
  have q3 := len_le r3
  have e4 := h4.len; subst e4
  have q4 := len_le r4
  have T := Below.refl w.heap.size w
  unfold m_impl_SameTyped at hm
  refine enter 17 Try.func27 rfl rfl rfl ?_
  intro f hf
  have s0 : f 0 = .agg #[.slice A1 d0.net.agents.length c1, .slice A2 d0.types.length c2] := hf 0 _ rfl
  have s1 : f 1 = .agg #[.slice A3 d1.net.agents.length c3, .slice A4 d1.types.length c4] := hf 1 _ rfl
  refine wp_seq ?_
  refine wp_rl rfl ?_
  refine RL.box rfl s0 (fun w5 B6 hb7 szw5 => ?_)
  replace B6 : Blk w5 w.heap.size 54 #[.slice A1 d0.net.agents.length c1, .slice A2 d0.types.length c2] := B6
  have GB6 : w.heap.size ≤ w.heap.size := T.size
  have T := Tt T hb7
  refine RL.box rfl s1 (fun w9 B10 hb11 szw9 => ?_)
  replace B10 : Blk w9 w5.heap.size 54 #[.slice A3 d1.net.agents.length c3, .slice A4 d1.types.length c4] := B10
  have GB10 : w.heap.size ≤ w5.heap.size := T.size
  have Eob12_ob8 := Nat.ne_of_lt B6.lt
  have B6 := blkT B6 hb11
  have T := Tt T hb11
  refine RL.y rfl (Y.assign (v := .bool false) rfl) ?_
  refine RL.nil ?_
  refine then_n ?_
  refine wp_seq ?_
  refine wp_rb rfl ?_
  refine RQ.y rfl (Y.fieldAddr (off := 0) rfl (by kernel_rfl)) ?_
  refine RQ.y rfl (Y.loadN (cs := [.slice A1 d0.net.agents.length c1]) rfl (by kernel_rfl) (cells1 (beC (blkCell B6 (i := 0) rfl)))) ?_
  refine RQ.y rfl (Y.fieldAddr (off := 0) rfl (by kernel_rfl)) ?_
  refine RQ.y rfl (Y.loadN (cs := [.slice A3 d1.net.agents.length c3]) rfl (by kernel_rfl) (cells1 (beC (blkCell B10 (i := 0) rfl)))) ?_
  obtain ⟨y13, e14, hm⟩ := bnd hm
  refine RQ.call rfl (am2 rfl rfl) (by kernel_rfl) (v := .bool y13) (bel (K := fun _ => True) fun w' hb' => (c_m_impl_SameNet (⟨d0.net.agents⟩ : DNet) (⟨d1.net.agents⟩ : DNet) _ e14 _ _ w' (stArg (R := netRd) ⟨_, _, _, rfl, ⟨SlAt.now agentRd_ok h1 (Nat.le_refl _) (Tt T hb'), r1⟩⟩) (stArg (R := netRd) ⟨_, _, _, rfl, ⟨SlAt.now agentRd_ok h3 (Nat.le_refl _) (Tt T hb'), r3⟩⟩))) ?_
  refine RQ.y rfl (Y.move (v := .bool y13) rfl) ?_
  rcases bcases y13 with c15 | c15
  · replace hm := cF c15 hm
    refine RQ.skip (wantN (dj := 10) rfl (vb rfl c15) rfl) ?_
    refine RQ.skip (wantN (dj := 10) rfl (vb rfl c15) rfl) ?_
    refine RQ.skip (wantN (dj := 10) rfl (vb rfl c15) rfl) ?_
    refine RQ.skip (wantN (dj := 10) rfl (vb rfl c15) rfl) ?_
    refine RQ.skip (wantN (dj := 10) rfl (vb rfl c15) rfl) ?_
    refine RQ.y rfl (Y.pick (b := false) (v := .bool false) (vb rfl c15) rfl) ?_
    refine RQ.y rfl (Y.assign (v := .bool false) rfl) ?_
    refine RQ.nil ?_
    intro w16 hb17
    have szw16 := hb17.size
    have T := Tt T hb17
    refine then_n ?_
    refine wp_ret ?_
    obtain rfl := Option.some.inj hm
    exact (ret1 rfl rfl rfl ⟨rfl, T⟩)
  · replace hm := cT c15 hm
    refine RQ.y (wantT (dj := 10) rfl (vb rfl c15)) (Y.fieldAddr (off := 1) rfl (by kernel_rfl)) ?_
    refine RQ.y (wantT (dj := 10) rfl (vb rfl c15)) (Y.load (v := .slice A2 d0.types.length c2) rfl (by kernel_rfl) (beC (blkCell B6 (i := 1) rfl))) ?_
    refine RQ.y (wantT (dj := 10) rfl (vb rfl c15)) (Y.fieldAddr (off := 1) rfl (by kernel_rfl)) ?_
    refine RQ.y (wantT (dj := 10) rfl (vb rfl c15)) (Y.load (v := .slice A4 d1.types.length c4) rfl (by kernel_rfl) (beC (blkCell B10 (i := 1) rfl))) ?_
    obtain ⟨y18, e19, hm⟩ := bnd hm
    refine RQ.call (wantT (dj := 10) rfl (vb rfl c15)) (am3 rfl rfl rfl) (by kernel_rfl) (v := .bool y18) (bel (K := fun _ => True) fun w' hb' => (c_m_slices_EqualFunc_SS_impl_Type_SS_impl_Type_impl_Type_impl_Type d0.types d1.types (fun x0 x1 => m_impl_sameTypes x0 x1) _ e19 _ _ _ _ w' (slArg (slRd_ok typeRd_ok) h2 r2 (Tt T hb')) (slArg (slRd_ok typeRd_ok) h4 r4 (Tt T hb')) (by kernel_rfl) (fun x0 x1 b hx w1 hb1 y0 hy0 y1 hy1 => Calls.arr (by simp) (c_m_impl_sameTypes x0 x1 _ hx _ _  w1 hy0 hy1 )))) ?_
    refine RQ.y rfl (Y.pick (b := true) (v := .bool y18) (vb rfl c15) rfl) ?_
    refine RQ.y rfl (Y.assign (v := .bool y18) rfl) ?_
    refine RQ.nil ?_
    intro w20 hb21
    have szw20 := hb21.size
    have T := Tt T hb21
    refine then_n ?_
    refine wp_ret ?_
    obtain rfl := Option.some.inj hm
    exact (ret1 rfl rfl rfl ⟨rfl, T⟩)
end
section
open Go.RowKit
set_option linter.unusedVariables false
/-- A loop that goes through the states st 0, st 1, .. and ends at st n. -/
theorem traj {σ ρ : Type} {L : Nat → σ → Option ρ} {st : Nat → σ} {n : Nat} {r : Option ρ} (h : ∀ g k, k < n → L (g + 1) (st k) = L g (st (k + 1))) (he : ∀ g, L (g + 1) (st n) = r) : ∀ g, n < g → L g (st 0) = r := by
  have key : ∀ d k g, k + d = n → d < g → L g (st k) = r := by
    intro d
    induction d with
    | zero =>
      intro k g hk hg
      obtain ⟨g, rfl⟩ : ∃ g', g = g' + 1 := ⟨g - 1, by omega⟩
      obtain rfl : k = n := by omega
      exact he g
    | succ d ih =>
      intro k g hk hg
      obtain ⟨g, rfl⟩ : ∃ g', g = g' + 1 := ⟨g - 1, by omega⟩
      rw [h g k (by omega)]
      exact ih (k + 1) g (by omega) (by omega)
  intro g hg
  exact key n 0 g (by omega) hg
/-- A loop over an index. -/
theorem trajI {ρ : Type} {L : Nat → Int → Option ρ} {n : Nat} {r : Option ρ} (h : ∀ g (k : Nat), k < n → L (g + 1) (k : Int) = L g ((k : Int) + 1)) (he : ∀ g, L (g + 1) (n : Int) = r) (g : Nat) (hg : n < g) : L g 0 = r :=
  traj (L := fun g (k : Nat) => L g (k : Int)) (st := fun k => k) (fun g k hk => by simpa using h g k hk) he g hg
open Classical in
/-- A loop that asks p of each index. -/
theorem allI {ρ : Type} {L : Nat → Int → Option ρ} {n : Nat} {p : Nat → Prop} {no K : Option ρ} (h1 : ∀ g (k : Nat), k < n → p k → L (g + 1) (k : Int) = L g ((k : Int) + 1)) (h2 : ∀ g (k : Nat), k < n → ¬ p k → L (g + 1) (k : Int) = no) (h3 : ∀ g, L (g + 1) (n : Int) = K) (g : Nat) (hg : n < g) :
    L g 0 = if ∀ k, k < n → p k then K else no := by
  by_cases ha : ∀ k, k < n → p k
  · rw [if_pos ha]
    exact trajI (fun g k hk => h1 g k hk (ha k hk)) h3 g hg
  · rw [if_neg ha]
    have hex : ∃ k, k < n ∧ ¬ p k := by
      apply Classical.byContradiction
      intro hn
      exact ha fun k hk => Classical.byContradiction fun hp => hn ⟨k, hk, hp⟩
    obtain ⟨m, ⟨hm, hpm⟩, hleast⟩ : ∃ m, (m < n ∧ ¬ p m) ∧ ∀ k, k < m → k < n → p k := by
      obtain ⟨k0, hk0⟩ := hex
      induction k0 using Nat.strongRecOn with
      | _ k0 ih =>
        by_cases h : ∃ k, k < k0 ∧ k < n ∧ ¬ p k
        · obtain ⟨k, hk, hk1⟩ := h
          exact ih k hk hk1
        · exact ⟨k0, hk0, fun k hk hkn => Classical.byContradiction fun hp => h ⟨k, hk, hkn, hp⟩⟩
    exact trajI (n := m) (fun g k hk => h1 g k (by omega) (hleast k hk (by omega))) (fun g => h2 g m hm hpm) g (by omega)
theorem allO {ρ : Type} {L : Nat → Int → Option ρ} {n : Nat} {p : Nat → Prop} {no K : Option ρ} (h1 : ∀ g (k : Nat), k < n → p k → L (g + 1) (k : Int) = L g ((k : Int) + 1)) (h2 : ∀ g (k : Nat), k < n → ¬ p k → L (g + 1) (k : Int) = no) (h3 : ∀ g, L (g + 1) (n : Int) = K) (g : Nat) (hg : n < g) :
    ((∀ k, k < n → p k) ∧ L g 0 = K) ∨ ((¬ ∀ k, k < n → p k) ∧ L g 0 = no) := by
  have h := allI h1 h2 h3 g hg
  by_cases ha : ∀ k, k < n → p k
  · rw [if_pos ha] at h; exact .inl ⟨ha, h⟩
  · rw [if_neg ha] at h; exact .inr ⟨ha, h⟩
theorem getI_lt {α : Type} {xs : List α} {k : Nat} (h : k < xs.length) : getI xs (k : Int) = some xs[k] := by simp [getI, h]
theorem dlt {k n : Nat} (h : k < n) : decide ((k : Int) < (n : Int)) = true := by simp; omega
theorem dge {n : Nat} : decide ((n : Int) < (n : Int)) = false := by simp
end
section
open Go.RowKit
set_option linter.unusedVariables false
def fieldsN (k : Int) (p : Nat) : Int := if k = 9 then (p : Int) - 1 else 0
def defIx (n : Int) : Bool := decide (0 ≤ n) && decide (n ≤ 23)
def int32B (n : Int) : Bool := decide (-2147483648 ≤ n) && decide (n ≤ 2147483647)
def operB (n : Int) : Bool := decide (1 ≤ n) && decide (n ≤ 6)
def content (k v : Int) (d : List Int) : Bool :=
  if k = 6 then decide (d.length = 0) && int32B v
  else if k = 7 then decide (d.length = 0) && operB v
  else if k = 8 then decide (d.length = 1) && operB v && int32B (d.getD 0 0)
  else if k = 9 then decide (d.length = 0) && (decide (0 ≤ v) && decide (v ≤ 3))
  else if k = 12 then decide (d.length = 0) && defIx v
  else if k = 10 then decide (v = 0) && (decide (1 ≤ d.length) && decide (d.length ≤ 4)) && d.all defIx
  else if k = 11 then decide (v = 0) && decide (d.length = 2) && d.all defIx
  else decide (v = 0) && decide (d.length = 0)
def agentOk (x : DAgent) : Bool := decide (0 < portsOf x.kind (fieldsN x.kind x.ports.length)) && decide ((x.ports.length : Int) = portsOf x.kind (fieldsN x.kind x.ports.length)) && allowed x.kind x.level && content x.kind x.value x.data
def AgentsOk (xs : List DAgent) : Prop := 1 ≤ xs.length ∧ xs.length ≤ 600 ∧ ∀ (i : Nat) (x : DAgent), xs[i]? = some x → agentOk x = true ∧ decide (x.kind = 1) = decide (i = 0)
def agentAt (xs : List DAgent) (i : Int) : DAgent := xs.getD i.toNat default
def hasPort (xs : List DAgent) (p : DPort) : Bool := decide (0 ≤ p.agent) && decide (p.agent < xs.length) && decide (0 ≤ p.slot) && decide (p.slot < (agentAt xs p.agent).ports.length)
def peer (xs : List DAgent) (p : DPort) : DPort := (agentAt xs p.agent).ports.getD p.slot.toNat default
def badPort (xs : List DAgent) (p : DPort) : Bool := decide (peer xs p = p) || !hasPort xs (peer xs p) || !decide (peer xs (peer xs p) = p)
def PortsOk (xs : List DAgent) : Prop := ∀ (i : Nat) (x : DAgent), xs[i]? = some x → ∀ k : Nat, k < x.ports.length → badPort xs ⟨i, k⟩ = false
open Classical in
noncomputable def validNet (x : DNet) : Bool := decide (AgentsOk x.agents ∧ PortsOk x.agents)
/-- All ports in order. -/
def agentPorts (i : Nat) (x : DAgent) : List DPort := (List.range x.ports.length).map fun (k : Nat) => ⟨i, k⟩
def portsFrom : Nat → List DAgent → List DPort
  | _, [] => []
  | i, x :: xs => agentPorts i x ++ portsFrom (i + 1) xs
def allPorts (xs : List DAgent) : List DPort := portsFrom 0 xs
end
section
open Go.RowKit
set_option linter.unusedVariables false
set_option linter.unusedSimpArgs false
/-- No list is longer than what a net of the laws may hold. -/
def Small (xs : List DAgent) : Prop := szAgentS xs ≤ 1048576
theorem Small.len {xs : List DAgent} (h : Small xs) : xs.length ≤ 1048576 := by unfold Small szAgentS at h; omega
theorem sum_mem {α : Type} {f : α → Nat} {xs : List α} {x : α} (h : x ∈ xs) : f x ≤ (xs.map f).sum := by
  induction xs with
  | nil => cases h
  | cons y ys ih =>
    rcases List.mem_cons.1 h with rfl | h
    · simp
    · have := ih h; simp; omega
theorem Small.ports {xs : List DAgent} (h : Small xs) {x : DAgent} (hx : x ∈ xs) : x.ports.length ≤ 1048576 := by
  have := sum_mem (f := szAgent) hx
  have e : szAgent x = x.data.length + x.ports.length := rfl
  unfold Small szAgentS at h; omega
theorem Small.data {xs : List DAgent} (h : Small xs) {x : DAgent} (hx : x ∈ xs) : x.data.length ≤ 1048576 := by
  have := sum_mem (f := szAgent) hx
  have e : szAgent x = x.data.length + x.ports.length := rfl
  unfold Small szAgentS at h; omega
theorem portsFrom_len : ∀ (i : Nat) (xs : List DAgent), (portsFrom i xs).length ≤ (xs.map szAgent).sum
  | _, [] => by simp [portsFrom]
  | i, x :: xs => by have := portsFrom_len (i + 1) xs; simp [portsFrom, agentPorts, szAgent]; omega
theorem Small.all {xs : List DAgent} (h : Small xs) : (allPorts xs).length ≤ 1048576 := by
  have := portsFrom_len 0 xs
  unfold Small szAgentS at h; unfold allPorts; omega
theorem validNet_iff {x : DNet} : validNet x = true ↔ AgentsOk x.agents ∧ PortsOk x.agents := by unfold validNet; simp
end
section
open Go.RowKit
set_option linter.unusedVariables false
theorem copy_set {α : Type} {xs : List α} {z : α} {k : Nat} (hk : k < xs.length) : setI (xs.take k ++ List.replicate (xs.length - k) z) (k : Int) xs[k] = xs.take (k + 1) ++ List.replicate (xs.length - (k + 1)) z := by
  rw [setI_nat]
  obtain ⟨m, hm⟩ : ∃ m, xs.length - k = m + 1 := ⟨xs.length - k - 1, by omega⟩
  have hm2 : xs.length - (k + 1) = m := by omega
  have hl : (xs.take k).length = k := by simp; omega
  rw [hm, hm2, List.replicate_succ, List.set_append_right _ _ (by omega), hl, Nat.sub_self, List.set_cons_zero, List.take_succ_eq_append_getElem hk, List.append_assoc]
  rfl
theorem copy_get {α : Type} {xs : List α} {z : α} {k : Nat} (hk : k < xs.length) : getI (xs.take k ++ List.replicate (xs.length - k) z) (k : Int) = some z := by
  have hl : (xs.take k).length = k := by simp; omega
  refine getI_nat ?_
  rw [List.getElem?_append_right (by omega), hl, Nat.sub_self, List.getElem?_replicate]
  simp; omega
theorem copyI {α ρ : Type} {L : Nat → List α → Int → Option ρ} {xs : List α} {z : α} {K : List α → Option ρ} (h : ∀ g (k : Nat) acc (hk : k < xs.length), getI acc (k : Int) = some z → L (g + 1) acc (k : Int) = L g (setI acc (k : Int) xs[k]) ((k : Int) + 1)) (he : ∀ g acc, L (g + 1) acc (xs.length : Int) = K acc) :
    L (xs.length + 1) (List.replicate xs.length z) 0 = K xs := by
  have := traj (L := fun g (s : List α × Int) => L g s.1 s.2) (st := fun k => (xs.take k ++ List.replicate (xs.length - k) z, (k : Int))) (n := xs.length) (r := K xs)
    (fun g k hk => by
      simp only
      rw [h g k _ hk (copy_get hk), copy_set hk]
      simp only [Int.natCast_add, Int.cast_ofNat_Int])
    (fun g => by simp only; rw [he]; simp) (xs.length + 1) (Nat.lt_succ_self _)
  simpa using this
theorem eqI {α ρ : Type} [DecidableEq α] {L : Nat → Int → Option ρ} {xs ys : List α} {no yes : Option ρ} (hl : xs.length = ys.length) (h : ∀ g (k : Nat) (hx : k < xs.length) (hy : k < ys.length), L (g + 1) (k : Int) = if xs[k] = ys[k] then L g ((k : Int) + 1) else no) (he : ∀ g, L (g + 1) (xs.length : Int) = yes) (g : Nat) (hg : xs.length < g) :
    L g 0 = if xs = ys then yes else no := by
  have key := allO (L := L) (n := xs.length) (p := fun k => xs[k]? = ys[k]?) (no := no) (K := yes)
    (fun g k hk hp => by
      have hy : k < ys.length := by omega
      rw [h g k hk hy, if_pos]
      rw [List.getElem?_eq_getElem hk, List.getElem?_eq_getElem hy] at hp
      injection hp)
    (fun g k hk hp => by
      have hy : k < ys.length := by omega
      rw [h g k hk hy, if_neg]
      intro e
      rw [List.getElem?_eq_getElem hk, List.getElem?_eq_getElem hy, e] at hp
      exact hp rfl) he g hg
  rcases key with ⟨h1, h2⟩ | ⟨h1, h2⟩
  · have e : xs = ys := List.ext_getElem? fun k => by
      by_cases hk : k < xs.length
      · exact h1 k hk
      · rw [List.getElem?_eq_none (by omega), List.getElem?_eq_none (by omega)]
    rw [if_pos e, h2]
  · rw [if_neg, h2]
    intro e
    exact h1 fun k _ => by rw [e]
end
section
open Go.RowKit
set_option linter.unusedVariables false
set_option linter.unusedSimpArgs false
theorem bne_nat {n m : Nat} : ((n : Int) != (m : Int)) = !decide (n = m) := by
  by_cases h : n = m
  · subst h; simp
  · simp [h]; omega
theorem ite_dec {p : Prop} [Decidable p] : (if p then some true else some false : Option Bool) = some (decide p) := by
  by_cases h : p <;> simp [h]
theorem decide_len {α : Type} [DecidableEq α] {xs ys : List α} (h : ¬ xs.length = ys.length) : decide (xs = ys) = false := decide_eq_false fun e => h (by rw [e])
theorem p_l00Same (xs ys : List Int) : m_spec_l00Same xs ys = some (decide (xs = ys)) := by
  unfold m_spec_l00Same
  rw [bne_nat]
  by_cases hl : xs.length = ys.length
  · rw [decide_eq_true hl, Bool.not_true, cond_false, ← ite_dec]
    exact eqI hl (fun g k hx hy => by
      simp -implicitDefEqProofs only [m_spec_l00Same_L1, m_spec_l00Same_B1, dlt hx, cond_true, getI_nat (List.getElem?_eq_getElem hx), getI_nat (List.getElem?_eq_getElem hy), Option.bind_some]
      by_cases h : xs[k] = ys[k]
      · rw [if_pos h, show (xs[k] != ys[k]) = false by simpa using h, cond_false]
      · rw [if_neg h, show (xs[k] != ys[k]) = true by simpa using h, cond_true])
      (fun g => by simp -implicitDefEqProofs only [m_spec_l00Same_L1, m_spec_l00Same_B1, dge, cond_false, m_spec_l00Same_A1]) _ (Nat.lt_succ_self _)
  · rw [decide_eq_false hl, Bool.not_false, cond_true, decide_len hl]
theorem p_EqInt (xs ys : List Int) : m_slices_Equal_int64_int64 xs ys = some (decide (xs = ys)) := by
  unfold m_slices_Equal_int64_int64
  rw [bne_nat]
  by_cases hl : xs.length = ys.length
  · rw [decide_eq_true hl, Bool.not_true, cond_false, ← ite_dec]
    exact eqI hl (fun g k hx hy => by
      simp -implicitDefEqProofs only [m_slices_Equal_int64_int64_L1, m_slices_Equal_int64_int64_B1, dlt hx, cond_true, getI_nat (List.getElem?_eq_getElem hx), getI_nat (List.getElem?_eq_getElem hy), Option.bind_some]
      by_cases h : xs[k] = ys[k]
      · rw [if_pos h, show (xs[k] != ys[k]) = false by simpa using h, cond_false]
      · rw [if_neg h, show (xs[k] != ys[k]) = true by simpa using h, cond_true])
      (fun g => by simp -implicitDefEqProofs only [m_slices_Equal_int64_int64_L1, m_slices_Equal_int64_int64_B1, dge, cond_false, m_slices_Equal_int64_int64_A1]) _ (Nat.lt_succ_self _)
  · rw [decide_eq_false hl, Bool.not_false, cond_true, decide_len hl]
theorem portEq (p q : DPort) : (p.agent == q.agent && p.slot == q.slot) = decide (p = q) := by
  obtain ⟨a, b⟩ := p
  obtain ⟨c, d⟩ := q
  by_cases h1 : a = c <;> by_cases h2 : b = d <;> simp [h1, h2]
theorem p_EqPort (xs ys : List DPort) : m_slices_Equal_impl_Port_impl_Port xs ys = some (decide (xs = ys)) := by
  unfold m_slices_Equal_impl_Port_impl_Port
  rw [bne_nat]
  by_cases hl : xs.length = ys.length
  · rw [decide_eq_true hl, Bool.not_true, cond_false, ← ite_dec]
    exact eqI hl (fun g k hx hy => by
      simp -implicitDefEqProofs only [m_slices_Equal_impl_Port_impl_Port_L1, m_slices_Equal_impl_Port_impl_Port_B1, dlt hx, cond_true, getI_nat (List.getElem?_eq_getElem hx), getI_nat (List.getElem?_eq_getElem hy), Option.bind_some, portEq]
      by_cases h : xs[k] = ys[k]
      · rw [if_pos h, decide_eq_true h, cond_true]
      · rw [if_neg h, decide_eq_false h, cond_false])
      (fun g => by simp -implicitDefEqProofs only [m_slices_Equal_impl_Port_impl_Port_L1, m_slices_Equal_impl_Port_impl_Port_B1, dge, cond_false, m_slices_Equal_impl_Port_impl_Port_A1]) _ (Nat.lt_succ_self _)
  · rw [decide_eq_false hl, Bool.not_false, cond_true, decide_len hl]
theorem agentEq (x y : DAgent) : (x = y) ↔ (x.kind = y.kind ∧ x.level = y.level ∧ x.value = y.value ∧ x.data = y.data ∧ x.ports = y.ports) := by
  obtain ⟨a, b, c, d, e⟩ := x
  obtain ⟨a', b', c', d', e'⟩ := y
  simp
theorem p_sSameAgent (x y : DAgent) : m_spec_l11SameAgent x y = some (decide (x = y)) := by
  unfold m_spec_l11SameAgent
  rw [p_l00Same, Option.bind_some, bne_nat]
  by_cases h1 : x.kind = y.kind
  · by_cases h2 : x.level = y.level
    · by_cases h3 : x.value = y.value
      · by_cases h4 : x.data = y.data
        · rw [show (x.kind != y.kind) = false by simpa using h1, show (x.level != y.level) = false by simpa using h2, show (x.value != y.value) = false by simpa using h3, decide_eq_true h4, cond_false, cond_false, cond_false, cond_true]
          by_cases hl : x.ports.length = y.ports.length
          · rw [decide_eq_true hl, Bool.not_true, cond_false]
            have := eqI (L := fun g k => m_spec_l11SameAgent_L1 x y m_spec_l11SameAgent_A1 g k) (no := some false) (yes := some true) hl (fun g k hx hy => by
              simp -implicitDefEqProofs only [m_spec_l11SameAgent_L1, m_spec_l11SameAgent_B1, dlt hx, cond_true, getI_nat (List.getElem?_eq_getElem hx), getI_nat (List.getElem?_eq_getElem hy), Option.bind_some, portEq]
              by_cases h : x.ports[k] = y.ports[k]
              · rw [if_pos h, decide_eq_true h, cond_true]
              · rw [if_neg h, decide_eq_false h, cond_false])
              (fun g => by simp -implicitDefEqProofs only [m_spec_l11SameAgent_L1, m_spec_l11SameAgent_B1, dge, cond_false, m_spec_l11SameAgent_A1]) (x.ports.length + 1) (Nat.lt_succ_self _)
            refine this.trans ?_
            rw [ite_dec]
            congr 1
            exact decide_eq_decide.2 (by rw [agentEq]; simp [h1, h2, h3, h4])
          · rw [decide_eq_false hl, Bool.not_false, cond_true, show decide (x = y) = false from decide_eq_false (fun e => hl (by rw [e]))]
        · rw [decide_eq_false h4, show decide (x = y) = false from decide_eq_false (fun e => h4 (by rw [e]))]
          simp [h1, h2, h3]
      · rw [show (x.value != y.value) = true by simpa using h3, show decide (x = y) = false from decide_eq_false (fun e => h3 (by rw [e]))]
        simp [h1, h2]
    · rw [show (x.level != y.level) = true by simpa using h2, show decide (x = y) = false from decide_eq_false (fun e => h2 (by rw [e]))]
      simp [h1]
  · rw [show (x.kind != y.kind) = true by simpa using h1, show decide (x = y) = false from decide_eq_false (fun e => h1 (by rw [e])), cond_true]
theorem p_iSameAgent (x y : DAgent) : m_impl_sameAgent x y = some (decide (x = y)) := by
  unfold m_impl_sameAgent
  rw [p_EqInt, Option.bind_some, p_EqPort, Option.bind_some]
  by_cases h1 : x.kind = y.kind
  · by_cases h2 : x.level = y.level
    · by_cases h3 : x.value = y.value
      · by_cases h4 : x.data = y.data
        · have e : decide (x = y) = decide (x.ports = y.ports) := decide_eq_decide.2 (by rw [agentEq]; simp [h1, h2, h3, h4])
          rw [e]; simp [h1, h2, h3, h4]
        · rw [decide_eq_false h4, show decide (x = y) = false from decide_eq_false (fun e => h4 (by rw [e]))]
          simp [h1, h2, h3]
      · rw [show decide (x = y) = false from decide_eq_false (fun e => h3 (by rw [e])), show (x.value == y.value) = false by simpa using h3]
        simp [h1, h2]
    · rw [show decide (x = y) = false from decide_eq_false (fun e => h2 (by rw [e])), show (x.level == y.level) = false by simpa using h2]
      simp [h1]
  · rw [show decide (x = y) = false from decide_eq_false (fun e => h1 (by rw [e])), show (x.kind == y.kind) = false by simpa using h1, cond_false]
theorem netEq (d e : DNet) : decide (d = e) = decide (d.agents = e.agents) := by
  obtain ⟨a⟩ := d
  obtain ⟨b⟩ := e
  exact decide_eq_decide.2 (by simp)
theorem p_sSame (d e : DNet) : m_spec_l11Same d e = some (decide (d = e)) := by
  unfold m_spec_l11Same
  rw [bne_nat, netEq]
  by_cases hl : d.agents.length = e.agents.length
  · rw [decide_eq_true hl, Bool.not_true, cond_false, ← ite_dec]
    exact eqI hl (fun g k hx hy => by
      simp -implicitDefEqProofs only [m_spec_l11Same_L1, m_spec_l11Same_B1, dlt hx, cond_true, getI_nat (List.getElem?_eq_getElem hx), getI_nat (List.getElem?_eq_getElem hy), Option.bind_some, p_sSameAgent]
      by_cases h : d.agents[k] = e.agents[k]
      · rw [if_pos h, decide_eq_true h, cond_true]
      · rw [if_neg h, decide_eq_false h, cond_false])
      (fun g => by simp -implicitDefEqProofs only [m_spec_l11Same_L1, m_spec_l11Same_B1, dge, cond_false, m_spec_l11Same_A1]) _ (Nat.lt_succ_self _)
  · rw [decide_eq_false hl, Bool.not_false, cond_true, decide_len hl]
theorem p_iSame (d e : DNet) : m_impl_SameNet d e = some (decide (d = e)) := by
  unfold m_impl_SameNet m_slices_EqualFunc_impl_Agent_impl_Agent_impl_Agent_impl_Agent
  rw [bne_nat, netEq]
  by_cases hl : d.agents.length = e.agents.length
  · rw [decide_eq_true hl, Bool.not_true, cond_false, ← ite_dec]
    have := eqI (L := fun g k => m_slices_EqualFunc_impl_Agent_impl_Agent_impl_Agent_impl_Agent_L1 d.agents e.agents (fun x0 x1 => m_impl_sameAgent x0 x1) m_slices_EqualFunc_impl_Agent_impl_Agent_impl_Agent_impl_Agent_A1 g k) (no := some false) (yes := some true) hl (fun g k hx hy => by
      simp -implicitDefEqProofs only [m_slices_EqualFunc_impl_Agent_impl_Agent_impl_Agent_impl_Agent_L1, m_slices_EqualFunc_impl_Agent_impl_Agent_impl_Agent_impl_Agent_B1, dlt hx, cond_true, getI_nat (List.getElem?_eq_getElem hx), getI_nat (List.getElem?_eq_getElem hy), Option.bind_some, p_iSameAgent]
      by_cases h : d.agents[k] = e.agents[k]
      · rw [if_pos h, decide_eq_true h, cond_true]
      · rw [if_neg h, decide_eq_false h, cond_false])
      (fun g => by simp -implicitDefEqProofs only [m_slices_EqualFunc_impl_Agent_impl_Agent_impl_Agent_impl_Agent_L1, m_slices_EqualFunc_impl_Agent_impl_Agent_impl_Agent_impl_Agent_B1, dge, cond_false, m_slices_EqualFunc_impl_Agent_impl_Agent_impl_Agent_impl_Agent_A1]) (d.agents.length + 1) (Nat.lt_succ_self _)
    rw [this]
    by_cases h : d.agents = e.agents
    · rw [if_pos h]; rfl
    · rw [if_neg h]; rfl
  · rw [decide_eq_false hl, Bool.not_false, cond_true, decide_len hl, Option.bind_some]
end
section
open Go.RowKit
set_option linter.unusedVariables false
set_option linter.unusedSimpArgs false
noncomputable instance : DecidableEq DType := fun a b => Classical.propDecidable (a = b)
noncomputable instance : DecidableEq DTypedNet := fun a b => Classical.propDecidable (a = b)
/-- Names and rows are not longer than Go's largest length. -/
inductive OkTy : DType → Prop
  | mk {x : DType} (h : x.name.size ≤ maxLen) (hl : x.kids.length ≤ maxLen) (hk : ∀ y, y ∈ x.kids → OkTy y) : OkTy x
theorem OkTy.name {x : DType} (h : OkTy x) : x.name.size ≤ maxLen := by cases h; assumption
theorem OkTy.len {x : DType} (h : OkTy x) : x.kids.length ≤ maxLen := by cases h; assumption
theorem OkTy.kids {x : DType} (h : OkTy x) : ∀ y ∈ x.kids, OkTy y := by cases h; assumption
def OkTyS (xs : List DType) : Prop := xs.length ≤ maxLen ∧ ∀ y ∈ xs, OkTy y
def OkTySS (xs : List (List DType)) : Prop := xs.length ≤ maxLen ∧ ∀ y ∈ xs, OkTyS y
theorem maxLen_le {n : Nat} (h : n ≤ maxLen) : n ≤ 9223372036854775807 := by unfold maxLen at h; omega
mutual
def szType : DType → Nat
  | ⟨_, n, ks⟩ => n.size + (ks.length + szTypeL ks)
def szTypeL : List DType → Nat
  | [] => 0
  | x :: xs => szType x + szTypeL xs
end
def szTypeS (xs : List DType) : Nat := xs.length + szTypeL xs
def szTypeSS (xs : List (List DType)) : Nat := xs.length + (xs.map szTypeS).sum
theorem szType_eq (x : DType) : szType x = x.name.size + szTypeS x.kids := by
  obtain ⟨a, b, c⟩ := x
  rw [szType]; rfl
theorem szTypeL_eq : ∀ xs : List DType, szTypeL xs = (xs.map szType).sum
  | [] => by rw [szTypeL]; rfl
  | x :: xs => by rw [szTypeL, szTypeL_eq xs, List.map_cons, List.sum_cons]
theorem szTypeS_eq (xs : List DType) : szTypeS xs = xs.length + (xs.map szType).sum := by unfold szTypeS; rw [szTypeL_eq]
theorem sz_kids (x : DType) : SizeOf.sizeOf x.kids < SizeOf.sizeOf x := by
  obtain ⟨a, b, c⟩ := x
  simp only [DType.mk.sizeOf_spec]
  omega
theorem sz_posS (xs : List DType) : 0 < SizeOf.sizeOf xs := by cases xs <;> simp <;> omega
theorem szL_step {left : Int} {a b : Nat} : (if szL left a < 0 then -1 else szL (szL left a) b) = szL left (a + b) := by
  unfold szL
  by_cases h : left - a < 0
  · rw [if_pos h, if_pos (by decide), if_pos (by omega)]
  · rw [if_neg h, if_neg h]
    by_cases h2 : left - a - b < 0
    · rw [if_pos h2, if_pos (by omega)]
    · rw [if_neg h2, if_neg (by omega)]; omega
/-- A loop that takes sizes away. -/
theorem subI {α : Type} {L : Nat → Int → Int → Option Int} {d : List α} {s : α → Nat} {ok : α → Prop} (h : ∀ g (k : Nat) x left, d[k]? = some x → 0 ≤ left → left ≤ 1048576 → L (g + 1) left (k : Int) = bif decide (szL left (s x) < 0) then some (-1) else L g (szL left (s x)) ((k : Int) + 1)) (he : ∀ g left, L (g + 1) left (d.length : Int) = some left) :
    ∀ (m k g : Nat) (left : Int), k + m = d.length → m < g → 0 ≤ left → left ≤ 1048576 → L g left (k : Int) = some (szL left ((d.drop k).map s).sum) := by
  intro m
  induction m with
  | zero =>
    intro k g left hk hg h0 h1
    obtain ⟨g, rfl⟩ : ∃ g', g = g' + 1 := ⟨g - 1, by omega⟩
    rw [show k = d.length by omega, he, List.drop_length]
    simp [szL]; omega
  | succ m ih =>
    intro k g left hk hg h0 h1
    obtain ⟨g, rfl⟩ : ∃ g', g = g' + 1 := ⟨g - 1, by omega⟩
    have hx := List.getElem?_eq_getElem (show k < d.length by omega)
    rw [h g k _ left hx h0 h1, List.drop_eq_getElem_cons (show k < d.length by omega), List.map_cons, List.sum_cons, ← szL_step]
    by_cases hn : szL left (s d[k]) < 0
    · rw [decide_eq_true hn, cond_true, if_pos hn]
    · rw [decide_eq_false hn, cond_false, if_neg hn]
      have hle : szL left (s d[k]) ≤ 1048576 := by unfold szL; split <;> omega
      exact ih (k + 1) g _ (by omega) (by omega) (by omega) hle
theorem p_szTy : ∀ gas : Nat, (∀ (xs : List DType) (left : Int), SizeOf.sizeOf xs ≤ gas → OkTyS xs → 0 ≤ left → left ≤ 1048576 → m_laws_szTypeS gas xs left = some (szL left (szTypeS xs))) ∧ (∀ (x : DType) (left : Int), SizeOf.sizeOf x ≤ gas → OkTy x → 0 ≤ left → left ≤ 1048576 → m_laws_szType gas x left = some (szL left (szType x)))
  | 0 => ⟨fun xs left h => by have := sz_posS xs; omega, fun x left h => by have := x.pos; omega⟩
  | gas + 1 => by
    obtain ⟨i1, i2⟩ := p_szTy gas
    refine ⟨fun xs left hg ho h0 h1 => ?_, fun x left hg ho h0 h1 => ?_⟩
    · have e : m_laws_szTypeS (gas + 1) xs left = m_laws_szTypeS_R (m_laws_szTypeS gas) (m_laws_szType gas) xs left := rfl
      rw [e, szTypeS_eq]
      unfold m_laws_szTypeS_R
      have hl := maxLen_le ho.1
      rw [ck_ok (by omega), Option.bind_some]
      by_cases hn : left - (xs.length : Int) < 0
      · rw [decide_eq_true hn, cond_true, szL_neg (by omega)]
      · rw [decide_eq_false hn, cond_false]
        have key := subI (L := m_laws_szTypeS_L1 (m_laws_szType gas) xs m_laws_szTypeS_A1) (d := xs) (s := szType) (ok := OkTy)
          (fun g k x left hx h0 h1 => by
            have hm := List.mem_of_getElem? hx
            have hs := List.sizeOf_lt_of_mem hm
            simp -implicitDefEqProofs only [m_laws_szTypeS_L1, m_laws_szTypeS_B1, dlt (lt_of_some hx), cond_true, getI_nat hx, Option.bind_some, i2 x left (by omega) (ho.2 x hm) h0 h1])
          (fun g left => by simp -implicitDefEqProofs only [m_laws_szTypeS_L1, m_laws_szTypeS_B1, dge, cond_false, m_laws_szTypeS_A1])
          xs.length 0 (xs.length + 1) (left - xs.length) (by omega) (by omega) (by omega) (by omega)
        refine key.trans ?_
        rw [List.drop_zero]
        congr 1
        rw [← szL_step, szL_pos hn, if_neg hn]
    · have e : m_laws_szType (gas + 1) x left = m_laws_szType_R (m_laws_szTypeS gas) (m_laws_szType gas) x left := rfl
      rw [e, szType_eq]
      unfold m_laws_szType_R
      have hl := maxLen_le ho.name
      have hk := sz_kids x
      rw [ck_ok (by omega), Option.bind_some]
      by_cases hn : left - (x.name.size : Int) < 0
      · rw [decide_eq_true hn, cond_true, szL_neg (by omega)]
      · rw [decide_eq_false hn, cond_false, i1 _ _ (by omega) ⟨ho.len, ho.kids⟩ (by omega) (by omega), Option.bind_some, ← szL_step, szL_pos hn, if_neg hn]
        by_cases h2 : szL (left - (x.name.size : Int)) (szTypeS x.kids) < 0
        · rw [decide_eq_true h2, cond_true]
          congr 1
          unfold szL at h2 ⊢
          split at h2
          · rename_i h3; rw [if_pos h3]
          · rename_i h3; omega
        · rw [decide_eq_false h2, cond_false]
theorem nameEq (a b : ByteArray) : (a.toList == b.toList) = decide (a = b) := by
  by_cases h : a = b
  · subst h; simp
  · rw [decide_eq_false h, beq_eq_false_iff_ne]
    intro e
    rw [ByteArray.toList_eq, ByteArray.toList_eq] at e
    exact h (Go.WideShapes.bytes_inj e)
theorem typeEq (x y : DType) : (x = y) ↔ (x.kind = y.kind ∧ x.name = y.name ∧ x.kids = y.kids) := by
  obtain ⟨a, b, c⟩ := x
  obtain ⟨a', b', c'⟩ := y
  simp
theorem typeDec (x y : DType) : decide (x = y) = (x.kind == y.kind && decide (x.name = y.name) && decide (x.kids = y.kids)) := by
  rw [Bool.eq_iff_iff]
  simp only [decide_eq_true_eq, Bool.and_eq_true, beq_iff_eq]
  rw [typeEq, and_assoc]
/-- A loop that asks whether two rows are equal, element by element. -/
theorem rowEq {α : Type} [DecidableEq α] {L : Nat → Int → Option Bool} {xs ys : List α} {q : α → α → Option Bool} (hl : xs.length = ys.length) (hq : ∀ x ∈ xs, ∀ y, q x y = some (decide (x = y)))
    (h : ∀ g (k : Nat) (hx : k < xs.length) (hy : k < ys.length), L (g + 1) (k : Int) = (q xs[k] ys[k]).bind fun b => bif b then L g ((k : Int) + 1) else some false) (he : ∀ g, L (g + 1) (xs.length : Int) = some true) : L (xs.length + 1) 0 = some (decide (xs = ys)) := by
  rw [← ite_dec]
  refine eqI hl (fun g k hx hy => ?_) he _ (Nat.lt_succ_self _)
  rw [h g k hx hy, hq _ (List.getElem_mem hx), Option.bind_some]
  by_cases h2 : xs[k] = ys[k]
  · rw [if_pos h2, decide_eq_true h2, cond_true]
  · rw [if_neg h2, decide_eq_false h2, cond_false]
theorem p_eqTy : ∀ gas : Nat, (∀ (xs ys : List DType), SizeOf.sizeOf xs ≤ gas → m_laws_eqTypeS gas xs ys = some (decide (xs = ys))) ∧ (∀ (x y : DType), SizeOf.sizeOf x ≤ gas → m_laws_eqType gas x y = some (decide (x = y)))
  | 0 => ⟨fun xs ys h => by have := sz_posS xs; omega, fun x y h => by have := x.pos; omega⟩
  | gas + 1 => by
    obtain ⟨i1, i2⟩ := p_eqTy gas
    refine ⟨fun xs ys hg => ?_, fun x y hg => ?_⟩
    · have e : m_laws_eqTypeS (gas + 1) xs ys = m_laws_eqTypeS_R (m_laws_eqTypeS gas) (m_laws_eqType gas) xs ys := rfl
      rw [e]
      unfold m_laws_eqTypeS_R
      rw [bne_nat]
      by_cases hl : xs.length = ys.length
      · rw [decide_eq_true hl, Bool.not_true, cond_false]
        exact rowEq (L := m_laws_eqTypeS_L1 (m_laws_eqType gas) xs ys m_laws_eqTypeS_A1) (q := m_laws_eqType gas) hl (fun x hx y => i2 x y (by have := List.sizeOf_lt_of_mem hx; omega))
          (fun g k hx hy => by simp -implicitDefEqProofs only [m_laws_eqTypeS_L1, m_laws_eqTypeS_B1, dlt hx, cond_true, getI_nat (List.getElem?_eq_getElem hx), getI_nat (List.getElem?_eq_getElem hy), Option.bind_some])
          (fun g => by simp -implicitDefEqProofs only [m_laws_eqTypeS_L1, m_laws_eqTypeS_B1, dge, cond_false, m_laws_eqTypeS_A1])
      · rw [decide_eq_false hl, Bool.not_false, cond_true, decide_len hl]
    · have e : m_laws_eqType (gas + 1) x y = m_laws_eqType_R (m_laws_eqTypeS gas) (m_laws_eqType gas) x y := rfl
      have hk := sz_kids x
      rw [e, typeDec]
      unfold m_laws_eqType_R
      rw [i1 _ _ (by omega), Option.bind_some, nameEq, show (x.kind != y.kind) = !(x.kind == y.kind) from rfl]
      cases h1 : x.kind == y.kind <;> cases decide (x.name = y.name) <;> cases decide (x.kids = y.kids) <;> rfl
theorem p_sSameTy : ∀ (gas : Nat) (x y : DType), SizeOf.sizeOf x ≤ gas → m_spec_SameType gas x y = some (decide (x = y))
  | 0, x, y, h => by have := x.pos; omega
  | gas + 1, x, y, hg => by
    have ih := p_sSameTy gas
    have e : m_spec_SameType (gas + 1) x y = m_spec_SameType_R (m_spec_SameType gas) x y := rfl
    have hk := sz_kids x
    rw [e, typeDec]
    unfold m_spec_SameType_R
    rw [nameEq, bne_nat, show (x.kind != y.kind) = !(x.kind == y.kind) from rfl]
    by_cases hl : x.kids.length = y.kids.length
    · have key := rowEq (L := m_spec_SameType_L1 x y (m_spec_SameType gas) m_spec_SameType_A1) (q := m_spec_SameType gas) hl (fun a ha b => ih a b (by have := List.sizeOf_lt_of_mem ha; omega))
          (fun g k hx hy => by simp -implicitDefEqProofs only [m_spec_SameType_L1, m_spec_SameType_B1, dlt hx, cond_true, getI_nat (List.getElem?_eq_getElem hx), getI_nat (List.getElem?_eq_getElem hy), Option.bind_some])
          (fun g => by simp -implicitDefEqProofs only [m_spec_SameType_L1, m_spec_SameType_B1, dge, cond_false, m_spec_SameType_A1])
      rw [key, decide_eq_true hl, Bool.not_true, cond_false]
      cases h1 : x.kind == y.kind <;> cases decide (x.name = y.name) <;> cases decide (x.kids = y.kids) <;> rfl
    · rw [decide_len hl, decide_eq_false hl, Bool.not_false, cond_true]
      cases h1 : x.kind == y.kind <;> cases decide (x.name = y.name) <;> rfl
theorem p_sSameTyS (xs ys : List DType) : m_spec_l03SameTypes xs ys = some (decide (xs = ys)) := by
  unfold m_spec_l03SameTypes
  rw [bne_nat]
  by_cases hl : xs.length = ys.length
  · rw [decide_eq_true hl, Bool.not_true, cond_false]
    exact rowEq (L := m_spec_l03SameTypes_L1 xs ys m_spec_l03SameTypes_A1) (q := fun x y => m_spec_SameType (SizeOf.sizeOf x) x y) hl (fun x hx y => p_sSameTy _ x y (Nat.le_refl _))
      (fun g k hx hy => by simp -implicitDefEqProofs only [m_spec_l03SameTypes_L1, m_spec_l03SameTypes_B1, dlt hx, cond_true, getI_nat (List.getElem?_eq_getElem hx), getI_nat (List.getElem?_eq_getElem hy), Option.bind_some])
      (fun g => by simp -implicitDefEqProofs only [m_spec_l03SameTypes_L1, m_spec_l03SameTypes_B1, dge, cond_false, m_spec_l03SameTypes_A1])
  · rw [decide_eq_false hl, Bool.not_false, cond_true, decide_len hl]
theorem p_EqFTy (xs ys : List DType) (q : DType → DType → Option Bool) (hq : ∀ x ∈ xs, ∀ y, q x y = some (decide (x = y))) : m_slices_EqualFunc_impl_Type_impl_Type_impl_Type_impl_Type xs ys q = some (decide (xs = ys)) := by
  unfold m_slices_EqualFunc_impl_Type_impl_Type_impl_Type_impl_Type
  rw [bne_nat]
  by_cases hl : xs.length = ys.length
  · rw [decide_eq_true hl, Bool.not_true, cond_false]
    exact rowEq (L := m_slices_EqualFunc_impl_Type_impl_Type_impl_Type_impl_Type_L1 xs ys q m_slices_EqualFunc_impl_Type_impl_Type_impl_Type_impl_Type_A1) (q := q) hl hq
      (fun g k hx hy => by simp -implicitDefEqProofs only [m_slices_EqualFunc_impl_Type_impl_Type_impl_Type_impl_Type_L1, m_slices_EqualFunc_impl_Type_impl_Type_impl_Type_impl_Type_B1, dlt hx, cond_true, getI_nat (List.getElem?_eq_getElem hx), getI_nat (List.getElem?_eq_getElem hy), Option.bind_some])
      (fun g => by simp -implicitDefEqProofs only [m_slices_EqualFunc_impl_Type_impl_Type_impl_Type_impl_Type_L1, m_slices_EqualFunc_impl_Type_impl_Type_impl_Type_impl_Type_B1, dge, cond_false, m_slices_EqualFunc_impl_Type_impl_Type_impl_Type_impl_Type_A1])
  · rw [decide_eq_false hl, Bool.not_false, cond_true, decide_len hl]
theorem p_iSameTy : ∀ (gas : Nat) (x y : DType), SizeOf.sizeOf x ≤ gas → m_impl_SameType gas x y = some (decide (x = y))
  | 0, x, y, h => by have := x.pos; omega
  | gas + 1, x, y, hg => by
    have ih := p_iSameTy gas
    have e : m_impl_SameType (gas + 1) x y = m_impl_SameType_R (m_impl_SameType gas) x y := rfl
    have hk := sz_kids x
    rw [e, typeDec]
    unfold m_impl_SameType_R
    rw [nameEq, p_EqFTy _ _ _ (fun a ha b => ih a b (by have := List.sizeOf_lt_of_mem ha; omega)), Option.bind_some]
    cases h1 : x.kind == y.kind <;> cases decide (x.name = y.name) <;> cases decide (x.kids = y.kids) <;> rfl
theorem p_iSameTyS (xs ys : List DType) : m_impl_sameTypes xs ys = some (decide (xs = ys)) := by
  unfold m_impl_sameTypes
  rw [p_EqFTy _ _ _ (fun a ha b => p_iSameTy _ a b (Nat.le_refl _)), Option.bind_some]
theorem p_toTy : ∀ gas : Nat, (∀ (xs : List DType), SizeOf.sizeOf xs ≤ gas → szTypeS xs ≤ 1048576 → m_laws_toTypeS gas xs = some xs) ∧ (∀ (x : DType), SizeOf.sizeOf x ≤ gas → szType x ≤ 1048576 → m_laws_toType gas x = some x)
  | 0 => ⟨fun xs h => by have := sz_posS xs; omega, fun x h => by have := x.pos; omega⟩
  | gas + 1 => by
    obtain ⟨i1, i2⟩ := p_toTy gas
    refine ⟨fun xs hg hs => ?_, fun x hg hs => ?_⟩
    · have e : m_laws_toTypeS (gas + 1) xs = m_laws_toTypeS_R (m_laws_toTypeS gas) (m_laws_toType gas) xs := rfl
      rw [szTypeS_eq] at hs
      rw [e]
      unfold m_laws_toTypeS_R
      rw [mustP_ok (by omega), Option.bind_some]
      refine copyI (L := m_laws_toTypeS_L1 (m_laws_toType gas) xs m_laws_toTypeS_A1) (K := some)
        (fun g k acc hk hg2 => ?_)
        (fun g acc => by simp -implicitDefEqProofs only [m_laws_toTypeS_L1, m_laws_toTypeS_B1, dge, cond_false, m_laws_toTypeS_A1])
      have hm := List.getElem_mem hk
      have h1 := List.sizeOf_lt_of_mem hm
      have h2 := sum_mem (f := szType) hm
      simp -implicitDefEqProofs only [m_laws_toTypeS_L1, m_laws_toTypeS_B1, dlt hk, cond_true, getI_nat (List.getElem?_eq_getElem hk), Option.bind_some, hg2, i2 xs[k] (by omega) (by omega)]
    · have e : m_laws_toType (gas + 1) x = m_laws_toType_R (m_laws_toTypeS gas) (m_laws_toType gas) x := rfl
      have hk := sz_kids x
      rw [szType_eq] at hs
      rw [e]
      unfold m_laws_toType_R
      rw [i1 _ (by omega) (by omega), Option.bind_some]
      cases x; rfl
end
section
open Go.RowKit
set_option linter.unusedVariables false
set_option linter.unusedSimpArgs false
def szTypedNet (x : DTypedNet) : Nat := szNet x.net + szTypeSS x.types
noncomputable instance : DecidableEq DNet := inferInstance
theorem p_szTySS (xs : List (List DType)) (left : Int) (ho : OkTySS xs) (h0 : 0 ≤ left) (h1 : left ≤ 1048576) : m_laws_szTypeSS xs left = some (szL left (szTypeSS xs)) := by
  unfold m_laws_szTypeSS szTypeSS
  have hl := maxLen_le ho.1
  rw [ck_ok (by omega), Option.bind_some]
  by_cases hn : left - (xs.length : Int) < 0
  · rw [decide_eq_true hn, cond_true, szL_neg (by omega)]
  · rw [decide_eq_false hn, cond_false]
    have key := subI (L := m_laws_szTypeSS_L1 xs m_laws_szTypeSS_A1) (d := xs) (s := szTypeS) (ok := OkTyS)
      (fun g k x left hx h0 h1 => by
        have hm := List.mem_of_getElem? hx
        simp -implicitDefEqProofs only [m_laws_szTypeSS_L1, m_laws_szTypeSS_B1, dlt (lt_of_some hx), cond_true, getI_nat hx, Option.bind_some, (p_szTy _).1 x left (Nat.le_refl _) (ho.2 x hm) h0 h1])
      (fun g left => by simp -implicitDefEqProofs only [m_laws_szTypeSS_L1, m_laws_szTypeSS_B1, dge, cond_false, m_laws_szTypeSS_A1])
      xs.length 0 (xs.length + 1) (left - xs.length) (by omega) (by omega) (by omega) (by omega)
    refine key.trans ?_
    rw [List.drop_zero]
    congr 1
    rw [← szL_step, szL_pos hn, if_neg hn]
theorem p_szTypedNet (x : DTypedNet) (left : Int) (ho : OkTySS x.types) (h0 : 0 ≤ left) (h1 : left ≤ 1048576) : m_laws_szTypedNet x left = some (szL left (szTypedNet x)) := by
  unfold m_laws_szTypedNet szNetM szTypedNet
  rw [mustP_ok ⟨h0, h1⟩, Option.bind_some, Option.bind_some, ← szL_step]
  show (bif decide (szL left (szNet x.net) < 0) then _ else _) = _
  by_cases hn : szL left (szNet x.net) < 0
  · rw [decide_eq_true hn, cond_true, if_pos hn]
  · have hle : szL left (szNet x.net) ≤ 1048576 := by unfold szL; split <;> omega
    rw [decide_eq_false hn, cond_false, if_neg hn]
    show ((m_laws_szTypeSS x.types (szL left (szNet x.net))).bind _) = _
    rw [p_szTySS _ _ ho (by omega) hle, Option.bind_some]
    by_cases h2 : szL (szL left (szNet x.net)) (szTypeSS x.types) < 0
    · rw [decide_eq_true h2, cond_true]
      congr 1
      generalize szL left (szNet x.net) = l at h2 ⊢
      unfold szL at h2 ⊢
      split at h2
      · rename_i h3; rw [if_pos h3]
      · rename_i h3; omega
    · rw [decide_eq_false h2, cond_false]
theorem p_eqTySS (xs ys : List (List DType)) : m_laws_eqTypeSS xs ys = some (decide (xs = ys)) := by
  unfold m_laws_eqTypeSS
  rw [bne_nat]
  by_cases hl : xs.length = ys.length
  · rw [decide_eq_true hl, Bool.not_true, cond_false]
    exact rowEq (L := m_laws_eqTypeSS_L1 xs ys m_laws_eqTypeSS_A1) (q := fun x y => m_laws_eqTypeS (SizeOf.sizeOf x) x y) hl (fun x hx y => (p_eqTy _).1 x y (Nat.le_refl _))
      (fun g k hx hy => by simp -implicitDefEqProofs only [m_laws_eqTypeSS_L1, m_laws_eqTypeSS_B1, dlt hx, cond_true, getI_nat (List.getElem?_eq_getElem hx), getI_nat (List.getElem?_eq_getElem hy), Option.bind_some])
      (fun g => by simp -implicitDefEqProofs only [m_laws_eqTypeSS_L1, m_laws_eqTypeSS_B1, dge, cond_false, m_laws_eqTypeSS_A1])
  · rw [decide_eq_false hl, Bool.not_false, cond_true, decide_len hl]
theorem typedDec (x y : DTypedNet) : decide (x = y) = (decide (x.net = y.net) && decide (x.types = y.types)) := by
  rw [Bool.eq_iff_iff]
  simp only [decide_eq_true_eq, Bool.and_eq_true]
  obtain ⟨a, b⟩ := x
  obtain ⟨c, d⟩ := y
  simp
theorem p_eqTypedNet (x y : DTypedNet) : m_laws_eqTypedNet x y = some (decide (x = y)) := by
  unfold m_laws_eqTypedNet eqNetM
  rw [p_eqTySS, Option.bind_some, Option.bind_some, typedDec]
  show (bif decide (x.net = y.net) then _ else _) = _
  cases decide (x.net = y.net) <;> cases decide (x.types = y.types) <;> rfl
theorem p_sSameTyped (x y : DTypedNet) : m_spec_SameTyped x y = some (decide (x = y)) := by
  unfold m_spec_SameTyped
  rw [p_sSame, Option.bind_some, bne_nat, typedDec]
  show (bif decide (x.net = y.net) then _ else _) = _
  by_cases hl : x.types.length = y.types.length
  · have key := rowEq (L := m_spec_SameTyped_L1 x y m_spec_SameTyped_A1) (q := m_spec_l03SameTypes) hl (fun x hx y => p_sSameTyS x y)
      (fun g k hx hy => by simp -implicitDefEqProofs only [m_spec_SameTyped_L1, m_spec_SameTyped_B1, dlt hx, cond_true, getI_nat (List.getElem?_eq_getElem hx), getI_nat (List.getElem?_eq_getElem hy), Option.bind_some])
      (fun g => by simp -implicitDefEqProofs only [m_spec_SameTyped_L1, m_spec_SameTyped_B1, dge, cond_false, m_spec_SameTyped_A1])
    rw [key, decide_eq_true hl, Bool.not_true, cond_false]
    cases decide (x.net = y.net) <;> rfl
  · rw [decide_eq_false hl, Bool.not_false, cond_true, decide_len hl]
    cases decide (x.net = y.net) <;> rfl
theorem p_iSameTyped (x y : DTypedNet) : m_impl_SameTyped x y = some (decide (x = y)) := by
  unfold m_impl_SameTyped
  have h2 : m_slices_EqualFunc_SS_impl_Type_SS_impl_Type_impl_Type_impl_Type x.types y.types (fun x0 x1 => m_impl_sameTypes x0 x1) = some (decide (x.types = y.types)) := by
    unfold m_slices_EqualFunc_SS_impl_Type_SS_impl_Type_impl_Type_impl_Type
    rw [bne_nat]
    by_cases hl : x.types.length = y.types.length
    · rw [decide_eq_true hl, Bool.not_true, cond_false]
      exact rowEq (L := m_slices_EqualFunc_SS_impl_Type_SS_impl_Type_impl_Type_impl_Type_L1 x.types y.types (fun x0 x1 => m_impl_sameTypes x0 x1) m_slices_EqualFunc_SS_impl_Type_SS_impl_Type_impl_Type_impl_Type_A1) (q := m_impl_sameTypes) hl (fun x hx y => p_iSameTyS x y)
        (fun g k hx hy => by simp -implicitDefEqProofs only [m_slices_EqualFunc_SS_impl_Type_SS_impl_Type_impl_Type_impl_Type_L1, m_slices_EqualFunc_SS_impl_Type_SS_impl_Type_impl_Type_impl_Type_B1, dlt hx, cond_true, getI_nat (List.getElem?_eq_getElem hx), getI_nat (List.getElem?_eq_getElem hy), Option.bind_some])
        (fun g => by simp -implicitDefEqProofs only [m_slices_EqualFunc_SS_impl_Type_SS_impl_Type_impl_Type_impl_Type_L1, m_slices_EqualFunc_SS_impl_Type_SS_impl_Type_impl_Type_impl_Type_B1, dge, cond_false, m_slices_EqualFunc_SS_impl_Type_SS_impl_Type_impl_Type_impl_Type_A1])
    · rw [decide_eq_false hl, Bool.not_false, cond_true, decide_len hl]
  rw [p_iSame, Option.bind_some, h2, Option.bind_some, typedDec]
  show (bif decide (x.net = y.net) then _ else _) = _
  cases decide (x.net = y.net) <;> rfl
theorem p_toPortS (xs : List DPort) (hs : xs.length ≤ 1048576) : m_laws_toPortS xs = some xs := by
  unfold m_laws_toPortS
  rw [mustP_ok (by omega), Option.bind_some]
  exact copyI (L := m_laws_toPortS_L1 xs m_laws_toPortS_A1) (K := some)
    (fun g k acc hk hg => by simp -implicitDefEqProofs only [m_laws_toPortS_L1, m_laws_toPortS_B1, dlt hk, cond_true, getI_lt hk, Option.bind_some, hg, m_laws_toPort])
    (fun g acc => by simp -implicitDefEqProofs only [m_laws_toPortS_L1, m_laws_toPortS_B1, dge, cond_false, m_laws_toPortS_A1])
theorem p_toInt64S (xs : List Int) (hs : xs.length ≤ 1048576) : m_laws_toInt64S xs = some xs := by
  unfold m_laws_toInt64S
  rw [mustP_ok (by omega), Option.bind_some]
  exact copyI (L := m_laws_toInt64S_L1 xs m_laws_toInt64S_A1) (K := some)
    (fun g k acc hk hg => by simp -implicitDefEqProofs only [m_laws_toInt64S_L1, m_laws_toInt64S_B1, dlt hk, cond_true, getI_lt hk, Option.bind_some, hg])
    (fun g acc => by simp -implicitDefEqProofs only [m_laws_toInt64S_L1, m_laws_toInt64S_B1, dge, cond_false, m_laws_toInt64S_A1])
theorem p_toAgent (x : DAgent) (hs : szAgent x ≤ 1048576) : m_laws_toAgent x = some x := by
  have e : szAgent x = x.data.length + x.ports.length := rfl
  unfold m_laws_toAgent
  rw [p_toInt64S _ (by omega), Option.bind_some, p_toPortS _ (by omega), Option.bind_some]
theorem p_toNet (x : DNet) (hs : szNet x ≤ 1048576) : m_laws_toNet x = some x := by
  have e : szNet x = szAgentS x.agents := rfl
  have e2 : szAgentS x.agents = x.agents.length + (x.agents.map szAgent).sum := rfl
  unfold m_laws_toNet m_laws_toAgentS
  rw [mustP_ok (by omega), Option.bind_some]
  have key := copyI (L := m_laws_toAgentS_L1 x.agents m_laws_toAgentS_A1) (K := some) (z := (⟨0, 0, 0, [], []⟩ : DAgent)) (xs := x.agents)
    (fun g k acc hk hg => by
      have hm := sum_mem (f := szAgent) (List.getElem_mem hk)
      simp -implicitDefEqProofs only [m_laws_toAgentS_L1, m_laws_toAgentS_B1, dlt hk, cond_true, getI_lt hk, Option.bind_some, hg, p_toAgent x.agents[k] (by omega)])
    (fun g acc => by simp -implicitDefEqProofs only [m_laws_toAgentS_L1, m_laws_toAgentS_B1, dge, cond_false, m_laws_toAgentS_A1])
  rw [key, Option.bind_some]
theorem p_toTypedNet (x : DTypedNet) (hs : szTypedNet x ≤ 1048576) : m_laws_toTypedNet x = some x := by
  unfold szTypedNet szTypeSS at hs
  have key : m_laws_toTypeSS x.types = some x.types := by
    unfold m_laws_toTypeSS
    rw [mustP_ok (by omega), Option.bind_some]
    exact copyI (L := m_laws_toTypeSS_L1 x.types m_laws_toTypeSS_A1) (K := some)
      (fun g k acc hk hg => by
        have hm := sum_mem (f := szTypeS) (List.getElem_mem hk)
        simp -implicitDefEqProofs only [m_laws_toTypeSS_L1, m_laws_toTypeSS_B1, dlt hk, cond_true, getI_lt hk, Option.bind_some, hg, (p_toTy _).1 x.types[k] (Nat.le_refl _) (by omega)])
      (fun g acc => by simp -implicitDefEqProofs only [m_laws_toTypeSS_L1, m_laws_toTypeSS_B1, dge, cond_false, m_laws_toTypeSS_A1])
  unfold m_laws_toTypedNet
  have h2 := p_toNet x.net (by omega)
  show ((m_laws_toNet x.net).bind _) = _
  rw [h2, Option.bind_some, key, Option.bind_some]
end
section
open Go.RowKit
set_option linter.unusedVariables false
theorem Blk.only {w w' : World} {g lo hi : Nat} {t : TypeId} {cs : Array Value} (h : Blk w g t cs) (ho : OnlyIn lo hi w w') (hg : g < lo ∨ hi ≤ g) : Blk w' g t cs := (ho.block g hg).trans h
end
section
open Go.RowKit
set_option linter.unusedVariables false
set_option linter.unusedSimpArgs false
theorem portsOf_kind {k f : Int} (h : 0 < portsOf k f) : 1 ≤ k ∧ k ≤ 12 := by
  unfold portsOf at h
  split at h
  · omega
  · split at h
    · omega
    · split at h
      · omega
      · split at h
        · omega
        · split at h <;> omega
structure Good (xs : List DAgent) : Prop where
  one : 1 ≤ xs.length
  len : xs.length ≤ 600
  ok : ∀ (i : Nat) (x : DAgent), xs[i]? = some x → agentOk x = true
  root : ∀ (i : Nat) (x : DAgent), xs[i]? = some x → (x.kind = 1 ↔ i = 0)
  ports : PortsOk xs
theorem good {d : DNet} (h : validNet d = true) : Good d.agents := by
  obtain ⟨⟨h1, h2, h3⟩, h4⟩ := validNet_iff.1 h
  exact ⟨h1, h2, fun i x hx => (h3 i x hx).1, fun i x hx => by have := (h3 i x hx).2; simpa using this, h4⟩
theorem agentOk_pos {x : DAgent} (h : agentOk x = true) : 0 < x.ports.length ∧ 1 ≤ x.kind ∧ x.kind ≤ 12 := by
  unfold agentOk at h
  simp only [Bool.and_eq_true, decide_eq_true_eq] at h
  have := portsOf_kind h.1.1.1
  omega
theorem Good.pos {xs : List DAgent} (G : Good xs) {i : Nat} {x : DAgent} (hx : xs[i]? = some x) : 0 < x.ports.length := (agentOk_pos (G.ok i x hx)).1
def before (p q : DPort) : Bool := decide (p.agent < q.agent) || (p.agent == q.agent && decide (p.slot < q.slot))
end
section
open Go.RowKit
set_option linter.unusedVariables false
theorem ownTN {e e' : TypeId} {w : World} {lo : Nat} {v u : Value} {d : DTypedNet} {bs cs : List Nat} (h : OwN e agentOw 5 w lo v d.net.agents bs) (h' : OwN e' (slOw typeOw 3) 1 w lo u d.types cs) (D : Ap bs cs) : OwT typedNetOw w (.agg #[v, u]) d lo w.heap.size := by
  obtain ⟨A, n, c, l, rfl, h1, h2, h3, r⟩ := h.own1 agentOw_ok
  obtain ⟨A', n', c', l', rfl, h1', h2', h3', r'⟩ := h'.own1 (slOw_ok typeOw_ok)
  refine ⟨[.slice A n c, .slice A' n' c'], l ++ l', rfl, ⟨A, n, c, A', n', c', l, l', rfl, ⟨h1, r⟩, ⟨h1', r'⟩, rfl⟩, List.nodup_append.2 ⟨h2, h2', fun a ha b hb e => D a (h3 a ha) (e ▸ h3' b hb)⟩, fun b hb => ?_⟩
  rcases List.mem_append.1 hb with hb | hb
  · exact ⟨h.lo_ b (h3 b hb), h.hi b (h3 b hb)⟩
  · exact ⟨h'.lo_ b (h3' b hb), h'.hi b (h3' b hb)⟩
theorem szTypedNet_v (v : Value) (x : DTypedNet) (left : Int) (w : World) {B : Nat} (h : RdT typedNetRd w B v x) (hB : B ≤ w.heap.size) (h0 : 0 ≤ left) (h1 : left ≤ 1048576) (ho : OkTySS x.types := by assumption) :
    Calls Try.prog 24 #[v, .int .i64 left] w fun e w' => e = .returned (.int .i64 (szL left (szTypedNet x))) ∧ Below w.heap.size w w' :=
  c_m_laws_szTypedNet x left _ (p_szTypedNet x left ho h0 h1) v w (h.more typedNetRd_ok hB)
theorem toTypedNet_v (v : Value) (x : DTypedNet) (w : World) {B : Nat} (h : RdT typedNetRd w B v x) (hB : B ≤ w.heap.size) (hs : szTypedNet x ≤ 1048576) :
    Calls Try.prog 26 #[v] w fun e w' => Ret1 (fun v' => OwT typedNetOw w' v' x w.heap.size w'.heap.size) e ∧ Below w.heap.size w w' :=
  (c_m_laws_toTypedNet x _ (p_toTypedNet x hs) v w (h.more typedNetRd_ok hB)).mono fun e w' ⟨⟨v0, bs0, v1, bs1, he, h1, h2, D⟩, hb⟩ => ⟨⟨_, he, ownTN h1 h2 D⟩, hb⟩
theorem eqTypedNet_v (v u : Value) (x y : DTypedNet) (w : World) {B B' : Nat} (h : RdT typedNetRd w B v x) (h' : RdT typedNetRd w B' u y) (hB : B ≤ w.heap.size) (hB' : B' ≤ w.heap.size) :
    Calls Try.prog 28 #[v, u] w fun e w' => e = .returned (.bool (decide (x = y))) ∧ Below w.heap.size w w' :=
  c_m_laws_eqTypedNet x y _ (p_eqTypedNet x y) v u w (h.more typedNetRd_ok hB) (h'.more typedNetRd_ok hB')
theorem specSameTyped_v (v u : Value) (x y : DTypedNet) (w : World) {B B' : Nat} (h : RdT typedNetRd w B v x) (h' : RdT typedNetRd w B' u y) (hB : B ≤ w.heap.size) (hB' : B' ≤ w.heap.size) (hs : szTypedNet x ≤ 1048576) (hs' : szTypedNet y ≤ 1048576) :
    Calls Try.prog 25 #[v, u] w fun e w' => e = .returned (.bool (decide (x = y))) ∧ Below w.heap.size w w' :=
  c_m_spec_SameTyped x y _ (p_sSameTyped x y) v u w (h.more typedNetRd_ok hB) (h'.more typedNetRd_ok hB')
theorem implSameTyped_v (v u : Value) (x y : DTypedNet) (w : World) {B B' : Nat} (h : RdT typedNetRd w B v x) (h' : RdT typedNetRd w B' u y) (hB : B ≤ w.heap.size) (hB' : B' ≤ w.heap.size) (hs : szTypedNet x ≤ 1048576) (hs' : szTypedNet y ≤ 1048576) :
    Calls Try.prog 27 #[v, u] w fun e w' => e = .returned (.bool (decide (x = y))) ∧ Below w.heap.size w w' :=
  c_m_impl_SameTyped x y _ (p_iSameTyped x y) v u w (h.more typedNetRd_ok hB) (h'.more typedNetRd_ok hB')
end
section
open Go.RowKit
set_option linter.unusedVariables false
set_option linter.unusedSimpArgs false
set_option maxRecDepth 100000
set_option maxHeartbeats 8000000 in
theorem walk_SameTyped (w : World) (v0 : Value) (x : DTypedNet) (R0 : RdT typedNetRd w w.heap.size v0 x) (ho0 : OkTySS x.types) (v1 : Value) (y : DTypedNet) (R1 : RdT typedNetRd w w.heap.size v1 y) (ho1 : OkTySS y.types) :
    Calls Try.prog 6 #[v0, v1] w fun e w' => e = .returned (.bool true) ∧ Below w.heap.size w w' := by
  obtain ⟨a0A0, a0n0, a0c0, a0A1, a0n1, a0c1, rfl⟩ : ∃ a0A0 a0n0 a0c0 a0A1 a0n1 a0c1, v0 = .agg #[.slice a0A0 a0n0 a0c0, .slice a0A1 a0n1 a0c1] := by obtain ⟨cs, rfl, ⟨A0, n0, c0, A1, n1, c1, rfl, _⟩⟩ := R0; exact ⟨A0, n0, c0, A1, n1, c1, rfl⟩
  obtain ⟨a1A0, a1n0, a1c0, a1A1, a1n1, a1c1, rfl⟩ : ∃ a1A0 a1n0 a1c0 a1A1 a1n1 a1c1, v1 = .agg #[.slice a1A0 a1n0 a1c0, .slice a1A1 a1n1 a1c1] := by obtain ⟨cs, rfl, ⟨A0, n0, c0, A1, n1, c1, rfl, _⟩⟩ := R1; exact ⟨A0, n0, c0, A1, n1, c1, rfl⟩
  by_cases d0 : (szTypedNet x : Int) ≤ 1048576
  case neg =>
    have T := Below.refl w.heap.size w
    have T : Below w.heap.size w (w.alloc (.cells #[.slice a0A0 a0n0 a0c0, .slice a0A1 a0n1 a0c1] 49)) := T.alloc (by first | exact Nat.le_refl _ | (simp; done) | (simp; omega)) _
    have B0 : Blk (w.alloc (.cells #[.slice a0A0 a0n0 a0c0, .slice a0A1 a0n1 a0c1] 49)) (w.heap.size) 49 #[.slice a0A0 a0n0 a0c0, .slice a0A1 a0n1 a0c1] := by have := Blk.new w 49 #[.slice a0A0 a0n0 a0c0, .slice a0A1 a0n1 a0c1]; simpa using this
    have zb0 : (w.alloc (.cells #[.slice a0A0 a0n0 a0c0, .slice a0A1 a0n1 a0c1] 49)).heap.size = w.heap.size + 1 := by simp
    have T : Below w.heap.size w ((w.alloc (.cells #[.slice a0A0 a0n0 a0c0, .slice a0A1 a0n1 a0c1] 49)).alloc (.cells #[.slice a1A0 a1n0 a1c0, .slice a1A1 a1n1 a1c1] 49)) := T.alloc (by first | exact Nat.le_refl _ | (simp; done) | (simp; omega)) _
    have B0 := B0.alloc (.cells #[.slice a1A0 a1n0 a1c0, .slice a1A1 a1n1 a1c1] 49)
    have B1 : Blk ((w.alloc (.cells #[.slice a0A0 a0n0 a0c0, .slice a0A1 a0n1 a0c1] 49)).alloc (.cells #[.slice a1A0 a1n0 a1c0, .slice a1A1 a1n1 a1c1] 49)) (w.heap.size + 1) 49 #[.slice a1A0 a1n0 a1c0, .slice a1A1 a1n1 a1c1] := by have := Blk.new (w.alloc (.cells #[.slice a0A0 a0n0 a0c0, .slice a0A1 a0n1 a0c1] 49)) 49 #[.slice a1A0 a1n0 a1c0, .slice a1A1 a1n1 a1c1]; simpa using this
    have zb1 : ((w.alloc (.cells #[.slice a0A0 a0n0 a0c0, .slice a0A1 a0n1 a0c1] 49)).alloc (.cells #[.slice a1A0 a1n0 a1c0, .slice a1A1 a1n1 a1c1] 49)).heap.size = w.heap.size + 1 + 1 := by simp
    go_enter Try.func6, Try.ntmps6
    go_wp2_with fail
    refine (szTypedNet_v _ x (1048576) _ (R0.below typedNetRd_ok T) T.size (by omega) (by omega)).mono ?_
    rw [szL_neg (by omega)]
    rintro e w1 ⟨rfl, b1⟩
    have z1 := b1.size
    have B0 := B0.below b1 (by omega)
    have B1 := B1.below b1 (by omega)
    have T := T.trans (b1.mono (by omega))
    have gB0 := B0.cell
    have gB1 := B1.cell
    go_wp2_with fail
    go_ret
    exact ⟨rfl, T⟩
  by_cases d1 : (szTypedNet y : Int) ≤ 1048576 - (szTypedNet x : Int)
  case neg =>
    have T := Below.refl w.heap.size w
    have T : Below w.heap.size w (w.alloc (.cells #[.slice a0A0 a0n0 a0c0, .slice a0A1 a0n1 a0c1] 49)) := T.alloc (by first | exact Nat.le_refl _ | (simp; done) | (simp; omega)) _
    have B0 : Blk (w.alloc (.cells #[.slice a0A0 a0n0 a0c0, .slice a0A1 a0n1 a0c1] 49)) (w.heap.size) 49 #[.slice a0A0 a0n0 a0c0, .slice a0A1 a0n1 a0c1] := by have := Blk.new w 49 #[.slice a0A0 a0n0 a0c0, .slice a0A1 a0n1 a0c1]; simpa using this
    have zb0 : (w.alloc (.cells #[.slice a0A0 a0n0 a0c0, .slice a0A1 a0n1 a0c1] 49)).heap.size = w.heap.size + 1 := by simp
    have T : Below w.heap.size w ((w.alloc (.cells #[.slice a0A0 a0n0 a0c0, .slice a0A1 a0n1 a0c1] 49)).alloc (.cells #[.slice a1A0 a1n0 a1c0, .slice a1A1 a1n1 a1c1] 49)) := T.alloc (by first | exact Nat.le_refl _ | (simp; done) | (simp; omega)) _
    have B0 := B0.alloc (.cells #[.slice a1A0 a1n0 a1c0, .slice a1A1 a1n1 a1c1] 49)
    have B1 : Blk ((w.alloc (.cells #[.slice a0A0 a0n0 a0c0, .slice a0A1 a0n1 a0c1] 49)).alloc (.cells #[.slice a1A0 a1n0 a1c0, .slice a1A1 a1n1 a1c1] 49)) (w.heap.size + 1) 49 #[.slice a1A0 a1n0 a1c0, .slice a1A1 a1n1 a1c1] := by have := Blk.new (w.alloc (.cells #[.slice a0A0 a0n0 a0c0, .slice a0A1 a0n1 a0c1] 49)) 49 #[.slice a1A0 a1n0 a1c0, .slice a1A1 a1n1 a1c1]; simpa using this
    have zb1 : ((w.alloc (.cells #[.slice a0A0 a0n0 a0c0, .slice a0A1 a0n1 a0c1] 49)).alloc (.cells #[.slice a1A0 a1n0 a1c0, .slice a1A1 a1n1 a1c1] 49)).heap.size = w.heap.size + 1 + 1 := by simp
    go_enter Try.func6, Try.ntmps6
    go_wp2_with fail
    refine (szTypedNet_v _ x (1048576) _ (R0.below typedNetRd_ok T) T.size (by omega) (by omega)).mono ?_
    rw [szL_pos (by omega)]
    rintro e w1 ⟨rfl, b1⟩
    have z1 := b1.size
    have B0 := B0.below b1 (by omega)
    have B1 := B1.below b1 (by omega)
    have T := T.trans (b1.mono (by omega))
    have gB0 := B0.cell
    have gB1 := B1.cell
    go_wp2_with fail
    refine (szTypedNet_v _ y (1048576 - (szTypedNet x : Int)) _ (R1.below typedNetRd_ok T) T.size (by omega) (by omega)).mono ?_
    rw [szL_neg (by omega)]
    rintro e w2 ⟨rfl, b2⟩
    have z2 := b2.size
    have B0 := B0.below b2 (by omega)
    have B1 := B1.below b2 (by omega)
    have T := T.trans (b2.mono (by omega))
    clear gB0
    clear gB1
    have gB0 := B0.cell
    have gB1 := B1.cell
    go_wp2_with fail
    go_ret
    exact ⟨rfl, T⟩
  have s0 : szTypedNet x ≤ 1048576 := by omega
  have s1 : szTypedNet y ≤ 1048576 := by omega
  have T := Below.refl w.heap.size w
  have T : Below w.heap.size w (w.alloc (.cells #[.slice a0A0 a0n0 a0c0, .slice a0A1 a0n1 a0c1] 49)) := T.alloc (by first | exact Nat.le_refl _ | (simp; done) | (simp; omega)) _
  have B0 : Blk (w.alloc (.cells #[.slice a0A0 a0n0 a0c0, .slice a0A1 a0n1 a0c1] 49)) (w.heap.size) 49 #[.slice a0A0 a0n0 a0c0, .slice a0A1 a0n1 a0c1] := by have := Blk.new w 49 #[.slice a0A0 a0n0 a0c0, .slice a0A1 a0n1 a0c1]; simpa using this
  have zb0 : (w.alloc (.cells #[.slice a0A0 a0n0 a0c0, .slice a0A1 a0n1 a0c1] 49)).heap.size = w.heap.size + 1 := by simp
  have T : Below w.heap.size w ((w.alloc (.cells #[.slice a0A0 a0n0 a0c0, .slice a0A1 a0n1 a0c1] 49)).alloc (.cells #[.slice a1A0 a1n0 a1c0, .slice a1A1 a1n1 a1c1] 49)) := T.alloc (by first | exact Nat.le_refl _ | (simp; done) | (simp; omega)) _
  have B0 := B0.alloc (.cells #[.slice a1A0 a1n0 a1c0, .slice a1A1 a1n1 a1c1] 49)
  have B1 : Blk ((w.alloc (.cells #[.slice a0A0 a0n0 a0c0, .slice a0A1 a0n1 a0c1] 49)).alloc (.cells #[.slice a1A0 a1n0 a1c0, .slice a1A1 a1n1 a1c1] 49)) (w.heap.size + 1) 49 #[.slice a1A0 a1n0 a1c0, .slice a1A1 a1n1 a1c1] := by have := Blk.new (w.alloc (.cells #[.slice a0A0 a0n0 a0c0, .slice a0A1 a0n1 a0c1] 49)) 49 #[.slice a1A0 a1n0 a1c0, .slice a1A1 a1n1 a1c1]; simpa using this
  have zb1 : ((w.alloc (.cells #[.slice a0A0 a0n0 a0c0, .slice a0A1 a0n1 a0c1] 49)).alloc (.cells #[.slice a1A0 a1n0 a1c0, .slice a1A1 a1n1 a1c1] 49)).heap.size = w.heap.size + 1 + 1 := by simp
  go_enter Try.func6, Try.ntmps6
  go_wp2_with fail
  refine (szTypedNet_v _ x (1048576) _ (R0.below typedNetRd_ok T) T.size (by omega) (by omega)).mono ?_
  rw [szL_pos (by omega)]
  rintro e w1 ⟨rfl, b1⟩
  have z1 := b1.size
  have B0 := B0.below b1 (by omega)
  have B1 := B1.below b1 (by omega)
  have T := T.trans (b1.mono (by omega))
  have gB0 := B0.cell
  have gB1 := B1.cell
  go_wp2_with fail
  refine (szTypedNet_v _ y (1048576 - (szTypedNet x : Int)) _ (R1.below typedNetRd_ok T) T.size (by omega) (by omega)).mono ?_
  rw [szL_pos (by omega)]
  rintro e w2 ⟨rfl, b2⟩
  have z2 := b2.size
  have B0 := B0.below b2 (by omega)
  have B1 := B1.below b2 (by omega)
  have T := T.trans (b2.mono (by omega))
  clear gB0
  clear gB1
  have gB0 := B0.cell
  have gB1 := B1.cell
  go_wp2_with fail
  have T := T.drew
  have B0 := B0.drew
  have B1 := B1.drew
  have zd3 : w2.drew.heap.size = w2.heap.size := rfl
  go_region_held3 (fun w' => w'.cell? ⟨w.heap.size, 0, none⟩ = some (.slice a0A0 a0n0 a0c0) ∧ w'.cell? ⟨w.heap.size, 1, none⟩ = some (.slice a0A1 a0n1 a0c1) ∧ w'.cell? ⟨w.heap.size + 1, 0, none⟩ = some (.slice a1A0 a1n0 a1c0) ∧ w'.cell? ⟨w.heap.size + 1, 1, none⟩ = some (.slice a1A1 a1n1 a1c1)) (exact ⟨gB0 0, gB0 1, gB1 0, gB1 1⟩) (first
    | (go_at_call_of 26 (a0A0); refine (toTypedNet_v _ x _ (R0.below typedNetRd_ok T) T.size s0).mono ?_; rintro e w4 ⟨⟨t1, rfl, p2⟩, b4⟩; have z4 := b4.size; have B0 := B0.below b4 (by omega); have B1 := B1.below b4 (by omega); have T := T.trans (b4.mono (by omega)); clear gB0; clear gB1; have gB0 := B0.cell; have gB1 := B1.cell)
    | (go_at_call_of 26 (a1A0); refine (toTypedNet_v _ y _ (R1.below typedNetRd_ok T) T.size s1).mono ?_; rintro e w5 ⟨⟨t3, rfl, p4⟩, b5⟩; have z5 := b5.size; have B0 := B0.below b5 (by omega); have B1 := B1.below b5 (by omega); have p2 := p2.below typedNetOw_ok b5 (by omega); have T := T.trans (b5.mono (by omega)); clear gB0; clear gB1; have gB0 := B0.cell; have gB1 := B1.cell)
    | (go_at_call 25; refine (specSameTyped_v _ _ x y _ (p2.reads (typedNetOw_reads (w5).heap.size) (by omega)) (p4.reads (typedNetOw_reads (w5).heap.size) (by omega)) (Nat.le_refl _) (Nat.le_refl _) s0 s1).mono ?_; rintro e w6 ⟨rfl, b6⟩; have z6 := b6.size; have B0 := B0.below b6 (by omega); have B1 := B1.below b6 (by omega); have p2 := p2.below typedNetOw_ok b6 (by omega); have p4 := p4.below typedNetOw_ok b6 (by omega); have T := T.trans (b6.mono (by omega)); clear gB0; clear gB1; have gB0 := B0.cell; have gB1 := B1.cell; clear p2; clear p4))
  go_wp2_with fail
  refine (toTypedNet_v _ x _ (R0.below typedNetRd_ok T) T.size s0).mono ?_
  rintro e w7 ⟨⟨t6, rfl, p7⟩, b7⟩
  have z7 := b7.size
  have B0 := B0.below b7 (by omega)
  have B1 := B1.below b7 (by omega)
  have T := T.trans (b7.mono (by omega))
  clear gB0
  clear gB1
  have gB0 := B0.cell
  have gB1 := B1.cell
  obtain ⟨l9A0, l9n0, l9c0, l9A1, l9n1, l9c1, rfl⟩ : ∃ l9A0 l9n0 l9c0 l9A1 l9n1 l9c1, t6 = .agg #[.slice l9A0 l9n0 l9c0, .slice l9A1 l9n1 l9c1] := by obtain ⟨cs, bs, rfl, ⟨A0, n0, c0, A1, n1, c1, b0, b1, rfl, _⟩, _⟩ := p7; exact ⟨A0, n0, c0, A1, n1, c1, rfl⟩
  have b8 : Below w7.heap.size w7 (w7.alloc (.cells #[.slice l9A0 l9n0 l9c0, .slice l9A1 l9n1 l9c1] 54)) := (Below.refl _ _).alloc (Nat.le_refl _) _
  have z8 : (w7.alloc (.cells #[.slice l9A0 l9n0 l9c0, .slice l9A1 l9n1 l9c1] 54)).heap.size = w7.heap.size + 1 := World.size_alloc _ _
  have B0 := B0.below b8 (by omega)
  have B1 := B1.below b8 (by omega)
  have p7 := p7.below typedNetOw_ok b8 (by omega)
  have T := T.trans (b8.mono (by omega))
  have X8 : Blk (w7.alloc (.cells #[.slice l9A0 l9n0 l9c0, .slice l9A1 l9n1 l9c1] 54)) w7.heap.size 54 #[.slice l9A0 l9n0 l9c0, .slice l9A1 l9n1 l9c1] := Blk.new _ _ _
  clear gB0
  clear gB1
  have gB0 := B0.cell
  have gB1 := B1.cell
  have gX8 := X8.cell
  go_wp2_with fail
  refine (toTypedNet_v _ y _ (R1.below typedNetRd_ok T) T.size s1).mono ?_
  rintro e w9 ⟨⟨t10, rfl, p11⟩, b9⟩
  have z9 := b9.size
  have B0 := B0.below b9 (by omega)
  have B1 := B1.below b9 (by omega)
  have X8 := X8.below b9 (by omega)
  have p7 := p7.below typedNetOw_ok b9 (by omega)
  have T := T.trans (b9.mono (by omega))
  clear gB0
  clear gB1
  clear gX8
  have gB0 := B0.cell
  have gB1 := B1.cell
  have gX8 := X8.cell
  obtain ⟨l13A0, l13n0, l13c0, l13A1, l13n1, l13c1, rfl⟩ : ∃ l13A0 l13n0 l13c0 l13A1 l13n1 l13c1, t10 = .agg #[.slice l13A0 l13n0 l13c0, .slice l13A1 l13n1 l13c1] := by obtain ⟨cs, bs, rfl, ⟨A0, n0, c0, A1, n1, c1, b0, b1, rfl, _⟩, _⟩ := p11; exact ⟨A0, n0, c0, A1, n1, c1, rfl⟩
  have b10 : Below w9.heap.size w9 (w9.alloc (.cells #[.slice l13A0 l13n0 l13c0, .slice l13A1 l13n1 l13c1] 54)) := (Below.refl _ _).alloc (Nat.le_refl _) _
  have z10 : (w9.alloc (.cells #[.slice l13A0 l13n0 l13c0, .slice l13A1 l13n1 l13c1] 54)).heap.size = w9.heap.size + 1 := World.size_alloc _ _
  have B0 := B0.below b10 (by omega)
  have B1 := B1.below b10 (by omega)
  have X8 := X8.below b10 (by omega)
  have p7 := p7.below typedNetOw_ok b10 (by omega)
  have p11 := p11.below typedNetOw_ok b10 (by omega)
  have T := T.trans (b10.mono (by omega))
  have X12 : Blk (w9.alloc (.cells #[.slice l13A0 l13n0 l13c0, .slice l13A1 l13n1 l13c1] 54)) w9.heap.size 54 #[.slice l13A0 l13n0 l13c0, .slice l13A1 l13n1 l13c1] := Blk.new _ _ _
  clear gB0
  clear gB1
  clear gX8
  have gB0 := B0.cell
  have gB1 := B1.cell
  have gX8 := X8.cell
  have gX12 := X12.cell
  go_wp2_with fail
  refine (implSameTyped_v _ _ x y _ (p7.reads (typedNetOw_reads ((w9.alloc (.cells #[.slice l13A0 l13n0 l13c0, .slice l13A1 l13n1 l13c1] 54))).heap.size) (by omega)) (p11.reads (typedNetOw_reads ((w9.alloc (.cells #[.slice l13A0 l13n0 l13c0, .slice l13A1 l13n1 l13c1] 54))).heap.size) (by omega)) (Nat.le_refl _) (Nat.le_refl _) s0 s1).mono ?_
  rintro e w11 ⟨rfl, b11⟩
  have z11 := b11.size
  have B0 := B0.below b11 (by omega)
  have B1 := B1.below b11 (by omega)
  have X8 := X8.below b11 (by omega)
  have X12 := X12.below b11 (by omega)
  have p7 := p7.below typedNetOw_ok b11 (by omega)
  have p11 := p11.below typedNetOw_ok b11 (by omega)
  have T := T.trans (b11.mono (by omega))
  clear gB0
  clear gB1
  clear gX8
  clear gX12
  have gB0 := B0.cell
  have gB1 := B1.cell
  have gX8 := X8.cell
  have gX12 := X12.cell
  go_wp2_with fail
  have T := T.drew
  have B0 := B0.drew
  have B1 := B1.drew
  have X8 := X8.drew
  have X12 := X12.drew
  have p7 := p7.keep typedNetOw_ok (w' := w11.drew) (fun _ _ _ => rfl)
  have p11 := p11.keep typedNetOw_ok (w' := w11.drew) (fun _ _ _ => rfl)
  have zd12 : w11.drew.heap.size = w11.heap.size := rfl
  go_region_held3 (fun w' => w'.cell? ⟨w7.heap.size, 0, none⟩ = some (.slice l9A0 l9n0 l9c0) ∧ w'.cell? ⟨w7.heap.size, 1, none⟩ = some (.slice l9A1 l9n1 l9c1) ∧ w'.cell? ⟨w.heap.size, 0, none⟩ = some (.slice a0A0 a0n0 a0c0) ∧ w'.cell? ⟨w.heap.size, 1, none⟩ = some (.slice a0A1 a0n1 a0c1)) (exact ⟨gX8 0, gX8 1, gB0 0, gB0 1⟩) (first
    | (go_at_call 26; refine (toTypedNet_v _ x _ (R0.below typedNetRd_ok T) T.size s0).mono ?_; rintro e w13 ⟨⟨t15, rfl, p16⟩, b13⟩; have z13 := b13.size; have B0 := B0.below b13 (by omega); have B1 := B1.below b13 (by omega); have X8 := X8.below b13 (by omega); have X12 := X12.below b13 (by omega); have p7 := p7.below typedNetOw_ok b13 (by omega); have p11 := p11.below typedNetOw_ok b13 (by omega); have T := T.trans (b13.mono (by omega)); clear gB0; clear gB1; clear gX8; clear gX12; have gB0 := B0.cell; have gB1 := B1.cell; have gX8 := X8.cell; have gX12 := X12.cell)
    | (go_at_call 28; refine (eqTypedNet_v _ _ _ _ _ (p7.reads (typedNetOw_reads (w13).heap.size) (by omega)) (p16.reads (typedNetOw_reads (w13).heap.size) (by omega)) (Nat.le_refl _) (Nat.le_refl _)).mono ?_; rintro e w14 ⟨rfl, b14⟩; have z14 := b14.size; have B0 := B0.below b14 (by omega); have B1 := B1.below b14 (by omega); have X8 := X8.below b14 (by omega); have X12 := X12.below b14 (by omega); have p7 := p7.below typedNetOw_ok b14 (by omega); have p11 := p11.below typedNetOw_ok b14 (by omega); have p16 := p16.below typedNetOw_ok b14 (by omega); have T := T.trans (b14.mono (by omega)); clear gB0; clear gB1; clear gX8; clear gX12; have gB0 := B0.cell; have gB1 := B1.cell; have gX8 := X8.cell; have gX12 := X12.cell))
  go_wp2_with fail
  have T := T.drew
  have B0 := B0.drew
  have B1 := B1.drew
  have X8 := X8.drew
  have X12 := X12.drew
  have p7 := p7.keep typedNetOw_ok (w' := w14.drew) (fun _ _ _ => rfl)
  have p11 := p11.keep typedNetOw_ok (w' := w14.drew) (fun _ _ _ => rfl)
  have p16 := p16.keep typedNetOw_ok (w' := w14.drew) (fun _ _ _ => rfl)
  have zd15 : w14.drew.heap.size = w14.heap.size := rfl
  go_region_held3 (fun w' => w'.cell? ⟨w9.heap.size, 0, none⟩ = some (.slice l13A0 l13n0 l13c0) ∧ w'.cell? ⟨w9.heap.size, 1, none⟩ = some (.slice l13A1 l13n1 l13c1) ∧ w'.cell? ⟨w.heap.size + 1, 0, none⟩ = some (.slice a1A0 a1n0 a1c0) ∧ w'.cell? ⟨w.heap.size + 1, 1, none⟩ = some (.slice a1A1 a1n1 a1c1)) (exact ⟨gX12 0, gX12 1, gB1 0, gB1 1⟩) (first
    | (go_at_call 26; refine (toTypedNet_v _ y _ (R1.below typedNetRd_ok T) T.size s1).mono ?_; rintro e w16 ⟨⟨t17, rfl, p18⟩, b16⟩; have z16 := b16.size; have B0 := B0.below b16 (by omega); have B1 := B1.below b16 (by omega); have X8 := X8.below b16 (by omega); have X12 := X12.below b16 (by omega); have p7 := p7.below typedNetOw_ok b16 (by omega); have p11 := p11.below typedNetOw_ok b16 (by omega); have p16 := p16.below typedNetOw_ok b16 (by omega); have T := T.trans (b16.mono (by omega)); clear gB0; clear gB1; clear gX8; clear gX12; have gB0 := B0.cell; have gB1 := B1.cell; have gX8 := X8.cell; have gX12 := X12.cell)
    | (go_at_call 28; refine (eqTypedNet_v _ _ _ _ _ (p11.reads (typedNetOw_reads (w16).heap.size) (by omega)) (p18.reads (typedNetOw_reads (w16).heap.size) (by omega)) (Nat.le_refl _) (Nat.le_refl _)).mono ?_; rintro e w17 ⟨rfl, b17⟩; have z17 := b17.size; have B0 := B0.below b17 (by omega); have B1 := B1.below b17 (by omega); have X8 := X8.below b17 (by omega); have X12 := X12.below b17 (by omega); have p7 := p7.below typedNetOw_ok b17 (by omega); have p11 := p11.below typedNetOw_ok b17 (by omega); have p16 := p16.below typedNetOw_ok b17 (by omega); have p18 := p18.below typedNetOw_ok b17 (by omega); have T := T.trans (b17.mono (by omega)); clear gB0; clear gB1; clear gX8; clear gX12; have gB0 := B0.cell; have gB1 := B1.cell; have gX8 := X8.cell; have gX12 := X12.cell))
  go_wp2_with fail
  go_ret
  exact ⟨rfl, T⟩
end
section
open Go.RowKit Go.ChangeShapes Go.WideShapes Go.Deep Go.WideMaps
set_option linter.unusedVariables false
def Opens {α : Type} (P : Program) (t : TypeId) (R : Rd α) : Prop := ∀ (H : Type) (enc : TypeId × Value → H) (W : World) (fuel : Nat) (cs : List Value) (x : DataW H × List MemPlace),
  DataW.trod enc P W 0 (fun _ => true) true fuel t cs = some x → ∃ d, R W W.heap.size cs d
theorem opens_int {P : Program} {t : TypeId} (ht : P.underlying t = some (.int .i64)) : Opens P t intRd := fun H enc W fuel cs x h => by
  obtain ⟨n, hc, _, _⟩ := DataW.trod_int ht h
  exact ⟨n, hc⟩
theorem spot_none {w : World} {a : Addr} {v : Value} (h : w.cell? a = some v) : a.spot = none := by
  unfold World.cell? at h
  split at h
  · cases hs : a.spot with
    | none => rfl
    | some s => simp [hs] at h
  · simp at h
theorem opens_slice {α : Type} {P : Program} {t e : TypeId} {R : Rd α} {sz : Nat} (ht : P.underlying t = some (.slice e)) (hsz : P.cellsOf e = sz) (hpos : 0 < sz) (ok : RdOk R sz) (he : Opens P e R) : Opens P t (slRd R sz) := fun H enc W fuel cs x h => by
  rcases open_slice ht h with ⟨rfl, rfl⟩ | ⟨a, len, cap, m, n, D, Pl, rfl, hb, hl, hm, hmm, hx, hel⟩
  · exact ⟨[], none, 0, 0, rfl, SlAt.none_, Nat.le_refl _, Nat.zero_le _⟩
  · have hmc : len ≤ m := by rw [hmm]; simp; omega
    have hel' : ∀ i, i < len → ∃ p : List Value × α, R W W.heap.size p.1 p.2 ∧ ∀ j, j < sz → W.cell? (a.add (i * sz + j)) = p.1[j]? := fun i hi => by
      obtain ⟨cs', hc, htr⟩ := hel i (by omega)
      obtain ⟨d, hd⟩ := he H enc W n cs' (D i, Pl i) htr
      obtain ⟨_, hlen, hat⟩ := World.cells?_some hc
      exact ⟨(cs', d), hd, fun j hj => by
        have := hat j (by rw [hsz]; exact hj)
        rw [hsz, Go.Deep.add_add] at this
        exact this⟩
    rcases Nat.eq_zero_or_pos len with h0 | h0
    · subst h0
      exact ⟨[], some a, 0, cap, rfl, SlAt.none_, Nat.zero_le _, hm⟩
    · have hne : Nonempty (List Value × α) := let ⟨p, _⟩ := hel' 0 h0; ⟨p⟩
      have hf : ∃ f : Nat → List Value × α, ∀ i, i < len → R W W.heap.size (f i).1 (f i).2 ∧ ∀ j, j < sz → W.cell? (a.add (i * sz + j)) = (f i).1[j]? := by
        classical
        refine ⟨fun i => if hi : i < len then Classical.choose (hel' i hi) else Classical.choice hne, fun i hi => ?_⟩
        simp only [dif_pos hi]
        exact Classical.choose_spec (hel' i hi)
      obtain ⟨f, hf⟩ := hf
      have hc0 : ∃ v, W.cell? a = some v := by
        obtain ⟨hR, hc⟩ := hf 0 h0
        have hlR := ok.len hR
        have h1 := hc 0 hpos
        have h2 : a.add (0 * sz + 0) = a := by simp [Addr.add]
        rw [h2, List.getElem?_eq_getElem (by omega)] at h1
        exact ⟨_, h1⟩
      obtain ⟨v0, hv0⟩ := hc0
      have hsp := spot_none hv0
      have hbl := World.block_lt_of_cell? _ _ hv0
      have ea : a = ⟨a.block, a.off, none⟩ := by cases a; simp_all
      refine ⟨(List.range len).map fun i => (f i).2, some a, len, cap, rfl, ⟨by simp, fun _ => ⟨a.block, a.off, by rw [← ea], hbl, fun i x hx => ?_⟩⟩, hl, hm⟩
      have hi : i < len := by simpa using lt_of_some hx
      have hx' : (f i).2 = x := by simpa [hi] using hx
      subst hx'
      obtain ⟨hR, hc⟩ := hf i hi
      refine ⟨_, hR, fun j v hj => ?_⟩
      have hj' : j < sz := by have := lt_of_some hj; rw [ok.len hR] at this; exact this
      have h1 := hc j hj'
      rw [hj] at h1
      have e2 : a.add (i * sz + j) = ⟨a.block, a.off + i * sz + j, none⟩ := by
        rw [ea]; simp only [Addr.add_lit]; congr 1; omega
      rw [← e2]
      exact h1
/-- An argument's value as its cells. -/
theorem opens_arg {α : Type} {P : Program} {t : TypeId} {R : Rd α} (h : Opens P t R) {H : Type} {enc : TypeId × Value → H} {W : World} {v : Value} {d : DataW H} {ps : List MemPlace} (ht : DataW.Trod enc P W 0 (fun _ => true) true t v d ps) : ∃ x, R W W.heap.size v.cells.toList x := by
  obtain ⟨fuel, hf⟩ := ht
  exact h H enc W fuel _ _ hf
end
section
open Go.RowKit
theorem opens_ints : Opens Try.prog 39 (slRd intRd 1) := opens_slice Try.underlying39 (by kernel_rfl) (by decide) intRd_ok (opens_int Try.underlying2)
end
section
open Go.RowKit Go.ChangeShapes Go.WideShapes Go.Deep Go.WideMaps
set_option linter.unusedVariables false
set_option linter.unusedSimpArgs false
theorem trod_fields {P : Program} {t : TypeId} {fs : Array Field} {H : Type} {enc : TypeId × Value → H} {W : World} {fuel : Nat} {cs : List Value} {x : DataW H × List MemPlace} (ht : P.underlying t = some (.struct fs)) (h : DataW.trod enc P W 0 (fun _ => true) true fuel t cs = some x) :
    cs.length = P.cellsOf t ∧ ∃ n, ∀ (i : Nat) (f : Field), fs[i]? = some f → ∃ y, DataW.trod enc P W 0 (fun _ => true) true n f.type ((cs.drop f.offset).take (P.cellsOf f.type)) = some y := by
  obtain ⟨xs, n, _, _, hl, hlen, hf⟩ := DataW.trod_struct ht h
  refine ⟨hl, n, fun i f hi => ?_⟩
  have hlt : i < fs.size := (Array.getElem?_eq_some_iff.1 hi).1
  exact ⟨xs[i], by rw [hf i f hi]; exact List.getElem?_eq_getElem (by omega)⟩
/-- A struct argument. -/
theorem open_st {α : Type} {P : Program} {t : TypeId} {fs : Array Field} {R : Rd α} (h : Opens P t R) (ht : P.underlying t = some (.struct fs)) {r : Reach} {b0 : Nat} {H : Type} {enc : TypeId × Value → H} {W : World} {v : Value} {d : DataW H} {ps : List MemPlace}
    (hv : Value.okWide P W r b0 t v) (hd : DataW.Trod enc P W 0 (fun _ => true) true t v d ps) : ∃ x, RdT R W W.heap.size v x := by
  obtain ⟨cs, rfl, _⟩ := okWide_struct ht hv
  obtain ⟨x, hx⟩ := opens_arg h hd
  exact ⟨x, cs.toList, by simp, by simpa [Value.cells] using hx⟩
theorem len1 {α : Type} {l : List α} (h : l.length = 1) : ∃ a0, l = [a0] := by
  match l, h with
  | [a0], _ => exact ⟨a0, rfl⟩
theorem len2 {α : Type} {l : List α} (h : l.length = 2) : ∃ a0 a1, l = [a0, a1] := by
  match l, h with
  | [a0, a1], _ => exact ⟨a0, a1, rfl⟩
theorem len5 {α : Type} {l : List α} (h : l.length = 5) : ∃ a0 a1 a2 a3 a4, l = [a0, a1, a2, a3, a4] := by
  match l, h with
  | [a0, a1, a2, a3, a4], _ => exact ⟨a0, a1, a2, a3, a4, rfl⟩
theorem opens_Port : Opens Try.prog 194 portRd := fun H enc W fuel cs x h => by
  obtain ⟨hl, m, hf⟩ := trod_fields Try.underlying194 h
  replace hl : cs.length = 2 := hl.trans (by kernel_rfl)
  obtain ⟨a0, a1, rfl⟩ := len2 hl
  obtain ⟨y0, h0⟩ : ∃ y, DataW.trod enc Try.prog W 0 (fun _ => true) true m 2 (([a0, a1].drop 0).take (Try.prog.cellsOf 2)) = some y := hf 0 _ rfl
  have k0 : Try.prog.cellsOf 2 = 1 := by kernel_rfl
  rw [k0] at h0; simp only [List.drop_zero, List.drop_succ_cons, List.take_succ_cons, List.take_zero] at h0
  obtain ⟨d0, e0⟩ := opens_int Try.underlying2 H enc W _ _ _ h0
  unfold intRd at e0; simp only [List.cons.injEq, and_true] at e0
  obtain ⟨y1, h1⟩ : ∃ y, DataW.trod enc Try.prog W 0 (fun _ => true) true m 2 (([a0, a1].drop 1).take (Try.prog.cellsOf 2)) = some y := hf 1 _ rfl
  have k1 : Try.prog.cellsOf 2 = 1 := by kernel_rfl
  rw [k1] at h1; simp only [List.drop_zero, List.drop_succ_cons, List.take_succ_cons, List.take_zero] at h1
  obtain ⟨d1, e1⟩ := opens_int Try.underlying2 H enc W _ _ _ h1
  unfold intRd at e1; simp only [List.cons.injEq, and_true] at e1
  subst e0; subst e1
  exact ⟨⟨d0, d1⟩, rfl⟩
theorem opens_PortS : Opens Try.prog 115 (slRd portRd 2) := opens_slice Try.underlying115 (by kernel_rfl) (by decide) portRd_ok opens_Port
theorem opens_Agent : Opens Try.prog 117 agentRd := fun H enc W fuel cs x h => by
  obtain ⟨hl, m, hf⟩ := trod_fields Try.underlying117 h
  replace hl : cs.length = 5 := hl.trans (by kernel_rfl)
  obtain ⟨a0, a1, a2, a3, a4, rfl⟩ := len5 hl
  obtain ⟨y0, h0⟩ : ∃ y, DataW.trod enc Try.prog W 0 (fun _ => true) true m 2 (([a0, a1, a2, a3, a4].drop 0).take (Try.prog.cellsOf 2)) = some y := hf 0 _ rfl
  have k0 : Try.prog.cellsOf 2 = 1 := by kernel_rfl
  rw [k0] at h0; simp only [List.drop_zero, List.drop_succ_cons, List.take_succ_cons, List.take_zero] at h0
  obtain ⟨d0, e0⟩ := opens_int Try.underlying2 H enc W _ _ _ h0
  unfold intRd at e0; simp only [List.cons.injEq, and_true] at e0
  obtain ⟨y1, h1⟩ : ∃ y, DataW.trod enc Try.prog W 0 (fun _ => true) true m 2 (([a0, a1, a2, a3, a4].drop 1).take (Try.prog.cellsOf 2)) = some y := hf 1 _ rfl
  have k1 : Try.prog.cellsOf 2 = 1 := by kernel_rfl
  rw [k1] at h1; simp only [List.drop_zero, List.drop_succ_cons, List.take_succ_cons, List.take_zero] at h1
  obtain ⟨d1, e1⟩ := opens_int Try.underlying2 H enc W _ _ _ h1
  unfold intRd at e1; simp only [List.cons.injEq, and_true] at e1
  obtain ⟨y2, h2⟩ : ∃ y, DataW.trod enc Try.prog W 0 (fun _ => true) true m 2 (([a0, a1, a2, a3, a4].drop 2).take (Try.prog.cellsOf 2)) = some y := hf 2 _ rfl
  have k2 : Try.prog.cellsOf 2 = 1 := by kernel_rfl
  rw [k2] at h2; simp only [List.drop_zero, List.drop_succ_cons, List.take_succ_cons, List.take_zero] at h2
  obtain ⟨d2, e2⟩ := opens_int Try.underlying2 H enc W _ _ _ h2
  unfold intRd at e2; simp only [List.cons.injEq, and_true] at e2
  obtain ⟨y3, h3⟩ : ∃ y, DataW.trod enc Try.prog W 0 (fun _ => true) true m 39 (([a0, a1, a2, a3, a4].drop 3).take (Try.prog.cellsOf 39)) = some y := hf 3 _ rfl
  have k3 : Try.prog.cellsOf 39 = 1 := by kernel_rfl
  rw [k3] at h3; simp only [List.drop_zero, List.drop_succ_cons, List.take_succ_cons, List.take_zero] at h3
  obtain ⟨d3, A3, n3, c3, e3, g3, r3⟩ := opens_ints H enc W _ _ _ h3
  simp only [List.cons.injEq, and_true] at e3
  obtain ⟨y4, h4⟩ : ∃ y, DataW.trod enc Try.prog W 0 (fun _ => true) true m 115 (([a0, a1, a2, a3, a4].drop 4).take (Try.prog.cellsOf 115)) = some y := hf 4 _ rfl
  have k4 : Try.prog.cellsOf 115 = 1 := by kernel_rfl
  rw [k4] at h4; simp only [List.drop_zero, List.drop_succ_cons, List.take_succ_cons, List.take_zero] at h4
  obtain ⟨d4, A4, n4, c4, e4, g4, r4⟩ := opens_PortS H enc W _ _ _ h4
  simp only [List.cons.injEq, and_true] at e4
  subst e0; subst e1; subst e2; subst e3; subst e4
  exact ⟨⟨d0, d1, d2, d3, d4⟩, A3, n3, c3, A4, n4, c4, rfl, ⟨g3, r3⟩, ⟨g4, r4⟩⟩
theorem opens_AgentS : Opens Try.prog 22 (slRd agentRd 5) := opens_slice Try.underlying22 (by kernel_rfl) (by decide) agentRd_ok opens_Agent
theorem opens_Net : Opens Try.prog 24 netRd := fun H enc W fuel cs x h => by
  obtain ⟨hl, m, hf⟩ := trod_fields Try.underlying24 h
  replace hl : cs.length = 1 := hl.trans (by kernel_rfl)
  obtain ⟨a0, rfl⟩ := len1 hl
  obtain ⟨y0, h0⟩ : ∃ y, DataW.trod enc Try.prog W 0 (fun _ => true) true m 22 (([a0].drop 0).take (Try.prog.cellsOf 22)) = some y := hf 0 _ rfl
  have k0 : Try.prog.cellsOf 22 = 1 := by kernel_rfl
  rw [k0] at h0; simp only [List.drop_zero, List.drop_succ_cons, List.take_succ_cons, List.take_zero] at h0
  obtain ⟨d0, A0, n0, c0, e0, g0, r0⟩ := opens_AgentS H enc W _ _ _ h0
  simp only [List.cons.injEq, and_true] at e0
  subst e0
  exact ⟨⟨d0⟩, A0, n0, c0, rfl, ⟨g0, r0⟩⟩
end
section
open Go.RowKit Go.ChangeShapes Go.WideShapes Go.Deep Go.WideMaps
set_option linter.unusedVariables false
set_option linter.unusedSimpArgs false
/-- Opened, up to a fuel. -/
def OpensL {α : Type} (m : Nat) (P : Program) (t : TypeId) (R : Rd α) : Prop := ∀ (H : Type) (enc : TypeId × Value → H) (W : World) (fuel : Nat) (cs : List Value) (x : DataW H × List MemPlace), fuel ≤ m →
  DataW.trod enc P W 0 (fun _ => true) true fuel t cs = some x → ∃ d, R W W.heap.size cs d
theorem opensL_all {α : Type} {P : Program} {t : TypeId} {R : Rd α} (h : ∀ m, OpensL m P t R) : Opens P t R := fun H enc W fuel cs x hx => h fuel H enc W fuel cs x (Nat.le_refl _) hx
/-- Elements of a slice, whose own elements lie deeper. -/
theorem opensL_slice {α : Type} {m : Nat} {P : Program} {t e : TypeId} {R : Rd α} {sz : Nat} (ht : P.underlying t = some (.slice e)) (hsz : P.cellsOf e = sz) (hpos : 0 < sz) (ok : RdOk R sz) (he : OpensL m P e R) : OpensL m P t (slRd R sz) := fun H enc W fuel cs x hf h => by
  rcases DataW.trod_slice ht h with ⟨rfl, rfl⟩ | ⟨a, len, cap, elems, rest, n, hfn, rfl, hx, hb, hl, hm, hlen, hel, _, _⟩
  · exact ⟨[], none, 0, 0, rfl, SlAt.none_, Nat.le_refl _, Nat.zero_le _⟩
  · have hel' : ∀ i, i < len → ∃ p : List Value × α, R W W.heap.size p.1 p.2 ∧ ∀ j, j < sz → W.cell? (a.add (i * sz + j)) = p.1[j]? := fun i hi => by
      have key := hel i hi
      rw [List.getElem?_eq_getElem (by omega)] at key
      obtain ⟨cs', hc, htr⟩ := Option.bind_eq_some_iff.1 key
      obtain ⟨d, hd⟩ := he H enc W n cs' _ (by omega) htr
      obtain ⟨_, hlen, hat⟩ := World.cells?_some hc
      exact ⟨(cs', d), hd, fun j hj => by
        have := hat j (by rw [hsz]; exact hj)
        rw [hsz, Go.Deep.add_add] at this
        exact this⟩
    rcases Nat.eq_zero_or_pos len with h0 | h0
    · subst h0
      exact ⟨[], some a, 0, cap, rfl, SlAt.none_, Nat.zero_le _, hm⟩
    · have hne : Nonempty (List Value × α) := let ⟨p, _⟩ := hel' 0 h0; ⟨p⟩
      have hf : ∃ f : Nat → List Value × α, ∀ i, i < len → R W W.heap.size (f i).1 (f i).2 ∧ ∀ j, j < sz → W.cell? (a.add (i * sz + j)) = (f i).1[j]? := by
        classical
        refine ⟨fun i => if hi : i < len then Classical.choose (hel' i hi) else Classical.choice hne, fun i hi => ?_⟩
        simp only [dif_pos hi]
        exact Classical.choose_spec (hel' i hi)
      obtain ⟨f, hf⟩ := hf
      have hc0 : ∃ v, W.cell? a = some v := by
        obtain ⟨hR, hc⟩ := hf 0 h0
        have hlR := ok.len hR
        have h1 := hc 0 hpos
        have h2 : a.add (0 * sz + 0) = a := by simp [Addr.add]
        rw [h2, List.getElem?_eq_getElem (by omega)] at h1
        exact ⟨_, h1⟩
      obtain ⟨v0, hv0⟩ := hc0
      have hsp := spot_none hv0
      have hbl := World.block_lt_of_cell? _ _ hv0
      have ea : a = ⟨a.block, a.off, none⟩ := by cases a; simp_all
      refine ⟨(List.range len).map fun i => (f i).2, some a, len, cap, rfl, ⟨by simp, fun _ => ⟨a.block, a.off, by rw [← ea], hbl, fun i x hx => ?_⟩⟩, hl, hm⟩
      have hi : i < len := by simpa using lt_of_some hx
      have hx' : (f i).2 = x := by simpa [hi] using hx
      subst hx'
      obtain ⟨hR, hc⟩ := hf i hi
      refine ⟨_, hR, fun j v hj => ?_⟩
      have hj' : j < sz := by have := lt_of_some hj; rw [ok.len hR] at this; exact this
      have h1 := hc j hj'
      rw [hj] at h1
      have e2 : a.add (i * sz + j) = ⟨a.block, a.off + i * sz + j, none⟩ := by
        rw [ea]; simp only [Addr.add_lit]; congr 1; omega
      rw [← e2]
      exact h1
/-- Fields, with less fuel. -/
theorem trodL_fields {P : Program} {t : TypeId} {fs : Array Field} {H : Type} {enc : TypeId × Value → H} {W : World} {fuel : Nat} {cs : List Value} {x : DataW H × List MemPlace} (ht : P.underlying t = some (.struct fs)) (h : DataW.trod enc P W 0 (fun _ => true) true fuel t cs = some x) :
    cs.length = P.cellsOf t ∧ ∃ n, fuel = n + 1 ∧ ∀ (i : Nat) (f : Field), fs[i]? = some f → ∃ y, DataW.trod enc P W 0 (fun _ => true) true n f.type ((cs.drop f.offset).take (P.cellsOf f.type)) = some y := by
  obtain ⟨xs, n, hn, _, hl, hlen, hf⟩ := DataW.trod_struct ht h
  refine ⟨hl, n, hn, fun i f hi => ?_⟩
  have hlt : i < fs.size := (Array.getElem?_eq_some_iff.1 hi).1
  exact ⟨xs[i], by rw [hf i f hi]; exact List.getElem?_eq_getElem (by omega)⟩
theorem opens_strM {P : Program} {t : TypeId} (ht : P.underlying t = some .string) {H : Type} {enc : TypeId × Value → H} {W : World} {fuel : Nat} {cs : List Value} {x : DataW H × List MemPlace} (h : DataW.trod enc P W 0 (fun _ => true) true fuel t cs = some x) : ∃ s : ByteArray, cs = [.string s] ∧ s.size ≤ maxLen := by
  obtain ⟨n, hc, h1, h2⟩ := DataW.trod_string ht h
  exact ⟨n, hc, by first | exact h1 | exact h2⟩
theorem SlAt.split {α : Type} {R : Rd α} {Q : α → Prop} {sz : Nat} {w : World} {B n : Nat} {A : Option Addr} {xs : List α} (h : SlAt (fun w B cs x => R w B cs x ∧ Q x) sz w B A n xs) : SlAt R sz w B A n xs ∧ ∀ x ∈ xs, Q x := by
  refine ⟨⟨h.1, fun hn => ?_⟩, fun x hx => ?_⟩
  · obtain ⟨b, off, e, hb, hs⟩ := h.2 hn
    exact ⟨b, off, e, hb, fun i x hx => by
      obtain ⟨cs, hR, hv⟩ := hs i x hx
      exact ⟨cs, hR.1, hv⟩⟩
  · obtain ⟨i, hi, rfl⟩ := List.getElem_of_mem hx
    have hn : 0 < n := by have := h.1; omega
    obtain ⟨b, off, e, hb, hs⟩ := h.2 hn
    obtain ⟨cs, hR, hv⟩ := hs i _ (List.getElem?_eq_getElem hi)
    exact hR.2
/-- A type that reads, and whose names and rows are not too long. -/
def tyRd : Rd DType := fun w B cs x => typeRd w B cs x ∧ OkTy x
theorem tyRd_ok : RdOk tyRd 3 := ⟨fun h => typeRd_ok.len h.1, fun hk h => ⟨typeRd_ok.keep hk h.1, h.2⟩, fun hB h => ⟨typeRd_ok.more hB h.1, h.2⟩⟩
def tySRd : Rd (List DType) := fun w B cs x => slRd typeRd 3 w B cs x ∧ OkTyS x
theorem tySRd_ok : RdOk tySRd 1 := ⟨fun h => (slRd_ok typeRd_ok).len h.1, fun hk h => ⟨(slRd_ok typeRd_ok).keep hk h.1, h.2⟩, fun hB h => ⟨(slRd_ok typeRd_ok).more hB h.1, h.2⟩⟩
def tnRd : Rd DTypedNet := fun w B cs x => typedNetRd w B cs x ∧ OkTySS x.types
theorem tn_split {w : World} {B : Nat} {v : Value} {x : DTypedNet} (h : RdT tnRd w B v x) : RdT typedNetRd w B v x ∧ OkTySS x.types := by
  obtain ⟨cs, e, h1, h2⟩ := h
  exact ⟨⟨cs, e, h1⟩, h2⟩
theorem len3 {α : Type} {l : List α} (h : l.length = 3) : ∃ a0 a1 a2, l = [a0, a1, a2] := by
  match l, h with
  | [a0, a1, a2], _ => exact ⟨a0, a1, a2, rfl⟩
theorem opens_TypeL : ∀ m, OpensL m Try.prog 155 tyRd := fun m => by
  induction m with
  | zero =>
    intro H enc W fuel cs x hf h
    obtain rfl : fuel = 0 := by omega
    simp [DataW.trod] at h
  | succ m ih =>
    intro H enc W fuel cs x hfu h
    obtain ⟨hl, n, hfn, hf⟩ := trodL_fields Try.underlying155 h
    replace hl : cs.length = 3 := hl.trans (by kernel_rfl)
    obtain ⟨a0, a1, a2, rfl⟩ := len3 hl
    obtain ⟨y0, h0⟩ : ∃ y, DataW.trod enc Try.prog W 0 (fun _ => true) true n 2 (([a0, a1, a2].drop 0).take (Try.prog.cellsOf 2)) = some y := hf 0 _ rfl
    have k0 : Try.prog.cellsOf 2 = 1 := by kernel_rfl
    rw [k0] at h0; simp only [List.drop_zero, List.drop_succ_cons, List.take_succ_cons, List.take_zero] at h0
    obtain ⟨d0, e0⟩ := opens_int Try.underlying2 H enc W _ _ _ h0
    unfold intRd at e0; simp only [List.cons.injEq, and_true] at e0
    obtain ⟨y1, h1⟩ : ∃ y, DataW.trod enc Try.prog W 0 (fun _ => true) true n 9 (([a0, a1, a2].drop 1).take (Try.prog.cellsOf 9)) = some y := hf 1 _ rfl
    have k1 : Try.prog.cellsOf 9 = 1 := by kernel_rfl
    rw [k1] at h1; simp only [List.drop_zero, List.drop_succ_cons, List.take_succ_cons, List.take_zero] at h1
    obtain ⟨d1, e1, m1⟩ := opens_strM Try.underlying9 h1
    simp only [List.cons.injEq, and_true] at e1
    obtain ⟨y2, h2⟩ : ∃ y, DataW.trod enc Try.prog W 0 (fun _ => true) true n 58 (([a0, a1, a2].drop 2).take (Try.prog.cellsOf 58)) = some y := hf 2 _ rfl
    have k2 : Try.prog.cellsOf 58 = 1 := by kernel_rfl
    rw [k2] at h2; simp only [List.drop_zero, List.drop_succ_cons, List.take_succ_cons, List.take_zero] at h2
    obtain ⟨d2, A2, n2, c2, e2, g2, r2⟩ := opensL_slice Try.underlying58 (by kernel_rfl) (by decide) tyRd_ok ih H enc W n _ _ (by omega) h2
    simp only [List.cons.injEq, and_true] at e2
    subst e0; subst e1; subst e2
    obtain ⟨g3, g4⟩ := SlAt.split g2
    have hn := g3.len
    exact ⟨⟨d0, d1, d2⟩, typeRd_in ⟨A2, n2, c2, rfl, g3, r2⟩, OkTy.mk (x := ⟨d0, d1, d2⟩) m1 (show d2.length ≤ maxLen by have := r2.1; have := r2.2; omega) g4⟩
theorem opens_Type : Opens Try.prog 155 tyRd := opensL_all opens_TypeL
theorem opens_TypeS : Opens Try.prog 58 tySRd := fun H enc W fuel cs x h => by
  obtain ⟨d2, A2, n2, c2, e2, g2, r2⟩ := opens_slice Try.underlying58 (by kernel_rfl) (by decide) tyRd_ok opens_Type H enc W fuel cs x h
  obtain ⟨g3, g4⟩ := SlAt.split g2
  have hn := g3.len
  exact ⟨d2, ⟨A2, n2, c2, e2, g3, r2⟩, by have := r2.1; have := r2.2; omega, g4⟩
theorem opens_TypedNet : Opens Try.prog 49 tnRd := fun H enc W fuel cs x h => by
  obtain ⟨hl, m, hf⟩ := trod_fields Try.underlying49 h
  replace hl : cs.length = 2 := hl.trans (by kernel_rfl)
  obtain ⟨a0, a1, rfl⟩ := len2 hl
  obtain ⟨y0, h0⟩ : ∃ y, DataW.trod enc Try.prog W 0 (fun _ => true) true m 24 (([a0, a1].drop 0).take (Try.prog.cellsOf 24)) = some y := hf 0 _ rfl
  have k0 : Try.prog.cellsOf 24 = 1 := by kernel_rfl
  rw [k0] at h0; simp only [List.drop_zero, List.drop_succ_cons, List.take_succ_cons, List.take_zero] at h0
  obtain ⟨d0, A0, n0, c0, e0, g0⟩ := opens_Net H enc W _ _ _ h0
  simp only [List.cons.injEq, and_true] at e0
  obtain ⟨y1, h1⟩ : ∃ y, DataW.trod enc Try.prog W 0 (fun _ => true) true m 47 (([a0, a1].drop 1).take (Try.prog.cellsOf 47)) = some y := hf 1 _ rfl
  have k1 : Try.prog.cellsOf 47 = 1 := by kernel_rfl
  rw [k1] at h1; simp only [List.drop_zero, List.drop_succ_cons, List.take_succ_cons, List.take_zero] at h1
  obtain ⟨d1, A1, n1, c1, e1, g1, r1⟩ := opens_slice Try.underlying47 (by kernel_rfl) (by decide) tySRd_ok opens_TypeS H enc W _ _ _ h1
  simp only [List.cons.injEq, and_true] at e1
  subst e0; subst e1
  obtain ⟨g3, g4⟩ := SlAt.split g1
  have hn := g3.len
  exact ⟨⟨d0, d1⟩, ⟨A0, n0, c0, A1, n1, c1, rfl, g0, g3, r1⟩, by have := r1.1; have := r1.2; simp only; omega, g4⟩
end
section
open Go.ChangeShapes Go.WideShapes Go.ChangeAt Go.RowKit Go.WideElems
set_option linter.unusedVariables false
theorem own : ownKnob Try.prog.godebug = none := by kernel_rfl
theorem laid : laidOutB Try.prog = true := by kernel_rfl
section
variable {H : Type} {enc : TypeId × Value → H}
theorem trodAll_stays {W W' : World} {sp : Nat → Bool} (hb : Below W.heap.size W W') : ∀ (ts : List TypeId) (vs : List Value) (ds : List (DataW H)) (ps : List MemPlace),
    (∀ t ∈ ts, Try.prog.readableRec t = true ∧ t < Try.prog.types.size) → DataW.TrodAll enc Try.prog W 0 (fun _ => true) true ts vs ds ps →
    (∀ x ∈ ps, x.block < W.heap.size) → (∀ x ∈ ps, sp x.block = true) → DataW.TrodAll enc Try.prog W' 0 sp true ts vs ds ps
  | [], [], [], ps, _, h, _, _ => h
  | t :: ts, v :: vs, d :: ds, ps, hts, h, hlt, hsp => by
    obtain ⟨p, q, h1, h2, rfl⟩ := h
    have ht := hts t (by simp)
    exact ⟨p, q, Trod_stays laid ht.1 ht.2 h1 (fun x hx => hb.same (hlt x (by simp [hx]))) (fun x hx => hsp x (by simp [hx])),
      trodAll_stays hb ts vs ds q (fun t' h' => hts t' (by simp [h'])) h2 (fun x hx => hlt x (by simp [hx])) (fun x hx => hsp x (by simp [hx])), rfl⟩
  | [], _ :: _, _, _, _, h, _, _ => h.elim
  | [], [], _ :: _, _, _, h, _, _ => h.elim
  | _ :: _, [], _, _, _, h, _, _ => h.elim
  | _ :: _, _ :: _, [], _, _, h, _, _ => h.elim
theorem post_law {f : Func} {s : ChangeSpec} {W W' : World} {args : Array Value} {ds : List (DataW H)} {before : List MemPlace}
    (hv : s.vars = []) (hr1 : f.resultTypes = #[4])
    (hp0 : (f.params.toList.all fun t => Try.prog.readableRec t && decide (t < Try.prog.types.size)) = true)
    (hres : (s.fn H (ds ++ [])).results = [.lit (.bool true)]) (hargs : (s.fn H (ds ++ [])).args = ds) (hvars : (s.fn H (ds ++ [])).vars = [])
    (hW : DataW.Whole enc Try.prog f.params.toList s.vars false W args.toList ds [] before)
    (hb : Below W.heap.size W W') :
    s.post enc Try.prog f false true false false W args (.bool true) W' := by
  have hp : ∀ t ∈ f.params.toList, Try.prog.readableRec t = true ∧ t < Try.prog.types.size := fun t ht => by simpa using List.all_eq_true.1 hp0 t ht
  have hlt : ∀ p ∈ before, p.block < W.heap.size := fun p hp => hW.lt p hp
  have hold : ∀ p ∈ before, (fun b => decide (b < W.heap.size)) p.block = true := fun p hp => by simpa using hlt p hp
  have hWh := hW
  obtain ⟨p, q, hA, hV, rfl, hfz, _⟩ := hWh
  rw [hv] at hV
  obtain rfl : q = [] := hV
  rw [List.append_nil] at hlt hold
  have hA' : ∀ sp : Nat → Bool, (∀ x ∈ p, sp x.block = true) → DataW.TrodAll enc Try.prog W' 0 sp true f.params.toList args.toList ds p := fun sp hsp =>
    trodAll_stays hb _ _ _ _ hp hA hlt hsp
  rw [List.append_nil] at hW
  refine ⟨ds, [], p, [], p, [], hW, ?_, ?_, ?_, World.keptBut_mono (fun x hx => ⟨hx, ?_⟩) (hb.frame (· ∈ p)), fun h => by cases h⟩
  · rw [hres, hr1]
    exact trodAll_cons_mk (shut_bool Try.underlying4 _) trodAll_mk0
  · rw [hargs]
    exact hA' _ hold
  · rw [hvars, hv]
    rfl
  · simp [hx]
end
end
end Go.Proofs.Ytpbobilkejblgaa
