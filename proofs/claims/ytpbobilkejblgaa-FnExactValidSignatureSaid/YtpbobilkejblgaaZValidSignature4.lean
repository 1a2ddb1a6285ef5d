/- Lemmas of the proof of ValidSignature, part 4. No condition. -/
import Derived.Test.YtpbobilkejblgaaZValidSignature3
namespace Go.Proofs.Ytpbobilkejblgaa
section
open Go.RowKit
set_option linter.unusedVariables false
set_option linter.unusedSimpArgs false
set_option maxRecDepth 100000
noncomputable def m_impl_isSmall (d0 : Int) : Option Bool :=
  (bif (decide (d0 ≥ 97)) then some (decide (d0 ≤ 122)) else some false)
set_option maxHeartbeats 2000000 in
theorem c_m_impl_isSmall (d0 : Int) (r : Bool) (hm : m_impl_isSmall d0 = some r)  (w : World)  :
    Calls Try.prog 190 #[.int .u8 d0] w fun e w' => e = .returned (.bool r) ∧ Below w.heap.size w w' := by
  have T := Below.refl w.heap.size w
  unfold m_impl_isSmall at hm
  refine enter 9 Try.func190 rfl rfl rfl ?_
  intro f hf
  have s0 : f 0 = .int .u8 d0 := hf 0 _ rfl
  refine wp_seq ?_
  refine wp_rs rfl ?_
  refine RQ.y rfl (Y.assign (v := .bool false) rfl) ?_
  refine RQ.nil ?_
  refine then_n ?_
  refine wp_seq ?_
  refine wp_rs rfl ?_
  refine RQ.y rfl (Y.move (v := .int .u8 d0) s0) ?_
  refine RQ.y rfl (Y.binI (v := .bool (decide (d0 ≥ 97))) rfl rfl rfl) ?_
  refine RQ.y rfl (Y.move (v := .bool (decide (d0 ≥ 97))) rfl) ?_
  rcases bcases (decide (d0 ≥ 97)) with c1 | c1
  · replace hm := cF c1 hm
    have pc1 := of_decide_eq_false c1
    refine RQ.skip (wantN (dj := 5) rfl (vb rfl c1) rfl) ?_
    refine RQ.skip (wantN (dj := 5) rfl (vb rfl c1) rfl) ?_
    refine RQ.y rfl (Y.pick (b := false) (v := .bool false) (vb rfl c1) rfl) ?_
    refine RQ.y rfl (Y.assign (v := .bool false) rfl) ?_
    refine RQ.nil ?_
    refine then_n ?_
    refine wp_ret ?_
    obtain rfl := Option.some.inj hm
    exact (ret1 rfl rfl rfl ⟨rfl, T⟩)
  · replace hm := cT c1 hm
    have pc1 := of_decide_eq_true c1
    refine RQ.y (wantT (dj := 5) rfl (vb rfl c1)) (Y.move (v := .int .u8 d0) s0) ?_
    refine RQ.y (wantT (dj := 5) rfl (vb rfl c1)) (Y.binI (v := .bool (decide (d0 ≤ 122))) rfl rfl rfl) ?_
    refine RQ.y rfl (Y.pick (b := true) (v := .bool (decide (d0 ≤ 122))) (vb rfl c1) rfl) ?_
    refine RQ.y rfl (Y.assign (v := .bool (decide (d0 ≤ 122))) rfl) ?_
    refine RQ.nil ?_
    refine then_n ?_
    refine wp_ret ?_
    obtain rfl := Option.some.inj hm
    exact (ret1 rfl rfl rfl ⟨rfl, T⟩)
noncomputable def m_impl_isCapital (d0 : Int) : Option Bool :=
  (bif (decide (d0 ≥ 65)) then some (decide (d0 ≤ 90)) else some false)
set_option maxHeartbeats 2000000 in
theorem c_m_impl_isCapital (d0 : Int) (r : Bool) (hm : m_impl_isCapital d0 = some r)  (w : World)  :
    Calls Try.prog 141 #[.int .u8 d0] w fun e w' => e = .returned (.bool r) ∧ Below w.heap.size w w' := by
  have T := Below.refl w.heap.size w
  unfold m_impl_isCapital at hm
  refine enter 9 Try.func141 rfl rfl rfl ?_
  intro f hf
  have s0 : f 0 = .int .u8 d0 := hf 0 _ rfl
  refine wp_seq ?_
  refine wp_rs rfl ?_
  refine RQ.y rfl (Y.assign (v := .bool false) rfl) ?_
  refine RQ.nil ?_
  refine then_n ?_
  refine wp_seq ?_
  refine wp_rs rfl ?_
  refine RQ.y rfl (Y.move (v := .int .u8 d0) s0) ?_
  refine RQ.y rfl (Y.binI (v := .bool (decide (d0 ≥ 65))) rfl rfl rfl) ?_
  refine RQ.y rfl (Y.move (v := .bool (decide (d0 ≥ 65))) rfl) ?_
  rcases bcases (decide (d0 ≥ 65)) with c1 | c1
  · replace hm := cF c1 hm
    have pc1 := of_decide_eq_false c1
    refine RQ.skip (wantN (dj := 5) rfl (vb rfl c1) rfl) ?_
    refine RQ.skip (wantN (dj := 5) rfl (vb rfl c1) rfl) ?_
    refine RQ.y rfl (Y.pick (b := false) (v := .bool false) (vb rfl c1) rfl) ?_
    refine RQ.y rfl (Y.assign (v := .bool false) rfl) ?_
    refine RQ.nil ?_
    refine then_n ?_
    refine wp_ret ?_
    obtain rfl := Option.some.inj hm
    exact (ret1 rfl rfl rfl ⟨rfl, T⟩)
  · replace hm := cT c1 hm
    have pc1 := of_decide_eq_true c1
    refine RQ.y (wantT (dj := 5) rfl (vb rfl c1)) (Y.move (v := .int .u8 d0) s0) ?_
    refine RQ.y (wantT (dj := 5) rfl (vb rfl c1)) (Y.binI (v := .bool (decide (d0 ≤ 90))) rfl rfl rfl) ?_
    refine RQ.y rfl (Y.pick (b := true) (v := .bool (decide (d0 ≤ 90))) (vb rfl c1) rfl) ?_
    refine RQ.y rfl (Y.assign (v := .bool (decide (d0 ≤ 90))) rfl) ?_
    refine RQ.nil ?_
    refine then_n ?_
    refine wp_ret ?_
    obtain rfl := Option.some.inj hm
    exact (ret1 rfl rfl rfl ⟨rfl, T⟩)
noncomputable def m_impl_isDigit (d0 : Int) : Option Bool :=
  (bif (decide (d0 ≥ 48)) then some (decide (d0 ≤ 57)) else some false)
set_option maxHeartbeats 2000000 in
theorem c_m_impl_isDigit (d0 : Int) (r : Bool) (hm : m_impl_isDigit d0 = some r)  (w : World)  :
    Calls Try.prog 170 #[.int .u8 d0] w fun e w' => e = .returned (.bool r) ∧ Below w.heap.size w w' := by
  have T := Below.refl w.heap.size w
  unfold m_impl_isDigit at hm
  refine enter 9 Try.func170 rfl rfl rfl ?_
  intro f hf
  have s0 : f 0 = .int .u8 d0 := hf 0 _ rfl
  refine wp_seq ?_
  refine wp_rs rfl ?_
  refine RQ.y rfl (Y.assign (v := .bool false) rfl) ?_
  refine RQ.nil ?_
  refine then_n ?_
  refine wp_seq ?_
  refine wp_rs rfl ?_
  refine RQ.y rfl (Y.move (v := .int .u8 d0) s0) ?_
  refine RQ.y rfl (Y.binI (v := .bool (decide (d0 ≥ 48))) rfl rfl rfl) ?_
  refine RQ.y rfl (Y.move (v := .bool (decide (d0 ≥ 48))) rfl) ?_
  rcases bcases (decide (d0 ≥ 48)) with c1 | c1
  · replace hm := cF c1 hm
    have pc1 := of_decide_eq_false c1
    refine RQ.skip (wantN (dj := 5) rfl (vb rfl c1) rfl) ?_
    refine RQ.skip (wantN (dj := 5) rfl (vb rfl c1) rfl) ?_
    refine RQ.y rfl (Y.pick (b := false) (v := .bool false) (vb rfl c1) rfl) ?_
    refine RQ.y rfl (Y.assign (v := .bool false) rfl) ?_
    refine RQ.nil ?_
    refine then_n ?_
    refine wp_ret ?_
    obtain rfl := Option.some.inj hm
    exact (ret1 rfl rfl rfl ⟨rfl, T⟩)
  · replace hm := cT c1 hm
    have pc1 := of_decide_eq_true c1
    refine RQ.y (wantT (dj := 5) rfl (vb rfl c1)) (Y.move (v := .int .u8 d0) s0) ?_
    refine RQ.y (wantT (dj := 5) rfl (vb rfl c1)) (Y.binI (v := .bool (decide (d0 ≤ 57))) rfl rfl rfl) ?_
    refine RQ.y rfl (Y.pick (b := true) (v := .bool (decide (d0 ≤ 57))) (vb rfl c1) rfl) ?_
    refine RQ.y rfl (Y.assign (v := .bool (decide (d0 ≤ 57))) rfl) ?_
    refine RQ.nil ?_
    refine then_n ?_
    refine wp_ret ?_
    obtain rfl := Option.some.inj hm
    exact (ret1 rfl rfl rfl ⟨rfl, T⟩)
noncomputable def m_impl_isWordByte (d0 : Int) : Option Bool :=
  ((m_impl_isSmall d0).bind fun y1 => (bif y1 then some true else ((m_impl_isCapital d0).bind fun y4 => (bif y4 then some true else ((m_impl_isDigit d0).bind fun y7 => some y7)))))
set_option maxHeartbeats 2000000 in
theorem c_m_impl_isWordByte (d0 : Int) (r : Bool) (hm : m_impl_isWordByte d0 = some r)  (w : World)  :
    Calls Try.prog 172 #[.int .u8 d0] w fun e w' => e = .returned (.bool r) ∧ Below w.heap.size w w' := by
  have T := Below.refl w.heap.size w
  unfold m_impl_isWordByte at hm
  refine enter 13 Try.func172 rfl rfl rfl ?_
  intro f hf
  have s0 : f 0 = .int .u8 d0 := hf 0 _ rfl
  refine wp_seq ?_
  refine wp_rs rfl ?_
  refine RQ.y rfl (Y.assign (v := .bool false) rfl) ?_
  refine RQ.nil ?_
  refine then_n ?_
  refine wp_seq ?_
  refine wp_rb rfl ?_
  refine RQ.y rfl (Y.move (v := .int .u8 d0) s0) ?_
  obtain ⟨y1, e2, hm⟩ := bnd hm
  refine RQ.call rfl (am1 rfl) (by kernel_rfl) (v := .bool y1) (bel (K := fun _ => True) fun w' hb' => (c_m_impl_isSmall d0 _ e2  w' )) ?_
  refine RQ.y rfl (Y.move (v := .bool y1) rfl) ?_
  rcases bcases y1 with c3 | c3
  · replace hm := cF c3 hm
    refine RQ.y (wantT (dj := 5) rfl (vb rfl c3)) (Y.move (v := .int .u8 d0) s0) ?_
    obtain ⟨y4, e5, hm⟩ := bnd hm
    refine RQ.call (wantT (dj := 5) rfl (vb rfl c3)) (am1 rfl) (by kernel_rfl) (v := .bool y4) (bel (K := fun _ => True) fun w' hb' => (c_m_impl_isCapital d0 _ e5  w' )) ?_
    refine RQ.y rfl (Y.pick (b := false) (v := .bool y4) (vb rfl c3) rfl) ?_
    refine RQ.y rfl (Y.move (v := .bool y4) rfl) ?_
    rcases bcases y4 with c6 | c6
    · replace hm := cF c6 hm
      refine RQ.y (wantT (dj := 9) rfl (vb rfl c6)) (Y.move (v := .int .u8 d0) s0) ?_
      obtain ⟨y7, e8, hm⟩ := bnd hm
      refine RQ.call (wantT (dj := 9) rfl (vb rfl c6)) (am1 rfl) (by kernel_rfl) (v := .bool y7) (bel (K := fun _ => True) fun w' hb' => (c_m_impl_isDigit d0 _ e8  w' )) ?_
      refine RQ.y rfl (Y.pick (b := false) (v := .bool y7) (vb rfl c6) rfl) ?_
      refine RQ.y rfl (Y.assign (v := .bool y7) rfl) ?_
      refine RQ.nil ?_
      intro w9 hb10
      have szw9 := hb10.size
      have T := Tt T hb10
      refine then_n ?_
      refine wp_ret ?_
      obtain rfl := Option.some.inj hm
      exact (ret1 rfl rfl rfl ⟨rfl, T⟩)
    · replace hm := cT c6 hm
      refine RQ.skip (wantN (dj := 9) rfl (vb rfl c6) rfl) ?_
      refine RQ.skip (wantN (dj := 9) rfl (vb rfl c6) rfl) ?_
      refine RQ.y rfl (Y.pick (b := true) (v := .bool true) (vb rfl c6) rfl) ?_
      refine RQ.y rfl (Y.assign (v := .bool true) rfl) ?_
      refine RQ.nil ?_
      intro w11 hb12
      have szw11 := hb12.size
      have T := Tt T hb12
      refine then_n ?_
      refine wp_ret ?_
      obtain rfl := Option.some.inj hm
      exact (ret1 rfl rfl rfl ⟨rfl, T⟩)
  · replace hm := cT c3 hm
    refine RQ.skip (wantN (dj := 5) rfl (vb rfl c3) rfl) ?_
    refine RQ.skip (wantN (dj := 5) rfl (vb rfl c3) rfl) ?_
    refine RQ.y rfl (Y.pick (b := true) (v := .bool true) (vb rfl c3) rfl) ?_
    refine RQ.y rfl (Y.move (v := .bool true) rfl) ?_
    refine RQ.skip (wantN (dj := 9) rfl rfl rfl) ?_
    refine RQ.skip (wantN (dj := 9) rfl rfl rfl) ?_
    refine RQ.y rfl (Y.pick (b := true) (v := .bool true) rfl rfl) ?_
    refine RQ.y rfl (Y.assign (v := .bool true) rfl) ?_
    refine RQ.nil ?_
    intro w13 hb14
    have szw13 := hb14.size
    have T := Tt T hb14
    refine then_n ?_
    refine wp_ret ?_
    obtain rfl := Option.some.inj hm
    exact (ret1 rfl rfl rfl ⟨rfl, T⟩)
noncomputable def m_slices_Index_string_string_A1 : Option Int :=
  some (-1)
noncomputable def m_slices_Index_string_string_B1 (d0 : List ByteArray) (d1 : ByteArray) (rec1 : Int → Option Int) (K1 : Option Int) (i2 : Int) : Option Int :=
  (bif (decide (i2 < (d0.length : Int))) then ((getI d0 i2).bind fun x5 => (bif (d1.toList == x5.toList) then some i2 else (rec1 (i2 + 1)))) else (K1))
noncomputable def m_slices_Index_string_string_L1 (d0 : List ByteArray) (d1 : ByteArray) (K1 : Option Int) : Nat → Int → Option Int
  | 0, _ => none
  | g + 1, i2 => m_slices_Index_string_string_B1 d0 d1 (m_slices_Index_string_string_L1 d0 d1 K1 g) K1 i2
noncomputable def m_slices_Index_string_string (d0 : List ByteArray) (d1 : ByteArray) : Option Int :=
  (m_slices_Index_string_string_L1 d0 d1 m_slices_Index_string_string_A1 (d0.length + 1) 0)
set_option maxHeartbeats 2000000 in
theorem c_m_slices_Index_string_string (d0 : List ByteArray) (d1 : ByteArray) (r : Int) (hm : m_slices_Index_string_string d0 d1 = some r) (v0 : Value) (w : World) (hv0 : Sl strRd 1 w v0 d0) :
    Calls Try.prog 192 #[v0, .string d1] w fun e w' => e = .returned (.int .i64 r) ∧ Below w.heap.size w w' := by
  obtain ⟨Aa0, na0, ca0, rfl, ha0, ra0⟩ := hv0
  have ea0 := ha0.len; subst ea0
  have qa0 := len_le ra0
  have T := Below.refl w.heap.size w
  unfold m_slices_Index_string_string at hm
  refine enter 19 Try.func192 rfl rfl rfl ?_
  intro f hf
  have s0 : f 0 = .slice Aa0 d0.length ca0 := hf 0 _ rfl
  have s1 : f 1 = .string d1 := hf 1 _ rfl
  refine wp_seq ?_
  refine wp_rs rfl ?_
  refine RQ.y rfl (Y.assign (v := .int .i64 0) rfl) ?_
  refine RQ.nil ?_
  refine then_n ?_
  refine wp_seq ?_
  refine wp_seq ?_
  refine wp_rs rfl ?_
  refine RQ.y rfl (Y.move (v := .slice Aa0 d0.length ca0) s0) ?_
  refine RQ.y rfl (Y.len (by kernel_rfl) rfl) ?_
  refine RQ.y rfl (Y.move (v := .int .i64 0) rfl) ?_
  refine RQ.nil ?_
  refine then_n ?_
  refine wp_block ?_
  obtain ⟨K1, hK1, hm⟩ : ∃ K, K = m_slices_Index_string_string_A1 ∧ m_slices_Index_string_string_L1 d0 d1 K (d0.length + 1) 0 = some r := ⟨_, rfl, hm⟩
  refine wp_loopX (fun g f w' => ∃ (i2 : Int), f 0 = .slice Aa0 d0.length ca0 ∧ f 1 = .string d1 ∧ f 7 = .int .i64 (d0.length : Int) ∧ f 8 = .int .i64 i2 ∧ 0 ≤ i2 ∧ Below w.heap.size w w' ∧ m_slices_Index_string_string_L1 d0 d1 K1 g i2 = some r) 0 (fun f w' => Below w.heap.size w w' ∧ m_slices_Index_string_string_A1  = some r) (d0.length + 1) ⟨0, s0, s1, rfl, rfl, (by omega), T, hm⟩ ?_ ?_
  · rintro f w1 ⟨T, hm⟩
    unfold m_slices_Index_string_string_A1 at hm
    refine blk_hit (then_n ?_)
    refine wp_seq ?_
    refine wp_rs rfl ?_
    refine RQ.y rfl (Y.assign (v := .int .i64 (-1)) rfl) ?_
    refine RQ.nil ?_
    refine then_n ?_
    refine wp_ret ?_
    obtain rfl := Option.some.inj hm
    exact (ret1 rfl rfl rfl ⟨rfl, T⟩)
  · rintro g f w3 ⟨i2, s0_1, s1_1, s7_1, s8_1, nn8_1, T, hm⟩
    rcases g with _ | g
    · simp only [m_slices_Index_string_string_L1] at hm; cases hm
    obtain ⟨rec1, hrec1, hm⟩ : ∃ z, z = m_slices_Index_string_string_L1 d0 d1 K1 g ∧ m_slices_Index_string_string_B1 d0 d1 z K1 i2 = some r := ⟨_, rfl, hm⟩
    unfold m_slices_Index_string_string_B1 at hm
    refine wp_seq ?_
    refine wp_rs rfl ?_
    refine RQ.y rfl (Y.binI (v := .bool (decide (i2 < (d0.length : Int)))) s8_1 s7_1 rfl) ?_
    refine RQ.nil ?_
    refine then_n ?_
    refine wp_seq ?_
    rcases bcases (decide (i2 < (d0.length : Int))) with c4 | c4
    · replace hm := cF c4 hm
      have pc4 := of_decide_eq_false c4
      refine cond_f rfl (vb rfl c4) ?_
      refine wp_exit ?_
      exact (then_x (then_x (hit_x ⟨_, rfl, ⟨T, (by rw [hK1] at hm; exact hm)⟩⟩)))
    · replace hm := cT c4 hm
      have pc4 := of_decide_eq_true c4
      refine cond_t rfl (vb rfl c4) ?_
      refine wp_skip ?_
      refine then_n ?_
      refine wp_seq ?_
      refine wp_block ?_
      refine wp_seq ?_
      refine wp_rs rfl ?_
      refine RQ.y rfl (Y.move (v := .int .i64 i2) s8_1) ?_
      refine RQ.y rfl (Y.assign (v := .int .i64 i2) rfl) ?_
      refine RQ.nil ?_
      refine then_n ?_
      refine wp_seq ?_
      refine wp_rs rfl ?_
      refine RQ.y rfl (Y.move (v := .string d1) s1_1) ?_
      refine RQ.y rfl (Y.move (v := .slice Aa0 d0.length ca0) s0_1) ?_
      refine RQ.y rfl (Y.move (v := .int .i64 i2) rfl) ?_
      obtain ⟨x5, hx8, hm⟩ := bnd hm
      obtain ⟨k6, hk9, hl10, hx8⟩ := getI_some hx8
      obtain ⟨b12, o13, rfl, hbb12⟩ := ha0.addr (by omega)
      obtain ⟨cs7, hRcs7, hc11⟩ := ha0.el hx8
      have hScs7 := hRcs7
      obtain rfl := hRcs7
      refine RQ.y rfl (Y.indexAddr (m := k6) (sz := 1) rfl rfl hk9 hl10 (by kernel_rfl)) ?_
      refine RQ.y rfl (Y.load (v := .string x5) rfl (by kernel_rfl) (eqC (cellT T (hc11 0 _ rfl)))) ?_
      refine RQ.y rfl (Y.eqStr rfl rfl (by kernel_rfl)) ?_
      refine RQ.nil ?_
      refine then_n ?_
      rcases bcases (d1.toList == x5.toList) with c14 | c14
      · replace hm := cF c14 hm
        refine cond_f rfl (vb rfl c14) ?_
        refine wp_skip ?_
        refine blk_n (then_n ?_)
        refine wp_rs rfl ?_
        refine RQ.y rfl (Y.binI s8_1 rfl (binI_add (m := i2) (by omega))) ?_
        refine RQ.y rfl (Y.move (v := .int .i64 (i2 + 1)) rfl) ?_
        refine RQ.nil ?_
        exact (then_n ⟨g, _, Nat.lt_succ_self _, rfl, ⟨(i2 + 1), s0_1, s1_1, s7_1, rfl, (by omega), T, (by rw [← hrec1]; exact hm)⟩⟩)
      · replace hm := cT c14 hm
        refine cond_t rfl (vb rfl c14) ?_
        refine wp_seq ?_
        refine wp_rs rfl ?_
        refine RQ.y rfl (Y.move (v := .int .i64 i2) rfl) ?_
        refine RQ.y rfl (Y.assign (v := .int .i64 i2) rfl) ?_
        refine RQ.nil ?_
        refine then_n ?_
        refine wp_ret ?_
        obtain rfl := Option.some.inj hm
        exact (blk_r (then_r (then_r (hit_r (blk_r (then_r (ret1 rfl rfl rfl ⟨rfl, T⟩)))))))
noncomputable def m_slices_Contains_string_string (d0 : List ByteArray) (d1 : ByteArray) : Option Bool :=
  ((m_slices_Index_string_string d0 d1).bind fun y1 => some (decide (y1 ≥ 0)))
set_option maxHeartbeats 2000000 in
theorem c_m_slices_Contains_string_string (d0 : List ByteArray) (d1 : ByteArray) (r : Bool) (hm : m_slices_Contains_string_string d0 d1 = some r) (v0 : Value) (w : World) (hv0 : Sl strRd 1 w v0 d0) :
    Calls Try.prog 189 #[v0, .string d1] w fun e w' => e = .returned (.bool r) ∧ Below w.heap.size w w' := by
  obtain ⟨Aa0, na0, ca0, rfl, ha0, ra0⟩ := hv0
  have ea0 := ha0.len; subst ea0
  have qa0 := len_le ra0
  have T := Below.refl w.heap.size w
  unfold m_slices_Contains_string_string at hm
  refine enter 9 Try.func189 rfl rfl rfl ?_
  intro f hf
  have s0 : f 0 = .slice Aa0 d0.length ca0 := hf 0 _ rfl
  have s1 : f 1 = .string d1 := hf 1 _ rfl
  refine wp_seq ?_
  refine wp_rs rfl ?_
  refine RQ.y rfl (Y.assign (v := .bool false) rfl) ?_
  refine RQ.nil ?_
  refine then_n ?_
  refine wp_seq ?_
  refine wp_rb rfl ?_
  refine RQ.y rfl (Y.move (v := .slice Aa0 d0.length ca0) s0) ?_
  refine RQ.y rfl (Y.move (v := .string d1) s1) ?_
  obtain ⟨y1, e2, hm⟩ := bnd hm
  refine RQ.call rfl (am2 rfl rfl) (by kernel_rfl) (v := .int .i64 y1) (bel (K := fun _ => True) fun w' hb' => (c_m_slices_Index_string_string d0 d1 _ e2 _ w' (slArg strRd_ok ha0 ra0 (Tt T hb')))) ?_
  refine RQ.y rfl (Y.binI (v := .bool (decide (y1 ≥ 0))) rfl rfl rfl) ?_
  refine RQ.y rfl (Y.assign (v := .bool (decide (y1 ≥ 0))) rfl) ?_
  refine RQ.nil ?_
  intro w3 hb4
  have szw3 := hb4.size
  have T := Tt T hb4
  refine then_n ?_
  refine wp_ret ?_
  obtain rfl := Option.some.inj hm
  exact (ret1 rfl rfl rfl ⟨rfl, T⟩)
noncomputable def m_impl_IsKeyword (d0 : ByteArray) : Option Bool :=
  ((m_slices_Contains_string_string ([(ByteArray.mk #[100, 97, 116, 97]), (ByteArray.mk #[100, 101, 102]), (ByteArray.mk #[108, 101, 116]), (ByteArray.mk #[105, 110]), (ByteArray.mk #[109, 97, 116, 99, 104]), (ByteArray.mk #[105, 102]), (ByteArray.mk #[116, 104, 101, 110]), (ByteArray.mk #[101, 108, 115, 101])]) d0).bind fun y7 => some y7)
set_option maxHeartbeats 2000000 in
theorem c_m_impl_IsKeyword (d0 : ByteArray) (r : Bool) (hm : m_impl_IsKeyword d0 = some r)  (w : World)  :
    Calls Try.prog 171 #[.string d0] w fun e w' => e = .returned (.bool r) ∧ Below w.heap.size w w' := by
  have T := Below.refl w.heap.size w
  unfold m_impl_IsKeyword at hm
  refine enter 6 Try.func171 rfl rfl rfl ?_
  intro f hf
  have s0 : f 0 = .string d0 := hf 0 _ rfl
  refine wp_seq ?_
  refine wp_rs rfl ?_
  refine RQ.y rfl (Y.assign (v := .bool false) rfl) ?_
  refine RQ.nil ?_
  refine then_n ?_
  refine wp_seq ?_
  refine wp_rl rfl ?_
  refine RL.bslice (e := 9) (cells := #[.string (ByteArray.mk #[100, 97, 116, 97]), .string (ByteArray.mk #[100, 101, 102]), .string (ByteArray.mk #[108, 101, 116]), .string (ByteArray.mk #[105, 110]), .string (ByteArray.mk #[109, 97, 116, 99, 104]), .string (ByteArray.mk #[105, 102]), .string (ByteArray.mk #[116, 104, 101, 110]), .string (ByteArray.mk #[101, 108, 115, 101])]) rfl (pm8 rfl rfl rfl rfl rfl rfl rfl rfl) (by kernel_rfl) (fun w1 B2 hb3 szw1 => ?_)
  have ZB2 : w.heap.size ≤ w.heap.size := T.size
  have T := Tt T hb3
  have G5 := OwF.lit (enc := encS) (sz := 1) (xs := [(ByteArray.mk #[100, 97, 116, 97]), (ByteArray.mk #[100, 101, 102]), (ByteArray.mk #[108, 101, 116]), (ByteArray.mk #[105, 110]), (ByteArray.mk #[109, 97, 116, 99, 104]), (ByteArray.mk #[105, 102]), (ByteArray.mk #[116, 104, 101, 110]), (ByteArray.mk #[101, 108, 115, 101])]) B2 ZB2 rfl rfl rfl rfl
  refine RL.y rfl (Y.move (v := .string d0) s0) ?_
  obtain ⟨y7, e8, hm⟩ := bnd hm
  refine RL.call rfl (am2 rfl rfl) (by kernel_rfl) ((c_m_slices_Contains_string_string ([(ByteArray.mk #[100, 97, 116, 97]), (ByteArray.mk #[100, 101, 102]), (ByteArray.mk #[108, 101, 116]), (ByteArray.mk #[105, 110]), (ByteArray.mk #[109, 97, 116, 99, 104]), (ByteArray.mk #[105, 102]), (ByteArray.mk #[116, 104, 101, 110]), (ByteArray.mk #[101, 108, 115, 101])]) d0 _ e8 _ _ (OwF.arg fS G5)).mono ?_)
  rintro _ w9 ⟨rfl, hb10⟩
  refine ⟨_, rfl, ?_⟩
  have szw9 := hb10.size
  have G5 := OwF.below G5 hb10
  have T := Tt T hb10
  refine RL.y rfl (Y.assign (v := .bool y7) rfl) ?_
  refine RL.nil ?_
  refine then_n ?_
  refine wp_ret ?_
  obtain rfl := Option.some.inj hm
  exact (ret1 rfl rfl rfl ⟨rfl, T⟩)
noncomputable def m_impl_IsName_A1 : Option Bool :=
  some true
noncomputable def m_impl_IsName_B1 (d0 : ByteArray) (rec1 : Int → Option Bool) (K1 : Option Bool) (i14 : Int) : Option Bool :=
  (bif (decide (i14 < (d0.size : Int))) then ((getB d0 i14).bind fun x17 => ((m_impl_isWordByte x17).bind fun y19 => (bif y19 then (rec1 (i14 + 1)) else some false))) else (K1))
noncomputable def m_impl_IsName_L1 (d0 : ByteArray) (K1 : Option Bool) : Nat → Int → Option Bool
  | 0, _ => none
  | g + 1, i14 => m_impl_IsName_B1 d0 (m_impl_IsName_L1 d0 K1 g) K1 i14
noncomputable def m_impl_IsName (d0 : ByteArray) : Option Bool :=
  (bif (decide ((d0.size : Int) < 1)) then some false else (bif (decide ((d0.size : Int) > 12)) then some false else ((getB d0 0).bind fun x3 => ((m_impl_isDigit x3).bind fun y5 => (bif y5 then some false else ((m_impl_IsKeyword d0).bind fun y8 => (bif y8 then some false else (m_impl_IsName_L1 d0 m_impl_IsName_A1 (d0.size + 1) 0))))))))
set_option maxHeartbeats 2000000 in
theorem c_m_impl_IsName (d0 : ByteArray) (r : Bool) (hm : m_impl_IsName d0 = some r)  (w : World)  :
    Calls Try.prog 140 #[.string d0] w fun e w' => e = .returned (.bool r) ∧ Below w.heap.size w w' := by
  have T := Below.refl w.heap.size w
  unfold m_impl_IsName at hm
  refine enter 32 Try.func140 rfl rfl rfl ?_
  intro f hf
  have s0 : f 0 = .string d0 := hf 0 _ rfl
  refine wp_seq ?_
  refine wp_rs rfl ?_
  refine RQ.y rfl (Y.assign (v := .bool false) rfl) ?_
  refine RQ.nil ?_
  refine then_n ?_
  refine wp_seq ?_
  refine wp_seq ?_
  refine wp_rb rfl ?_
  refine RQ.y rfl (Y.move (v := .string d0) s0) ?_
  refine RQ.y rfl (Y.lenS (by kernel_rfl) rfl) ?_
  refine RQ.y rfl (Y.binI (v := .bool (decide ((d0.size : Int) < 1))) rfl rfl rfl) ?_
  refine RQ.y rfl (Y.move (v := .bool (decide ((d0.size : Int) < 1))) rfl) ?_
  rcases bcases (decide ((d0.size : Int) < 1)) with c1 | c1
  · replace hm := cF c1 hm
    have pc1 := of_decide_eq_false c1
    refine RQ.y (wantT (dj := 7) rfl (vb rfl c1)) (Y.move (v := .string d0) s0) ?_
    refine RQ.y (wantT (dj := 7) rfl (vb rfl c1)) (Y.lenS (by kernel_rfl) rfl) ?_
    refine RQ.y (wantT (dj := 7) rfl (vb rfl c1)) (Y.binI (v := .bool (decide ((d0.size : Int) > 12))) rfl rfl rfl) ?_
    refine RQ.y rfl (Y.pick (b := false) (v := .bool (decide ((d0.size : Int) > 12))) (vb rfl c1) rfl) ?_
    refine RQ.y rfl (Y.move (v := .bool (decide ((d0.size : Int) > 12))) rfl) ?_
    rcases bcases (decide ((d0.size : Int) > 12)) with c2 | c2
    · replace hm := cF c2 hm
      have pc2 := of_decide_eq_false c2
      refine RQ.y (wantT (dj := 12) rfl (vb rfl c2)) (Y.move (v := .string d0) s0) ?_
      obtain ⟨x3, e4, hm⟩ := bnd hm
      refine RQ.y (wantT (dj := 12) rfl (vb rfl c2)) (Y.idxStr (b := x3) rfl rfl (by kernel_rfl) e4) ?_
      obtain ⟨y5, e6, hm⟩ := bnd hm
      refine RQ.call (wantT (dj := 12) rfl (vb rfl c2)) (am1 rfl) (by kernel_rfl) (v := .bool y5) (bel (K := fun _ => True) fun w' hb' => (c_m_impl_isDigit x3 _ e6  w' )) ?_
      refine RQ.y rfl (Y.pick (b := false) (v := .bool y5) (vb rfl c2) rfl) ?_
      refine RQ.y rfl (Y.move (v := .bool y5) rfl) ?_
      rcases bcases y5 with c7 | c7
      · replace hm := cF c7 hm
        refine RQ.y (wantT (dj := 17) rfl (vb rfl c7)) (Y.move (v := .string d0) s0) ?_
        obtain ⟨y8, e9, hm⟩ := bnd hm
        refine RQ.call (wantT (dj := 17) rfl (vb rfl c7)) (am1 rfl) (by kernel_rfl) (v := .bool y8) (bel (K := fun _ => True) fun w' hb' => (c_m_impl_IsKeyword d0 _ e9  w' )) ?_
        refine RQ.y rfl (Y.pick (b := false) (v := .bool y8) (vb rfl c7) rfl) ?_
        refine RQ.nil ?_
        intro w10 hb11
        have szw10 := hb11.size
        have T := Tt T hb11
        refine then_n ?_
        rcases bcases y8 with c12 | c12
        · replace hm := cF c12 hm
          refine cond_f rfl (vb rfl c12) ?_
          refine wp_skip ?_
          refine then_n ?_
          refine wp_seq ?_
          refine wp_seq ?_
          refine wp_rs rfl ?_
          refine RQ.y rfl (Y.move (v := .string d0) s0) ?_
          refine RQ.y rfl (Y.lenS (by kernel_rfl) rfl) ?_
          refine RQ.y rfl (Y.move (v := .int .i64 0) rfl) ?_
          refine RQ.nil ?_
          refine then_n ?_
          refine wp_block ?_
          obtain ⟨K1, hK1, hm⟩ : ∃ K, K = m_impl_IsName_A1 ∧ m_impl_IsName_L1 d0 K (d0.size + 1) 0 = some r := ⟨_, rfl, hm⟩
          refine wp_loopX (fun g f w' => ∃ (i14 : Int), f 0 = .string d0 ∧ f 22 = .int .i64 (d0.size : Int) ∧ f 23 = .int .i64 i14 ∧ 0 ≤ i14 ∧ Below w.heap.size w w' ∧ m_impl_IsName_L1 d0 K1 g i14 = some r) 0 (fun f w' => Below w.heap.size w w' ∧ m_impl_IsName_A1  = some r) (d0.size + 1) ⟨0, s0, rfl, rfl, (by omega), T, hm⟩ ?_ ?_
          · rintro f w13 ⟨T, hm⟩
            unfold m_impl_IsName_A1 at hm
            refine blk_hit (then_n ?_)
            refine wp_seq ?_
            refine wp_rs rfl ?_
            refine RQ.y rfl (Y.assign (v := .bool true) rfl) ?_
            refine RQ.nil ?_
            refine then_n ?_
            refine wp_ret ?_
            obtain rfl := Option.some.inj hm
            exact (ret1 rfl rfl rfl ⟨rfl, T⟩)
          · rintro g f w15 ⟨i14, s0_1, s22_1, s23_1, nn23_1, T, hm⟩
            rcases g with _ | g
            · simp only [m_impl_IsName_L1] at hm; cases hm
            obtain ⟨rec1, hrec1, hm⟩ : ∃ z, z = m_impl_IsName_L1 d0 K1 g ∧ m_impl_IsName_B1 d0 z K1 i14 = some r := ⟨_, rfl, hm⟩
            unfold m_impl_IsName_B1 at hm
            refine wp_seq ?_
            refine wp_rs rfl ?_
            refine RQ.y rfl (Y.binI (v := .bool (decide (i14 < (d0.size : Int)))) s23_1 s22_1 rfl) ?_
            refine RQ.nil ?_
            refine then_n ?_
            refine wp_seq ?_
            rcases bcases (decide (i14 < (d0.size : Int))) with c16 | c16
            · replace hm := cF c16 hm
              have pc16 := of_decide_eq_false c16
              refine cond_f rfl (vb rfl c16) ?_
              refine wp_exit ?_
              exact (then_x (then_x (hit_x ⟨_, rfl, ⟨T, (by rw [hK1] at hm; exact hm)⟩⟩)))
            · replace hm := cT c16 hm
              have pc16 := of_decide_eq_true c16
              refine cond_t rfl (vb rfl c16) ?_
              refine wp_skip ?_
              refine then_n ?_
              refine wp_seq ?_
              refine wp_block ?_
              refine wp_seq ?_
              refine wp_rs rfl ?_
              refine RQ.y rfl (Y.move (v := .int .i64 i14) s23_1) ?_
              refine RQ.y rfl (Y.assign (v := .int .i64 i14) rfl) ?_
              refine RQ.nil ?_
              refine then_n ?_
              refine wp_seq ?_
              refine wp_rb rfl ?_
              refine RQ.y rfl (Y.move (v := .string d0) s0_1) ?_
              refine RQ.y rfl (Y.move (v := .int .i64 i14) rfl) ?_
              obtain ⟨x17, e18, hm⟩ := bnd hm
              refine RQ.y rfl (Y.idxStr (b := x17) rfl rfl (by kernel_rfl) e18) ?_
              obtain ⟨y19, e20, hm⟩ := bnd hm
              refine RQ.call rfl (am1 rfl) (by kernel_rfl) (v := .bool y19) (bel (K := fun _ => True) fun w' hb' => (c_m_impl_isWordByte x17 _ e20  w' )) ?_
              refine RQ.y rfl (Y.not (b' := (!y19)) rfl rfl) ?_
              refine RQ.nil ?_
              intro w21 hb22
              have szw21 := hb22.size
              have T := Tt T hb22
              refine then_n ?_
              rcases bcases y19 with c23 | c23
              · replace hm := cF c23 hm
                refine cond_t rfl (vbn rfl c23 rfl) ?_
                refine wp_seq ?_
                refine wp_rs rfl ?_
                refine RQ.y rfl (Y.assign (v := .bool false) rfl) ?_
                refine RQ.nil ?_
                refine then_n ?_
                refine wp_ret ?_
                obtain rfl := Option.some.inj hm
                exact (blk_r (then_r (then_r (hit_r (blk_r (then_r (ret1 rfl rfl rfl ⟨rfl, T⟩)))))))
              · replace hm := cT c23 hm
                refine cond_f rfl (vbn rfl c23 rfl) ?_
                refine wp_skip ?_
                refine blk_n (then_n ?_)
                refine wp_rs rfl ?_
                refine RQ.y rfl (Y.binI s23_1 rfl (binI_add (m := i14) (by omega))) ?_
                refine RQ.y rfl (Y.move (v := .int .i64 (i14 + 1)) rfl) ?_
                refine RQ.nil ?_
                exact (then_n ⟨g, _, Nat.lt_succ_self _, rfl, ⟨(i14 + 1), s0_1, s22_1, rfl, (by omega), T, (by rw [← hrec1]; exact hm)⟩⟩)
        · replace hm := cT c12 hm
          refine cond_t rfl (vb rfl c12) ?_
          refine wp_seq ?_
          refine wp_rs rfl ?_
          refine RQ.y rfl (Y.assign (v := .bool false) rfl) ?_
          refine RQ.nil ?_
          refine then_n ?_
          refine wp_ret ?_
          obtain rfl := Option.some.inj hm
          exact (then_r (ret1 rfl rfl rfl ⟨rfl, T⟩))
      · replace hm := cT c7 hm
        refine RQ.skip (wantN (dj := 17) rfl (vb rfl c7) rfl) ?_
        refine RQ.skip (wantN (dj := 17) rfl (vb rfl c7) rfl) ?_
        refine RQ.y rfl (Y.pick (b := true) (v := .bool true) (vb rfl c7) rfl) ?_
        refine RQ.nil ?_
        intro w25 hb26
        have szw25 := hb26.size
        have T := Tt T hb26
        refine then_n ?_
        refine cond_t rfl rfl ?_
        refine wp_seq ?_
        refine wp_rs rfl ?_
        refine RQ.y rfl (Y.assign (v := .bool false) rfl) ?_
        refine RQ.nil ?_
        refine then_n ?_
        refine wp_ret ?_
        obtain rfl := Option.some.inj hm
        exact (then_r (ret1 rfl rfl rfl ⟨rfl, T⟩))
    · replace hm := cT c2 hm
      have pc2 := of_decide_eq_true c2
      refine RQ.skip (wantN (dj := 12) rfl (vb rfl c2) rfl) ?_
      refine RQ.skip (wantN (dj := 12) rfl (vb rfl c2) rfl) ?_
      refine RQ.skip (wantN (dj := 12) rfl (vb rfl c2) rfl) ?_
      refine RQ.y rfl (Y.pick (b := true) (v := .bool true) (vb rfl c2) rfl) ?_
      refine RQ.y rfl (Y.move (v := .bool true) rfl) ?_
      refine RQ.skip (wantN (dj := 17) rfl rfl rfl) ?_
      refine RQ.skip (wantN (dj := 17) rfl rfl rfl) ?_
      refine RQ.y rfl (Y.pick (b := true) (v := .bool true) rfl rfl) ?_
      refine RQ.nil ?_
      intro w27 hb28
      have szw27 := hb28.size
      have T := Tt T hb28
      refine then_n ?_
      refine cond_t rfl rfl ?_
      refine wp_seq ?_
      refine wp_rs rfl ?_
      refine RQ.y rfl (Y.assign (v := .bool false) rfl) ?_
      refine RQ.nil ?_
      refine then_n ?_
      refine wp_ret ?_
      obtain rfl := Option.some.inj hm
      exact (then_r (ret1 rfl rfl rfl ⟨rfl, T⟩))
  · replace hm := cT c1 hm
    have pc1 := of_decide_eq_true c1
    refine RQ.skip (wantN (dj := 7) rfl (vb rfl c1) rfl) ?_
    refine RQ.skip (wantN (dj := 7) rfl (vb rfl c1) rfl) ?_
    refine RQ.skip (wantN (dj := 7) rfl (vb rfl c1) rfl) ?_
    refine RQ.y rfl (Y.pick (b := true) (v := .bool true) (vb rfl c1) rfl) ?_
    refine RQ.y rfl (Y.move (v := .bool true) rfl) ?_
    refine RQ.skip (wantN (dj := 12) rfl rfl rfl) ?_
    refine RQ.skip (wantN (dj := 12) rfl rfl rfl) ?_
    refine RQ.skip (wantN (dj := 12) rfl rfl rfl) ?_
    refine RQ.y rfl (Y.pick (b := true) (v := .bool true) rfl rfl) ?_
    refine RQ.y rfl (Y.move (v := .bool true) rfl) ?_
    refine RQ.skip (wantN (dj := 17) rfl rfl rfl) ?_
    refine RQ.skip (wantN (dj := 17) rfl rfl rfl) ?_
    refine RQ.y rfl (Y.pick (b := true) (v := .bool true) rfl rfl) ?_
    refine RQ.nil ?_
    intro w29 hb30
    have szw29 := hb30.size
    have T := Tt T hb30
    refine then_n ?_
    refine cond_t rfl rfl ?_
    refine wp_seq ?_
    refine wp_rs rfl ?_
    refine RQ.y rfl (Y.assign (v := .bool false) rfl) ?_
    refine RQ.nil ?_
    refine then_n ?_
    refine wp_ret ?_
    obtain rfl := Option.some.inj hm
    exact (then_r (ret1 rfl rfl rfl ⟨rfl, T⟩))
noncomputable def m_impl_IsUpper (d0 : ByteArray) : Option Bool :=
  ((m_impl_IsName d0).bind fun y1 => (bif y1 then ((getB d0 0).bind fun x6 => ((m_impl_isCapital x6).bind fun y8 => some y8)) else some false))
set_option maxHeartbeats 2000000 in
theorem c_m_impl_IsUpper (d0 : ByteArray) (r : Bool) (hm : m_impl_IsUpper d0 = some r)  (w : World)  :
    Calls Try.prog 112 #[.string d0] w fun e w' => e = .returned (.bool r) ∧ Below w.heap.size w w' := by
  have T := Below.refl w.heap.size w
  unfold m_impl_IsUpper at hm
  refine enter 10 Try.func112 rfl rfl rfl ?_
  intro f hf
  have s0 : f 0 = .string d0 := hf 0 _ rfl
  refine wp_seq ?_
  refine wp_rs rfl ?_
  refine RQ.y rfl (Y.assign (v := .bool false) rfl) ?_
  refine RQ.nil ?_
  refine then_n ?_
  refine wp_seq ?_
  refine wp_rb rfl ?_
  refine RQ.y rfl (Y.move (v := .string d0) s0) ?_
  obtain ⟨y1, e2, hm⟩ := bnd hm
  refine RQ.call rfl (am1 rfl) (by kernel_rfl) (v := .bool y1) (bel (K := fun _ => True) fun w' hb' => (c_m_impl_IsName d0 _ e2  w' )) ?_
  refine RQ.y rfl (Y.move (v := .bool y1) rfl) ?_
  rcases bcases y1 with c3 | c3
  · replace hm := cF c3 hm
    refine RQ.skip (wantN (dj := 5) rfl (vb rfl c3) rfl) ?_
    refine RQ.skip (wantN (dj := 5) rfl (vb rfl c3) rfl) ?_
    refine RQ.skip (wantN (dj := 5) rfl (vb rfl c3) rfl) ?_
    refine RQ.y rfl (Y.pick (b := false) (v := .bool false) (vb rfl c3) rfl) ?_
    refine RQ.y rfl (Y.assign (v := .bool false) rfl) ?_
    refine RQ.nil ?_
    intro w4 hb5
    have szw4 := hb5.size
    have T := Tt T hb5
    refine then_n ?_
    refine wp_ret ?_
    obtain rfl := Option.some.inj hm
    exact (ret1 rfl rfl rfl ⟨rfl, T⟩)
  · replace hm := cT c3 hm
    refine RQ.y (wantT (dj := 5) rfl (vb rfl c3)) (Y.move (v := .string d0) s0) ?_
    obtain ⟨x6, e7, hm⟩ := bnd hm
    refine RQ.y (wantT (dj := 5) rfl (vb rfl c3)) (Y.idxStr (b := x6) rfl rfl (by kernel_rfl) e7) ?_
    obtain ⟨y8, e9, hm⟩ := bnd hm
    refine RQ.call (wantT (dj := 5) rfl (vb rfl c3)) (am1 rfl) (by kernel_rfl) (v := .bool y8) (bel (K := fun _ => True) fun w' hb' => (c_m_impl_isCapital x6 _ e9  w' )) ?_
    refine RQ.y rfl (Y.pick (b := true) (v := .bool y8) (vb rfl c3) rfl) ?_
    refine RQ.y rfl (Y.assign (v := .bool y8) rfl) ?_
    refine RQ.nil ?_
    intro w10 hb11
    have szw10 := hb11.size
    have T := Tt T hb11
    refine then_n ?_
    refine wp_ret ?_
    obtain rfl := Option.some.inj hm
    exact (ret1 rfl rfl rfl ⟨rfl, T⟩)
noncomputable def m_slices_IndexFunc_impl_Data_impl_Data_A1 : Option Int :=
  some (-1)
noncomputable def m_slices_IndexFunc_impl_Data_impl_Data_B1 (d0 : List DData) (d1 : DData → Option Bool) (rec1 : Int → Option Int) (K1 : Option Int) (i2 : Int) : Option Int :=
  (bif (decide (i2 < (d0.length : Int))) then ((getI d0 i2).bind fun x5 => ((d1 x5).bind fun y15 => (bif y15 then some i2 else (rec1 (i2 + 1))))) else (K1))
noncomputable def m_slices_IndexFunc_impl_Data_impl_Data_L1 (d0 : List DData) (d1 : DData → Option Bool) (K1 : Option Int) : Nat → Int → Option Int
  | 0, _ => none
  | g + 1, i2 => m_slices_IndexFunc_impl_Data_impl_Data_B1 d0 d1 (m_slices_IndexFunc_impl_Data_impl_Data_L1 d0 d1 K1 g) K1 i2
noncomputable def m_slices_IndexFunc_impl_Data_impl_Data (d0 : List DData) (d1 : DData → Option Bool) : Option Int :=
  (m_slices_IndexFunc_impl_Data_impl_Data_L1 d0 d1 m_slices_IndexFunc_impl_Data_impl_Data_A1 (d0.length + 1) 0)
set_option maxHeartbeats 2000000 in
theorem c_m_slices_IndexFunc_impl_Data_impl_Data (d0 : List DData) (d1 : DData → Option Bool) (r : Int) (hm : m_slices_IndexFunc_impl_Data_impl_Data d0 d1 = some r) (v0 : Value) (gf1 : FuncId) (caps1 : Array Value) (w : World) (hv0 : Sl dataRd 2 w v0 d0) (hgo1 : isGo Try.prog gf1 = true) (hf1 : ∀ (x0 : DData) (b : Bool), d1 x0 = some b → ∀ w1, Below w.heap.size w w1 → ∀ y0, St dataRd w1 y0 x0 → Calls Try.prog gf1 (#[y0] ++ caps1) w1 fun e w2 => e = .returned (.bool b) ∧ Below w1.heap.size w1 w2) :
    Calls Try.prog 142 #[v0, .func (.func gf1) #[] caps1] w fun e w' => e = .returned (.int .i64 r) ∧ Below w.heap.size w w' := by
  obtain ⟨Aa0, na0, ca0, rfl, ha0, ra0⟩ := hv0
  have ea0 := ha0.len; subst ea0
  have qa0 := len_le ra0
  have T := Below.refl w.heap.size w
  unfold m_slices_IndexFunc_impl_Data_impl_Data at hm
  refine enter 19 Try.func142 rfl rfl rfl ?_
  intro f hf
  have s0 : f 0 = .slice Aa0 d0.length ca0 := hf 0 _ rfl
  have s1 : f 1 = .func (.func gf1) #[] caps1 := hf 1 _ rfl
  refine wp_seq ?_
  refine wp_rs rfl ?_
  refine RQ.y rfl (Y.assign (v := .int .i64 0) rfl) ?_
  refine RQ.nil ?_
  refine then_n ?_
  refine wp_seq ?_
  refine wp_seq ?_
  refine wp_rs rfl ?_
  refine RQ.y rfl (Y.move (v := .slice Aa0 d0.length ca0) s0) ?_
  refine RQ.y rfl (Y.len (by kernel_rfl) rfl) ?_
  refine RQ.y rfl (Y.move (v := .int .i64 0) rfl) ?_
  refine RQ.nil ?_
  refine then_n ?_
  refine wp_block ?_
  obtain ⟨K1, hK1, hm⟩ : ∃ K, K = m_slices_IndexFunc_impl_Data_impl_Data_A1 ∧ m_slices_IndexFunc_impl_Data_impl_Data_L1 d0 d1 K (d0.length + 1) 0 = some r := ⟨_, rfl, hm⟩
  refine wp_loopX (fun g f w' => ∃ (i2 : Int), f 0 = .slice Aa0 d0.length ca0 ∧ f 1 = .func (.func gf1) #[] caps1 ∧ f 7 = .int .i64 (d0.length : Int) ∧ f 8 = .int .i64 i2 ∧ 0 ≤ i2 ∧ Below w.heap.size w w' ∧ m_slices_IndexFunc_impl_Data_impl_Data_L1 d0 d1 K1 g i2 = some r) 0 (fun f w' => Below w.heap.size w w' ∧ m_slices_IndexFunc_impl_Data_impl_Data_A1  = some r) (d0.length + 1) ⟨0, s0, s1, rfl, rfl, (by omega), T, hm⟩ ?_ ?_
  · rintro f w1 ⟨T, hm⟩
    unfold m_slices_IndexFunc_impl_Data_impl_Data_A1 at hm
    refine blk_hit (then_n ?_)
    refine wp_seq ?_
    refine wp_rs rfl ?_
    refine RQ.y rfl (Y.assign (v := .int .i64 (-1)) rfl) ?_
    refine RQ.nil ?_
    refine then_n ?_
    refine wp_ret ?_
    obtain rfl := Option.some.inj hm
    exact (ret1 rfl rfl rfl ⟨rfl, T⟩)
  · rintro g f w3 ⟨i2, s0_1, s1_1, s7_1, s8_1, nn8_1, T, hm⟩
    rcases g with _ | g
    · simp only [m_slices_IndexFunc_impl_Data_impl_Data_L1] at hm; cases hm
    obtain ⟨rec1, hrec1, hm⟩ : ∃ z, z = m_slices_IndexFunc_impl_Data_impl_Data_L1 d0 d1 K1 g ∧ m_slices_IndexFunc_impl_Data_impl_Data_B1 d0 d1 z K1 i2 = some r := ⟨_, rfl, hm⟩
    unfold m_slices_IndexFunc_impl_Data_impl_Data_B1 at hm
    refine wp_seq ?_
    refine wp_rs rfl ?_
    refine RQ.y rfl (Y.binI (v := .bool (decide (i2 < (d0.length : Int)))) s8_1 s7_1 rfl) ?_
    refine RQ.nil ?_
    refine then_n ?_
    refine wp_seq ?_
    rcases bcases (decide (i2 < (d0.length : Int))) with c4 | c4
    · replace hm := cF c4 hm
      have pc4 := of_decide_eq_false c4
      refine cond_f rfl (vb rfl c4) ?_
      refine wp_exit ?_
      exact (then_x (then_x (hit_x ⟨_, rfl, ⟨T, (by rw [hK1] at hm; exact hm)⟩⟩)))
    · replace hm := cT c4 hm
      have pc4 := of_decide_eq_true c4
      refine cond_t rfl (vb rfl c4) ?_
      refine wp_skip ?_
      refine then_n ?_
      refine wp_seq ?_
      refine wp_block ?_
      refine wp_seq ?_
      refine wp_rs rfl ?_
      refine RQ.y rfl (Y.move (v := .int .i64 i2) s8_1) ?_
      refine RQ.y rfl (Y.assign (v := .int .i64 i2) rfl) ?_
      refine RQ.nil ?_
      refine then_n ?_
      refine wp_seq ?_
      refine wp_rb rfl ?_
      refine RQ.y rfl (Y.move (v := .func (.func gf1) #[] caps1) s1_1) ?_
      refine RQ.y rfl (Y.move (v := .slice Aa0 d0.length ca0) s0_1) ?_
      refine RQ.y rfl (Y.move (v := .int .i64 i2) rfl) ?_
      obtain ⟨x5, hx8, hm⟩ := bnd hm
      obtain ⟨k6, hk9, hl10, hx8⟩ := getI_some hx8
      obtain ⟨b12, o13, rfl, hbb12⟩ := ha0.addr (by omega)
      obtain ⟨cs7, hRcs7, hc11⟩ := ha0.el hx8
      have hScs7 := hRcs7
      obtain ⟨A14, n14, c14, rfl, ⟨h14, r14⟩⟩ := hRcs7
      have e14 := h14.len; subst e14
      have q14 := len_le r14
      refine RQ.y rfl (Y.indexAddr (m := k6) (sz := 2) rfl rfl hk9 hl10 (by kernel_rfl)) ?_
      refine RQ.y rfl (Y.loadN (cs := [.string x5.name, .slice A14 x5.cons.length c14]) rfl (by kernel_rfl) (cells2 (beC (cellT T (hc11 0 _ rfl))) (beC (cellT T (hc11 1 _ rfl))))) ?_
      obtain ⟨y15, e16, hm⟩ := bnd hm
      refine RQ.callV rfl rfl (am1 rfl) hgo1 (v := .bool y15) (bel (K := fun _ => True) fun w' hb' => hf1 x5 y15 e16 w' (Tt T hb') _ (stArg (R := dataRd) ⟨_, _, _, rfl, ⟨SlAt.now constructorRd_ok h14 (Nat.le_refl _) (Tt T hb'), r14⟩⟩)) ?_
      refine RQ.nil ?_
      intro w17 hb18
      have szw17 := hb18.size
      have T := Tt T hb18
      refine then_n ?_
      rcases bcases y15 with c19 | c19
      · replace hm := cF c19 hm
        refine cond_f rfl (vb rfl c19) ?_
        refine wp_skip ?_
        refine blk_n (then_n ?_)
        refine wp_rs rfl ?_
        refine RQ.y rfl (Y.binI s8_1 rfl (binI_add (m := i2) (by omega))) ?_
        refine RQ.y rfl (Y.move (v := .int .i64 (i2 + 1)) rfl) ?_
        refine RQ.nil ?_
        exact (then_n ⟨g, _, Nat.lt_succ_self _, rfl, ⟨(i2 + 1), s0_1, s1_1, s7_1, rfl, (by omega), T, (by rw [← hrec1]; exact hm)⟩⟩)
      · replace hm := cT c19 hm
        refine cond_t rfl (vb rfl c19) ?_
        refine wp_seq ?_
        refine wp_rs rfl ?_
        refine RQ.y rfl (Y.move (v := .int .i64 i2) rfl) ?_
        refine RQ.y rfl (Y.assign (v := .int .i64 i2) rfl) ?_
        refine RQ.nil ?_
        refine then_n ?_
        refine wp_ret ?_
        obtain rfl := Option.some.inj hm
        exact (blk_r (then_r (then_r (hit_r (blk_r (then_r (ret1 rfl rfl rfl ⟨rfl, T⟩)))))))
noncomputable def m_impl_findData_1 (d0 : DData) (d1 : ByteArray) : Option Bool :=
  some (d0.name.toList == d1.toList)
set_option maxHeartbeats 2000000 in
theorem c_m_impl_findData_1 (d0 : DData) (d1 : ByteArray) (r : Bool) (hm : m_impl_findData_1 d0 d1 = some r) (v0 : Value) (v1 : Value) (w : World) (hv0 : St dataRd w v0 d0) (hv1 : Pt strRd w v1 d1) :
    Calls Try.prog 143 #[v0, v1] w fun e w' => e = .returned (.bool r) ∧ Below w.heap.size w w' := by
  obtain ⟨csa0, rfl, ⟨A1, n1, c1, rfl, ⟨h1, r1⟩⟩⟩ := hv0
  have e1 := h1.len; subst e1
  have q1 := len_le r1
  obtain ⟨ba1, oa1, csa1, rfl, hba1, hRa1, hca1⟩ := hv1
  have hSa1 := hRa1
  obtain rfl := hRa1
  have T := Below.refl w.heap.size w
  unfold m_impl_findData_1 at hm
  refine enter 8 Try.func143 rfl rfl rfl ?_
  intro f hf
  have s0 : f 0 = .agg #[.string d0.name, .slice A1 d0.cons.length c1] := hf 0 _ rfl
  have s1 : f 1 = .pointer (some ⟨ba1, oa1, none⟩) := hf 1 _ rfl
  refine wp_seq ?_
  refine wp_rl rfl ?_
  refine RL.box rfl s0 (fun w2 B3 hb4 szw2 => ?_)
  replace B3 : Blk w2 w.heap.size 105 #[.string d0.name, .slice A1 d0.cons.length c1] := B3
  have GB3 : w.heap.size ≤ w.heap.size := T.size
  have T := Tt T hb4
  refine RL.y rfl (Y.assign (v := .bool false) rfl) ?_
  refine RL.nil ?_
  refine then_n ?_
  refine wp_seq ?_
  refine wp_rs rfl ?_
  refine RQ.y rfl (Y.fieldAddr (off := 0) rfl (by kernel_rfl)) ?_
  refine RQ.y rfl (Y.load (v := .string d0.name) rfl (by kernel_rfl) (eqC (blkCell B3 (i := 0) rfl))) ?_
  refine RQ.y rfl (Y.load (v := .string d1) s1 (by kernel_rfl) (eqC (cellT T (hca1 0 _ rfl)))) ?_
  refine RQ.y rfl (Y.eqStr rfl rfl (by kernel_rfl)) ?_
  refine RQ.y rfl (Y.assign (v := .bool (d0.name.toList == d1.toList)) rfl) ?_
  refine RQ.nil ?_
  refine then_n ?_
  refine wp_ret ?_
  obtain rfl := Option.some.inj hm
  exact (ret1 rfl rfl rfl ⟨rfl, T⟩)
noncomputable def m_impl_findData (d0 : List DData) (d1 : ByteArray) : Option Int :=
  ((m_slices_IndexFunc_impl_Data_impl_Data d0 (fun x0 => m_impl_findData_1 x0 d1)).bind fun y5 => some y5)
set_option maxHeartbeats 2000000 in
theorem c_m_impl_findData (d0 : List DData) (d1 : ByteArray) (r : Int) (hm : m_impl_findData d0 d1 = some r) (v0 : Value) (w : World) (hv0 : Sl dataRd 2 w v0 d0) :
    Calls Try.prog 113 #[v0, .string d1] w fun e w' => e = .returned (.int .i64 r) ∧ Below w.heap.size w w' := by
  obtain ⟨Aa0, na0, ca0, rfl, ha0, ra0⟩ := hv0
  have ea0 := ha0.len; subst ea0
  have qa0 := len_le ra0
  have T := Below.refl w.heap.size w
  unfold m_impl_findData at hm
  refine enter 8 Try.func113 rfl rfl rfl ?_
  intro f hf
  have s0 : f 0 = .slice Aa0 d0.length ca0 := hf 0 _ rfl
  have s1 : f 1 = .string d1 := hf 1 _ rfl
  refine wp_seq ?_
  refine wp_rl rfl ?_
  refine RL.box rfl s1 (fun w1 B2 hb3 szw1 => ?_)
  replace B2 : Blk w1 w.heap.size 9 #[.string d1] := B2
  have GB2 : w.heap.size ≤ w.heap.size := T.size
  have T := Tt T hb3
  refine RL.y rfl (Y.assign (v := .int .i64 0) rfl) ?_
  refine RL.nil ?_
  refine then_n ?_
  refine wp_seq ?_
  refine wp_rb rfl ?_
  refine RQ.y rfl (Y.move (v := .slice Aa0 d0.length ca0) s0) ?_
  refine RQ.y rfl (Y.makeFunc (vals := #[.pointer (some ⟨w.heap.size, 0, none⟩)]) (am1 rfl)) ?_
  obtain ⟨y5, e6, hm⟩ := bnd hm
  refine RQ.call rfl (am2 rfl rfl) (by kernel_rfl) (v := .int .i64 y5) (bel (K := fun _ => True) fun w' hb' => (c_m_slices_IndexFunc_impl_Data_impl_Data d0 (fun x0 => m_impl_findData_1 x0 d1) _ e6 _ _ _ w' (slArg dataRd_ok ha0 ra0 (Tt T hb')) (by kernel_rfl) (fun x0 b hx w1 hb1 y0 hy0 => Calls.arr (by simp) (c_m_impl_findData_1 x0 d1 _ hx _ _ w1 hy0 (ptBox (R := strRd) (blkT B2 (Tt hb' hb1)) rfl))))) ?_
  refine RQ.y rfl (Y.assign (v := .int .i64 y5) rfl) ?_
  refine RQ.nil ?_
  intro w7 hb8
  have szw7 := hb8.size
  have T := Tt T hb8
  refine then_n ?_
  refine wp_ret ?_
  obtain rfl := Option.some.inj hm
  exact (ret1 rfl rfl rfl ⟨rfl, T⟩)
noncomputable def m_impl_typeShape_A1 (d0 : DType) (i6 : Int) (i7 : Int) (b8 : Bool) : Option (Int × Int × Bool) :=
  (bif (d0.kind == 1) then (bif (d0.name.toList == (ByteArray.mk #[]).toList) then some (i6, i7, ((d0.kids.length : Int) == 0)) else some (i6, i7, false)) else (bif (d0.kind == 2) then ((m_impl_IsUpper d0.name).bind fun y16 => (bif y16 then (bif (d0.name.toList == (ByteArray.mk #[73, 110, 116]).toList) then some (i6, i7, false) else some (i6, i7, ((d0.kids.length : Int) == 0))) else some (i6, i7, false))) else (bif (d0.kind == 3) then (bif (d0.name.toList == (ByteArray.mk #[]).toList) then some (i6, i7, ((d0.kids.length : Int) == 2)) else some (i6, i7, false)) else (bif (d0.kind == 4) then (bif (d0.name.toList == (ByteArray.mk #[]).toList) then some (i6, i7, ((d0.kids.length : Int) == 1)) else some (i6, i7, false)) else some (i6, i7, b8)))))
noncomputable def m_impl_typeShape_B1 (d0 : DType) (self : DType → Option (Int × Int × Bool)) (rec1 : Int → Int → Bool → Int → Option (Int × Int × Bool)) (K1 : Int → Int → Bool → Option (Int × Int × Bool)) (i27 : Int) (i28 : Int) (b29 : Bool) (i30 : Int) : Option (Int × Int × Bool) :=
  (bif (decide (i30 < (d0.kids.length : Int))) then ((getI d0.kids i30).bind fun x33 => ((self x33).bind fun y50 => (bif y50.2.2 then ((ck (y50.1 + 1)).bind fun s55 => ((ck (i28 + y50.2.1)).bind fun s56 => (rec1 (if s55 > i27 then s55 else i27) s56 b29 (i30 + 1)))) else some (0, 0, false)))) else (K1 i27 i28 b29))
noncomputable def m_impl_typeShape_L1 (d0 : DType) (self : DType → Option (Int × Int × Bool)) (K1 : Int → Int → Bool → Option (Int × Int × Bool)) : Nat → Int → Int → Bool → Int → Option (Int × Int × Bool)
  | 0, _, _, _, _ => none
  | g + 1, i27, i28, b29, i30 => m_impl_typeShape_B1 d0 self (m_impl_typeShape_L1 d0 self K1 g) K1 i27 i28 b29 i30
noncomputable def m_impl_typeShape_R (self : DType → Option (Int × Int × Bool)) (d0 : DType) : Option (Int × Int × Bool) :=
  (m_impl_typeShape_L1 d0 self (m_impl_typeShape_A1 d0) (d0.kids.length + 1) 1 1 false 0)
noncomputable def m_impl_typeShape : Nat → DType → Option (Int × Int × Bool)
  | 0, _ => none
  | gas + 1, d0 => m_impl_typeShape_R (m_impl_typeShape gas) d0
set_option maxHeartbeats 2000000 in
theorem c_m_impl_typeShape : ∀ (gas : Nat) (d0 : DType) (r : Int × Int × Bool) (hm : m_impl_typeShape gas d0 = some r) (v0 : Value) (w : World) (hv0 : St typeRd w v0 d0),
    Calls Try.prog 173 #[v0] w fun e w' => e = .returned (.tuple #[.int .i64 r.1, .int .i64 r.2.1, .bool r.2.2]) ∧ Below w.heap.size w w' := by
  intro gas
  induction gas with
  | zero =>
    intro d0 r hm v0 w hv0
    cases hm
  | succ gas ih =>
    intro d0 r hm v0 w hv0
    obtain ⟨csa0, rfl, hRR0⟩ := hv0
    obtain ⟨A1, n1, c1, rfl, ⟨h1, r1⟩⟩ := (typeRd_out hRR0)
    have e1 := h1.len; subst e1
    have q1 := len_le r1
    have T := Below.refl w.heap.size w
    obtain ⟨self, hself, hm⟩ : ∃ s, s = m_impl_typeShape gas ∧ m_impl_typeShape_R s d0 = some r := ⟨_, rfl, hm⟩
    unfold m_impl_typeShape_R at hm
    refine enter 87 Try.func173 rfl rfl rfl ?_
    intro f hf
    have s0 : f 0 = .agg #[.int .i64 d0.kind, .string d0.name, .slice A1 d0.kids.length c1] := hf 0 _ rfl
    refine wp_seq ?_
    refine wp_rl rfl ?_
    refine RL.box rfl s0 (fun w2 B3 hb4 szw2 => ?_)
    replace B3 : Blk w2 w.heap.size 110 #[.int .i64 d0.kind, .string d0.name, .slice A1 d0.kids.length c1] := B3
    have GB3 : w.heap.size ≤ w.heap.size := T.size
    have T := Tt T hb4
    refine RL.y rfl (Y.assign (v := .int .i64 0) rfl) ?_
    refine RL.y rfl (Y.assign (v := .int .i64 0) rfl) ?_
    refine RL.y rfl (Y.assign (v := .bool false) rfl) ?_
    refine RL.nil ?_
    refine then_n ?_
    refine wp_seq ?_
    refine wp_rs rfl ?_
    refine RQ.y rfl (Y.assign (v := .int .i64 1) rfl) ?_
    refine RQ.y rfl (Y.assign (v := .int .i64 1) rfl) ?_
    refine RQ.nil ?_
    refine then_n ?_
    refine wp_seq ?_
    refine wp_seq ?_
    refine wp_rs rfl ?_
    refine RQ.y rfl (Y.fieldAddr (off := 2) rfl (by kernel_rfl)) ?_
    refine RQ.y rfl (Y.load (v := .slice A1 d0.kids.length c1) rfl (by kernel_rfl) (eqC (blkCell B3 (i := 2) rfl))) ?_
    refine RQ.y rfl (Y.len (by kernel_rfl) rfl) ?_
    refine RQ.y rfl (Y.move (v := .int .i64 0) rfl) ?_
    refine RQ.nil ?_
    refine then_n ?_
    refine wp_block ?_
    obtain ⟨K1, hK1, hm⟩ : ∃ K, K = (m_impl_typeShape_A1 d0) ∧ m_impl_typeShape_L1 d0 self K (d0.kids.length + 1) 1 1 false 0 = some r := ⟨_, rfl, hm⟩
    refine wp_loopX (fun g f w' => ∃ (i27 : Int) (i28 : Int) (b29 : Bool) (i30 : Int), f 1 = .pointer (some ⟨w.heap.size, 0, none⟩) ∧ f 11 = .slice A1 d0.kids.length c1 ∧ f 12 = .int .i64 (d0.kids.length : Int) ∧ f 2 = .int .i64 i27 ∧ f 3 = .int .i64 i28 ∧ f 4 = .bool b29 ∧ f 13 = .int .i64 i30 ∧ 0 ≤ i30 ∧ Blk w' w.heap.size 110 #[.int .i64 d0.kind, .string d0.name, .slice A1 d0.kids.length c1] ∧ Below w.heap.size w w' ∧ m_impl_typeShape_L1 d0 self K1 g i27 i28 b29 i30 = some r) 0 (fun f w' => ∃ (i6 : Int) (i7 : Int) (b8 : Bool), f 1 = .pointer (some ⟨w.heap.size, 0, none⟩) ∧ f 2 = .int .i64 i6 ∧ f 3 = .int .i64 i7 ∧ f 4 = .bool b8 ∧ Blk w' w.heap.size 110 #[.int .i64 d0.kind, .string d0.name, .slice A1 d0.kids.length c1] ∧ Below w.heap.size w w' ∧ m_impl_typeShape_A1 d0 i6 i7 b8 = some r) (d0.kids.length + 1) ⟨1, 1, false, 0, rfl, rfl, rfl, rfl, rfl, rfl, rfl, (by omega), B3, T, hm⟩ ?_ ?_
    · rintro f w9 ⟨i6, i7, b8, s1_1x, s2_1x, s3_1x, s4_1x, B3, T, hm⟩
      unfold m_impl_typeShape_A1 at hm
      refine blk_hit (then_n ?_)
      refine wp_seq ?_
      refine wp_seq ?_
      refine wp_rs rfl ?_
      refine RQ.y rfl (Y.fieldAddr (off := 0) s1_1x (by kernel_rfl)) ?_
      refine RQ.y rfl (Y.load (v := .int .i64 d0.kind) rfl (by kernel_rfl) (eqC (blkCell B3 (i := 0) rfl))) ?_
      refine RQ.nil ?_
      refine then_n ?_
      refine wp_block ?_
      refine wp_seq ?_
      refine wp_rs rfl ?_
      refine RQ.y rfl (Y.binI (v := .bool (d0.kind == 1)) rfl rfl rfl) ?_
      refine RQ.y rfl (Y.assign (v := .bool (d0.kind == 1)) rfl) ?_
      refine RQ.nil ?_
      refine then_n ?_
      rcases bcases (d0.kind == 1) with c10 | c10
      · replace hm := cF c10 hm
        refine cond_f rfl (vb rfl c10) ?_
        refine wp_seq ?_
        refine wp_rs rfl ?_
        refine RQ.y rfl (Y.binI (v := .bool (d0.kind == 2)) rfl rfl rfl) ?_
        refine RQ.y rfl (Y.assign (v := .bool (d0.kind == 2)) rfl) ?_
        refine RQ.nil ?_
        refine then_n ?_
        rcases bcases (d0.kind == 2) with c11 | c11
        · replace hm := cF c11 hm
          refine cond_f rfl (vb rfl c11) ?_
          refine wp_seq ?_
          refine wp_rs rfl ?_
          refine RQ.y rfl (Y.binI (v := .bool (d0.kind == 3)) rfl rfl rfl) ?_
          refine RQ.y rfl (Y.assign (v := .bool (d0.kind == 3)) rfl) ?_
          refine RQ.nil ?_
          refine then_n ?_
          rcases bcases (d0.kind == 3) with c12 | c12
          · replace hm := cF c12 hm
            refine cond_f rfl (vb rfl c12) ?_
            refine wp_seq ?_
            refine wp_rs rfl ?_
            refine RQ.y rfl (Y.binI (v := .bool (d0.kind == 4)) rfl rfl rfl) ?_
            refine RQ.y rfl (Y.assign (v := .bool (d0.kind == 4)) rfl) ?_
            refine RQ.nil ?_
            refine then_n ?_
            rcases bcases (d0.kind == 4) with c13 | c13
            · replace hm := cF c13 hm
              refine cond_f rfl (vb rfl c13) ?_
              refine wp_skip ?_
              refine blk_n (then_n ?_)
              refine wp_seq ?_
              refine wp_rs rfl ?_
              refine RQ.y rfl (Y.move (v := .int .i64 i6) s2_1x) ?_
              refine RQ.y rfl (Y.move (v := .int .i64 i7) s3_1x) ?_
              refine RQ.y rfl (Y.move (v := .bool b8) s4_1x) ?_
              refine RQ.y rfl (Y.assign (v := .int .i64 i6) rfl) ?_
              refine RQ.y rfl (Y.assign (v := .int .i64 i7) rfl) ?_
              refine RQ.y rfl (Y.assign (v := .bool b8) rfl) ?_
              refine RQ.nil ?_
              refine then_n ?_
              refine wp_ret ?_
              obtain rfl := Option.some.inj hm
              exact (ret3 rfl rfl rfl rfl rfl ⟨rfl, T⟩)
            · replace hm := cT c13 hm
              refine cond_t rfl (vb rfl c13) ?_
              refine wp_rs rfl ?_
              refine RQ.y rfl (Y.fieldAddr (off := 1) s1_1x (by kernel_rfl)) ?_
              refine RQ.y rfl (Y.load (v := .string d0.name) rfl (by kernel_rfl) (eqC (blkCell B3 (i := 1) rfl))) ?_
              refine RQ.y rfl (Y.eqStr rfl rfl (by kernel_rfl)) ?_
              refine RQ.y rfl (Y.move (v := .bool (d0.name.toList == (ByteArray.mk #[]).toList)) rfl) ?_
              rcases bcases (d0.name.toList == (ByteArray.mk #[]).toList) with c14 | c14
              · replace hm := cF c14 hm
                refine RQ.skip (wantN (dj := 78) rfl (vb rfl c14) rfl) ?_
                refine RQ.skip (wantN (dj := 78) rfl (vb rfl c14) rfl) ?_
                refine RQ.skip (wantN (dj := 78) rfl (vb rfl c14) rfl) ?_
                refine RQ.skip (wantN (dj := 78) rfl (vb rfl c14) rfl) ?_
                refine RQ.y rfl (Y.pick (b := false) (v := .bool false) (vb rfl c14) rfl) ?_
                refine RQ.y rfl (Y.assign (v := .bool false) rfl) ?_
                refine RQ.nil ?_
                refine blk_n (then_n ?_)
                refine wp_seq ?_
                refine wp_rs rfl ?_
                refine RQ.y rfl (Y.move (v := .int .i64 i6) s2_1x) ?_
                refine RQ.y rfl (Y.move (v := .int .i64 i7) s3_1x) ?_
                refine RQ.y rfl (Y.move (v := .bool false) rfl) ?_
                refine RQ.y rfl (Y.assign (v := .int .i64 i6) rfl) ?_
                refine RQ.y rfl (Y.assign (v := .int .i64 i7) rfl) ?_
                refine RQ.y rfl (Y.assign (v := .bool false) rfl) ?_
                refine RQ.nil ?_
                refine then_n ?_
                refine wp_ret ?_
                obtain rfl := Option.some.inj hm
                exact (ret3 rfl rfl rfl rfl rfl ⟨rfl, T⟩)
              · replace hm := cT c14 hm
                refine RQ.y (wantT (dj := 78) rfl (vb rfl c14)) (Y.fieldAddr (off := 2) s1_1x (by kernel_rfl)) ?_
                refine RQ.y (wantT (dj := 78) rfl (vb rfl c14)) (Y.load (v := .slice A1 d0.kids.length c1) rfl (by kernel_rfl) (eqC (blkCell B3 (i := 2) rfl))) ?_
                refine RQ.y (wantT (dj := 78) rfl (vb rfl c14)) (Y.len (by kernel_rfl) rfl) ?_
                refine RQ.y (wantT (dj := 78) rfl (vb rfl c14)) (Y.binI (v := .bool ((d0.kids.length : Int) == 1)) rfl rfl rfl) ?_
                refine RQ.y rfl (Y.pick (b := true) (v := .bool ((d0.kids.length : Int) == 1)) (vb rfl c14) rfl) ?_
                refine RQ.y rfl (Y.assign (v := .bool ((d0.kids.length : Int) == 1)) rfl) ?_
                refine RQ.nil ?_
                refine blk_n (then_n ?_)
                refine wp_seq ?_
                refine wp_rs rfl ?_
                refine RQ.y rfl (Y.move (v := .int .i64 i6) s2_1x) ?_
                refine RQ.y rfl (Y.move (v := .int .i64 i7) s3_1x) ?_
                refine RQ.y rfl (Y.move (v := .bool ((d0.kids.length : Int) == 1)) rfl) ?_
                refine RQ.y rfl (Y.assign (v := .int .i64 i6) rfl) ?_
                refine RQ.y rfl (Y.assign (v := .int .i64 i7) rfl) ?_
                refine RQ.y rfl (Y.assign (v := .bool ((d0.kids.length : Int) == 1)) rfl) ?_
                refine RQ.nil ?_
                refine then_n ?_
                refine wp_ret ?_
                obtain rfl := Option.some.inj hm
                exact (ret3 rfl rfl rfl rfl rfl ⟨rfl, T⟩)
          · replace hm := cT c12 hm
            refine cond_t rfl (vb rfl c12) ?_
            refine wp_rs rfl ?_
            refine RQ.y rfl (Y.fieldAddr (off := 1) s1_1x (by kernel_rfl)) ?_
            refine RQ.y rfl (Y.load (v := .string d0.name) rfl (by kernel_rfl) (eqC (blkCell B3 (i := 1) rfl))) ?_
            refine RQ.y rfl (Y.eqStr rfl rfl (by kernel_rfl)) ?_
            refine RQ.y rfl (Y.move (v := .bool (d0.name.toList == (ByteArray.mk #[]).toList)) rfl) ?_
            rcases bcases (d0.name.toList == (ByteArray.mk #[]).toList) with c15 | c15
            · replace hm := cF c15 hm
              refine RQ.skip (wantN (dj := 67) rfl (vb rfl c15) rfl) ?_
              refine RQ.skip (wantN (dj := 67) rfl (vb rfl c15) rfl) ?_
              refine RQ.skip (wantN (dj := 67) rfl (vb rfl c15) rfl) ?_
              refine RQ.skip (wantN (dj := 67) rfl (vb rfl c15) rfl) ?_
              refine RQ.y rfl (Y.pick (b := false) (v := .bool false) (vb rfl c15) rfl) ?_
              refine RQ.y rfl (Y.assign (v := .bool false) rfl) ?_
              refine RQ.nil ?_
              refine blk_n (then_n ?_)
              refine wp_seq ?_
              refine wp_rs rfl ?_
              refine RQ.y rfl (Y.move (v := .int .i64 i6) s2_1x) ?_
              refine RQ.y rfl (Y.move (v := .int .i64 i7) s3_1x) ?_
              refine RQ.y rfl (Y.move (v := .bool false) rfl) ?_
              refine RQ.y rfl (Y.assign (v := .int .i64 i6) rfl) ?_
              refine RQ.y rfl (Y.assign (v := .int .i64 i7) rfl) ?_
              refine RQ.y rfl (Y.assign (v := .bool false) rfl) ?_
              refine RQ.nil ?_
              refine then_n ?_
              refine wp_ret ?_
              obtain rfl := Option.some.inj hm
              exact (ret3 rfl rfl rfl rfl rfl ⟨rfl, T⟩)
            · replace hm := cT c15 hm
              refine RQ.y (wantT (dj := 67) rfl (vb rfl c15)) (Y.fieldAddr (off := 2) s1_1x (by kernel_rfl)) ?_
              refine RQ.y (wantT (dj := 67) rfl (vb rfl c15)) (Y.load (v := .slice A1 d0.kids.length c1) rfl (by kernel_rfl) (eqC (blkCell B3 (i := 2) rfl))) ?_
              refine RQ.y (wantT (dj := 67) rfl (vb rfl c15)) (Y.len (by kernel_rfl) rfl) ?_
              refine RQ.y (wantT (dj := 67) rfl (vb rfl c15)) (Y.binI (v := .bool ((d0.kids.length : Int) == 2)) rfl rfl rfl) ?_
              refine RQ.y rfl (Y.pick (b := true) (v := .bool ((d0.kids.length : Int) == 2)) (vb rfl c15) rfl) ?_
              refine RQ.y rfl (Y.assign (v := .bool ((d0.kids.length : Int) == 2)) rfl) ?_
              refine RQ.nil ?_
              refine blk_n (then_n ?_)
              refine wp_seq ?_
              refine wp_rs rfl ?_
              refine RQ.y rfl (Y.move (v := .int .i64 i6) s2_1x) ?_
              refine RQ.y rfl (Y.move (v := .int .i64 i7) s3_1x) ?_
              refine RQ.y rfl (Y.move (v := .bool ((d0.kids.length : Int) == 2)) rfl) ?_
              refine RQ.y rfl (Y.assign (v := .int .i64 i6) rfl) ?_
              refine RQ.y rfl (Y.assign (v := .int .i64 i7) rfl) ?_
              refine RQ.y rfl (Y.assign (v := .bool ((d0.kids.length : Int) == 2)) rfl) ?_
              refine RQ.nil ?_
              refine then_n ?_
              refine wp_ret ?_
              obtain rfl := Option.some.inj hm
              exact (ret3 rfl rfl rfl rfl rfl ⟨rfl, T⟩)
        · replace hm := cT c11 hm
          refine cond_t rfl (vb rfl c11) ?_
          refine wp_rb rfl ?_
          refine RQ.y rfl (Y.fieldAddr (off := 1) s1_1x (by kernel_rfl)) ?_
          refine RQ.y rfl (Y.load (v := .string d0.name) rfl (by kernel_rfl) (beC (blkCell B3 (i := 1) rfl))) ?_
          obtain ⟨y16, e17, hm⟩ := bnd hm
          refine RQ.call rfl (am1 rfl) (by kernel_rfl) (v := .bool y16) (bel (K := fun _ => True) fun w' hb' => (c_m_impl_IsUpper d0.name _ e17  w' )) ?_
          refine RQ.y rfl (Y.move (v := .bool y16) rfl) ?_
          rcases bcases y16 with c18 | c18
          · replace hm := cF c18 hm
            refine RQ.skip (wantN (dj := 51) rfl (vb rfl c18) rfl) ?_
            refine RQ.skip (wantN (dj := 51) rfl (vb rfl c18) rfl) ?_
            refine RQ.skip (wantN (dj := 51) rfl (vb rfl c18) rfl) ?_
            refine RQ.y rfl (Y.pick (b := false) (v := .bool false) (vb rfl c18) rfl) ?_
            refine RQ.y rfl (Y.move (v := .bool false) rfl) ?_
            refine RQ.skip (wantN (dj := 56) rfl rfl rfl) ?_
            refine RQ.skip (wantN (dj := 56) rfl rfl rfl) ?_
            refine RQ.skip (wantN (dj := 56) rfl rfl rfl) ?_
            refine RQ.skip (wantN (dj := 56) rfl rfl rfl) ?_
            refine RQ.y rfl (Y.pick (b := false) (v := .bool false) rfl rfl) ?_
            refine RQ.y rfl (Y.assign (v := .bool false) rfl) ?_
            refine RQ.nil ?_
            intro w19 hb20
            have szw19 := hb20.size
            have T := Tt T hb20
            refine blk_n (then_n ?_)
            refine wp_seq ?_
            refine wp_rs rfl ?_
            refine RQ.y rfl (Y.move (v := .int .i64 i6) s2_1x) ?_
            refine RQ.y rfl (Y.move (v := .int .i64 i7) s3_1x) ?_
            refine RQ.y rfl (Y.move (v := .bool false) rfl) ?_
            refine RQ.y rfl (Y.assign (v := .int .i64 i6) rfl) ?_
            refine RQ.y rfl (Y.assign (v := .int .i64 i7) rfl) ?_
            refine RQ.y rfl (Y.assign (v := .bool false) rfl) ?_
            refine RQ.nil ?_
            refine then_n ?_
            refine wp_ret ?_
            obtain rfl := Option.some.inj hm
            exact (ret3 rfl rfl rfl rfl rfl ⟨rfl, T⟩)
          · replace hm := cT c18 hm
            refine RQ.y (wantT (dj := 51) rfl (vb rfl c18)) (Y.fieldAddr (off := 1) s1_1x (by kernel_rfl)) ?_
            refine RQ.y (wantT (dj := 51) rfl (vb rfl c18)) (Y.load (v := .string d0.name) rfl (by kernel_rfl) (beC (blkCell B3 (i := 1) rfl))) ?_
            refine RQ.y (wantT (dj := 51) rfl (vb rfl c18)) (Y.neStr rfl rfl (by kernel_rfl)) ?_
            refine RQ.y rfl (Y.pick (b := true) (v := .bool (!(d0.name.toList == (ByteArray.mk #[73, 110, 116]).toList))) (vb rfl c18) rfl) ?_
            refine RQ.y rfl (Y.move (v := .bool (!(d0.name.toList == (ByteArray.mk #[73, 110, 116]).toList))) rfl) ?_
            rcases bcases (d0.name.toList == (ByteArray.mk #[73, 110, 116]).toList) with c21 | c21
            · replace hm := cF c21 hm
              refine RQ.y (wantT (dj := 56) rfl (vbn rfl c21 rfl)) (Y.fieldAddr (off := 2) s1_1x (by kernel_rfl)) ?_
              refine RQ.y (wantT (dj := 56) rfl (vbn rfl c21 rfl)) (Y.load (v := .slice A1 d0.kids.length c1) rfl (by kernel_rfl) (beC (blkCell B3 (i := 2) rfl))) ?_
              refine RQ.y (wantT (dj := 56) rfl (vbn rfl c21 rfl)) (Y.len (by kernel_rfl) rfl) ?_
              refine RQ.y (wantT (dj := 56) rfl (vbn rfl c21 rfl)) (Y.binI (v := .bool ((d0.kids.length : Int) == 0)) rfl rfl rfl) ?_
              refine RQ.y rfl (Y.pick (b := true) (v := .bool ((d0.kids.length : Int) == 0)) (vbn rfl c21 rfl) rfl) ?_
              refine RQ.y rfl (Y.assign (v := .bool ((d0.kids.length : Int) == 0)) rfl) ?_
              refine RQ.nil ?_
              intro w22 hb23
              have szw22 := hb23.size
              have T := Tt T hb23
              refine blk_n (then_n ?_)
              refine wp_seq ?_
              refine wp_rs rfl ?_
              refine RQ.y rfl (Y.move (v := .int .i64 i6) s2_1x) ?_
              refine RQ.y rfl (Y.move (v := .int .i64 i7) s3_1x) ?_
              refine RQ.y rfl (Y.move (v := .bool ((d0.kids.length : Int) == 0)) rfl) ?_
              refine RQ.y rfl (Y.assign (v := .int .i64 i6) rfl) ?_
              refine RQ.y rfl (Y.assign (v := .int .i64 i7) rfl) ?_
              refine RQ.y rfl (Y.assign (v := .bool ((d0.kids.length : Int) == 0)) rfl) ?_
              refine RQ.nil ?_
              refine then_n ?_
              refine wp_ret ?_
              obtain rfl := Option.some.inj hm
              exact (ret3 rfl rfl rfl rfl rfl ⟨rfl, T⟩)
            · replace hm := cT c21 hm
              refine RQ.skip (wantN (dj := 56) rfl (vbn rfl c21 rfl) rfl) ?_
              refine RQ.skip (wantN (dj := 56) rfl (vbn rfl c21 rfl) rfl) ?_
              refine RQ.skip (wantN (dj := 56) rfl (vbn rfl c21 rfl) rfl) ?_
              refine RQ.skip (wantN (dj := 56) rfl (vbn rfl c21 rfl) rfl) ?_
              refine RQ.y rfl (Y.pick (b := false) (v := .bool false) (vbn rfl c21 rfl) rfl) ?_
              refine RQ.y rfl (Y.assign (v := .bool false) rfl) ?_
              refine RQ.nil ?_
              intro w24 hb25
              have szw24 := hb25.size
              have T := Tt T hb25
              refine blk_n (then_n ?_)
              refine wp_seq ?_
              refine wp_rs rfl ?_
              refine RQ.y rfl (Y.move (v := .int .i64 i6) s2_1x) ?_
              refine RQ.y rfl (Y.move (v := .int .i64 i7) s3_1x) ?_
              refine RQ.y rfl (Y.move (v := .bool false) rfl) ?_
              refine RQ.y rfl (Y.assign (v := .int .i64 i6) rfl) ?_
              refine RQ.y rfl (Y.assign (v := .int .i64 i7) rfl) ?_
              refine RQ.y rfl (Y.assign (v := .bool false) rfl) ?_
              refine RQ.nil ?_
              refine then_n ?_
              refine wp_ret ?_
              obtain rfl := Option.some.inj hm
              exact (ret3 rfl rfl rfl rfl rfl ⟨rfl, T⟩)
      · replace hm := cT c10 hm
        refine cond_t rfl (vb rfl c10) ?_
        refine wp_rs rfl ?_
        refine RQ.y rfl (Y.fieldAddr (off := 1) s1_1x (by kernel_rfl)) ?_
        refine RQ.y rfl (Y.load (v := .string d0.name) rfl (by kernel_rfl) (eqC (blkCell B3 (i := 1) rfl))) ?_
        refine RQ.y rfl (Y.eqStr rfl rfl (by kernel_rfl)) ?_
        refine RQ.y rfl (Y.move (v := .bool (d0.name.toList == (ByteArray.mk #[]).toList)) rfl) ?_
        rcases bcases (d0.name.toList == (ByteArray.mk #[]).toList) with c26 | c26
        · replace hm := cF c26 hm
          refine RQ.skip (wantN (dj := 40) rfl (vb rfl c26) rfl) ?_
          refine RQ.skip (wantN (dj := 40) rfl (vb rfl c26) rfl) ?_
          refine RQ.skip (wantN (dj := 40) rfl (vb rfl c26) rfl) ?_
          refine RQ.skip (wantN (dj := 40) rfl (vb rfl c26) rfl) ?_
          refine RQ.y rfl (Y.pick (b := false) (v := .bool false) (vb rfl c26) rfl) ?_
          refine RQ.y rfl (Y.assign (v := .bool false) rfl) ?_
          refine RQ.nil ?_
          refine blk_n (then_n ?_)
          refine wp_seq ?_
          refine wp_rs rfl ?_
          refine RQ.y rfl (Y.move (v := .int .i64 i6) s2_1x) ?_
          refine RQ.y rfl (Y.move (v := .int .i64 i7) s3_1x) ?_
          refine RQ.y rfl (Y.move (v := .bool false) rfl) ?_
          refine RQ.y rfl (Y.assign (v := .int .i64 i6) rfl) ?_
          refine RQ.y rfl (Y.assign (v := .int .i64 i7) rfl) ?_
          refine RQ.y rfl (Y.assign (v := .bool false) rfl) ?_
          refine RQ.nil ?_
          refine then_n ?_
          refine wp_ret ?_
          obtain rfl := Option.some.inj hm
          exact (ret3 rfl rfl rfl rfl rfl ⟨rfl, T⟩)
        · replace hm := cT c26 hm
          refine RQ.y (wantT (dj := 40) rfl (vb rfl c26)) (Y.fieldAddr (off := 2) s1_1x (by kernel_rfl)) ?_
          refine RQ.y (wantT (dj := 40) rfl (vb rfl c26)) (Y.load (v := .slice A1 d0.kids.length c1) rfl (by kernel_rfl) (eqC (blkCell B3 (i := 2) rfl))) ?_
          refine RQ.y (wantT (dj := 40) rfl (vb rfl c26)) (Y.len (by kernel_rfl) rfl) ?_
          refine RQ.y (wantT (dj := 40) rfl (vb rfl c26)) (Y.binI (v := .bool ((d0.kids.length : Int) == 0)) rfl rfl rfl) ?_
          refine RQ.y rfl (Y.pick (b := true) (v := .bool ((d0.kids.length : Int) == 0)) (vb rfl c26) rfl) ?_
          refine RQ.y rfl (Y.assign (v := .bool ((d0.kids.length : Int) == 0)) rfl) ?_
          refine RQ.nil ?_
          refine blk_n (then_n ?_)
          refine wp_seq ?_
          refine wp_rs rfl ?_
          refine RQ.y rfl (Y.move (v := .int .i64 i6) s2_1x) ?_
          refine RQ.y rfl (Y.move (v := .int .i64 i7) s3_1x) ?_
          refine RQ.y rfl (Y.move (v := .bool ((d0.kids.length : Int) == 0)) rfl) ?_
          refine RQ.y rfl (Y.assign (v := .int .i64 i6) rfl) ?_
          refine RQ.y rfl (Y.assign (v := .int .i64 i7) rfl) ?_
          refine RQ.y rfl (Y.assign (v := .bool ((d0.kids.length : Int) == 0)) rfl) ?_
          refine RQ.nil ?_
          refine then_n ?_
          refine wp_ret ?_
          obtain rfl := Option.some.inj hm
          exact (ret3 rfl rfl rfl rfl rfl ⟨rfl, T⟩)
    · rintro g f w31 ⟨i27, i28, b29, i30, s1_1, s11_1, s12_1, s2_1, s3_1, s4_1, s13_1, nn13_1, B3, T, hm⟩
      rcases g with _ | g
      · simp only [m_impl_typeShape_L1] at hm; cases hm
      obtain ⟨rec1, hrec1, hm⟩ : ∃ z, z = m_impl_typeShape_L1 d0 self K1 g ∧ m_impl_typeShape_B1 d0 self z K1 i27 i28 b29 i30 = some r := ⟨_, rfl, hm⟩
      unfold m_impl_typeShape_B1 at hm
      refine wp_seq ?_
      refine wp_rs rfl ?_
      refine RQ.y rfl (Y.binI (v := .bool (decide (i30 < (d0.kids.length : Int)))) s13_1 s12_1 rfl) ?_
      refine RQ.nil ?_
      refine then_n ?_
      refine wp_seq ?_
      rcases bcases (decide (i30 < (d0.kids.length : Int))) with c32 | c32
      · replace hm := cF c32 hm
        have pc32 := of_decide_eq_false c32
        refine cond_f rfl (vb rfl c32) ?_
        refine wp_exit ?_
        exact (then_x (then_x (hit_x ⟨_, rfl, ⟨i27, i28, b29, s1_1, s2_1, s3_1, s4_1, B3, T, (by rw [hK1] at hm; exact hm)⟩⟩)))
      · replace hm := cT c32 hm
        have pc32 := of_decide_eq_true c32
        refine cond_t rfl (vb rfl c32) ?_
        refine wp_skip ?_
        refine then_n ?_
        refine wp_seq ?_
        refine wp_block ?_
        refine wp_seq ?_
        refine wp_rl rfl ?_
        obtain ⟨x33, hx36, hm⟩ := bnd hm
        obtain ⟨k34, hk37, hl38, hx36⟩ := getI_some hx36
        obtain ⟨b40, o41, rfl, hbb40⟩ := h1.addr (by omega)
        obtain ⟨cs35, hRcs35, hc39⟩ := h1.el hx36
        have hScs35 := hRcs35
        obtain ⟨A42, n42, c42, rfl, ⟨h42, r42⟩⟩ := (typeRd_out hRcs35)
        have e42 := h42.len; subst e42
        have q42 := len_le r42
        refine RL.y rfl (Y.indexAddr (m := k34) (sz := 3) s11_1 s13_1 hk37 hl38 (by kernel_rfl)) ?_
        refine RL.y rfl (Y.loadN (cs := [.int .i64 x33.kind, .string x33.name, .slice A42 x33.kids.length c42]) rfl (by kernel_rfl) (cells3 (eqC (cellT T (hc39 0 _ rfl))) (eqC (cellT T (hc39 1 _ rfl))) (eqC (cellT T (hc39 2 _ rfl))))) ?_
        refine RL.alloc (z := .agg #[.int .i64 0, .string ByteArray.empty, .slice none 0 0]) rfl (by kernel_rfl) (fun w43 B44 hb45 szw43 => ?_)
        replace B44 : Blk w43 w31.heap.size 110 #[.int .i64 0, .string ByteArray.empty, .slice none 0 0] := B44
        have GB44 : w.heap.size ≤ w31.heap.size := T.size
        have Eob46_ob5 := Nat.ne_of_lt B3.lt
        have B3 := blkT B3 hb45
        have T := Tt T hb45
        refine RL.store (v := .agg #[.int .i64 x33.kind, .string x33.name, .slice A42 x33.kids.length c42]) (cs' := #[.int .i64 x33.kind, .string x33.name, .slice A42 x33.kids.length c42]) rfl rfl rfl B44 (by kernel_rfl) (by rfl) (by rfl) (by rfl) (fun w47 B48 ho49 => ?_)
        have szw47 := ho49.size
        have B3 := B3.only_ ho49 (by intro hin; simp at hin; exact Eob46_ob5 hin)
        have T := T.trans (ho49.below (by first | (simp; done) | (simp; omega)))
        refine RL.nil ?_
        refine then_n ?_
        refine wp_seq ?_
        refine wp_rb rfl ?_
        refine RQ.y rfl (Y.loadN (cs := [.int .i64 x33.kind, .string x33.name, .slice A42 x33.kids.length c42]) rfl (by kernel_rfl) (cells3 (beC (blkCell B48 (i := 0) rfl)) (beC (blkCell B48 (i := 1) rfl)) (beC (blkCell B48 (i := 2) rfl)))) ?_
        obtain ⟨y50, e51, hm⟩ := bnd hm
        refine RQ.call rfl (am1 rfl) (by kernel_rfl) (v := .tuple #[.int .i64 y50.1, .int .i64 y50.2.1, .bool y50.2.2]) (bel (K := fun _ => True) fun w' hb' => (ih x33 _ (by rw [← hself]; exact e51) _ w' (stArg (R := typeRd) (typeRd_in ⟨_, _, _, rfl, ⟨SlAt.now typeRd_ok h42 (Nat.le_refl _) (Tt T hb'), r42⟩⟩)))) ?_
        refine RQ.y rfl (Y.move (v := .tuple #[.int .i64 y50.1, .int .i64 y50.2.1, .bool y50.2.2]) rfl) ?_
        refine RQ.y rfl (Y.extract (i := 0) rfl rfl) ?_
        refine RQ.y rfl (Y.extract (i := 1) rfl rfl) ?_
        refine RQ.y rfl (Y.extract (i := 2) rfl rfl) ?_
        refine RQ.y rfl (Y.assign (v := .int .i64 y50.1) rfl) ?_
        refine RQ.y rfl (Y.assign (v := .int .i64 y50.2.1) rfl) ?_
        refine RQ.y rfl (Y.assign (v := .bool y50.2.2) rfl) ?_
        refine RQ.nil ?_
        intro w52 hb53
        have szw52 := hb53.size
        have B3 := blkT B3 hb53
        have T := Tt T hb53
        refine then_n ?_
        refine wp_seq ?_
        refine wp_seq ?_
        refine wp_rs rfl ?_
        refine RQ.y rfl (Y.move (v := .bool y50.2.2) rfl) ?_
        refine RQ.y rfl (Y.not (b' := (!y50.2.2)) rfl rfl) ?_
        refine RQ.nil ?_
        refine then_n ?_
        rcases bcases y50.2.2 with c54 | c54
        · replace hm := cF c54 hm
          refine cond_t rfl (vbn rfl c54 rfl) ?_
          refine wp_seq ?_
          refine wp_rs rfl ?_
          refine RQ.y rfl (Y.assign (v := .int .i64 0) rfl) ?_
          refine RQ.y rfl (Y.assign (v := .int .i64 0) rfl) ?_
          refine RQ.y rfl (Y.assign (v := .bool false) rfl) ?_
          refine RQ.nil ?_
          refine then_n ?_
          refine wp_ret ?_
          obtain rfl := Option.some.inj hm
          exact (then_r (blk_r (then_r (then_r (hit_r (blk_r (then_r (ret3 rfl rfl rfl rfl rfl ⟨rfl, T⟩))))))))
        · replace hm := cT c54 hm
          refine cond_f rfl (vbn rfl c54 rfl) ?_
          refine wp_skip ?_
          refine then_n ?_
          refine wp_rs rfl ?_
          refine RQ.y rfl (Y.move (v := .int .i64 i27) s2_1) ?_
          refine RQ.y rfl (Y.move (v := .int .i64 y50.1) rfl) ?_
          obtain ⟨s55, ks55, hm⟩ := bnd hm
          replace ks55 := ck_some ks55
          refine RQ.y rfl (Y.binI (v := .int .i64 s55) rfl rfl (by rw [binI_add ks55.2, ks55.1])) ?_
          refine RQ.y rfl (Y.max rfl rfl) ?_
          refine RQ.y rfl (Y.move (v := .int .i64 i28) s3_1) ?_
          refine RQ.y rfl (Y.move (v := .int .i64 y50.2.1) rfl) ?_
          obtain ⟨s56, ks56, hm⟩ := bnd hm
          replace ks56 := ck_some ks56
          refine RQ.y rfl (Y.binI (v := .int .i64 s56) rfl rfl (by rw [binI_add ks56.2, ks56.1])) ?_
          refine RQ.y rfl (Y.assign (v := .int .i64 (if s55 > i27 then s55 else i27)) rfl) ?_
          refine RQ.y rfl (Y.assign (v := .int .i64 s56) rfl) ?_
          refine RQ.nil ?_
          refine blk_n (then_n ?_)
          refine wp_rs rfl ?_
          refine RQ.y rfl (Y.binI s13_1 rfl (binI_add (m := i30) (by omega))) ?_
          refine RQ.y rfl (Y.move (v := .int .i64 (i30 + 1)) rfl) ?_
          refine RQ.nil ?_
          exact (then_n ⟨g, _, Nat.lt_succ_self _, rfl, ⟨(if s55 > i27 then s55 else i27), s56, b29, (i30 + 1), s1_1, s11_1, s12_1, rfl, rfl, s4_1, rfl, (by omega), B3, T, (by rw [← hrec1]; exact hm)⟩⟩)
noncomputable def m_impl_ValidType (d0 : DType) : Option Bool :=
  ((m_impl_typeShape (SizeOf.sizeOf d0) d0).bind fun y6 => (bif y6.2.2 then (bif (decide (y6.1 ≤ 6)) then some (decide (y6.2.1 ≤ 16)) else some false) else some false))
set_option maxHeartbeats 2000000 in
theorem c_m_impl_ValidType (d0 : DType) (r : Bool) (hm : m_impl_ValidType d0 = some r) (v0 : Value) (w : World) (hv0 : St typeRd w v0 d0) :
    Calls Try.prog 145 #[v0] w fun e w' => e = .returned (.bool r) ∧ Below w.heap.size w w' := by
  obtain ⟨csa0, rfl, hRR0⟩ := hv0
  obtain ⟨A1, n1, c1, rfl, ⟨h1, r1⟩⟩ := (typeRd_out hRR0)
  have e1 := h1.len; subst e1
  have q1 := len_le r1
  have T := Below.refl w.heap.size w
  unfold m_impl_ValidType at hm
  refine enter 21 Try.func145 rfl rfl rfl ?_
  intro f hf
  have s0 : f 0 = .agg #[.int .i64 d0.kind, .string d0.name, .slice A1 d0.kids.length c1] := hf 0 _ rfl
  refine wp_seq ?_
  refine wp_rl rfl ?_
  refine RL.box rfl s0 (fun w2 B3 hb4 szw2 => ?_)
  replace B3 : Blk w2 w.heap.size 110 #[.int .i64 d0.kind, .string d0.name, .slice A1 d0.kids.length c1] := B3
  have GB3 : w.heap.size ≤ w.heap.size := T.size
  have T := Tt T hb4
  refine RL.y rfl (Y.assign (v := .bool false) rfl) ?_
  refine RL.nil ?_
  refine then_n ?_
  refine wp_seq ?_
  refine wp_rb rfl ?_
  refine RQ.y rfl (Y.loadN (cs := [.int .i64 d0.kind, .string d0.name, .slice A1 d0.kids.length c1]) rfl (by kernel_rfl) (cells3 (beC (blkCell B3 (i := 0) rfl)) (beC (blkCell B3 (i := 1) rfl)) (beC (blkCell B3 (i := 2) rfl)))) ?_
  obtain ⟨y6, e7, hm⟩ := bnd hm
  refine RQ.call rfl (am1 rfl) (by kernel_rfl) (v := .tuple #[.int .i64 y6.1, .int .i64 y6.2.1, .bool y6.2.2]) (bel (K := fun _ => True) fun w' hb' => (c_m_impl_typeShape (SizeOf.sizeOf d0) d0 _ e7 _ w' (stArg (R := typeRd) (typeRd_in ⟨_, _, _, rfl, ⟨SlAt.now typeRd_ok h1 (Nat.le_refl _) (Tt T hb'), r1⟩⟩)))) ?_
  refine RQ.y rfl (Y.move (v := .tuple #[.int .i64 y6.1, .int .i64 y6.2.1, .bool y6.2.2]) rfl) ?_
  refine RQ.y rfl (Y.extract (i := 0) rfl rfl) ?_
  refine RQ.y rfl (Y.extract (i := 1) rfl rfl) ?_
  refine RQ.y rfl (Y.extract (i := 2) rfl rfl) ?_
  refine RQ.y rfl (Y.assign (v := .int .i64 y6.1) rfl) ?_
  refine RQ.y rfl (Y.assign (v := .int .i64 y6.2.1) rfl) ?_
  refine RQ.y rfl (Y.assign (v := .bool y6.2.2) rfl) ?_
  refine RQ.nil ?_
  intro w8 hb9
  have szw8 := hb9.size
  have T := Tt T hb9
  refine then_n ?_
  refine wp_seq ?_
  refine wp_rs rfl ?_
  refine RQ.y rfl (Y.move (v := .bool y6.2.2) rfl) ?_
  refine RQ.y rfl (Y.move (v := .bool y6.2.2) rfl) ?_
  rcases bcases y6.2.2 with c10 | c10
  · replace hm := cF c10 hm
    refine RQ.skip (wantN (dj := 13) rfl (vb rfl c10) rfl) ?_
    refine RQ.skip (wantN (dj := 13) rfl (vb rfl c10) rfl) ?_
    refine RQ.y rfl (Y.pick (b := false) (v := .bool false) (vb rfl c10) rfl) ?_
    refine RQ.y rfl (Y.move (v := .bool false) rfl) ?_
    refine RQ.skip (wantN (dj := 17) rfl rfl rfl) ?_
    refine RQ.skip (wantN (dj := 17) rfl rfl rfl) ?_
    refine RQ.y rfl (Y.pick (b := false) (v := .bool false) rfl rfl) ?_
    refine RQ.y rfl (Y.assign (v := .bool false) rfl) ?_
    refine RQ.nil ?_
    refine then_n ?_
    refine wp_ret ?_
    obtain rfl := Option.some.inj hm
    exact (ret1 rfl rfl rfl ⟨rfl, T⟩)
  · replace hm := cT c10 hm
    refine RQ.y (wantT (dj := 13) rfl (vb rfl c10)) (Y.move (v := .int .i64 y6.1) rfl) ?_
    refine RQ.y (wantT (dj := 13) rfl (vb rfl c10)) (Y.binI (v := .bool (decide (y6.1 ≤ 6))) rfl rfl rfl) ?_
    refine RQ.y rfl (Y.pick (b := true) (v := .bool (decide (y6.1 ≤ 6))) (vb rfl c10) rfl) ?_
    refine RQ.y rfl (Y.move (v := .bool (decide (y6.1 ≤ 6))) rfl) ?_
    rcases bcases (decide (y6.1 ≤ 6)) with c11 | c11
    · replace hm := cF c11 hm
      have pc11 := of_decide_eq_false c11
      refine RQ.skip (wantN (dj := 17) rfl (vb rfl c11) rfl) ?_
      refine RQ.skip (wantN (dj := 17) rfl (vb rfl c11) rfl) ?_
      refine RQ.y rfl (Y.pick (b := false) (v := .bool false) (vb rfl c11) rfl) ?_
      refine RQ.y rfl (Y.assign (v := .bool false) rfl) ?_
      refine RQ.nil ?_
      refine then_n ?_
      refine wp_ret ?_
      obtain rfl := Option.some.inj hm
      exact (ret1 rfl rfl rfl ⟨rfl, T⟩)
    · replace hm := cT c11 hm
      have pc11 := of_decide_eq_true c11
      refine RQ.y (wantT (dj := 17) rfl (vb rfl c11)) (Y.move (v := .int .i64 y6.2.1) rfl) ?_
      refine RQ.y (wantT (dj := 17) rfl (vb rfl c11)) (Y.binI (v := .bool (decide (y6.2.1 ≤ 16))) rfl rfl rfl) ?_
      refine RQ.y rfl (Y.pick (b := true) (v := .bool (decide (y6.2.1 ≤ 16))) (vb rfl c11) rfl) ?_
      refine RQ.y rfl (Y.assign (v := .bool (decide (y6.2.1 ≤ 16))) rfl) ?_
      refine RQ.nil ?_
      refine then_n ?_
      refine wp_ret ?_
      obtain rfl := Option.some.inj hm
      exact (ret1 rfl rfl rfl ⟨rfl, T⟩)
noncomputable def m_slices_IndexFunc_impl_Type_impl_Type_A1 : Option Int :=
  some (-1)
noncomputable def m_slices_IndexFunc_impl_Type_impl_Type_B1 (d0 : List DType) (d1 : DType → Option Bool) (rec1 : Int → Option Int) (K1 : Option Int) (i2 : Int) : Option Int :=
  (bif (decide (i2 < (d0.length : Int))) then ((getI d0 i2).bind fun x5 => ((d1 x5).bind fun y15 => (bif y15 then some i2 else (rec1 (i2 + 1))))) else (K1))
noncomputable def m_slices_IndexFunc_impl_Type_impl_Type_L1 (d0 : List DType) (d1 : DType → Option Bool) (K1 : Option Int) : Nat → Int → Option Int
  | 0, _ => none
  | g + 1, i2 => m_slices_IndexFunc_impl_Type_impl_Type_B1 d0 d1 (m_slices_IndexFunc_impl_Type_impl_Type_L1 d0 d1 K1 g) K1 i2
noncomputable def m_slices_IndexFunc_impl_Type_impl_Type (d0 : List DType) (d1 : DType → Option Bool) : Option Int :=
  (m_slices_IndexFunc_impl_Type_impl_Type_L1 d0 d1 m_slices_IndexFunc_impl_Type_impl_Type_A1 (d0.length + 1) 0)
set_option maxHeartbeats 2000000 in
theorem c_m_slices_IndexFunc_impl_Type_impl_Type (d0 : List DType) (d1 : DType → Option Bool) (r : Int) (hm : m_slices_IndexFunc_impl_Type_impl_Type d0 d1 = some r) (v0 : Value) (gf1 : FuncId) (caps1 : Array Value) (w : World) (hv0 : Sl typeRd 3 w v0 d0) (hgo1 : isGo Try.prog gf1 = true) (hf1 : ∀ (x0 : DType) (b : Bool), d1 x0 = some b → ∀ w1, Below w.heap.size w w1 → ∀ y0, St typeRd w1 y0 x0 → Calls Try.prog gf1 (#[y0] ++ caps1) w1 fun e w2 => e = .returned (.bool b) ∧ Below w1.heap.size w1 w2) :
    Calls Try.prog 115 #[v0, .func (.func gf1) #[] caps1] w fun e w' => e = .returned (.int .i64 r) ∧ Below w.heap.size w w' := by
  obtain ⟨Aa0, na0, ca0, rfl, ha0, ra0⟩ := hv0
  have ea0 := ha0.len; subst ea0
  have qa0 := len_le ra0
  have T := Below.refl w.heap.size w
  unfold m_slices_IndexFunc_impl_Type_impl_Type at hm
  refine enter 19 Try.func115 rfl rfl rfl ?_
  intro f hf
  have s0 : f 0 = .slice Aa0 d0.length ca0 := hf 0 _ rfl
  have s1 : f 1 = .func (.func gf1) #[] caps1 := hf 1 _ rfl
  refine wp_seq ?_
  refine wp_rs rfl ?_
  refine RQ.y rfl (Y.assign (v := .int .i64 0) rfl) ?_
  refine RQ.nil ?_
  refine then_n ?_
  refine wp_seq ?_
  refine wp_seq ?_
  refine wp_rs rfl ?_
  refine RQ.y rfl (Y.move (v := .slice Aa0 d0.length ca0) s0) ?_
  refine RQ.y rfl (Y.len (by kernel_rfl) rfl) ?_
  refine RQ.y rfl (Y.move (v := .int .i64 0) rfl) ?_
  refine RQ.nil ?_
  refine then_n ?_
  refine wp_block ?_
  obtain ⟨K1, hK1, hm⟩ : ∃ K, K = m_slices_IndexFunc_impl_Type_impl_Type_A1 ∧ m_slices_IndexFunc_impl_Type_impl_Type_L1 d0 d1 K (d0.length + 1) 0 = some r := ⟨_, rfl, hm⟩
  refine wp_loopX (fun g f w' => ∃ (i2 : Int), f 0 = .slice Aa0 d0.length ca0 ∧ f 1 = .func (.func gf1) #[] caps1 ∧ f 7 = .int .i64 (d0.length : Int) ∧ f 8 = .int .i64 i2 ∧ 0 ≤ i2 ∧ Below w.heap.size w w' ∧ m_slices_IndexFunc_impl_Type_impl_Type_L1 d0 d1 K1 g i2 = some r) 0 (fun f w' => Below w.heap.size w w' ∧ m_slices_IndexFunc_impl_Type_impl_Type_A1  = some r) (d0.length + 1) ⟨0, s0, s1, rfl, rfl, (by omega), T, hm⟩ ?_ ?_
  · rintro f w1 ⟨T, hm⟩
    unfold m_slices_IndexFunc_impl_Type_impl_Type_A1 at hm
    refine blk_hit (then_n ?_)
    refine wp_seq ?_
    refine wp_rs rfl ?_
    refine RQ.y rfl (Y.assign (v := .int .i64 (-1)) rfl) ?_
    refine RQ.nil ?_
    refine then_n ?_
    refine wp_ret ?_
    obtain rfl := Option.some.inj hm
    exact (ret1 rfl rfl rfl ⟨rfl, T⟩)
  · rintro g f w3 ⟨i2, s0_1, s1_1, s7_1, s8_1, nn8_1, T, hm⟩
    rcases g with _ | g
    · simp only [m_slices_IndexFunc_impl_Type_impl_Type_L1] at hm; cases hm
    obtain ⟨rec1, hrec1, hm⟩ : ∃ z, z = m_slices_IndexFunc_impl_Type_impl_Type_L1 d0 d1 K1 g ∧ m_slices_IndexFunc_impl_Type_impl_Type_B1 d0 d1 z K1 i2 = some r := ⟨_, rfl, hm⟩
    unfold m_slices_IndexFunc_impl_Type_impl_Type_B1 at hm
    refine wp_seq ?_
    refine wp_rs rfl ?_
    refine RQ.y rfl (Y.binI (v := .bool (decide (i2 < (d0.length : Int)))) s8_1 s7_1 rfl) ?_
    refine RQ.nil ?_
    refine then_n ?_
    refine wp_seq ?_
    rcases bcases (decide (i2 < (d0.length : Int))) with c4 | c4
    · replace hm := cF c4 hm
      have pc4 := of_decide_eq_false c4
      refine cond_f rfl (vb rfl c4) ?_
      refine wp_exit ?_
      exact (then_x (then_x (hit_x ⟨_, rfl, ⟨T, (by rw [hK1] at hm; exact hm)⟩⟩)))
    · replace hm := cT c4 hm
      have pc4 := of_decide_eq_true c4
      refine cond_t rfl (vb rfl c4) ?_
      refine wp_skip ?_
      refine then_n ?_
      refine wp_seq ?_
      refine wp_block ?_
      refine wp_seq ?_
      refine wp_rs rfl ?_
      refine RQ.y rfl (Y.move (v := .int .i64 i2) s8_1) ?_
      refine RQ.y rfl (Y.assign (v := .int .i64 i2) rfl) ?_
      refine RQ.nil ?_
      refine then_n ?_
      refine wp_seq ?_
      refine wp_rb rfl ?_
      refine RQ.y rfl (Y.move (v := .func (.func gf1) #[] caps1) s1_1) ?_
      refine RQ.y rfl (Y.move (v := .slice Aa0 d0.length ca0) s0_1) ?_
      refine RQ.y rfl (Y.move (v := .int .i64 i2) rfl) ?_
      obtain ⟨x5, hx8, hm⟩ := bnd hm
      obtain ⟨k6, hk9, hl10, hx8⟩ := getI_some hx8
      obtain ⟨b12, o13, rfl, hbb12⟩ := ha0.addr (by omega)
      obtain ⟨cs7, hRcs7, hc11⟩ := ha0.el hx8
      have hScs7 := hRcs7
      obtain ⟨A14, n14, c14, rfl, ⟨h14, r14⟩⟩ := (typeRd_out hRcs7)
      have e14 := h14.len; subst e14
      have q14 := len_le r14
      refine RQ.y rfl (Y.indexAddr (m := k6) (sz := 3) rfl rfl hk9 hl10 (by kernel_rfl)) ?_
      refine RQ.y rfl (Y.loadN (cs := [.int .i64 x5.kind, .string x5.name, .slice A14 x5.kids.length c14]) rfl (by kernel_rfl) (cells3 (beC (cellT T (hc11 0 _ rfl))) (beC (cellT T (hc11 1 _ rfl))) (beC (cellT T (hc11 2 _ rfl))))) ?_
      obtain ⟨y15, e16, hm⟩ := bnd hm
      refine RQ.callV rfl rfl (am1 rfl) hgo1 (v := .bool y15) (bel (K := fun _ => True) fun w' hb' => hf1 x5 y15 e16 w' (Tt T hb') _ (stArg (R := typeRd) (typeRd_in ⟨_, _, _, rfl, ⟨SlAt.now typeRd_ok h14 (Nat.le_refl _) (Tt T hb'), r14⟩⟩))) ?_
      refine RQ.nil ?_
      intro w17 hb18
      have szw17 := hb18.size
      have T := Tt T hb18
      refine then_n ?_
      rcases bcases y15 with c19 | c19
      · replace hm := cF c19 hm
        refine cond_f rfl (vb rfl c19) ?_
        refine wp_skip ?_
        refine blk_n (then_n ?_)
        refine wp_rs rfl ?_
        refine RQ.y rfl (Y.binI s8_1 rfl (binI_add (m := i2) (by omega))) ?_
        refine RQ.y rfl (Y.move (v := .int .i64 (i2 + 1)) rfl) ?_
        refine RQ.nil ?_
        exact (then_n ⟨g, _, Nat.lt_succ_self _, rfl, ⟨(i2 + 1), s0_1, s1_1, s7_1, rfl, (by omega), T, (by rw [← hrec1]; exact hm)⟩⟩)
      · replace hm := cT c19 hm
        refine cond_t rfl (vb rfl c19) ?_
        refine wp_seq ?_
        refine wp_rs rfl ?_
        refine RQ.y rfl (Y.move (v := .int .i64 i2) rfl) ?_
        refine RQ.y rfl (Y.assign (v := .int .i64 i2) rfl) ?_
        refine RQ.nil ?_
        refine then_n ?_
        refine wp_ret ?_
        obtain rfl := Option.some.inj hm
        exact (blk_r (then_r (then_r (hit_r (blk_r (then_r (ret1 rfl rfl rfl ⟨rfl, T⟩)))))))
noncomputable def m_slices_ContainsFunc_impl_Type_impl_Type (d0 : List DType) (d1 : DType → Option Bool) : Option Bool :=
  ((m_slices_IndexFunc_impl_Type_impl_Type d0 d1).bind fun y1 => some (decide (y1 ≥ 0)))
set_option maxHeartbeats 2000000 in
theorem c_m_slices_ContainsFunc_impl_Type_impl_Type (d0 : List DType) (d1 : DType → Option Bool) (r : Bool) (hm : m_slices_ContainsFunc_impl_Type_impl_Type d0 d1 = some r) (v0 : Value) (gf1 : FuncId) (caps1 : Array Value) (w : World) (hv0 : Sl typeRd 3 w v0 d0) (hgo1 : isGo Try.prog gf1 = true) (hf1 : ∀ (x0 : DType) (b : Bool), d1 x0 = some b → ∀ w1, Below w.heap.size w w1 → ∀ y0, St typeRd w1 y0 x0 → Calls Try.prog gf1 (#[y0] ++ caps1) w1 fun e w2 => e = .returned (.bool b) ∧ Below w1.heap.size w1 w2) :
    Calls Try.prog 65 #[v0, .func (.func gf1) #[] caps1] w fun e w' => e = .returned (.bool r) ∧ Below w.heap.size w w' := by
  obtain ⟨Aa0, na0, ca0, rfl, ha0, ra0⟩ := hv0
  have ea0 := ha0.len; subst ea0
  have qa0 := len_le ra0
  have T := Below.refl w.heap.size w
  unfold m_slices_ContainsFunc_impl_Type_impl_Type at hm
  refine enter 9 Try.func65 rfl rfl rfl ?_
  intro f hf
  have s0 : f 0 = .slice Aa0 d0.length ca0 := hf 0 _ rfl
  have s1 : f 1 = .func (.func gf1) #[] caps1 := hf 1 _ rfl
  refine wp_seq ?_
  refine wp_rs rfl ?_
  refine RQ.y rfl (Y.assign (v := .bool false) rfl) ?_
  refine RQ.nil ?_
  refine then_n ?_
  refine wp_seq ?_
  refine wp_rb rfl ?_
  refine RQ.y rfl (Y.move (v := .slice Aa0 d0.length ca0) s0) ?_
  refine RQ.y rfl (Y.move (v := .func (.func gf1) #[] caps1) s1) ?_
  obtain ⟨y1, e2, hm⟩ := bnd hm
  refine RQ.call rfl (am2 rfl rfl) (by kernel_rfl) (v := .int .i64 y1) (bel (K := fun _ => True) fun w' hb' => (c_m_slices_IndexFunc_impl_Type_impl_Type d0 d1 _ e2 _ _ _ w' (slArg typeRd_ok ha0 ra0 (Tt T hb')) hgo1 (fun x0 b hx w1 hb1 y0 hy0 => hf1 x0 b hx w1 (Tt (Tt T hb') hb1) y0 hy0))) ?_
  refine RQ.y rfl (Y.binI (v := .bool (decide (y1 ≥ 0))) rfl rfl rfl) ?_
  refine RQ.y rfl (Y.assign (v := .bool (decide (y1 ≥ 0))) rfl) ?_
  refine RQ.nil ?_
  intro w3 hb4
  have szw3 := hb4.size
  have T := Tt T hb4
  refine then_n ?_
  refine wp_ret ?_
  obtain rfl := Option.some.inj hm
  exact (ret1 rfl rfl rfl ⟨rfl, T⟩)
noncomputable def m_impl_declared_R (self0 : (List DData) → DType → Option Bool) (self1 : DType → (List DData) → Option Bool) (d0 : List DData) (d1 : DType) : Option Bool :=
  (bif (d1.kind == 2) then ((m_impl_findData d0 d1.name).bind fun y17 => (bif (decide (y17 < 0)) then some false else ((m_slices_ContainsFunc_impl_Type_impl_Type d1.kids (fun x0 => self1 x0 d0)).bind fun y22 => some (!y22)))) else ((m_slices_ContainsFunc_impl_Type_impl_Type d1.kids (fun x0 => self1 x0 d0)).bind fun y13 => some (!y13)))
set_option maxHeartbeats 2000000 in
theorem c_m_impl_declared_S (self0 : (List DData) → DType → Option Bool) (self1 : DType → (List DData) → Option Bool) (ih0 : ∀ (d0 : List DData) (d1 : DType) (r : Bool) (hm : self0 d0 d1 = some r) (v0 : Value) (v1 : Value) (w : World) (hv0 : Sl dataRd 2 w v0 d0) (hv1 : St typeRd w v1 d1), Calls Try.prog 146 #[v0, v1] w fun e w' => e = .returned (.bool r) ∧ Below w.heap.size w w') (ih1 : ∀ (d0 : DType) (d1 : List DData) (r : Bool) (hm : self1 d0 d1 = some r) (v0 : Value) (v1 : Value) (w : World) (hv0 : St typeRd w v0 d0) (hv1 : Pt (slRd dataRd 2) w v1 d1), Calls Try.prog 174 #[v0, v1] w fun e w' => e = .returned (.bool r) ∧ Below w.heap.size w w') : ∀ (d0 : List DData) (d1 : DType) (r : Bool) (hm : m_impl_declared_R self0 self1 d0 d1 = some r) (v0 : Value) (v1 : Value) (w : World) (hv0 : Sl dataRd 2 w v0 d0) (hv1 : St typeRd w v1 d1),
    Calls Try.prog 146 #[v0, v1] w fun e w' => e = .returned (.bool r) ∧ Below w.heap.size w w' := by
  intro d0 d1 r hm v0 v1 w hv0 hv1
  obtain ⟨Aa0, na0, ca0, rfl, ha0, ra0⟩ := hv0
  have ea0 := ha0.len; subst ea0
  have qa0 := len_le ra0
  obtain ⟨csa1, rfl, hRR1⟩ := hv1
  obtain ⟨A1, n1, c1, rfl, ⟨h1, r1⟩⟩ := (typeRd_out hRR1)
  have e1 := h1.len; subst e1
  have q1 := len_le r1
  have T := Below.refl w.heap.size w
  unfold m_impl_declared_R at hm
  refine enter 20 Try.func146 rfl rfl rfl ?_
  intro f hf
  have s0 : f 0 = .slice Aa0 d0.length ca0 := hf 0 _ rfl
  have s1 : f 1 = .agg #[.int .i64 d1.kind, .string d1.name, .slice A1 d1.kids.length c1] := hf 1 _ rfl
  refine wp_seq ?_
  refine wp_rl rfl ?_
  refine RL.box rfl s0 (fun w2 B3 hb4 szw2 => ?_)
  replace B3 : Blk w2 w.heap.size 63 #[.slice Aa0 d0.length ca0] := B3
  have GB3 : w.heap.size ≤ w.heap.size := T.size
  have T := Tt T hb4
  refine RL.box rfl s1 (fun w6 B7 hb8 szw6 => ?_)
  replace B7 : Blk w6 w2.heap.size 110 #[.int .i64 d1.kind, .string d1.name, .slice A1 d1.kids.length c1] := B7
  have GB7 : w.heap.size ≤ w2.heap.size := T.size
  have Eob9_ob5 := Nat.ne_of_lt B3.lt
  have B3 := blkT B3 hb8
  have T := Tt T hb8
  refine RL.y rfl (Y.assign (v := .bool false) rfl) ?_
  refine RL.nil ?_
  refine then_n ?_
  refine wp_seq ?_
  refine wp_seq ?_
  refine wp_rb rfl ?_
  refine RQ.y rfl (Y.fieldAddr (off := 0) rfl (by kernel_rfl)) ?_
  refine RQ.y rfl (Y.load (v := .int .i64 d1.kind) rfl (by kernel_rfl) (beC (blkCell B7 (i := 0) rfl))) ?_
  refine RQ.y rfl (Y.binI (v := .bool (d1.kind == 2)) rfl rfl rfl) ?_
  refine RQ.y rfl (Y.move (v := .bool (d1.kind == 2)) rfl) ?_
  rcases bcases (d1.kind == 2) with c10 | c10
  · replace hm := cF c10 hm
    refine RQ.skip (wantN (dj := 8) rfl (vb rfl c10) rfl) ?_
    refine RQ.skip (wantN (dj := 8) rfl (vb rfl c10) rfl) ?_
    refine RQ.skip (wantN (dj := 8) rfl (vb rfl c10) rfl) ?_
    refine RQ.skip (wantN (dj := 8) rfl (vb rfl c10) rfl) ?_
    refine RQ.skip (wantN (dj := 8) rfl (vb rfl c10) rfl) ?_
    refine RQ.y rfl (Y.pick (b := false) (v := .bool false) (vb rfl c10) rfl) ?_
    refine RQ.nil ?_
    intro w11 hb12
    have szw11 := hb12.size
    have B3 := blkT B3 hb12
    have B7 := blkT B7 hb12
    have T := Tt T hb12
    refine then_n ?_
    refine cond_f rfl rfl ?_
    refine wp_skip ?_
    refine then_n ?_
    refine wp_seq ?_
    refine wp_rb rfl ?_
    refine RQ.y rfl (Y.fieldAddr (off := 2) rfl (by kernel_rfl)) ?_
    refine RQ.y rfl (Y.load (v := .slice A1 d1.kids.length c1) rfl (by kernel_rfl) (beC (blkCell B7 (i := 2) rfl))) ?_
    refine RQ.y rfl (Y.makeFunc (vals := #[.pointer (some ⟨w.heap.size, 0, none⟩)]) (am1 rfl)) ?_
    obtain ⟨y13, e14, hm⟩ := bnd hm
    refine RQ.call rfl (am2 rfl rfl) (by kernel_rfl) (v := .bool y13) (bel (K := fun _ => True) fun w' hb' => (c_m_slices_ContainsFunc_impl_Type_impl_Type d1.kids (fun x0 => self1 x0 d0) _ e14 _ _ _ w' (slArg typeRd_ok h1 r1 (Tt T hb')) (by kernel_rfl) (fun x0 b hx w1 hb1 y0 hy0 => Calls.arr (by simp) (ih1 x0 d0 _ hx _ _ w1 hy0 (ptBox (R := (slRd dataRd 2)) (blkT B3 (Tt hb' hb1)) ⟨_, _, _, rfl, SlAt.now dataRd_ok ha0 (Nat.le_refl _) (Tt (Tt T hb') hb1), ra0⟩))))) ?_
    refine RQ.y rfl (Y.not (b' := (!y13)) rfl rfl) ?_
    refine RQ.y rfl (Y.assign (v := .bool (!y13)) rfl) ?_
    refine RQ.nil ?_
    intro w15 hb16
    have szw15 := hb16.size
    have T := Tt T hb16
    refine then_n ?_
    refine wp_ret ?_
    obtain rfl := Option.some.inj hm
    exact (ret1 rfl rfl rfl ⟨rfl, T⟩)
  · replace hm := cT c10 hm
    refine RQ.y (wantT (dj := 8) rfl (vb rfl c10)) (Y.load (v := .slice Aa0 d0.length ca0) rfl (by kernel_rfl) (beC (blkCell B3 (i := 0) rfl))) ?_
    refine RQ.y (wantT (dj := 8) rfl (vb rfl c10)) (Y.fieldAddr (off := 1) rfl (by kernel_rfl)) ?_
    refine RQ.y (wantT (dj := 8) rfl (vb rfl c10)) (Y.load (v := .string d1.name) rfl (by kernel_rfl) (beC (blkCell B7 (i := 1) rfl))) ?_
    obtain ⟨y17, e18, hm⟩ := bnd hm
    refine RQ.call (wantT (dj := 8) rfl (vb rfl c10)) (am2 rfl rfl) (by kernel_rfl) (v := .int .i64 y17) (bel (K := fun _ => True) fun w' hb' => (c_m_impl_findData d0 d1.name _ e18 _ w' (slArg dataRd_ok ha0 ra0 (Tt T hb')))) ?_
    refine RQ.y (wantT (dj := 8) rfl (vb rfl c10)) (Y.binI (v := .bool (decide (y17 < 0))) rfl rfl rfl) ?_
    refine RQ.y rfl (Y.pick (b := true) (v := .bool (decide (y17 < 0))) (vb rfl c10) rfl) ?_
    refine RQ.nil ?_
    intro w19 hb20
    have szw19 := hb20.size
    have B3 := blkT B3 hb20
    have B7 := blkT B7 hb20
    have T := Tt T hb20
    refine then_n ?_
    rcases bcases (decide (y17 < 0)) with c21 | c21
    · replace hm := cF c21 hm
      have pc21 := of_decide_eq_false c21
      refine cond_f rfl (vb rfl c21) ?_
      refine wp_skip ?_
      refine then_n ?_
      refine wp_seq ?_
      refine wp_rb rfl ?_
      refine RQ.y rfl (Y.fieldAddr (off := 2) rfl (by kernel_rfl)) ?_
      refine RQ.y rfl (Y.load (v := .slice A1 d1.kids.length c1) rfl (by kernel_rfl) (beC (blkCell B7 (i := 2) rfl))) ?_
      refine RQ.y rfl (Y.makeFunc (vals := #[.pointer (some ⟨w.heap.size, 0, none⟩)]) (am1 rfl)) ?_
      obtain ⟨y22, e23, hm⟩ := bnd hm
      refine RQ.call rfl (am2 rfl rfl) (by kernel_rfl) (v := .bool y22) (bel (K := fun _ => True) fun w' hb' => (c_m_slices_ContainsFunc_impl_Type_impl_Type d1.kids (fun x0 => self1 x0 d0) _ e23 _ _ _ w' (slArg typeRd_ok h1 r1 (Tt T hb')) (by kernel_rfl) (fun x0 b hx w1 hb1 y0 hy0 => Calls.arr (by simp) (ih1 x0 d0 _ hx _ _ w1 hy0 (ptBox (R := (slRd dataRd 2)) (blkT B3 (Tt hb' hb1)) ⟨_, _, _, rfl, SlAt.now dataRd_ok ha0 (Nat.le_refl _) (Tt (Tt T hb') hb1), ra0⟩))))) ?_
      refine RQ.y rfl (Y.not (b' := (!y22)) rfl rfl) ?_
      refine RQ.y rfl (Y.assign (v := .bool (!y22)) rfl) ?_
      refine RQ.nil ?_
      intro w24 hb25
      have szw24 := hb25.size
      have T := Tt T hb25
      refine then_n ?_
      refine wp_ret ?_
      obtain rfl := Option.some.inj hm
      exact (ret1 rfl rfl rfl ⟨rfl, T⟩)
    · replace hm := cT c21 hm
      have pc21 := of_decide_eq_true c21
      refine cond_t rfl (vb rfl c21) ?_
      refine wp_seq ?_
      refine wp_rs rfl ?_
      refine RQ.y rfl (Y.assign (v := .bool false) rfl) ?_
      refine RQ.nil ?_
      refine then_n ?_
      refine wp_ret ?_
      obtain rfl := Option.some.inj hm
      exact (then_r (ret1 rfl rfl rfl ⟨rfl, T⟩))
noncomputable def m_impl_declared_1_R (self0 : (List DData) → DType → Option Bool) (self1 : DType → (List DData) → Option Bool) (d0 : DType) (d1 : List DData) : Option Bool :=
  ((self0 d1 d0).bind fun y7 => some (!y7))
set_option maxHeartbeats 2000000 in
theorem c_m_impl_declared_1_S (self0 : (List DData) → DType → Option Bool) (self1 : DType → (List DData) → Option Bool) (ih0 : ∀ (d0 : List DData) (d1 : DType) (r : Bool) (hm : self0 d0 d1 = some r) (v0 : Value) (v1 : Value) (w : World) (hv0 : Sl dataRd 2 w v0 d0) (hv1 : St typeRd w v1 d1), Calls Try.prog 146 #[v0, v1] w fun e w' => e = .returned (.bool r) ∧ Below w.heap.size w w') (ih1 : ∀ (d0 : DType) (d1 : List DData) (r : Bool) (hm : self1 d0 d1 = some r) (v0 : Value) (v1 : Value) (w : World) (hv0 : St typeRd w v0 d0) (hv1 : Pt (slRd dataRd 2) w v1 d1), Calls Try.prog 174 #[v0, v1] w fun e w' => e = .returned (.bool r) ∧ Below w.heap.size w w') : ∀ (d0 : DType) (d1 : List DData) (r : Bool) (hm : m_impl_declared_1_R self0 self1 d0 d1 = some r) (v0 : Value) (v1 : Value) (w : World) (hv0 : St typeRd w v0 d0) (hv1 : Pt (slRd dataRd 2) w v1 d1),
    Calls Try.prog 174 #[v0, v1] w fun e w' => e = .returned (.bool r) ∧ Below w.heap.size w w' := by
  intro d0 d1 r hm v0 v1 w hv0 hv1
  obtain ⟨csa0, rfl, hRR0⟩ := hv0
  obtain ⟨A1, n1, c1, rfl, ⟨h1, r1⟩⟩ := (typeRd_out hRR0)
  have e1 := h1.len; subst e1
  have q1 := len_le r1
  obtain ⟨ba1, oa1, csa1, rfl, hba1, hRa1, hca1⟩ := hv1
  have hSa1 := hRa1
  obtain ⟨A2, n2, c2, rfl, h2, r2⟩ := hRa1
  have e2 := h2.len; subst e2
  have q2 := len_le r2
  have T := Below.refl w.heap.size w
  unfold m_impl_declared_1_R at hm
  refine enter 8 Try.func174 rfl rfl rfl ?_
  intro f hf
  have s0 : f 0 = .agg #[.int .i64 d0.kind, .string d0.name, .slice A1 d0.kids.length c1] := hf 0 _ rfl
  have s1 : f 1 = .pointer (some ⟨ba1, oa1, none⟩) := hf 1 _ rfl
  refine wp_seq ?_
  refine wp_rl rfl ?_
  refine RL.box rfl s0 (fun w3 B4 hb5 szw3 => ?_)
  replace B4 : Blk w3 w.heap.size 110 #[.int .i64 d0.kind, .string d0.name, .slice A1 d0.kids.length c1] := B4
  have GB4 : w.heap.size ≤ w.heap.size := T.size
  have T := Tt T hb5
  refine RL.y rfl (Y.assign (v := .bool false) rfl) ?_
  refine RL.nil ?_
  refine then_n ?_
  refine wp_seq ?_
  refine wp_rb rfl ?_
  refine RQ.y rfl (Y.load (v := .slice A2 d1.length c2) s1 (by kernel_rfl) (beC (cellT T (hca1 0 _ rfl)))) ?_
  refine RQ.y rfl (Y.loadN (cs := [.int .i64 d0.kind, .string d0.name, .slice A1 d0.kids.length c1]) rfl (by kernel_rfl) (cells3 (beC (blkCell B4 (i := 0) rfl)) (beC (blkCell B4 (i := 1) rfl)) (beC (blkCell B4 (i := 2) rfl)))) ?_
  obtain ⟨y7, e8, hm⟩ := bnd hm
  refine RQ.call rfl (am2 rfl rfl) (by kernel_rfl) (v := .bool y7) (bel (K := fun _ => True) fun w' hb' => (ih0 d1 d0 _ e8 _ _ w' (slArg dataRd_ok h2 r2 (Tt T hb')) (stArg (R := typeRd) (typeRd_in ⟨_, _, _, rfl, ⟨SlAt.now typeRd_ok h1 (Nat.le_refl _) (Tt T hb'), r1⟩⟩)))) ?_
  refine RQ.y rfl (Y.not (b' := (!y7)) rfl rfl) ?_
  refine RQ.y rfl (Y.assign (v := .bool (!y7)) rfl) ?_
  refine RQ.nil ?_
  intro w9 hb10
  have szw9 := hb10.size
  have T := Tt T hb10
  refine then_n ?_
  refine wp_ret ?_
  obtain rfl := Option.some.inj hm
  exact (ret1 rfl rfl rfl ⟨rfl, T⟩)
noncomputable def g_m_impl_declared : Nat → ((List DData) → DType → Option Bool) × (DType → (List DData) → Option Bool)
  | 0 => (fun _ _ => none, fun _ _ => none)
  | gas + 1 => (m_impl_declared_R (g_m_impl_declared gas).1 (g_m_impl_declared gas).2, m_impl_declared_1_R (g_m_impl_declared gas).1 (g_m_impl_declared gas).2)
noncomputable def m_impl_declared (gas : Nat) : (List DData) → DType → Option Bool := (g_m_impl_declared gas).1
noncomputable def m_impl_declared_1 (gas : Nat) : DType → (List DData) → Option Bool := (g_m_impl_declared gas).2
theorem c_g_m_impl_declared : ∀ gas : Nat, (∀ (d0 : List DData) (d1 : DType) (r : Bool) (hm : m_impl_declared gas d0 d1 = some r) (v0 : Value) (v1 : Value) (w : World) (hv0 : Sl dataRd 2 w v0 d0) (hv1 : St typeRd w v1 d1), Calls Try.prog 146 #[v0, v1] w fun e w' => e = .returned (.bool r) ∧ Below w.heap.size w w') ∧ (∀ (d0 : DType) (d1 : List DData) (r : Bool) (hm : m_impl_declared_1 gas d0 d1 = some r) (v0 : Value) (v1 : Value) (w : World) (hv0 : St typeRd w v0 d0) (hv1 : Pt (slRd dataRd 2) w v1 d1), Calls Try.prog 174 #[v0, v1] w fun e w' => e = .returned (.bool r) ∧ Below w.heap.size w w') := by
  intro gas
  induction gas with
  | zero => exact ⟨(fun _ _ r hm => by have h0 : (none : Option _) = some r := hm; cases h0), (fun _ _ r hm => by have h0 : (none : Option _) = some r := hm; cases h0)⟩
  | succ gas ih => exact ⟨c_m_impl_declared_S _ _ (ih).1 (ih).2, c_m_impl_declared_1_S _ _ (ih).1 (ih).2⟩
theorem c_m_impl_declared (gas : Nat) : ∀ (d0 : List DData) (d1 : DType) (r : Bool) (hm : m_impl_declared gas d0 d1 = some r) (v0 : Value) (v1 : Value) (w : World) (hv0 : Sl dataRd 2 w v0 d0) (hv1 : St typeRd w v1 d1), Calls Try.prog 146 #[v0, v1] w fun e w' => e = .returned (.bool r) ∧ Below w.heap.size w w' := (c_g_m_impl_declared gas).1
noncomputable def m_impl_validConstructor_1 (d0 : DType) (d1 : List DData) : Option Bool :=
  ((m_impl_ValidType d0).bind fun y7 => (bif y7 then ((m_impl_declared (SizeOf.sizeOf d0) d1 d0).bind fun y12 => some (!y12)) else some true))
set_option maxHeartbeats 2000000 in
theorem c_m_impl_validConstructor_1 (d0 : DType) (d1 : List DData) (r : Bool) (hm : m_impl_validConstructor_1 d0 d1 = some r) (v0 : Value) (v1 : Value) (w : World) (hv0 : St typeRd w v0 d0) (hv1 : Pt (slRd dataRd 2) w v1 d1) :
    Calls Try.prog 144 #[v0, v1] w fun e w' => e = .returned (.bool r) ∧ Below w.heap.size w w' := by
  obtain ⟨csa0, rfl, hRR0⟩ := hv0
  obtain ⟨A1, n1, c1, rfl, ⟨h1, r1⟩⟩ := (typeRd_out hRR0)
  have e1 := h1.len; subst e1
  have q1 := len_le r1
  obtain ⟨ba1, oa1, csa1, rfl, hba1, hRa1, hca1⟩ := hv1
  have hSa1 := hRa1
  obtain ⟨A2, n2, c2, rfl, h2, r2⟩ := hRa1
  have e2 := h2.len; subst e2
  have q2 := len_le r2
  have T := Below.refl w.heap.size w
  unfold m_impl_validConstructor_1 at hm
  refine enter 13 Try.func144 rfl rfl rfl ?_
  intro f hf
  have s0 : f 0 = .agg #[.int .i64 d0.kind, .string d0.name, .slice A1 d0.kids.length c1] := hf 0 _ rfl
  have s1 : f 1 = .pointer (some ⟨ba1, oa1, none⟩) := hf 1 _ rfl
  refine wp_seq ?_
  refine wp_rl rfl ?_
  refine RL.box rfl s0 (fun w3 B4 hb5 szw3 => ?_)
  replace B4 : Blk w3 w.heap.size 110 #[.int .i64 d0.kind, .string d0.name, .slice A1 d0.kids.length c1] := B4
  have GB4 : w.heap.size ≤ w.heap.size := T.size
  have T := Tt T hb5
  refine RL.y rfl (Y.assign (v := .bool false) rfl) ?_
  refine RL.nil ?_
  refine then_n ?_
  refine wp_seq ?_
  refine wp_rb rfl ?_
  refine RQ.y rfl (Y.loadN (cs := [.int .i64 d0.kind, .string d0.name, .slice A1 d0.kids.length c1]) rfl (by kernel_rfl) (cells3 (beC (blkCell B4 (i := 0) rfl)) (beC (blkCell B4 (i := 1) rfl)) (beC (blkCell B4 (i := 2) rfl)))) ?_
  obtain ⟨y7, e8, hm⟩ := bnd hm
  refine RQ.call rfl (am1 rfl) (by kernel_rfl) (v := .bool y7) (bel (K := fun _ => True) fun w' hb' => (c_m_impl_ValidType d0 _ e8 _ w' (stArg (R := typeRd) (typeRd_in ⟨_, _, _, rfl, ⟨SlAt.now typeRd_ok h1 (Nat.le_refl _) (Tt T hb'), r1⟩⟩)))) ?_
  refine RQ.y rfl (Y.not (b' := (!y7)) rfl rfl) ?_
  refine RQ.y rfl (Y.move (v := .bool (!y7)) rfl) ?_
  rcases bcases y7 with c9 | c9
  · replace hm := cF c9 hm
    refine RQ.skip (wantN (dj := 7) rfl (vbn rfl c9 rfl) rfl) ?_
    refine RQ.skip (wantN (dj := 7) rfl (vbn rfl c9 rfl) rfl) ?_
    refine RQ.skip (wantN (dj := 7) rfl (vbn rfl c9 rfl) rfl) ?_
    refine RQ.skip (wantN (dj := 7) rfl (vbn rfl c9 rfl) rfl) ?_
    refine RQ.y rfl (Y.pick (b := true) (v := .bool true) (vbn rfl c9 rfl) rfl) ?_
    refine RQ.y rfl (Y.assign (v := .bool true) rfl) ?_
    refine RQ.nil ?_
    intro w10 hb11
    have szw10 := hb11.size
    have T := Tt T hb11
    refine then_n ?_
    refine wp_ret ?_
    obtain rfl := Option.some.inj hm
    exact (ret1 rfl rfl rfl ⟨rfl, T⟩)
  · replace hm := cT c9 hm
    refine RQ.y (wantT (dj := 7) rfl (vbn rfl c9 rfl)) (Y.load (v := .slice A2 d1.length c2) s1 (by kernel_rfl) (beC (cellT T (hca1 0 _ rfl)))) ?_
    refine RQ.y (wantT (dj := 7) rfl (vbn rfl c9 rfl)) (Y.loadN (cs := [.int .i64 d0.kind, .string d0.name, .slice A1 d0.kids.length c1]) rfl (by kernel_rfl) (cells3 (beC (blkCell B4 (i := 0) rfl)) (beC (blkCell B4 (i := 1) rfl)) (beC (blkCell B4 (i := 2) rfl)))) ?_
    obtain ⟨y12, e13, hm⟩ := bnd hm
    refine RQ.call (wantT (dj := 7) rfl (vbn rfl c9 rfl)) (am2 rfl rfl) (by kernel_rfl) (v := .bool y12) (bel (K := fun _ => True) fun w' hb' => (c_m_impl_declared (SizeOf.sizeOf d0) d1 d0 _ e13 _ _ w' (slArg dataRd_ok h2 r2 (Tt T hb')) (stArg (R := typeRd) (typeRd_in ⟨_, _, _, rfl, ⟨SlAt.now typeRd_ok h1 (Nat.le_refl _) (Tt T hb'), r1⟩⟩)))) ?_
    refine RQ.y (wantT (dj := 7) rfl (vbn rfl c9 rfl)) (Y.not (b' := (!y12)) rfl rfl) ?_
    refine RQ.y rfl (Y.pick (b := false) (v := .bool (!y12)) (vbn rfl c9 rfl) rfl) ?_
    refine RQ.y rfl (Y.assign (v := .bool (!y12)) rfl) ?_
    refine RQ.nil ?_
    intro w14 hb15
    have szw14 := hb15.size
    have T := Tt T hb15
    refine then_n ?_
    refine wp_ret ?_
    obtain rfl := Option.some.inj hm
    exact (ret1 rfl rfl rfl ⟨rfl, T⟩)
noncomputable def m_impl_validConstructor (d0 : List DData) (d1 : DConstructor) : Option Bool :=
  ((m_impl_IsUpper d1.name).bind fun y10 => (bif y10 then (bif (decide ((d1.fields.length : Int) > 3)) then some false else ((m_slices_ContainsFunc_impl_Type_impl_Type d1.fields (fun x0 => m_impl_validConstructor_1 x0 d0)).bind fun y18 => some (!y18))) else some false))
set_option maxHeartbeats 2000000 in
theorem c_m_impl_validConstructor (d0 : List DData) (d1 : DConstructor) (r : Bool) (hm : m_impl_validConstructor d0 d1 = some r) (v0 : Value) (v1 : Value) (w : World) (hv0 : Sl dataRd 2 w v0 d0) (hv1 : St constructorRd w v1 d1) :
    Calls Try.prog 114 #[v0, v1] w fun e w' => e = .returned (.bool r) ∧ Below w.heap.size w w' := by
  obtain ⟨Aa0, na0, ca0, rfl, ha0, ra0⟩ := hv0
  have ea0 := ha0.len; subst ea0
  have qa0 := len_le ra0
  obtain ⟨csa1, rfl, ⟨A1, n1, c1, rfl, ⟨h1, r1⟩⟩⟩ := hv1
  have e1 := h1.len; subst e1
  have q1 := len_le r1
  have T := Below.refl w.heap.size w
  unfold m_impl_validConstructor at hm
  refine enter 20 Try.func114 rfl rfl rfl ?_
  intro f hf
  have s0 : f 0 = .slice Aa0 d0.length ca0 := hf 0 _ rfl
  have s1 : f 1 = .agg #[.string d1.name, .slice A1 d1.fields.length c1] := hf 1 _ rfl
  refine wp_seq ?_
  refine wp_rl rfl ?_
  refine RL.box rfl s0 (fun w2 B3 hb4 szw2 => ?_)
  replace B3 : Blk w2 w.heap.size 63 #[.slice Aa0 d0.length ca0] := B3
  have GB3 : w.heap.size ≤ w.heap.size := T.size
  have T := Tt T hb4
  refine RL.box rfl s1 (fun w6 B7 hb8 szw6 => ?_)
  replace B7 : Blk w6 w2.heap.size 107 #[.string d1.name, .slice A1 d1.fields.length c1] := B7
  have GB7 : w.heap.size ≤ w2.heap.size := T.size
  have Eob9_ob5 := Nat.ne_of_lt B3.lt
  have B3 := blkT B3 hb8
  have T := Tt T hb8
  refine RL.y rfl (Y.assign (v := .bool false) rfl) ?_
  refine RL.nil ?_
  refine then_n ?_
  refine wp_seq ?_
  refine wp_seq ?_
  refine wp_rb rfl ?_
  refine RQ.y rfl (Y.fieldAddr (off := 0) rfl (by kernel_rfl)) ?_
  refine RQ.y rfl (Y.load (v := .string d1.name) rfl (by kernel_rfl) (beC (blkCell B7 (i := 0) rfl))) ?_
  obtain ⟨y10, e11, hm⟩ := bnd hm
  refine RQ.call rfl (am1 rfl) (by kernel_rfl) (v := .bool y10) (bel (K := fun _ => True) fun w' hb' => (c_m_impl_IsUpper d1.name _ e11  w' )) ?_
  refine RQ.y rfl (Y.not (b' := (!y10)) rfl rfl) ?_
  refine RQ.y rfl (Y.move (v := .bool (!y10)) rfl) ?_
  rcases bcases y10 with c12 | c12
  · replace hm := cF c12 hm
    refine RQ.skip (wantN (dj := 9) rfl (vbn rfl c12 rfl) rfl) ?_
    refine RQ.skip (wantN (dj := 9) rfl (vbn rfl c12 rfl) rfl) ?_
    refine RQ.skip (wantN (dj := 9) rfl (vbn rfl c12 rfl) rfl) ?_
    refine RQ.skip (wantN (dj := 9) rfl (vbn rfl c12 rfl) rfl) ?_
    refine RQ.y rfl (Y.pick (b := true) (v := .bool true) (vbn rfl c12 rfl) rfl) ?_
    refine RQ.nil ?_
    intro w13 hb14
    have szw13 := hb14.size
    have B3 := blkT B3 hb14
    have B7 := blkT B7 hb14
    have T := Tt T hb14
    refine then_n ?_
    refine cond_t rfl rfl ?_
    refine wp_seq ?_
    refine wp_rs rfl ?_
    refine RQ.y rfl (Y.assign (v := .bool false) rfl) ?_
    refine RQ.nil ?_
    refine then_n ?_
    refine wp_ret ?_
    obtain rfl := Option.some.inj hm
    exact (then_r (ret1 rfl rfl rfl ⟨rfl, T⟩))
  · replace hm := cT c12 hm
    refine RQ.y (wantT (dj := 9) rfl (vbn rfl c12 rfl)) (Y.fieldAddr (off := 1) rfl (by kernel_rfl)) ?_
    refine RQ.y (wantT (dj := 9) rfl (vbn rfl c12 rfl)) (Y.load (v := .slice A1 d1.fields.length c1) rfl (by kernel_rfl) (beC (blkCell B7 (i := 1) rfl))) ?_
    refine RQ.y (wantT (dj := 9) rfl (vbn rfl c12 rfl)) (Y.len (by kernel_rfl) rfl) ?_
    refine RQ.y (wantT (dj := 9) rfl (vbn rfl c12 rfl)) (Y.binI (v := .bool (decide ((d1.fields.length : Int) > 3))) rfl rfl rfl) ?_
    refine RQ.y rfl (Y.pick (b := false) (v := .bool (decide ((d1.fields.length : Int) > 3))) (vbn rfl c12 rfl) rfl) ?_
    refine RQ.nil ?_
    intro w15 hb16
    have szw15 := hb16.size
    have B3 := blkT B3 hb16
    have B7 := blkT B7 hb16
    have T := Tt T hb16
    refine then_n ?_
    rcases bcases (decide ((d1.fields.length : Int) > 3)) with c17 | c17
    · replace hm := cF c17 hm
      have pc17 := of_decide_eq_false c17
      refine cond_f rfl (vb rfl c17) ?_
      refine wp_skip ?_
      refine then_n ?_
      refine wp_seq ?_
      refine wp_rb rfl ?_
      refine RQ.y rfl (Y.fieldAddr (off := 1) rfl (by kernel_rfl)) ?_
      refine RQ.y rfl (Y.load (v := .slice A1 d1.fields.length c1) rfl (by kernel_rfl) (beC (blkCell B7 (i := 1) rfl))) ?_
      refine RQ.y rfl (Y.makeFunc (vals := #[.pointer (some ⟨w.heap.size, 0, none⟩)]) (am1 rfl)) ?_
      obtain ⟨y18, e19, hm⟩ := bnd hm
      refine RQ.call rfl (am2 rfl rfl) (by kernel_rfl) (v := .bool y18) (bel (K := fun _ => True) fun w' hb' => (c_m_slices_ContainsFunc_impl_Type_impl_Type d1.fields (fun x0 => m_impl_validConstructor_1 x0 d0) _ e19 _ _ _ w' (slArg typeRd_ok h1 r1 (Tt T hb')) (by kernel_rfl) (fun x0 b hx w1 hb1 y0 hy0 => Calls.arr (by simp) (c_m_impl_validConstructor_1 x0 d0 _ hx _ _ w1 hy0 (ptBox (R := (slRd dataRd 2)) (blkT B3 (Tt hb' hb1)) ⟨_, _, _, rfl, SlAt.now dataRd_ok ha0 (Nat.le_refl _) (Tt (Tt T hb') hb1), ra0⟩))))) ?_
      refine RQ.y rfl (Y.not (b' := (!y18)) rfl rfl) ?_
      refine RQ.y rfl (Y.assign (v := .bool (!y18)) rfl) ?_
      refine RQ.nil ?_
      intro w20 hb21
      have szw20 := hb21.size
      have T := Tt T hb21
      refine then_n ?_
      refine wp_ret ?_
      obtain rfl := Option.some.inj hm
      exact (ret1 rfl rfl rfl ⟨rfl, T⟩)
    · replace hm := cT c17 hm
      have pc17 := of_decide_eq_true c17
      refine cond_t rfl (vb rfl c17) ?_
      refine wp_seq ?_
      refine wp_rs rfl ?_
      refine RQ.y rfl (Y.assign (v := .bool false) rfl) ?_
      refine RQ.nil ?_
      refine then_n ?_
      refine wp_ret ?_
      obtain rfl := Option.some.inj hm
      exact (then_r (ret1 rfl rfl rfl ⟨rfl, T⟩))
noncomputable def m_impl_ValidDatas_A1 : Option Bool :=
  some true
noncomputable def m_impl_ValidDatas_A2 (rec1 : Int → MapM ByteArray Bool → Option Bool) (i7 : Int) (z47 : MapM ByteArray Bool) : Option Bool :=
  ((ck (i7 + 1)).bind fun s49 => (rec1 s49 z47))
noncomputable def m_impl_ValidDatas_B2 (d0 : List DData) (x11 : DData) (rec2 : Int → MapM ByteArray Bool → Option Bool) (K2 : MapM ByteArray Bool → Option Bool) (i50 : Int) (z51 : MapM ByteArray Bool) : Option Bool :=
  (bif (decide (i50 < (x11.cons.length : Int))) then ((getI x11.cons i50).bind fun x54 => ((m_impl_validConstructor d0 x54).bind fun y71 => (bif y71 then ((mustP (x54.name.size ≤ maxLen)).bind fun _ => (bif (z51.look x54.name false) then some false else ((mustP (x54.name.size ≤ maxLen)).bind fun _ => ((mustP (z51.n ≤ 4294967296)).bind fun _ => (rec2 (i50 + 1) (z51.put x54.name true)))))) else some false))) else (K2 z51))
noncomputable def m_impl_ValidDatas_L2 (d0 : List DData) (x11 : DData) (K2 : MapM ByteArray Bool → Option Bool) : Nat → Int → MapM ByteArray Bool → Option Bool
  | 0, _, _ => none
  | g + 1, i50, z51 => m_impl_ValidDatas_B2 d0 x11 (m_impl_ValidDatas_L2 d0 x11 K2 g) K2 i50 z51
noncomputable def m_impl_ValidDatas_B1 (d0 : List DData) (rec1 : Int → MapM ByteArray Bool → Option Bool) (K1 : Option Bool) (i7 : Int) (z8 : MapM ByteArray Bool) : Option Bool :=
  (bif (decide (i7 < (d0.length : Int))) then ((getI d0 i7).bind fun x11 => ((m_impl_IsUpper x11.name).bind fun y28 => (bif y28 then (bif (x11.name.toList == (ByteArray.mk #[73, 110, 116]).toList) then some false else ((mustP (0 ≤ i7 ∧ i7.toNat ≤ d0.length)).bind fun _ => ((m_impl_findData (d0.take i7.toNat) x11.name).bind fun y40 => (bif (decide (y40 ≥ 0)) then some false else (bif (decide ((x11.cons.length : Int) < 1)) then some false else (bif (decide ((x11.cons.length : Int) > 4)) then some false else (m_impl_ValidDatas_L2 d0 x11 (m_impl_ValidDatas_A2 rec1 i7) (x11.cons.length + 1) 0 z8))))))) else some false))) else (K1))
noncomputable def m_impl_ValidDatas_L1 (d0 : List DData) (K1 : Option Bool) : Nat → Int → MapM ByteArray Bool → Option Bool
  | 0, _, _ => none
  | g + 1, i7, z8 => m_impl_ValidDatas_B1 d0 (m_impl_ValidDatas_L1 d0 K1 g) K1 i7 z8
noncomputable def m_impl_ValidDatas (d0 : List DData) : Option Bool :=
  (bif (decide ((d0.length : Int) > 4)) then some false else (m_impl_ValidDatas_L1 d0 m_impl_ValidDatas_A1 (d0.length + 1) 0 (MapM.empty : MapM ByteArray Bool)))
set_option maxHeartbeats 2000000 in
theorem c_m_impl_ValidDatas (d0 : List DData) (r : Bool) (hm : m_impl_ValidDatas d0 = some r) (v0 : Value) (w : World) (hv0 : Sl dataRd 2 w v0 d0) :
    Calls Try.prog 64 #[v0] w fun e w' => e = .returned (.bool r) ∧ Below w.heap.size w w' := by
  obtain ⟨Aa0, na0, ca0, rfl, ha0, ra0⟩ := hv0
  have ea0 := ha0.len; subst ea0
  have qa0 := len_le ra0
  have T := Below.refl w.heap.size w
  unfold m_impl_ValidDatas at hm
  refine enter 71 Try.func64 rfl rfl rfl ?_
  intro f hf
  have s0 : f 0 = .slice Aa0 d0.length ca0 := hf 0 _ rfl
  refine wp_seq ?_
  refine wp_rs rfl ?_
  refine RQ.y rfl (Y.assign (v := .bool false) rfl) ?_
  refine RQ.nil ?_
  refine then_n ?_
  refine wp_seq ?_
  refine wp_seq ?_
  refine wp_rs rfl ?_
  refine RQ.y rfl (Y.move (v := .slice Aa0 d0.length ca0) s0) ?_
  refine RQ.y rfl (Y.len (by kernel_rfl) rfl) ?_
  refine RQ.y rfl (Y.binI (v := .bool (decide ((d0.length : Int) > 4))) rfl rfl rfl) ?_
  refine RQ.nil ?_
  refine then_n ?_
  rcases bcases (decide ((d0.length : Int) > 4)) with c1 | c1
  · replace hm := cF c1 hm
    have pc1 := of_decide_eq_false c1
    refine cond_f rfl (vb rfl c1) ?_
    refine wp_skip ?_
    refine then_n ?_
    refine wp_seq ?_
    refine wp_rl rfl ?_
    refine RL.makeMap (κ := ByteArray) (β := Bool) 9 litS encVB rfl (fun w2 B3 hb4 szw2 => ?_)
    replace B3 := OwM.lower B3 T.size
    have T := Tt T hb4
    refine RL.y rfl (Y.assign (v := .map (some w.heap.size)) rfl) ?_
    refine RL.nil ?_
    refine then_n ?_
    refine wp_seq ?_
    refine wp_seq ?_
    refine wp_rs rfl ?_
    refine RQ.y rfl (Y.move (v := .slice Aa0 d0.length ca0) s0) ?_
    refine RQ.y rfl (Y.len (by kernel_rfl) rfl) ?_
    refine RQ.y rfl (Y.move (v := .int .i64 0) rfl) ?_
    refine RQ.nil ?_
    refine then_n ?_
    refine wp_block ?_
    obtain ⟨K1, hK1, hm⟩ : ∃ K, K = m_impl_ValidDatas_A1 ∧ m_impl_ValidDatas_L1 d0 K (d0.length + 1) 0 (MapM.empty : MapM ByteArray Bool) = some r := ⟨_, rfl, hm⟩
    refine wp_loopX (fun g f w' => ∃ (i7 : Int) (z8 : MapM ByteArray Bool), f 0 = .slice Aa0 d0.length ca0 ∧ f 3 = .map (some w.heap.size) ∧ f 12 = .slice Aa0 d0.length ca0 ∧ f 13 = .int .i64 (d0.length : Int) ∧ f 14 = .int .i64 i7 ∧ 0 ≤ i7 ∧ OwM Try.prog 9 litS encVB w' w.heap.size w.heap.size z8 ∧ Below w.heap.size w w' ∧ m_impl_ValidDatas_L1 d0 K1 g i7 z8 = some r) 0 (fun f w' => Below w.heap.size w w' ∧ m_impl_ValidDatas_A1  = some r) (d0.length + 1) ⟨0, (MapM.empty : MapM ByteArray Bool), s0, rfl, rfl, rfl, rfl, (by omega), B3, T, hm⟩ ?_ ?_
    · rintro f w6 ⟨T, hm⟩
      unfold m_impl_ValidDatas_A1 at hm
      refine blk_hit (then_n ?_)
      refine wp_seq ?_
      refine wp_rs rfl ?_
      refine RQ.y rfl (Y.assign (v := .bool true) rfl) ?_
      refine RQ.nil ?_
      refine then_n ?_
      refine wp_ret ?_
      obtain rfl := Option.some.inj hm
      exact (ret1 rfl rfl rfl ⟨rfl, T⟩)
    · rintro g f w9 ⟨i7, z8, s0_1, s3_1, s12_1, s13_1, s14_1, nn14_1, Bz8, T, hm⟩
      rcases g with _ | g
      · simp only [m_impl_ValidDatas_L1] at hm; cases hm
      obtain ⟨rec1, hrec1, hm⟩ : ∃ z, z = m_impl_ValidDatas_L1 d0 K1 g ∧ m_impl_ValidDatas_B1 d0 z K1 i7 z8 = some r := ⟨_, rfl, hm⟩
      unfold m_impl_ValidDatas_B1 at hm
      refine wp_seq ?_
      refine wp_rs rfl ?_
      refine RQ.y rfl (Y.binI (v := .bool (decide (i7 < (d0.length : Int)))) s14_1 s13_1 rfl) ?_
      refine RQ.nil ?_
      refine then_n ?_
      refine wp_seq ?_
      rcases bcases (decide (i7 < (d0.length : Int))) with c10 | c10
      · replace hm := cF c10 hm
        have pc10 := of_decide_eq_false c10
        refine cond_f rfl (vb rfl c10) ?_
        refine wp_exit ?_
        exact (then_x (then_x (hit_x ⟨_, rfl, ⟨T, (by rw [hK1] at hm; exact hm)⟩⟩)))
      · replace hm := cT c10 hm
        have pc10 := of_decide_eq_true c10
        refine cond_t rfl (vb rfl c10) ?_
        refine wp_skip ?_
        refine then_n ?_
        refine wp_seq ?_
        refine wp_block ?_
        refine wp_seq ?_
        refine wp_rl rfl ?_
        refine RL.y rfl (Y.move (v := .int .i64 i7) s14_1) ?_
        obtain ⟨x11, hx14, hm⟩ := bnd hm
        obtain ⟨k12, hk15, hl16, hx14⟩ := getI_some hx14
        obtain ⟨b18, o19, rfl, hbb18⟩ := ha0.addr (by omega)
        obtain ⟨cs13, hRcs13, hc17⟩ := ha0.el hx14
        have hScs13 := hRcs13
        obtain ⟨A20, n20, c20, rfl, ⟨h20, r20⟩⟩ := hRcs13
        have e20 := h20.len; subst e20
        have q20 := len_le r20
        refine RL.y rfl (Y.indexAddr (m := k12) (sz := 2) s12_1 s14_1 hk15 hl16 (by kernel_rfl)) ?_
        refine RL.y rfl (Y.loadN (cs := [.string x11.name, .slice A20 x11.cons.length c20]) rfl (by kernel_rfl) (cells2 (eqC (cellT T (hc17 0 _ rfl))) (eqC (cellT T (hc17 1 _ rfl))))) ?_
        refine RL.alloc (z := .agg #[.string ByteArray.empty, .slice none 0 0]) rfl (by kernel_rfl) (fun w21 B22 hb23 szw21 => ?_)
        replace B22 : Blk w21 w9.heap.size 105 #[.string ByteArray.empty, .slice none 0 0] := B22
        have GB22 : w.heap.size ≤ w9.heap.size := T.size
        have Eob24_ob5 := Nat.ne_of_lt Bz8.lt
        have Bz8 := OwM.below Bz8 hb23
        have T := Tt T hb23
        refine RL.y rfl (Y.assign (v := .int .i64 i7) rfl) ?_
        refine RL.store (v := .agg #[.string x11.name, .slice A20 x11.cons.length c20]) (cs' := #[.string x11.name, .slice A20 x11.cons.length c20]) rfl rfl rfl B22 (by kernel_rfl) (by rfl) (by rfl) (by rfl) (fun w25 B26 ho27 => ?_)
        have szw25 := ho27.size
        have Bz8 := Bz8.only ho27 (by intro hin; simp at hin; exact Eob24_ob5 hin)
        have T := T.trans (ho27.below (by first | (simp; done) | (simp; omega)))
        refine RL.nil ?_
        refine then_n ?_
        refine wp_seq ?_
        refine wp_seq ?_
        refine wp_rbd (by kernel_rfl) (by kernel_rfl) ?_
        refine RQ.y rfl (Y.fieldAddr (off := 0) rfl (by kernel_rfl)) ?_
        refine RQ.y rfl (Y.load (v := .string x11.name) rfl (by kernel_rfl) (beC (blkCell B26 (i := 0) rfl))) ?_
        obtain ⟨y28, e29, hm⟩ := bnd hm
        refine RQ.call rfl (am1 rfl) (by kernel_rfl) (v := .bool y28) (bel (K := fun _ => True) fun w' hb' => (c_m_impl_IsUpper x11.name _ e29  w' )) ?_
        refine RQ.y rfl (Y.not (b' := (!y28)) rfl rfl) ?_
        refine RQ.y rfl (Y.move (v := .bool (!y28)) rfl) ?_
        rcases bcases y28 with c30 | c30
        · replace hm := cF c30 hm
          refine RQ.skip (wantN (dj := 23) rfl (vbn rfl c30 rfl) rfl) ?_
          refine RQ.skip (wantN (dj := 23) rfl (vbn rfl c30 rfl) rfl) ?_
          refine RQ.skip (wantN (dj := 23) rfl (vbn rfl c30 rfl) rfl) ?_
          refine RQ.y rfl (Y.pick (b := true) (v := .bool true) (vbn rfl c30 rfl) rfl) ?_
          refine RQ.y rfl (Y.move (v := .bool true) rfl) ?_
          refine RQ.skip (wantN (dj := 28) rfl rfl rfl) ?_
          refine RQ.skip (wantN (dj := 28) rfl rfl rfl) ?_
          refine RQ.skip (wantN (dj := 28) rfl rfl rfl) ?_
          refine RQ.skip (wantN (dj := 28) rfl rfl rfl) ?_
          refine RQ.skip (wantN (dj := 28) rfl rfl rfl) ?_
          refine RQ.skip (wantN (dj := 28) rfl rfl rfl) ?_
          refine RQ.skip (wantN (dj := 28) rfl rfl rfl) ?_
          refine RQ.y rfl (Y.pick (b := true) (v := .bool true) rfl rfl) ?_
          refine RQ.y rfl (Y.move (v := .bool true) rfl) ?_
          refine RQ.skip (wantN (dj := 37) rfl rfl rfl) ?_
          refine RQ.skip (wantN (dj := 37) rfl rfl rfl) ?_
          refine RQ.skip (wantN (dj := 37) rfl rfl rfl) ?_
          refine RQ.skip (wantN (dj := 37) rfl rfl rfl) ?_
          refine RQ.y rfl (Y.pick (b := true) (v := .bool true) rfl rfl) ?_
          refine RQ.y rfl (Y.move (v := .bool true) rfl) ?_
          refine RQ.skip (wantN (dj := 43) rfl rfl rfl) ?_
          refine RQ.skip (wantN (dj := 43) rfl rfl rfl) ?_
          refine RQ.skip (wantN (dj := 43) rfl rfl rfl) ?_
          refine RQ.skip (wantN (dj := 43) rfl rfl rfl) ?_
          refine RQ.y rfl (Y.pick (b := true) (v := .bool true) rfl rfl) ?_
          refine RQ.nil ?_
          intro w31 hb32
          have szw31 := hb32.size
          have Bz8 := OwM.below Bz8 hb32
          have B26 := blkT B26 hb32
          have T := Tt T hb32
          refine then_n ?_
          refine cond_t rfl rfl ?_
          refine wp_seq ?_
          refine wp_rs rfl ?_
          refine RQ.y rfl (Y.assign (v := .bool false) rfl) ?_
          refine RQ.nil ?_
          refine then_n ?_
          refine wp_ret ?_
          obtain rfl := Option.some.inj hm
          exact (then_r (blk_r (then_r (then_r (hit_r (blk_r (then_r (ret1 rfl rfl rfl ⟨rfl, T⟩))))))))
        · replace hm := cT c30 hm
          refine RQ.y (wantT (dj := 23) rfl (vbn rfl c30 rfl)) (Y.fieldAddr (off := 0) rfl (by kernel_rfl)) ?_
          refine RQ.y (wantT (dj := 23) rfl (vbn rfl c30 rfl)) (Y.load (v := .string x11.name) rfl (by kernel_rfl) (beC (blkCell B26 (i := 0) rfl))) ?_
          refine RQ.y (wantT (dj := 23) rfl (vbn rfl c30 rfl)) (Y.eqStr rfl rfl (by kernel_rfl)) ?_
          refine RQ.y rfl (Y.pick (b := false) (v := .bool (x11.name.toList == (ByteArray.mk #[73, 110, 116]).toList)) (vbn rfl c30 rfl) rfl) ?_
          refine RQ.y rfl (Y.move (v := .bool (x11.name.toList == (ByteArray.mk #[73, 110, 116]).toList)) rfl) ?_
          rcases bcases (x11.name.toList == (ByteArray.mk #[73, 110, 116]).toList) with c33 | c33
          · replace hm := cF c33 hm
            refine RQ.y (wantT (dj := 28) rfl (vb rfl c33)) (Y.move (v := .slice (some ⟨b18, o19, none⟩) d0.length ca0) s0_1) ?_
            refine RQ.y (wantT (dj := 28) rfl (vb rfl c33)) (Y.move (v := .int .i64 i7) rfl) ?_
            obtain ⟨_, m34, hm⟩ := bnd hm
            have hk35 := mustP_some m34
            obtain ⟨Av36, eA37⟩ : ∃ Av, (if ca0 = 0 then (some ⟨b18, o19, none⟩) else ((some ⟨b18, o19, none⟩) : Option Addr).map (·.add (0 * 2))) = Av := ⟨_, rfl⟩
            have ⟨h38, r39⟩ := SlAt.takeV ha0 ra0 hk35.2 eA37
            refine RQ.y (wantT (dj := 28) rfl (vb rfl c33)) (Y.sliceH (l := i7.toNat) (sz := 2) rfl (toN hk35.1 rfl) rfl hk35.2 ra0.1 (by kernel_rfl) eA37) ?_
            refine RQ.y (wantT (dj := 28) rfl (vb rfl c33)) (Y.fieldAddr (off := 0) rfl (by kernel_rfl)) ?_
            refine RQ.y (wantT (dj := 28) rfl (vb rfl c33)) (Y.load (v := .string x11.name) rfl (by kernel_rfl) (beC (blkCell B26 (i := 0) rfl))) ?_
            obtain ⟨y40, e41, hm⟩ := bnd hm
            refine RQ.call (wantT (dj := 28) rfl (vb rfl c33)) (am2 rfl rfl) (by kernel_rfl) (v := .int .i64 y40) (bel (K := fun _ => True) fun w' hb' => (c_m_impl_findData (d0.take i7.toNat) x11.name _ e41 _ w' (slArg dataRd_ok h38 r39 (Tt T hb')))) ?_
            refine RQ.y (wantT (dj := 28) rfl (vb rfl c33)) (Y.binI (v := .bool (decide (y40 ≥ 0))) rfl rfl rfl) ?_
            refine RQ.y rfl (Y.pick (b := false) (v := .bool (decide (y40 ≥ 0))) (vb rfl c33) rfl) ?_
            refine RQ.y rfl (Y.move (v := .bool (decide (y40 ≥ 0))) rfl) ?_
            rcases bcases (decide (y40 ≥ 0)) with c42 | c42
            · replace hm := cF c42 hm
              have pc42 := of_decide_eq_false c42
              refine RQ.y (wantT (dj := 37) rfl (vb rfl c42)) (Y.fieldAddr (off := 1) rfl (by kernel_rfl)) ?_
              refine RQ.y (wantT (dj := 37) rfl (vb rfl c42)) (Y.load (v := .slice A20 x11.cons.length c20) rfl (by kernel_rfl) (beC (blkCell B26 (i := 1) rfl))) ?_
              refine RQ.y (wantT (dj := 37) rfl (vb rfl c42)) (Y.len (by kernel_rfl) rfl) ?_
              refine RQ.y (wantT (dj := 37) rfl (vb rfl c42)) (Y.binI (v := .bool (decide ((x11.cons.length : Int) < 1))) rfl rfl rfl) ?_
              refine RQ.y rfl (Y.pick (b := false) (v := .bool (decide ((x11.cons.length : Int) < 1))) (vb rfl c42) rfl) ?_
              refine RQ.y rfl (Y.move (v := .bool (decide ((x11.cons.length : Int) < 1))) rfl) ?_
              rcases bcases (decide ((x11.cons.length : Int) < 1)) with c43 | c43
              · replace hm := cF c43 hm
                have pc43 := of_decide_eq_false c43
                refine RQ.y (wantT (dj := 43) rfl (vb rfl c43)) (Y.fieldAddr (off := 1) rfl (by kernel_rfl)) ?_
                refine RQ.y (wantT (dj := 43) rfl (vb rfl c43)) (Y.load (v := .slice A20 x11.cons.length c20) rfl (by kernel_rfl) (beC (blkCell B26 (i := 1) rfl))) ?_
                refine RQ.y (wantT (dj := 43) rfl (vb rfl c43)) (Y.len (by kernel_rfl) rfl) ?_
                refine RQ.y (wantT (dj := 43) rfl (vb rfl c43)) (Y.binI (v := .bool (decide ((x11.cons.length : Int) > 4))) rfl rfl rfl) ?_
                refine RQ.y rfl (Y.pick (b := false) (v := .bool (decide ((x11.cons.length : Int) > 4))) (vb rfl c43) rfl) ?_
                refine RQ.nil ?_
                intro w44 hb45
                have szw44 := hb45.size
                have Bz8 := OwM.below Bz8 hb45
                have B26 := blkT B26 hb45
                have T := Tt T hb45
                refine then_n ?_
                rcases bcases (decide ((x11.cons.length : Int) > 4)) with c46 | c46
                · replace hm := cF c46 hm
                  have pc46 := of_decide_eq_false c46
                  refine cond_f rfl (vb rfl c46) ?_
                  refine wp_skip ?_
                  refine then_n ?_
                  refine wp_seq ?_
                  refine wp_rs rfl ?_
                  refine RQ.y rfl (Y.fieldAddr (off := 1) rfl (by kernel_rfl)) ?_
                  refine RQ.y rfl (Y.load (v := .slice A20 x11.cons.length c20) rfl (by kernel_rfl) (eqC (blkCell B26 (i := 1) rfl))) ?_
                  refine RQ.y rfl (Y.len (by kernel_rfl) rfl) ?_
                  refine RQ.y rfl (Y.move (v := .int .i64 0) rfl) ?_
                  refine RQ.nil ?_
                  refine then_n ?_
                  refine wp_block ?_
                  obtain ⟨K2, hK2, hm⟩ : ∃ K, K = (m_impl_ValidDatas_A2 rec1 i7) ∧ m_impl_ValidDatas_L2 d0 x11 K (x11.cons.length + 1) 0 z8 = some r := ⟨_, rfl, hm⟩
                  refine wp_loopX (fun g f w' => ∃ (i50 : Int) (z51 : MapM ByteArray Bool), f 0 = .slice (some ⟨b18, o19, none⟩) d0.length ca0 ∧ f 3 = .map (some w.heap.size) ∧ f 12 = .slice (some ⟨b18, o19, none⟩) d0.length ca0 ∧ f 13 = .int .i64 (d0.length : Int) ∧ f 14 = .int .i64 i7 ∧ f 50 = .slice A20 x11.cons.length c20 ∧ f 51 = .int .i64 (x11.cons.length : Int) ∧ f 52 = .int .i64 i50 ∧ 0 ≤ i50 ∧ OwM Try.prog 9 litS encVB w' w.heap.size w.heap.size z51 ∧ Below w.heap.size w w' ∧ m_impl_ValidDatas_L2 d0 x11 K2 g i50 z51 = some r) 2 (fun f w' => ∃ (z47 : MapM ByteArray Bool), f 0 = .slice (some ⟨b18, o19, none⟩) d0.length ca0 ∧ f 3 = .map (some w.heap.size) ∧ f 12 = .slice (some ⟨b18, o19, none⟩) d0.length ca0 ∧ f 13 = .int .i64 (d0.length : Int) ∧ f 14 = .int .i64 i7 ∧ OwM Try.prog 9 litS encVB w' w.heap.size w.heap.size z47 ∧ Below w.heap.size w w' ∧ m_impl_ValidDatas_A2 rec1 i7 z47 = some r) (x11.cons.length + 1) ⟨0, z8, s0_1, s3_1, s12_1, s13_1, s14_1, rfl, rfl, rfl, (by omega), Bz8, T, hm⟩ ?_ ?_
                  · rintro f w48 ⟨z47, s0_2x, s3_2x, s12_2x, s13_2x, s14_2x, Bz47, T, hm⟩
                    unfold m_impl_ValidDatas_A2 at hm
                    refine blk_hit (blk_n (then_n ?_))
                    refine wp_rs rfl ?_
                    obtain ⟨s49, ks49, hm⟩ := bnd hm
                    replace ks49 := ck_some ks49
                    refine RQ.y rfl (Y.binI (v := .int .i64 s49) s14_2x rfl (by rw [binI_add ks49.2, ks49.1])) ?_
                    refine RQ.y rfl (Y.move (v := .int .i64 s49) rfl) ?_
                    refine RQ.nil ?_
                    exact (then_n ⟨g, _, Nat.lt_succ_self _, rfl, ⟨s49, z47, s0_2x, s3_2x, s12_2x, s13_2x, rfl, (by omega), Bz47, T, (by rw [← hrec1]; exact hm)⟩⟩)
                  · rintro g f w52 ⟨i50, z51, s0_2, s3_2, s12_2, s13_2, s14_2, s50_2, s51_2, s52_2, nn52_2, Bz51, T, hm⟩
                    rcases g with _ | g
                    · simp only [m_impl_ValidDatas_L2] at hm; cases hm
                    obtain ⟨rec2, hrec2, hm⟩ : ∃ z, z = m_impl_ValidDatas_L2 d0 x11 K2 g ∧ m_impl_ValidDatas_B2 d0 x11 z K2 i50 z51 = some r := ⟨_, rfl, hm⟩
                    unfold m_impl_ValidDatas_B2 at hm
                    refine wp_seq ?_
                    refine wp_rs rfl ?_
                    refine RQ.y rfl (Y.binI (v := .bool (decide (i50 < (x11.cons.length : Int)))) s52_2 s51_2 rfl) ?_
                    refine RQ.nil ?_
                    refine then_n ?_
                    refine wp_seq ?_
                    rcases bcases (decide (i50 < (x11.cons.length : Int))) with c53 | c53
                    · replace hm := cF c53 hm
                      have pc53 := of_decide_eq_false c53
                      refine cond_f rfl (vb rfl c53) ?_
                      refine wp_exit ?_
                      exact (then_x (then_x (hit_x ⟨_, rfl, ⟨z51, s0_2, s3_2, s12_2, s13_2, s14_2, Bz51, T, (by rw [hK2] at hm; exact hm)⟩⟩)))
                    · replace hm := cT c53 hm
                      have pc53 := of_decide_eq_true c53
                      refine cond_t rfl (vb rfl c53) ?_
                      refine wp_skip ?_
                      refine then_n ?_
                      refine wp_seq ?_
                      refine wp_block ?_
                      refine wp_seq ?_
                      refine wp_rl rfl ?_
                      obtain ⟨x54, hx57, hm⟩ := bnd hm
                      obtain ⟨k55, hk58, hl59, hx57⟩ := getI_some hx57
                      obtain ⟨b61, o62, rfl, hbb61⟩ := h20.addr (by omega)
                      obtain ⟨cs56, hRcs56, hc60⟩ := h20.el hx57
                      have hScs56 := hRcs56
                      obtain ⟨A63, n63, c63, rfl, ⟨h63, r63⟩⟩ := hRcs56
                      have e63 := h63.len; subst e63
                      have q63 := len_le r63
                      refine RL.y rfl (Y.indexAddr (m := k55) (sz := 2) s50_2 s52_2 hk58 hl59 (by kernel_rfl)) ?_
                      refine RL.y rfl (Y.loadN (cs := [.string x54.name, .slice A63 x54.fields.length c63]) rfl (by kernel_rfl) (cells2 (eqC (cellT T (hc60 0 _ rfl))) (eqC (cellT T (hc60 1 _ rfl))))) ?_
                      refine RL.alloc (z := .agg #[.string ByteArray.empty, .slice none 0 0]) rfl (by kernel_rfl) (fun w64 B65 hb66 szw64 => ?_)
                      replace B65 : Blk w64 w52.heap.size 107 #[.string ByteArray.empty, .slice none 0 0] := B65
                      have GB65 : w.heap.size ≤ w52.heap.size := T.size
                      have Eob67_ob5 := Nat.ne_of_lt Bz51.lt
                      have Bz51 := OwM.below Bz51 hb66
                      have T := Tt T hb66
                      refine RL.store (v := .agg #[.string x54.name, .slice A63 x54.fields.length c63]) (cs' := #[.string x54.name, .slice A63 x54.fields.length c63]) rfl rfl rfl B65 (by kernel_rfl) (by rfl) (by rfl) (by rfl) (fun w68 B69 ho70 => ?_)
                      have szw68 := ho70.size
                      have Bz51 := Bz51.only ho70 (by intro hin; simp at hin; exact Eob67_ob5 hin)
                      have T := T.trans (ho70.below (by first | (simp; done) | (simp; omega)))
                      refine RL.nil ?_
                      refine then_n ?_
                      refine wp_seq ?_
                      refine wp_seq ?_
                      refine wp_rb rfl ?_
                      refine RQ.y rfl (Y.move (v := .slice (some ⟨b18, o19, none⟩) d0.length ca0) s0_2) ?_
                      refine RQ.y rfl (Y.loadN (cs := [.string x54.name, .slice A63 x54.fields.length c63]) rfl (by kernel_rfl) (cells2 (beC (blkCell B69 (i := 0) rfl)) (beC (blkCell B69 (i := 1) rfl)))) ?_
                      obtain ⟨y71, e72, hm⟩ := bnd hm
                      refine RQ.call rfl (am2 rfl rfl) (by kernel_rfl) (v := .bool y71) (bel (K := fun _ => True) fun w' hb' => (c_m_impl_validConstructor d0 x54 _ e72 _ _ w' (slArg dataRd_ok ha0 ra0 (Tt T hb')) (stArg (R := constructorRd) ⟨_, _, _, rfl, ⟨SlAt.now typeRd_ok h63 (Nat.le_refl _) (Tt T hb'), r63⟩⟩))) ?_
                      refine RQ.y rfl (Y.not (b' := (!y71)) rfl rfl) ?_
                      refine RQ.y rfl (Y.move (v := .bool (!y71)) rfl) ?_
                      rcases bcases y71 with c73 | c73
                      · replace hm := cF c73 hm
                        refine RQ.skip (wantN (dj := 60) rfl (vbn rfl c73 rfl) rfl) ?_
                        refine RQ.skip (wantN (dj := 60) rfl (vbn rfl c73 rfl) rfl) ?_
                        refine RQ.skip (wantN (dj := 60) rfl (vbn rfl c73 rfl) rfl) ?_
                        refine RQ.skip (wantN (dj := 60) rfl (vbn rfl c73 rfl) rfl) ?_
                        refine RQ.y rfl (Y.pick (b := true) (v := .bool true) (vbn rfl c73 rfl) rfl) ?_
                        refine RQ.nil ?_
                        intro w74 hb75
                        have szw74 := hb75.size
                        have Bz51 := OwM.below Bz51 hb75
                        have B69 := blkT B69 hb75
                        have T := Tt T hb75
                        refine then_n ?_
                        refine cond_t rfl rfl ?_
                        refine wp_seq ?_
                        refine wp_rs rfl ?_
                        refine RQ.y rfl (Y.assign (v := .bool false) rfl) ?_
                        refine RQ.nil ?_
                        refine then_n ?_
                        refine wp_ret ?_
                        obtain rfl := Option.some.inj hm
                        exact (then_r (blk_r (then_r (then_r (hit_r (blk_r (blk_r (then_r (then_r (hit_r (blk_r (then_r (ret1 rfl rfl rfl ⟨rfl, T⟩)))))))))))))
                      · replace hm := cT c73 hm
                        refine RQ.y (wantT (dj := 60) rfl (vbn rfl c73 rfl)) (Y.move (v := .map (some w.heap.size)) s3_2) ?_
                        refine RQ.y (wantT (dj := 60) rfl (vbn rfl c73 rfl)) (Y.fieldAddr (off := 0) rfl (by kernel_rfl)) ?_
                        refine RQ.y (wantT (dj := 60) rfl (vbn rfl c73 rfl)) (Y.load (v := .string x54.name) rfl (by kernel_rfl) (beC (blkCell B69 (i := 0) rfl))) ?_
                        obtain ⟨_, kc76, hm⟩ := bnd hm
                        replace kc76 := mustP_some kc76
                        refine RQ.y (wantT (dj := 60) rfl (vbn rfl c73 rfl)) (Y.look (zb := false) (a := x54.name) mt_string_bool rfl rfl kc76 (fun w' hb' => OwM.below Bz51 hb')) ?_
                        refine RQ.y rfl (Y.pick (b := false) (v := .bool (z51.look x54.name false)) (vbn rfl c73 rfl) rfl) ?_
                        refine RQ.nil ?_
                        intro w77 hb78
                        have szw77 := hb78.size
                        have Bz51 := OwM.below Bz51 hb78
                        have B69 := blkT B69 hb78
                        have T := Tt T hb78
                        refine then_n ?_
                        rcases bcases (z51.look x54.name false) with c79 | c79
                        · replace hm := cF c79 hm
                          refine cond_f rfl (vb rfl c79) ?_
                          refine wp_skip ?_
                          refine then_n ?_
                          refine wp_rl rfl ?_
                          refine RL.y rfl (Y.move (v := .map (some w.heap.size)) s3_2) ?_
                          refine RL.y rfl (Y.fieldAddr (off := 0) rfl (by kernel_rfl)) ?_
                          refine RL.y rfl (Y.load (v := .string x54.name) rfl (by kernel_rfl) (eqC (blkCell B69 (i := 0) rfl))) ?_
                          obtain ⟨_, kc80, hm⟩ := bnd hm
                          replace kc80 := mustP_some kc80
                          obtain ⟨_, m81, hm⟩ := bnd hm
                          have hk82 := mustP_some m81
                          refine RL.mapSet (a := x54.name) (v := true) (enc := encVB) mt_string_bool rfl rfl rfl rfl kc80 Bz51 hk82 (fun w83 B84 ho85 => ?_)
                          have szw83 := ho85.size
                          have B69 := B69.only_ ho85 (by intro hin; simp at hin; exact Eob67_ob5.symm hin)
                          have T := T.trans (ho85.below (by intro b hb; simp at hb; subst hb; exact Bz51.1))
                          refine RL.nil ?_
                          refine blk_n (then_n ?_)
                          refine wp_rs rfl ?_
                          refine RQ.y rfl (Y.binI s52_2 rfl (binI_add (m := i50) (by omega))) ?_
                          refine RQ.y rfl (Y.move (v := .int .i64 (i50 + 1)) rfl) ?_
                          refine RQ.nil ?_
                          exact (then_n ⟨g, _, Nat.lt_succ_self _, rfl, ⟨(i50 + 1), (z51.put x54.name true), s0_2, s3_2, s12_2, s13_2, s14_2, s50_2, s51_2, rfl, (by omega), B84, T, (by rw [← hrec2]; exact hm)⟩⟩)
                        · replace hm := cT c79 hm
                          refine cond_t rfl (vb rfl c79) ?_
                          refine wp_seq ?_
                          refine wp_rs rfl ?_
                          refine RQ.y rfl (Y.assign (v := .bool false) rfl) ?_
                          refine RQ.nil ?_
                          refine then_n ?_
                          refine wp_ret ?_
                          obtain rfl := Option.some.inj hm
                          exact (then_r (blk_r (then_r (then_r (hit_r (blk_r (blk_r (then_r (then_r (hit_r (blk_r (then_r (ret1 rfl rfl rfl ⟨rfl, T⟩)))))))))))))
                · replace hm := cT c46 hm
                  have pc46 := of_decide_eq_true c46
                  refine cond_t rfl (vb rfl c46) ?_
                  refine wp_seq ?_
                  refine wp_rs rfl ?_
                  refine RQ.y rfl (Y.assign (v := .bool false) rfl) ?_
                  refine RQ.nil ?_
                  refine then_n ?_
                  refine wp_ret ?_
                  obtain rfl := Option.some.inj hm
                  exact (then_r (blk_r (then_r (then_r (hit_r (blk_r (then_r (ret1 rfl rfl rfl ⟨rfl, T⟩))))))))
              · replace hm := cT c43 hm
                have pc43 := of_decide_eq_true c43
                refine RQ.skip (wantN (dj := 43) rfl (vb rfl c43) rfl) ?_
                refine RQ.skip (wantN (dj := 43) rfl (vb rfl c43) rfl) ?_
                refine RQ.skip (wantN (dj := 43) rfl (vb rfl c43) rfl) ?_
                refine RQ.skip (wantN (dj := 43) rfl (vb rfl c43) rfl) ?_
                refine RQ.y rfl (Y.pick (b := true) (v := .bool true) (vb rfl c43) rfl) ?_
                refine RQ.nil ?_
                intro w87 hb88
                have szw87 := hb88.size
                have Bz8 := OwM.below Bz8 hb88
                have B26 := blkT B26 hb88
                have T := Tt T hb88
                refine then_n ?_
                refine cond_t rfl rfl ?_
                refine wp_seq ?_
                refine wp_rs rfl ?_
                refine RQ.y rfl (Y.assign (v := .bool false) rfl) ?_
                refine RQ.nil ?_
                refine then_n ?_
                refine wp_ret ?_
                obtain rfl := Option.some.inj hm
                exact (then_r (blk_r (then_r (then_r (hit_r (blk_r (then_r (ret1 rfl rfl rfl ⟨rfl, T⟩))))))))
            · replace hm := cT c42 hm
              have pc42 := of_decide_eq_true c42
              refine RQ.skip (wantN (dj := 37) rfl (vb rfl c42) rfl) ?_
              refine RQ.skip (wantN (dj := 37) rfl (vb rfl c42) rfl) ?_
              refine RQ.skip (wantN (dj := 37) rfl (vb rfl c42) rfl) ?_
              refine RQ.skip (wantN (dj := 37) rfl (vb rfl c42) rfl) ?_
              refine RQ.y rfl (Y.pick (b := true) (v := .bool true) (vb rfl c42) rfl) ?_
              refine RQ.y rfl (Y.move (v := .bool true) rfl) ?_
              refine RQ.skip (wantN (dj := 43) rfl rfl rfl) ?_
              refine RQ.skip (wantN (dj := 43) rfl rfl rfl) ?_
              refine RQ.skip (wantN (dj := 43) rfl rfl rfl) ?_
              refine RQ.skip (wantN (dj := 43) rfl rfl rfl) ?_
              refine RQ.y rfl (Y.pick (b := true) (v := .bool true) rfl rfl) ?_
              refine RQ.nil ?_
              intro w89 hb90
              have szw89 := hb90.size
              have Bz8 := OwM.below Bz8 hb90
              have B26 := blkT B26 hb90
              have T := Tt T hb90
              refine then_n ?_
              refine cond_t rfl rfl ?_
              refine wp_seq ?_
              refine wp_rs rfl ?_
              refine RQ.y rfl (Y.assign (v := .bool false) rfl) ?_
              refine RQ.nil ?_
              refine then_n ?_
              refine wp_ret ?_
              obtain rfl := Option.some.inj hm
              exact (then_r (blk_r (then_r (then_r (hit_r (blk_r (then_r (ret1 rfl rfl rfl ⟨rfl, T⟩))))))))
          · replace hm := cT c33 hm
            refine RQ.skip (wantN (dj := 28) rfl (vb rfl c33) rfl) ?_
            refine RQ.skip (wantN (dj := 28) rfl (vb rfl c33) rfl) ?_
            refine RQ.skip (wantN (dj := 28) rfl (vb rfl c33) rfl) ?_
            refine RQ.skip (wantN (dj := 28) rfl (vb rfl c33) rfl) ?_
            refine RQ.skip (wantN (dj := 28) rfl (vb rfl c33) rfl) ?_
            refine RQ.skip (wantN (dj := 28) rfl (vb rfl c33) rfl) ?_
            refine RQ.skip (wantN (dj := 28) rfl (vb rfl c33) rfl) ?_
            refine RQ.y rfl (Y.pick (b := true) (v := .bool true) (vb rfl c33) rfl) ?_
            refine RQ.y rfl (Y.move (v := .bool true) rfl) ?_
            refine RQ.skip (wantN (dj := 37) rfl rfl rfl) ?_
            refine RQ.skip (wantN (dj := 37) rfl rfl rfl) ?_
            refine RQ.skip (wantN (dj := 37) rfl rfl rfl) ?_
            refine RQ.skip (wantN (dj := 37) rfl rfl rfl) ?_
            refine RQ.y rfl (Y.pick (b := true) (v := .bool true) rfl rfl) ?_
            refine RQ.y rfl (Y.move (v := .bool true) rfl) ?_
            refine RQ.skip (wantN (dj := 43) rfl rfl rfl) ?_
            refine RQ.skip (wantN (dj := 43) rfl rfl rfl) ?_
            refine RQ.skip (wantN (dj := 43) rfl rfl rfl) ?_
            refine RQ.skip (wantN (dj := 43) rfl rfl rfl) ?_
            refine RQ.y rfl (Y.pick (b := true) (v := .bool true) rfl rfl) ?_
            refine RQ.nil ?_
            intro w91 hb92
            have szw91 := hb92.size
            have Bz8 := OwM.below Bz8 hb92
            have B26 := blkT B26 hb92
            have T := Tt T hb92
            refine then_n ?_
            refine cond_t rfl rfl ?_
            refine wp_seq ?_
            refine wp_rs rfl ?_
            refine RQ.y rfl (Y.assign (v := .bool false) rfl) ?_
            refine RQ.nil ?_
            refine then_n ?_
            refine wp_ret ?_
            obtain rfl := Option.some.inj hm
            exact (then_r (blk_r (then_r (then_r (hit_r (blk_r (then_r (ret1 rfl rfl rfl ⟨rfl, T⟩))))))))
  · replace hm := cT c1 hm
    have pc1 := of_decide_eq_true c1
    refine cond_t rfl (vb rfl c1) ?_
    refine wp_seq ?_
    refine wp_rs rfl ?_
    refine RQ.y rfl (Y.assign (v := .bool false) rfl) ?_
    refine RQ.nil ?_
    refine then_n ?_
    refine wp_ret ?_
    obtain rfl := Option.some.inj hm
    exact (then_r (ret1 rfl rfl rfl ⟨rfl, T⟩))
noncomputable def m_impl_isSimple_R (self : (List DData) → DType → Option Bool) (d0 : List DData) (d1 : DType) : Option Bool :=
  (bif (d1.kind == 1) then (bif (d1.name.toList == (ByteArray.mk #[]).toList) then some ((d1.kids.length : Int) == 0) else some false) else (bif (d1.kind == 2) then (bif (d1.name.toList == (ByteArray.mk #[73, 110, 116]).toList) then some false else ((m_impl_IsUpper d1.name).bind fun y43 => (bif y43 then (bif ((d1.kids.length : Int) == 0) then ((m_impl_findData d0 d1.name).bind fun y51 => some (decide (y51 ≥ 0))) else some false) else some false))) else (bif (d1.kind == 3) then (bif (d1.name.toList == (ByteArray.mk #[]).toList) then (bif ((d1.kids.length : Int) == 2) then ((getI d1.kids 0).bind fun x15 => ((self d0 x15).bind fun y25 => (bif y25 then ((getI d1.kids 1).bind fun x30 => ((self d0 x30).bind fun y38 => some y38)) else some false))) else some false) else some false) else some false)))
noncomputable def m_impl_isSimple : Nat → (List DData) → DType → Option Bool
  | 0, _, _ => none
  | gas + 1, d0, d1 => m_impl_isSimple_R (m_impl_isSimple gas) d0 d1
set_option maxHeartbeats 2000000 in
theorem c_m_impl_isSimple : ∀ (gas : Nat) (d0 : List DData) (d1 : DType) (r : Bool) (hm : m_impl_isSimple gas d0 d1 = some r) (v0 : Value) (v1 : Value) (w : World) (hv0 : Sl dataRd 2 w v0 d0) (hv1 : St typeRd w v1 d1),
    Calls Try.prog 67 #[v0, v1] w fun e w' => e = .returned (.bool r) ∧ Below w.heap.size w w' := by
  intro gas
  induction gas with
  | zero =>
    intro d0 d1 r hm v0 v1 w hv0 hv1
    cases hm
  | succ gas ih =>
    intro d0 d1 r hm v0 v1 w hv0 hv1
    obtain ⟨Aa0, na0, ca0, rfl, ha0, ra0⟩ := hv0
    have ea0 := ha0.len; subst ea0
    have qa0 := len_le ra0
    obtain ⟨csa1, rfl, hRR1⟩ := hv1
    obtain ⟨A1, n1, c1, rfl, ⟨h1, r1⟩⟩ := (typeRd_out hRR1)
    have e1 := h1.len; subst e1
    have q1 := len_le r1
    have T := Below.refl w.heap.size w
    obtain ⟨self, hself, hm⟩ : ∃ s, s = m_impl_isSimple gas ∧ m_impl_isSimple_R s d0 d1 = some r := ⟨_, rfl, hm⟩
    unfold m_impl_isSimple_R at hm
    refine enter 68 Try.func67 rfl rfl rfl ?_
    intro f hf
    have s0 : f 0 = .slice Aa0 d0.length ca0 := hf 0 _ rfl
    have s1 : f 1 = .agg #[.int .i64 d1.kind, .string d1.name, .slice A1 d1.kids.length c1] := hf 1 _ rfl
    refine wp_seq ?_
    refine wp_rl rfl ?_
    refine RL.box rfl s1 (fun w2 B3 hb4 szw2 => ?_)
    replace B3 : Blk w2 w.heap.size 110 #[.int .i64 d1.kind, .string d1.name, .slice A1 d1.kids.length c1] := B3
    have GB3 : w.heap.size ≤ w.heap.size := T.size
    have T := Tt T hb4
    refine RL.y rfl (Y.assign (v := .bool false) rfl) ?_
    refine RL.nil ?_
    refine then_n ?_
    refine wp_seq ?_
    refine wp_seq ?_
    refine wp_rs rfl ?_
    refine RQ.y rfl (Y.fieldAddr (off := 0) rfl (by kernel_rfl)) ?_
    refine RQ.y rfl (Y.load (v := .int .i64 d1.kind) rfl (by kernel_rfl) (eqC (blkCell B3 (i := 0) rfl))) ?_
    refine RQ.nil ?_
    refine then_n ?_
    refine wp_block ?_
    refine wp_seq ?_
    refine wp_rs rfl ?_
    refine RQ.y rfl (Y.binI (v := .bool (d1.kind == 1)) rfl rfl rfl) ?_
    refine RQ.y rfl (Y.assign (v := .bool (d1.kind == 1)) rfl) ?_
    refine RQ.nil ?_
    refine then_n ?_
    rcases bcases (d1.kind == 1) with c6 | c6
    · replace hm := cF c6 hm
      refine cond_f rfl (vb rfl c6) ?_
      refine wp_seq ?_
      refine wp_rs rfl ?_
      refine RQ.y rfl (Y.binI (v := .bool (d1.kind == 2)) rfl rfl rfl) ?_
      refine RQ.y rfl (Y.assign (v := .bool (d1.kind == 2)) rfl) ?_
      refine RQ.nil ?_
      refine then_n ?_
      rcases bcases (d1.kind == 2) with c7 | c7
      · replace hm := cF c7 hm
        refine cond_f rfl (vb rfl c7) ?_
        refine wp_seq ?_
        refine wp_rs rfl ?_
        refine RQ.y rfl (Y.binI (v := .bool (d1.kind == 3)) rfl rfl rfl) ?_
        refine RQ.y rfl (Y.assign (v := .bool (d1.kind == 3)) rfl) ?_
        refine RQ.nil ?_
        refine then_n ?_
        rcases bcases (d1.kind == 3) with c8 | c8
        · replace hm := cF c8 hm
          refine cond_f rfl (vb rfl c8) ?_
          refine wp_skip ?_
          refine blk_n (then_n ?_)
          refine wp_seq ?_
          refine wp_rs rfl ?_
          refine RQ.y rfl (Y.assign (v := .bool false) rfl) ?_
          refine RQ.nil ?_
          refine then_n ?_
          refine wp_ret ?_
          obtain rfl := Option.some.inj hm
          exact (ret1 rfl rfl rfl ⟨rfl, T⟩)
        · replace hm := cT c8 hm
          refine cond_t rfl (vb rfl c8) ?_
          refine wp_seq ?_
          refine wp_rb rfl ?_
          refine RQ.y rfl (Y.fieldAddr (off := 1) rfl (by kernel_rfl)) ?_
          refine RQ.y rfl (Y.load (v := .string d1.name) rfl (by kernel_rfl) (beC (blkCell B3 (i := 1) rfl))) ?_
          refine RQ.y rfl (Y.eqStr rfl rfl (by kernel_rfl)) ?_
          refine RQ.y rfl (Y.move (v := .bool (d1.name.toList == (ByteArray.mk #[]).toList)) rfl) ?_
          rcases bcases (d1.name.toList == (ByteArray.mk #[]).toList) with c9 | c9
          · replace hm := cF c9 hm
            refine RQ.skip (wantN (dj := 46) rfl (vb rfl c9) rfl) ?_
            refine RQ.skip (wantN (dj := 46) rfl (vb rfl c9) rfl) ?_
            refine RQ.skip (wantN (dj := 46) rfl (vb rfl c9) rfl) ?_
            refine RQ.skip (wantN (dj := 46) rfl (vb rfl c9) rfl) ?_
            refine RQ.y rfl (Y.pick (b := false) (v := .bool false) (vb rfl c9) rfl) ?_
            refine RQ.y rfl (Y.move (v := .bool false) rfl) ?_
            refine RQ.skip (wantN (dj := 52) rfl rfl rfl) ?_
            refine RQ.skip (wantN (dj := 52) rfl rfl rfl) ?_
            refine RQ.skip (wantN (dj := 52) rfl rfl rfl) ?_
            refine RQ.skip (wantN (dj := 52) rfl rfl rfl) ?_
            refine RQ.skip (wantN (dj := 52) rfl rfl rfl) ?_
            refine RQ.skip (wantN (dj := 52) rfl rfl rfl) ?_
            refine RQ.y rfl (Y.pick (b := false) (v := .bool false) rfl rfl) ?_
            refine RQ.y rfl (Y.move (v := .bool false) rfl) ?_
            refine RQ.skip (wantN (dj := 60) rfl rfl rfl) ?_
            refine RQ.skip (wantN (dj := 60) rfl rfl rfl) ?_
            refine RQ.skip (wantN (dj := 60) rfl rfl rfl) ?_
            refine RQ.skip (wantN (dj := 60) rfl rfl rfl) ?_
            refine RQ.skip (wantN (dj := 60) rfl rfl rfl) ?_
            refine RQ.skip (wantN (dj := 60) rfl rfl rfl) ?_
            refine RQ.y rfl (Y.pick (b := false) (v := .bool false) rfl rfl) ?_
            refine RQ.y rfl (Y.assign (v := .bool false) rfl) ?_
            refine RQ.nil ?_
            intro w10 hb11
            have szw10 := hb11.size
            have T := Tt T hb11
            refine then_n ?_
            refine wp_ret ?_
            obtain rfl := Option.some.inj hm
            exact (blk_r (then_r (ret1 rfl rfl rfl ⟨rfl, T⟩)))
          · replace hm := cT c9 hm
            refine RQ.y (wantT (dj := 46) rfl (vb rfl c9)) (Y.fieldAddr (off := 2) rfl (by kernel_rfl)) ?_
            refine RQ.y (wantT (dj := 46) rfl (vb rfl c9)) (Y.load (v := .slice A1 d1.kids.length c1) rfl (by kernel_rfl) (beC (blkCell B3 (i := 2) rfl))) ?_
            refine RQ.y (wantT (dj := 46) rfl (vb rfl c9)) (Y.len (by kernel_rfl) rfl) ?_
            refine RQ.y (wantT (dj := 46) rfl (vb rfl c9)) (Y.binI (v := .bool ((d1.kids.length : Int) == 2)) rfl rfl rfl) ?_
            refine RQ.y rfl (Y.pick (b := true) (v := .bool ((d1.kids.length : Int) == 2)) (vb rfl c9) rfl) ?_
            refine RQ.y rfl (Y.move (v := .bool ((d1.kids.length : Int) == 2)) rfl) ?_
            rcases bcases ((d1.kids.length : Int) == 2) with c12 | c12
            · replace hm := cF c12 hm
              refine RQ.skip (wantN (dj := 52) rfl (vb rfl c12) rfl) ?_
              refine RQ.skip (wantN (dj := 52) rfl (vb rfl c12) rfl) ?_
              refine RQ.skip (wantN (dj := 52) rfl (vb rfl c12) rfl) ?_
              refine RQ.skip (wantN (dj := 52) rfl (vb rfl c12) rfl) ?_
              refine RQ.skip (wantN (dj := 52) rfl (vb rfl c12) rfl) ?_
              refine RQ.skip (wantN (dj := 52) rfl (vb rfl c12) rfl) ?_
              refine RQ.y rfl (Y.pick (b := false) (v := .bool false) (vb rfl c12) rfl) ?_
              refine RQ.y rfl (Y.move (v := .bool false) rfl) ?_
              refine RQ.skip (wantN (dj := 60) rfl rfl rfl) ?_
              refine RQ.skip (wantN (dj := 60) rfl rfl rfl) ?_
              refine RQ.skip (wantN (dj := 60) rfl rfl rfl) ?_
              refine RQ.skip (wantN (dj := 60) rfl rfl rfl) ?_
              refine RQ.skip (wantN (dj := 60) rfl rfl rfl) ?_
              refine RQ.skip (wantN (dj := 60) rfl rfl rfl) ?_
              refine RQ.y rfl (Y.pick (b := false) (v := .bool false) rfl rfl) ?_
              refine RQ.y rfl (Y.assign (v := .bool false) rfl) ?_
              refine RQ.nil ?_
              intro w13 hb14
              have szw13 := hb14.size
              have T := Tt T hb14
              refine then_n ?_
              refine wp_ret ?_
              obtain rfl := Option.some.inj hm
              exact (blk_r (then_r (ret1 rfl rfl rfl ⟨rfl, T⟩)))
            · replace hm := cT c12 hm
              refine RQ.y (wantT (dj := 52) rfl (vb rfl c12)) (Y.move (v := .slice Aa0 d0.length ca0) s0) ?_
              refine RQ.y (wantT (dj := 52) rfl (vb rfl c12)) (Y.fieldAddr (off := 2) rfl (by kernel_rfl)) ?_
              refine RQ.y (wantT (dj := 52) rfl (vb rfl c12)) (Y.load (v := .slice A1 d1.kids.length c1) rfl (by kernel_rfl) (beC (blkCell B3 (i := 2) rfl))) ?_
              obtain ⟨x15, hx18, hm⟩ := bnd hm
              obtain ⟨k16, hk19, hl20, hx18⟩ := getI_some hx18
              obtain ⟨b22, o23, rfl, hbb22⟩ := h1.addr (by omega)
              obtain ⟨cs17, hRcs17, hc21⟩ := h1.el hx18
              have hScs17 := hRcs17
              obtain ⟨A24, n24, c24, rfl, ⟨h24, r24⟩⟩ := (typeRd_out hRcs17)
              have e24 := h24.len; subst e24
              have q24 := len_le r24
              refine RQ.y (wantT (dj := 52) rfl (vb rfl c12)) (Y.indexAddr (m := k16) (sz := 3) rfl rfl hk19 hl20 (by kernel_rfl)) ?_
              refine RQ.y (wantT (dj := 52) rfl (vb rfl c12)) (Y.loadN (cs := [.int .i64 x15.kind, .string x15.name, .slice A24 x15.kids.length c24]) rfl (by kernel_rfl) (cells3 (beC (cellT T (hc21 0 _ rfl))) (beC (cellT T (hc21 1 _ rfl))) (beC (cellT T (hc21 2 _ rfl))))) ?_
              obtain ⟨y25, e26, hm⟩ := bnd hm
              refine RQ.call (wantT (dj := 52) rfl (vb rfl c12)) (am2 rfl rfl) (by kernel_rfl) (v := .bool y25) (bel (K := fun _ => True) fun w' hb' => (ih d0 x15 _ (by rw [← hself]; exact e26) _ _ w' (slArg dataRd_ok ha0 ra0 (Tt T hb')) (stArg (R := typeRd) (typeRd_in ⟨_, _, _, rfl, ⟨SlAt.now typeRd_ok h24 (Nat.le_refl _) (Tt T hb'), r24⟩⟩)))) ?_
              refine RQ.y rfl (Y.pick (b := true) (v := .bool y25) (vb rfl c12) rfl) ?_
              refine RQ.y rfl (Y.move (v := .bool y25) rfl) ?_
              rcases bcases y25 with c27 | c27
              · replace hm := cF c27 hm
                refine RQ.skip (wantN (dj := 60) rfl (vb rfl c27) rfl) ?_
                refine RQ.skip (wantN (dj := 60) rfl (vb rfl c27) rfl) ?_
                refine RQ.skip (wantN (dj := 60) rfl (vb rfl c27) rfl) ?_
                refine RQ.skip (wantN (dj := 60) rfl (vb rfl c27) rfl) ?_
                refine RQ.skip (wantN (dj := 60) rfl (vb rfl c27) rfl) ?_
                refine RQ.skip (wantN (dj := 60) rfl (vb rfl c27) rfl) ?_
                refine RQ.y rfl (Y.pick (b := false) (v := .bool false) (vb rfl c27) rfl) ?_
                refine RQ.y rfl (Y.assign (v := .bool false) rfl) ?_
                refine RQ.nil ?_
                intro w28 hb29
                have szw28 := hb29.size
                have T := Tt T hb29
                refine then_n ?_
                refine wp_ret ?_
                obtain rfl := Option.some.inj hm
                exact (blk_r (then_r (ret1 rfl rfl rfl ⟨rfl, T⟩)))
              · replace hm := cT c27 hm
                refine RQ.y (wantT (dj := 60) rfl (vb rfl c27)) (Y.move (v := .slice Aa0 d0.length ca0) s0) ?_
                refine RQ.y (wantT (dj := 60) rfl (vb rfl c27)) (Y.fieldAddr (off := 2) rfl (by kernel_rfl)) ?_
                refine RQ.y (wantT (dj := 60) rfl (vb rfl c27)) (Y.load (v := .slice (some ⟨b22, o23, none⟩) d1.kids.length c1) rfl (by kernel_rfl) (beC (blkCell B3 (i := 2) rfl))) ?_
                obtain ⟨x30, hx33, hm⟩ := bnd hm
                obtain ⟨k31, hk34, hl35, hx33⟩ := getI_some hx33
                obtain ⟨cs32, hRcs32, hc36⟩ := h1.el hx33
                have hScs32 := hRcs32
                obtain ⟨A37, n37, c37, rfl, ⟨h37, r37⟩⟩ := (typeRd_out hRcs32)
                have e37 := h37.len; subst e37
                have q37 := len_le r37
                refine RQ.y (wantT (dj := 60) rfl (vb rfl c27)) (Y.indexAddr (m := k31) (sz := 3) rfl rfl hk34 hl35 (by kernel_rfl)) ?_
                refine RQ.y (wantT (dj := 60) rfl (vb rfl c27)) (Y.loadN (cs := [.int .i64 x30.kind, .string x30.name, .slice A37 x30.kids.length c37]) rfl (by kernel_rfl) (cells3 (beC (cellT T (hc36 0 _ rfl))) (beC (cellT T (hc36 1 _ rfl))) (beC (cellT T (hc36 2 _ rfl))))) ?_
                obtain ⟨y38, e39, hm⟩ := bnd hm
                refine RQ.call (wantT (dj := 60) rfl (vb rfl c27)) (am2 rfl rfl) (by kernel_rfl) (v := .bool y38) (bel (K := fun _ => True) fun w' hb' => (ih d0 x30 _ (by rw [← hself]; exact e39) _ _ w' (slArg dataRd_ok ha0 ra0 (Tt T hb')) (stArg (R := typeRd) (typeRd_in ⟨_, _, _, rfl, ⟨SlAt.now typeRd_ok h37 (Nat.le_refl _) (Tt T hb'), r37⟩⟩)))) ?_
                refine RQ.y rfl (Y.pick (b := true) (v := .bool y38) (vb rfl c27) rfl) ?_
                refine RQ.y rfl (Y.assign (v := .bool y38) rfl) ?_
                refine RQ.nil ?_
                intro w40 hb41
                have szw40 := hb41.size
                have T := Tt T hb41
                refine then_n ?_
                refine wp_ret ?_
                obtain rfl := Option.some.inj hm
                exact (blk_r (then_r (ret1 rfl rfl rfl ⟨rfl, T⟩)))
      · replace hm := cT c7 hm
        refine cond_t rfl (vb rfl c7) ?_
        refine wp_seq ?_
        refine wp_rb rfl ?_
        refine RQ.y rfl (Y.fieldAddr (off := 1) rfl (by kernel_rfl)) ?_
        refine RQ.y rfl (Y.load (v := .string d1.name) rfl (by kernel_rfl) (beC (blkCell B3 (i := 1) rfl))) ?_
        refine RQ.y rfl (Y.neStr rfl rfl (by kernel_rfl)) ?_
        refine RQ.y rfl (Y.move (v := .bool (!(d1.name.toList == (ByteArray.mk #[73, 110, 116]).toList))) rfl) ?_
        rcases bcases (d1.name.toList == (ByteArray.mk #[73, 110, 116]).toList) with c42 | c42
        · replace hm := cF c42 hm
          refine RQ.y (wantT (dj := 23) rfl (vbn rfl c42 rfl)) (Y.fieldAddr (off := 1) rfl (by kernel_rfl)) ?_
          refine RQ.y (wantT (dj := 23) rfl (vbn rfl c42 rfl)) (Y.load (v := .string d1.name) rfl (by kernel_rfl) (beC (blkCell B3 (i := 1) rfl))) ?_
          obtain ⟨y43, e44, hm⟩ := bnd hm
          refine RQ.call (wantT (dj := 23) rfl (vbn rfl c42 rfl)) (am1 rfl) (by kernel_rfl) (v := .bool y43) (bel (K := fun _ => True) fun w' hb' => (c_m_impl_IsUpper d1.name _ e44  w' )) ?_
          refine RQ.y rfl (Y.pick (b := true) (v := .bool y43) (vbn rfl c42 rfl) rfl) ?_
          refine RQ.y rfl (Y.move (v := .bool y43) rfl) ?_
          rcases bcases y43 with c45 | c45
          · replace hm := cF c45 hm
            refine RQ.skip (wantN (dj := 28) rfl (vb rfl c45) rfl) ?_
            refine RQ.skip (wantN (dj := 28) rfl (vb rfl c45) rfl) ?_
            refine RQ.skip (wantN (dj := 28) rfl (vb rfl c45) rfl) ?_
            refine RQ.skip (wantN (dj := 28) rfl (vb rfl c45) rfl) ?_
            refine RQ.y rfl (Y.pick (b := false) (v := .bool false) (vb rfl c45) rfl) ?_
            refine RQ.y rfl (Y.move (v := .bool false) rfl) ?_
            refine RQ.skip (wantN (dj := 34) rfl rfl rfl) ?_
            refine RQ.skip (wantN (dj := 34) rfl rfl rfl) ?_
            refine RQ.skip (wantN (dj := 34) rfl rfl rfl) ?_
            refine RQ.skip (wantN (dj := 34) rfl rfl rfl) ?_
            refine RQ.skip (wantN (dj := 34) rfl rfl rfl) ?_
            refine RQ.y rfl (Y.pick (b := false) (v := .bool false) rfl rfl) ?_
            refine RQ.y rfl (Y.assign (v := .bool false) rfl) ?_
            refine RQ.nil ?_
            intro w46 hb47
            have szw46 := hb47.size
            have T := Tt T hb47
            refine then_n ?_
            refine wp_ret ?_
            obtain rfl := Option.some.inj hm
            exact (blk_r (then_r (ret1 rfl rfl rfl ⟨rfl, T⟩)))
          · replace hm := cT c45 hm
            refine RQ.y (wantT (dj := 28) rfl (vb rfl c45)) (Y.fieldAddr (off := 2) rfl (by kernel_rfl)) ?_
            refine RQ.y (wantT (dj := 28) rfl (vb rfl c45)) (Y.load (v := .slice A1 d1.kids.length c1) rfl (by kernel_rfl) (beC (blkCell B3 (i := 2) rfl))) ?_
            refine RQ.y (wantT (dj := 28) rfl (vb rfl c45)) (Y.len (by kernel_rfl) rfl) ?_
            refine RQ.y (wantT (dj := 28) rfl (vb rfl c45)) (Y.binI (v := .bool ((d1.kids.length : Int) == 0)) rfl rfl rfl) ?_
            refine RQ.y rfl (Y.pick (b := true) (v := .bool ((d1.kids.length : Int) == 0)) (vb rfl c45) rfl) ?_
            refine RQ.y rfl (Y.move (v := .bool ((d1.kids.length : Int) == 0)) rfl) ?_
            rcases bcases ((d1.kids.length : Int) == 0) with c48 | c48
            · replace hm := cF c48 hm
              refine RQ.skip (wantN (dj := 34) rfl (vb rfl c48) rfl) ?_
              refine RQ.skip (wantN (dj := 34) rfl (vb rfl c48) rfl) ?_
              refine RQ.skip (wantN (dj := 34) rfl (vb rfl c48) rfl) ?_
              refine RQ.skip (wantN (dj := 34) rfl (vb rfl c48) rfl) ?_
              refine RQ.skip (wantN (dj := 34) rfl (vb rfl c48) rfl) ?_
              refine RQ.y rfl (Y.pick (b := false) (v := .bool false) (vb rfl c48) rfl) ?_
              refine RQ.y rfl (Y.assign (v := .bool false) rfl) ?_
              refine RQ.nil ?_
              intro w49 hb50
              have szw49 := hb50.size
              have T := Tt T hb50
              refine then_n ?_
              refine wp_ret ?_
              obtain rfl := Option.some.inj hm
              exact (blk_r (then_r (ret1 rfl rfl rfl ⟨rfl, T⟩)))
            · replace hm := cT c48 hm
              refine RQ.y (wantT (dj := 34) rfl (vb rfl c48)) (Y.move (v := .slice Aa0 d0.length ca0) s0) ?_
              refine RQ.y (wantT (dj := 34) rfl (vb rfl c48)) (Y.fieldAddr (off := 1) rfl (by kernel_rfl)) ?_
              refine RQ.y (wantT (dj := 34) rfl (vb rfl c48)) (Y.load (v := .string d1.name) rfl (by kernel_rfl) (beC (blkCell B3 (i := 1) rfl))) ?_
              obtain ⟨y51, e52, hm⟩ := bnd hm
              refine RQ.call (wantT (dj := 34) rfl (vb rfl c48)) (am2 rfl rfl) (by kernel_rfl) (v := .int .i64 y51) (bel (K := fun _ => True) fun w' hb' => (c_m_impl_findData d0 d1.name _ e52 _ w' (slArg dataRd_ok ha0 ra0 (Tt T hb')))) ?_
              refine RQ.y (wantT (dj := 34) rfl (vb rfl c48)) (Y.binI (v := .bool (decide (y51 ≥ 0))) rfl rfl rfl) ?_
              refine RQ.y rfl (Y.pick (b := true) (v := .bool (decide (y51 ≥ 0))) (vb rfl c48) rfl) ?_
              refine RQ.y rfl (Y.assign (v := .bool (decide (y51 ≥ 0))) rfl) ?_
              refine RQ.nil ?_
              intro w53 hb54
              have szw53 := hb54.size
              have T := Tt T hb54
              refine then_n ?_
              refine wp_ret ?_
              obtain rfl := Option.some.inj hm
              exact (blk_r (then_r (ret1 rfl rfl rfl ⟨rfl, T⟩)))
        · replace hm := cT c42 hm
          refine RQ.skip (wantN (dj := 23) rfl (vbn rfl c42 rfl) rfl) ?_
          refine RQ.skip (wantN (dj := 23) rfl (vbn rfl c42 rfl) rfl) ?_
          refine RQ.skip (wantN (dj := 23) rfl (vbn rfl c42 rfl) rfl) ?_
          refine RQ.y rfl (Y.pick (b := false) (v := .bool false) (vbn rfl c42 rfl) rfl) ?_
          refine RQ.y rfl (Y.move (v := .bool false) rfl) ?_
          refine RQ.skip (wantN (dj := 28) rfl rfl rfl) ?_
          refine RQ.skip (wantN (dj := 28) rfl rfl rfl) ?_
          refine RQ.skip (wantN (dj := 28) rfl rfl rfl) ?_
          refine RQ.skip (wantN (dj := 28) rfl rfl rfl) ?_
          refine RQ.y rfl (Y.pick (b := false) (v := .bool false) rfl rfl) ?_
          refine RQ.y rfl (Y.move (v := .bool false) rfl) ?_
          refine RQ.skip (wantN (dj := 34) rfl rfl rfl) ?_
          refine RQ.skip (wantN (dj := 34) rfl rfl rfl) ?_
          refine RQ.skip (wantN (dj := 34) rfl rfl rfl) ?_
          refine RQ.skip (wantN (dj := 34) rfl rfl rfl) ?_
          refine RQ.skip (wantN (dj := 34) rfl rfl rfl) ?_
          refine RQ.y rfl (Y.pick (b := false) (v := .bool false) rfl rfl) ?_
          refine RQ.y rfl (Y.assign (v := .bool false) rfl) ?_
          refine RQ.nil ?_
          intro w55 hb56
          have szw55 := hb56.size
          have T := Tt T hb56
          refine then_n ?_
          refine wp_ret ?_
          obtain rfl := Option.some.inj hm
          exact (blk_r (then_r (ret1 rfl rfl rfl ⟨rfl, T⟩)))
    · replace hm := cT c6 hm
      refine cond_t rfl (vb rfl c6) ?_
      refine wp_seq ?_
      refine wp_rs rfl ?_
      refine RQ.y rfl (Y.fieldAddr (off := 1) rfl (by kernel_rfl)) ?_
      refine RQ.y rfl (Y.load (v := .string d1.name) rfl (by kernel_rfl) (eqC (blkCell B3 (i := 1) rfl))) ?_
      refine RQ.y rfl (Y.eqStr rfl rfl (by kernel_rfl)) ?_
      refine RQ.y rfl (Y.move (v := .bool (d1.name.toList == (ByteArray.mk #[]).toList)) rfl) ?_
      rcases bcases (d1.name.toList == (ByteArray.mk #[]).toList) with c57 | c57
      · replace hm := cF c57 hm
        refine RQ.skip (wantN (dj := 12) rfl (vb rfl c57) rfl) ?_
        refine RQ.skip (wantN (dj := 12) rfl (vb rfl c57) rfl) ?_
        refine RQ.skip (wantN (dj := 12) rfl (vb rfl c57) rfl) ?_
        refine RQ.skip (wantN (dj := 12) rfl (vb rfl c57) rfl) ?_
        refine RQ.y rfl (Y.pick (b := false) (v := .bool false) (vb rfl c57) rfl) ?_
        refine RQ.y rfl (Y.assign (v := .bool false) rfl) ?_
        refine RQ.nil ?_
        refine then_n ?_
        refine wp_ret ?_
        obtain rfl := Option.some.inj hm
        exact (blk_r (then_r (ret1 rfl rfl rfl ⟨rfl, T⟩)))
      · replace hm := cT c57 hm
        refine RQ.y (wantT (dj := 12) rfl (vb rfl c57)) (Y.fieldAddr (off := 2) rfl (by kernel_rfl)) ?_
        refine RQ.y (wantT (dj := 12) rfl (vb rfl c57)) (Y.load (v := .slice A1 d1.kids.length c1) rfl (by kernel_rfl) (eqC (blkCell B3 (i := 2) rfl))) ?_
        refine RQ.y (wantT (dj := 12) rfl (vb rfl c57)) (Y.len (by kernel_rfl) rfl) ?_
        refine RQ.y (wantT (dj := 12) rfl (vb rfl c57)) (Y.binI (v := .bool ((d1.kids.length : Int) == 0)) rfl rfl rfl) ?_
        refine RQ.y rfl (Y.pick (b := true) (v := .bool ((d1.kids.length : Int) == 0)) (vb rfl c57) rfl) ?_
        refine RQ.y rfl (Y.assign (v := .bool ((d1.kids.length : Int) == 0)) rfl) ?_
        refine RQ.nil ?_
        refine then_n ?_
        refine wp_ret ?_
        obtain rfl := Option.some.inj hm
        exact (blk_r (then_r (ret1 rfl rfl rfl ⟨rfl, T⟩)))
noncomputable def m_impl_ValidSignature_1 (d0 : DType) (d1 : DSignature) : Option Bool :=
  ((m_impl_isSimple (SizeOf.sizeOf d0) d1.datas d0).bind fun y8 => some (!y8))
set_option maxHeartbeats 2000000 in
theorem c_m_impl_ValidSignature_1 (d0 : DType) (d1 : DSignature) (r : Bool) (hm : m_impl_ValidSignature_1 d0 d1 = some r) (v0 : Value) (v1 : Value) (w : World) (hv0 : St typeRd w v0 d0) (hv1 : Pt signatureRd w v1 d1) :
    Calls Try.prog 66 #[v0, v1] w fun e w' => e = .returned (.bool r) ∧ Below w.heap.size w w' := by
  obtain ⟨csa0, rfl, hRR0⟩ := hv0
  obtain ⟨A1, n1, c1, rfl, ⟨h1, r1⟩⟩ := (typeRd_out hRR0)
  have e1 := h1.len; subst e1
  have q1 := len_le r1
  obtain ⟨ba1, oa1, csa1, rfl, hba1, hRa1, hca1⟩ := hv1
  have hSa1 := hRa1
  obtain ⟨A2, n2, c2, A3, n3, c3, rfl, ⟨h2, r2⟩, ⟨h3, r3⟩⟩ := hRa1
  have e2 := h2.len; subst e2
  have q2 := len_le r2
  have e3 := h3.len; subst e3
  have q3 := len_le r3
  have T := Below.refl w.heap.size w
  unfold m_impl_ValidSignature_1 at hm
  refine enter 9 Try.func66 rfl rfl rfl ?_
  intro f hf
  have s0 : f 0 = .agg #[.int .i64 d0.kind, .string d0.name, .slice A1 d0.kids.length c1] := hf 0 _ rfl
  have s1 : f 1 = .pointer (some ⟨ba1, oa1, none⟩) := hf 1 _ rfl
  refine wp_seq ?_
  refine wp_rl rfl ?_
  refine RL.box rfl s0 (fun w4 B5 hb6 szw4 => ?_)
  replace B5 : Blk w4 w.heap.size 110 #[.int .i64 d0.kind, .string d0.name, .slice A1 d0.kids.length c1] := B5
  have GB5 : w.heap.size ≤ w.heap.size := T.size
  have T := Tt T hb6
  refine RL.y rfl (Y.assign (v := .bool false) rfl) ?_
  refine RL.nil ?_
  refine then_n ?_
  refine wp_seq ?_
  refine wp_rb rfl ?_
  refine RQ.y rfl (Y.fieldAddr (off := 0) s1 (by kernel_rfl)) ?_
  refine RQ.y rfl (Y.load (v := .slice A2 d1.datas.length c2) rfl (by kernel_rfl) (beC (cellT T (hca1 0 _ rfl)))) ?_
  refine RQ.y rfl (Y.loadN (cs := [.int .i64 d0.kind, .string d0.name, .slice A1 d0.kids.length c1]) rfl (by kernel_rfl) (cells3 (beC (blkCell B5 (i := 0) rfl)) (beC (blkCell B5 (i := 1) rfl)) (beC (blkCell B5 (i := 2) rfl)))) ?_
  obtain ⟨y8, e9, hm⟩ := bnd hm
  refine RQ.call rfl (am2 rfl rfl) (by kernel_rfl) (v := .bool y8) (bel (K := fun _ => True) fun w' hb' => (c_m_impl_isSimple (SizeOf.sizeOf d0) d1.datas d0 _ e9 _ _ w' (slArg dataRd_ok h2 r2 (Tt T hb')) (stArg (R := typeRd) (typeRd_in ⟨_, _, _, rfl, ⟨SlAt.now typeRd_ok h1 (Nat.le_refl _) (Tt T hb'), r1⟩⟩)))) ?_
  refine RQ.y rfl (Y.not (b' := (!y8)) rfl rfl) ?_
  refine RQ.y rfl (Y.assign (v := .bool (!y8)) rfl) ?_
  refine RQ.nil ?_
  intro w10 hb11
  have szw10 := hb11.size
  have T := Tt T hb11
  refine then_n ?_
  refine wp_ret ?_
  obtain rfl := Option.some.inj hm
  exact (ret1 rfl rfl rfl ⟨rfl, T⟩)
noncomputable def m_impl_ValidSignature_2 (d0 : DType) (d1 : DSignature) : Option Bool :=
  ((m_impl_isSimple (SizeOf.sizeOf d0) d1.datas d0).bind fun y8 => some (!y8))
set_option maxHeartbeats 2000000 in
theorem c_m_impl_ValidSignature_2 (d0 : DType) (d1 : DSignature) (r : Bool) (hm : m_impl_ValidSignature_2 d0 d1 = some r) (v0 : Value) (v1 : Value) (w : World) (hv0 : St typeRd w v0 d0) (hv1 : Pt signatureRd w v1 d1) :
    Calls Try.prog 68 #[v0, v1] w fun e w' => e = .returned (.bool r) ∧ Below w.heap.size w w' := by
  obtain ⟨csa0, rfl, hRR0⟩ := hv0
  obtain ⟨A1, n1, c1, rfl, ⟨h1, r1⟩⟩ := (typeRd_out hRR0)
  have e1 := h1.len; subst e1
  have q1 := len_le r1
  obtain ⟨ba1, oa1, csa1, rfl, hba1, hRa1, hca1⟩ := hv1
  have hSa1 := hRa1
  obtain ⟨A2, n2, c2, A3, n3, c3, rfl, ⟨h2, r2⟩, ⟨h3, r3⟩⟩ := hRa1
  have e2 := h2.len; subst e2
  have q2 := len_le r2
  have e3 := h3.len; subst e3
  have q3 := len_le r3
  have T := Below.refl w.heap.size w
  unfold m_impl_ValidSignature_2 at hm
  refine enter 9 Try.func68 rfl rfl rfl ?_
  intro f hf
  have s0 : f 0 = .agg #[.int .i64 d0.kind, .string d0.name, .slice A1 d0.kids.length c1] := hf 0 _ rfl
  have s1 : f 1 = .pointer (some ⟨ba1, oa1, none⟩) := hf 1 _ rfl
  refine wp_seq ?_
  refine wp_rl rfl ?_
  refine RL.box rfl s0 (fun w4 B5 hb6 szw4 => ?_)
  replace B5 : Blk w4 w.heap.size 110 #[.int .i64 d0.kind, .string d0.name, .slice A1 d0.kids.length c1] := B5
  have GB5 : w.heap.size ≤ w.heap.size := T.size
  have T := Tt T hb6
  refine RL.y rfl (Y.assign (v := .bool false) rfl) ?_
  refine RL.nil ?_
  refine then_n ?_
  refine wp_seq ?_
  refine wp_rb rfl ?_
  refine RQ.y rfl (Y.fieldAddr (off := 0) s1 (by kernel_rfl)) ?_
  refine RQ.y rfl (Y.load (v := .slice A2 d1.datas.length c2) rfl (by kernel_rfl) (beC (cellT T (hca1 0 _ rfl)))) ?_
  refine RQ.y rfl (Y.loadN (cs := [.int .i64 d0.kind, .string d0.name, .slice A1 d0.kids.length c1]) rfl (by kernel_rfl) (cells3 (beC (blkCell B5 (i := 0) rfl)) (beC (blkCell B5 (i := 1) rfl)) (beC (blkCell B5 (i := 2) rfl)))) ?_
  obtain ⟨y8, e9, hm⟩ := bnd hm
  refine RQ.call rfl (am2 rfl rfl) (by kernel_rfl) (v := .bool y8) (bel (K := fun _ => True) fun w' hb' => (c_m_impl_isSimple (SizeOf.sizeOf d0) d1.datas d0 _ e9 _ _ w' (slArg dataRd_ok h2 r2 (Tt T hb')) (stArg (R := typeRd) (typeRd_in ⟨_, _, _, rfl, ⟨SlAt.now typeRd_ok h1 (Nat.le_refl _) (Tt T hb'), r1⟩⟩)))) ?_
  refine RQ.y rfl (Y.not (b' := (!y8)) rfl rfl) ?_
  refine RQ.y rfl (Y.assign (v := .bool (!y8)) rfl) ?_
  refine RQ.nil ?_
  intro w10 hb11
  have szw10 := hb11.size
  have T := Tt T hb11
  refine then_n ?_
  refine wp_ret ?_
  obtain rfl := Option.some.inj hm
  exact (ret1 rfl rfl rfl ⟨rfl, T⟩)
noncomputable def m_impl_ValidSignature_A1 (d0 : DSignature) : Option Bool :=
  ((m_slices_ContainsFunc_impl_Type_impl_Type d0.defs (fun x0 => m_impl_ValidSignature_2 x0 d0)).bind fun y16 => some (!y16))
noncomputable def m_impl_ValidSignature_A2 (rec1 : Int → Option Bool) (i20 : Int) : Option Bool :=
  ((ck (i20 + 1)).bind fun s41 => (rec1 s41))
noncomputable def m_impl_ValidSignature_B2 (d0 : DSignature) (x23 : DData) (rec2 : Int → Option Bool) (K2 : Option Bool) (i42 : Int) : Option Bool :=
  (bif (decide (i42 < (x23.cons.length : Int))) then ((getI x23.cons i42).bind fun x45 => ((m_slices_ContainsFunc_impl_Type_impl_Type x45.fields (fun x0 => m_impl_ValidSignature_1 x0 d0)).bind fun y62 => (bif y62 then some false else (rec2 (i42 + 1))))) else (K2))
noncomputable def m_impl_ValidSignature_L2 (d0 : DSignature) (x23 : DData) (K2 : Option Bool) : Nat → Int → Option Bool
  | 0, _ => none
  | g + 1, i42 => m_impl_ValidSignature_B2 d0 x23 (m_impl_ValidSignature_L2 d0 x23 K2 g) K2 i42
noncomputable def m_impl_ValidSignature_B1 (d0 : DSignature) (rec1 : Int → Option Bool) (K1 : Option Bool) (i20 : Int) : Option Bool :=
  (bif (decide (i20 < (d0.datas.length : Int))) then ((getI d0.datas i20).bind fun x23 => (m_impl_ValidSignature_L2 d0 x23 (m_impl_ValidSignature_A2 rec1 i20) (x23.cons.length + 1) 0)) else (K1))
noncomputable def m_impl_ValidSignature_L1 (d0 : DSignature) (K1 : Option Bool) : Nat → Int → Option Bool
  | 0, _ => none
  | g + 1, i20 => m_impl_ValidSignature_B1 d0 (m_impl_ValidSignature_L1 d0 K1 g) K1 i20
noncomputable def m_impl_ValidSignature (d0 : DSignature) : Option Bool :=
  ((m_impl_ValidDatas d0.datas).bind fun y7 => (bif y7 then (bif (decide ((d0.defs.length : Int) > 24)) then some false else (m_impl_ValidSignature_L1 d0 (m_impl_ValidSignature_A1 d0) (d0.datas.length + 1) 0)) else some false))
set_option maxHeartbeats 2000000 in
theorem c_m_impl_ValidSignature (d0 : DSignature) (r : Bool) (hm : m_impl_ValidSignature d0 = some r) (v0 : Value) (w : World) (hv0 : St signatureRd w v0 d0) :
    Calls Try.prog 32 #[v0] w fun e w' => e = .returned (.bool r) ∧ Below w.heap.size w w' := by
  obtain ⟨csa0, rfl, ⟨A1, n1, c1, A2, n2, c2, rfl, ⟨h1, r1⟩, ⟨h2, r2⟩⟩⟩ := hv0
  have e1 := h1.len; subst e1
  have q1 := len_le r1
  have e2 := h2.len; subst e2
  have q2 := len_le r2
  have T := Below.refl w.heap.size w
  unfold m_impl_ValidSignature at hm
  refine enter 42 Try.func32 rfl rfl rfl ?_
  intro f hf
  have s0 : f 0 = .agg #[.slice A1 d0.datas.length c1, .slice A2 d0.defs.length c2] := hf 0 _ rfl
  refine wp_seq ?_
  refine wp_rl rfl ?_
  refine RL.box rfl s0 (fun w3 B4 hb5 szw3 => ?_)
  replace B4 : Blk w3 w.heap.size 66 #[.slice A1 d0.datas.length c1, .slice A2 d0.defs.length c2] := B4
  have GB4 : w.heap.size ≤ w.heap.size := T.size
  have T := Tt T hb5
  refine RL.y rfl (Y.assign (v := .bool false) rfl) ?_
  refine RL.nil ?_
  refine then_n ?_
  refine wp_seq ?_
  refine wp_seq ?_
  refine wp_rb rfl ?_
  refine RQ.y rfl (Y.fieldAddr (off := 0) rfl (by kernel_rfl)) ?_
  refine RQ.y rfl (Y.load (v := .slice A1 d0.datas.length c1) rfl (by kernel_rfl) (beC (blkCell B4 (i := 0) rfl))) ?_
  obtain ⟨y7, e8, hm⟩ := bnd hm
  refine RQ.call rfl (am1 rfl) (by kernel_rfl) (v := .bool y7) (bel (K := fun _ => True) fun w' hb' => (c_m_impl_ValidDatas d0.datas _ e8 _ w' (slArg dataRd_ok h1 r1 (Tt T hb')))) ?_
  refine RQ.y rfl (Y.not (b' := (!y7)) rfl rfl) ?_
  refine RQ.y rfl (Y.move (v := .bool (!y7)) rfl) ?_
  rcases bcases y7 with c9 | c9
  · replace hm := cF c9 hm
    refine RQ.skip (wantN (dj := 11) rfl (vbn rfl c9 rfl) rfl) ?_
    refine RQ.skip (wantN (dj := 11) rfl (vbn rfl c9 rfl) rfl) ?_
    refine RQ.skip (wantN (dj := 11) rfl (vbn rfl c9 rfl) rfl) ?_
    refine RQ.skip (wantN (dj := 11) rfl (vbn rfl c9 rfl) rfl) ?_
    refine RQ.y rfl (Y.pick (b := true) (v := .bool true) (vbn rfl c9 rfl) rfl) ?_
    refine RQ.nil ?_
    intro w10 hb11
    have szw10 := hb11.size
    have B4 := blkT B4 hb11
    have T := Tt T hb11
    refine then_n ?_
    refine cond_t rfl rfl ?_
    refine wp_seq ?_
    refine wp_rs rfl ?_
    refine RQ.y rfl (Y.assign (v := .bool false) rfl) ?_
    refine RQ.nil ?_
    refine then_n ?_
    refine wp_ret ?_
    obtain rfl := Option.some.inj hm
    exact (then_r (ret1 rfl rfl rfl ⟨rfl, T⟩))
  · replace hm := cT c9 hm
    refine RQ.y (wantT (dj := 11) rfl (vbn rfl c9 rfl)) (Y.fieldAddr (off := 1) rfl (by kernel_rfl)) ?_
    refine RQ.y (wantT (dj := 11) rfl (vbn rfl c9 rfl)) (Y.load (v := .slice A2 d0.defs.length c2) rfl (by kernel_rfl) (beC (blkCell B4 (i := 1) rfl))) ?_
    refine RQ.y (wantT (dj := 11) rfl (vbn rfl c9 rfl)) (Y.len (by kernel_rfl) rfl) ?_
    refine RQ.y (wantT (dj := 11) rfl (vbn rfl c9 rfl)) (Y.binI (v := .bool (decide ((d0.defs.length : Int) > 24))) rfl rfl rfl) ?_
    refine RQ.y rfl (Y.pick (b := false) (v := .bool (decide ((d0.defs.length : Int) > 24))) (vbn rfl c9 rfl) rfl) ?_
    refine RQ.nil ?_
    intro w12 hb13
    have szw12 := hb13.size
    have B4 := blkT B4 hb13
    have T := Tt T hb13
    refine then_n ?_
    rcases bcases (decide ((d0.defs.length : Int) > 24)) with c14 | c14
    · replace hm := cF c14 hm
      have pc14 := of_decide_eq_false c14
      refine cond_f rfl (vb rfl c14) ?_
      refine wp_skip ?_
      refine then_n ?_
      refine wp_seq ?_
      refine wp_seq ?_
      refine wp_rs rfl ?_
      refine RQ.y rfl (Y.fieldAddr (off := 0) rfl (by kernel_rfl)) ?_
      refine RQ.y rfl (Y.load (v := .slice A1 d0.datas.length c1) rfl (by kernel_rfl) (eqC (blkCell B4 (i := 0) rfl))) ?_
      refine RQ.y rfl (Y.len (by kernel_rfl) rfl) ?_
      refine RQ.y rfl (Y.move (v := .int .i64 0) rfl) ?_
      refine RQ.nil ?_
      refine then_n ?_
      refine wp_block ?_
      obtain ⟨K1, hK1, hm⟩ : ∃ K, K = (m_impl_ValidSignature_A1 d0) ∧ m_impl_ValidSignature_L1 d0 K (d0.datas.length + 1) 0 = some r := ⟨_, rfl, hm⟩
      refine wp_loopX (fun g f w' => ∃ (i20 : Int), f 1 = .pointer (some ⟨w.heap.size, 0, none⟩) ∧ f 18 = .slice A1 d0.datas.length c1 ∧ f 19 = .int .i64 (d0.datas.length : Int) ∧ f 20 = .int .i64 i20 ∧ 0 ≤ i20 ∧ Blk w' w.heap.size 66 #[.slice A1 d0.datas.length c1, .slice A2 d0.defs.length c2] ∧ Below w.heap.size w w' ∧ m_impl_ValidSignature_L1 d0 K1 g i20 = some r) 0 (fun f w' => f 1 = .pointer (some ⟨w.heap.size, 0, none⟩) ∧ Blk w' w.heap.size 66 #[.slice A1 d0.datas.length c1, .slice A2 d0.defs.length c2] ∧ Below w.heap.size w w' ∧ m_impl_ValidSignature_A1 d0  = some r) (d0.datas.length + 1) ⟨0, rfl, rfl, rfl, rfl, (by omega), B4, T, hm⟩ ?_ ?_
      · rintro f w15 ⟨s1_1x, B4, T, hm⟩
        unfold m_impl_ValidSignature_A1 at hm
        refine blk_hit (then_n ?_)
        refine wp_seq ?_
        refine wp_rb rfl ?_
        refine RQ.y rfl (Y.fieldAddr (off := 1) s1_1x (by kernel_rfl)) ?_
        refine RQ.y rfl (Y.load (v := .slice A2 d0.defs.length c2) rfl (by kernel_rfl) (beC (blkCell B4 (i := 1) rfl))) ?_
        refine RQ.y rfl (Y.makeFunc (vals := #[.pointer (some ⟨w.heap.size, 0, none⟩)]) (am1 s1_1x)) ?_
        obtain ⟨y16, e17, hm⟩ := bnd hm
        refine RQ.call rfl (am2 rfl rfl) (by kernel_rfl) (v := .bool y16) (bel (K := fun _ => True) fun w' hb' => (c_m_slices_ContainsFunc_impl_Type_impl_Type d0.defs (fun x0 => m_impl_ValidSignature_2 x0 d0) _ e17 _ _ _ w' (slArg typeRd_ok h2 r2 (Tt T hb')) (by kernel_rfl) (fun x0 b hx w1 hb1 y0 hy0 => Calls.arr (by simp) (c_m_impl_ValidSignature_2 x0 d0 _ hx _ _ w1 hy0 (ptBox (R := signatureRd) (blkT B4 (Tt hb' hb1)) ⟨_, _, _, _, _, _, rfl, ⟨SlAt.now dataRd_ok h1 (Nat.le_refl _) (Tt (Tt T hb') hb1), r1⟩, ⟨SlAt.now typeRd_ok h2 (Nat.le_refl _) (Tt (Tt T hb') hb1), r2⟩⟩))))) ?_
        refine RQ.y rfl (Y.not (b' := (!y16)) rfl rfl) ?_
        refine RQ.y rfl (Y.assign (v := .bool (!y16)) rfl) ?_
        refine RQ.nil ?_
        intro w18 hb19
        have szw18 := hb19.size
        have T := Tt T hb19
        refine then_n ?_
        refine wp_ret ?_
        obtain rfl := Option.some.inj hm
        exact (ret1 rfl rfl rfl ⟨rfl, T⟩)
      · rintro g f w21 ⟨i20, s1_1, s18_1, s19_1, s20_1, nn20_1, B4, T, hm⟩
        rcases g with _ | g
        · simp only [m_impl_ValidSignature_L1] at hm; cases hm
        obtain ⟨rec1, hrec1, hm⟩ : ∃ z, z = m_impl_ValidSignature_L1 d0 K1 g ∧ m_impl_ValidSignature_B1 d0 z K1 i20 = some r := ⟨_, rfl, hm⟩
        unfold m_impl_ValidSignature_B1 at hm
        refine wp_seq ?_
        refine wp_rs rfl ?_
        refine RQ.y rfl (Y.binI (v := .bool (decide (i20 < (d0.datas.length : Int)))) s20_1 s19_1 rfl) ?_
        refine RQ.nil ?_
        refine then_n ?_
        refine wp_seq ?_
        rcases bcases (decide (i20 < (d0.datas.length : Int))) with c22 | c22
        · replace hm := cF c22 hm
          have pc22 := of_decide_eq_false c22
          refine cond_f rfl (vb rfl c22) ?_
          refine wp_exit ?_
          exact (then_x (then_x (hit_x ⟨_, rfl, ⟨s1_1, B4, T, (by rw [hK1] at hm; exact hm)⟩⟩)))
        · replace hm := cT c22 hm
          have pc22 := of_decide_eq_true c22
          refine cond_t rfl (vb rfl c22) ?_
          refine wp_skip ?_
          refine then_n ?_
          refine wp_seq ?_
          refine wp_block ?_
          refine wp_seq ?_
          refine wp_rl rfl ?_
          obtain ⟨x23, hx26, hm⟩ := bnd hm
          obtain ⟨k24, hk27, hl28, hx26⟩ := getI_some hx26
          obtain ⟨b30, o31, rfl, hbb30⟩ := h1.addr (by omega)
          obtain ⟨cs25, hRcs25, hc29⟩ := h1.el hx26
          have hScs25 := hRcs25
          obtain ⟨A32, n32, c32, rfl, ⟨h32, r32⟩⟩ := hRcs25
          have e32 := h32.len; subst e32
          have q32 := len_le r32
          refine RL.y rfl (Y.indexAddr (m := k24) (sz := 2) s18_1 s20_1 hk27 hl28 (by kernel_rfl)) ?_
          refine RL.y rfl (Y.loadN (cs := [.string x23.name, .slice A32 x23.cons.length c32]) rfl (by kernel_rfl) (cells2 (eqC (cellT T (hc29 0 _ rfl))) (eqC (cellT T (hc29 1 _ rfl))))) ?_
          refine RL.alloc (z := .agg #[.string ByteArray.empty, .slice none 0 0]) rfl (by kernel_rfl) (fun w33 B34 hb35 szw33 => ?_)
          replace B34 : Blk w33 w21.heap.size 105 #[.string ByteArray.empty, .slice none 0 0] := B34
          have GB34 : w.heap.size ≤ w21.heap.size := T.size
          have Eob36_ob6 := Nat.ne_of_lt B4.lt
          have B4 := blkT B4 hb35
          have T := Tt T hb35
          refine RL.store (v := .agg #[.string x23.name, .slice A32 x23.cons.length c32]) (cs' := #[.string x23.name, .slice A32 x23.cons.length c32]) rfl rfl rfl B34 (by kernel_rfl) (by rfl) (by rfl) (by rfl) (fun w37 B38 ho39 => ?_)
          have szw37 := ho39.size
          have B4 := B4.only_ ho39 (by intro hin; simp at hin; exact Eob36_ob6 hin)
          have T := T.trans (ho39.below (by first | (simp; done) | (simp; omega)))
          refine RL.nil ?_
          refine then_n ?_
          refine wp_seq ?_
          refine wp_rs rfl ?_
          refine RQ.y rfl (Y.fieldAddr (off := 1) rfl (by kernel_rfl)) ?_
          refine RQ.y rfl (Y.load (v := .slice A32 x23.cons.length c32) rfl (by kernel_rfl) (eqC (blkCell B38 (i := 1) rfl))) ?_
          refine RQ.y rfl (Y.len (by kernel_rfl) rfl) ?_
          refine RQ.y rfl (Y.move (v := .int .i64 0) rfl) ?_
          refine RQ.nil ?_
          refine then_n ?_
          refine wp_block ?_
          obtain ⟨K2, hK2, hm⟩ : ∃ K, K = (m_impl_ValidSignature_A2 rec1 i20) ∧ m_impl_ValidSignature_L2 d0 x23 K (x23.cons.length + 1) 0 = some r := ⟨_, rfl, hm⟩
          refine wp_loopX (fun g f w' => ∃ (i42 : Int), f 1 = .pointer (some ⟨w.heap.size, 0, none⟩) ∧ f 18 = .slice (some ⟨b30, o31, none⟩) d0.datas.length c1 ∧ f 19 = .int .i64 (d0.datas.length : Int) ∧ f 20 = .int .i64 i20 ∧ f 25 = .slice A32 x23.cons.length c32 ∧ f 26 = .int .i64 (x23.cons.length : Int) ∧ f 27 = .int .i64 i42 ∧ 0 ≤ i42 ∧ Blk w' w.heap.size 66 #[.slice (some ⟨b30, o31, none⟩) d0.datas.length c1, .slice A2 d0.defs.length c2] ∧ Below w.heap.size w w' ∧ m_impl_ValidSignature_L2 d0 x23 K2 g i42 = some r) 2 (fun f w' => f 1 = .pointer (some ⟨w.heap.size, 0, none⟩) ∧ f 18 = .slice (some ⟨b30, o31, none⟩) d0.datas.length c1 ∧ f 19 = .int .i64 (d0.datas.length : Int) ∧ f 20 = .int .i64 i20 ∧ Blk w' w.heap.size 66 #[.slice (some ⟨b30, o31, none⟩) d0.datas.length c1, .slice A2 d0.defs.length c2] ∧ Below w.heap.size w w' ∧ m_impl_ValidSignature_A2 rec1 i20  = some r) (x23.cons.length + 1) ⟨0, s1_1, s18_1, s19_1, s20_1, rfl, rfl, rfl, (by omega), B4, T, hm⟩ ?_ ?_
          · rintro f w40 ⟨s1_2x, s18_2x, s19_2x, s20_2x, B4, T, hm⟩
            unfold m_impl_ValidSignature_A2 at hm
            refine blk_hit (blk_n (then_n ?_))
            refine wp_rs rfl ?_
            obtain ⟨s41, ks41, hm⟩ := bnd hm
            replace ks41 := ck_some ks41
            refine RQ.y rfl (Y.binI (v := .int .i64 s41) s20_2x rfl (by rw [binI_add ks41.2, ks41.1])) ?_
            refine RQ.y rfl (Y.move (v := .int .i64 s41) rfl) ?_
            refine RQ.nil ?_
            exact (then_n ⟨g, _, Nat.lt_succ_self _, rfl, ⟨s41, s1_2x, s18_2x, s19_2x, rfl, (by omega), B4, T, (by rw [← hrec1]; exact hm)⟩⟩)
          · rintro g f w43 ⟨i42, s1_2, s18_2, s19_2, s20_2, s25_2, s26_2, s27_2, nn27_2, B4, T, hm⟩
            rcases g with _ | g
            · simp only [m_impl_ValidSignature_L2] at hm; cases hm
            obtain ⟨rec2, hrec2, hm⟩ : ∃ z, z = m_impl_ValidSignature_L2 d0 x23 K2 g ∧ m_impl_ValidSignature_B2 d0 x23 z K2 i42 = some r := ⟨_, rfl, hm⟩
            unfold m_impl_ValidSignature_B2 at hm
            refine wp_seq ?_
            refine wp_rs rfl ?_
            refine RQ.y rfl (Y.binI (v := .bool (decide (i42 < (x23.cons.length : Int)))) s27_2 s26_2 rfl) ?_
            refine RQ.nil ?_
            refine then_n ?_
            refine wp_seq ?_
            rcases bcases (decide (i42 < (x23.cons.length : Int))) with c44 | c44
            · replace hm := cF c44 hm
              have pc44 := of_decide_eq_false c44
              refine cond_f rfl (vb rfl c44) ?_
              refine wp_exit ?_
              exact (then_x (then_x (hit_x ⟨_, rfl, ⟨s1_2, s18_2, s19_2, s20_2, B4, T, (by rw [hK2] at hm; exact hm)⟩⟩)))
            · replace hm := cT c44 hm
              have pc44 := of_decide_eq_true c44
              refine cond_t rfl (vb rfl c44) ?_
              refine wp_skip ?_
              refine then_n ?_
              refine wp_seq ?_
              refine wp_block ?_
              refine wp_seq ?_
              refine wp_rl rfl ?_
              obtain ⟨x45, hx48, hm⟩ := bnd hm
              obtain ⟨k46, hk49, hl50, hx48⟩ := getI_some hx48
              obtain ⟨b52, o53, rfl, hbb52⟩ := h32.addr (by omega)
              obtain ⟨cs47, hRcs47, hc51⟩ := h32.el hx48
              have hScs47 := hRcs47
              obtain ⟨A54, n54, c54, rfl, ⟨h54, r54⟩⟩ := hRcs47
              have e54 := h54.len; subst e54
              have q54 := len_le r54
              refine RL.y rfl (Y.indexAddr (m := k46) (sz := 2) s25_2 s27_2 hk49 hl50 (by kernel_rfl)) ?_
              refine RL.y rfl (Y.loadN (cs := [.string x45.name, .slice A54 x45.fields.length c54]) rfl (by kernel_rfl) (cells2 (eqC (cellT T (hc51 0 _ rfl))) (eqC (cellT T (hc51 1 _ rfl))))) ?_
              refine RL.alloc (z := .agg #[.string ByteArray.empty, .slice none 0 0]) rfl (by kernel_rfl) (fun w55 B56 hb57 szw55 => ?_)
              replace B56 : Blk w55 w43.heap.size 107 #[.string ByteArray.empty, .slice none 0 0] := B56
              have GB56 : w.heap.size ≤ w43.heap.size := T.size
              have Eob58_ob6 := Nat.ne_of_lt B4.lt
              have B4 := blkT B4 hb57
              have T := Tt T hb57
              refine RL.store (v := .agg #[.string x45.name, .slice A54 x45.fields.length c54]) (cs' := #[.string x45.name, .slice A54 x45.fields.length c54]) rfl rfl rfl B56 (by kernel_rfl) (by rfl) (by rfl) (by rfl) (fun w59 B60 ho61 => ?_)
              have szw59 := ho61.size
              have B4 := B4.only_ ho61 (by intro hin; simp at hin; exact Eob58_ob6 hin)
              have T := T.trans (ho61.below (by first | (simp; done) | (simp; omega)))
              refine RL.nil ?_
              refine then_n ?_
              refine wp_seq ?_
              refine wp_rb rfl ?_
              refine RQ.y rfl (Y.fieldAddr (off := 1) rfl (by kernel_rfl)) ?_
              refine RQ.y rfl (Y.load (v := .slice A54 x45.fields.length c54) rfl (by kernel_rfl) (beC (blkCell B60 (i := 1) rfl))) ?_
              refine RQ.y rfl (Y.makeFunc (vals := #[.pointer (some ⟨w.heap.size, 0, none⟩)]) (am1 s1_2)) ?_
              obtain ⟨y62, e63, hm⟩ := bnd hm
              refine RQ.call rfl (am2 rfl rfl) (by kernel_rfl) (v := .bool y62) (bel (K := fun _ => True) fun w' hb' => (c_m_slices_ContainsFunc_impl_Type_impl_Type x45.fields (fun x0 => m_impl_ValidSignature_1 x0 d0) _ e63 _ _ _ w' (slArg typeRd_ok h54 r54 (Tt T hb')) (by kernel_rfl) (fun x0 b hx w1 hb1 y0 hy0 => Calls.arr (by simp) (c_m_impl_ValidSignature_1 x0 d0 _ hx _ _ w1 hy0 (ptBox (R := signatureRd) (blkT B4 (Tt hb' hb1)) ⟨_, _, _, _, _, _, rfl, ⟨SlAt.now dataRd_ok h1 (Nat.le_refl _) (Tt (Tt T hb') hb1), r1⟩, ⟨SlAt.now typeRd_ok h2 (Nat.le_refl _) (Tt (Tt T hb') hb1), r2⟩⟩))))) ?_
              refine RQ.nil ?_
              intro w64 hb65
              have szw64 := hb65.size
              have B4 := blkT B4 hb65
              have T := Tt T hb65
              refine then_n ?_
              rcases bcases y62 with c66 | c66
              · replace hm := cF c66 hm
                refine cond_f rfl (vb rfl c66) ?_
                refine wp_skip ?_
                refine blk_n (then_n ?_)
                refine wp_rs rfl ?_
                refine RQ.y rfl (Y.binI s27_2 rfl (binI_add (m := i42) (by omega))) ?_
                refine RQ.y rfl (Y.move (v := .int .i64 (i42 + 1)) rfl) ?_
                refine RQ.nil ?_
                exact (then_n ⟨g, _, Nat.lt_succ_self _, rfl, ⟨(i42 + 1), s1_2, s18_2, s19_2, s20_2, s25_2, s26_2, rfl, (by omega), B4, T, (by rw [← hrec2]; exact hm)⟩⟩)
              · replace hm := cT c66 hm
                refine cond_t rfl (vb rfl c66) ?_
                refine wp_seq ?_
                refine wp_rs rfl ?_
                refine RQ.y rfl (Y.assign (v := .bool false) rfl) ?_
                refine RQ.nil ?_
                refine then_n ?_
                refine wp_ret ?_
                obtain rfl := Option.some.inj hm
                exact (blk_r (then_r (then_r (hit_r (blk_r (blk_r (then_r (then_r (hit_r (blk_r (then_r (ret1 rfl rfl rfl ⟨rfl, T⟩))))))))))))
    · replace hm := cT c14 hm
      have pc14 := of_decide_eq_true c14
      refine cond_t rfl (vb rfl c14) ?_
      refine wp_seq ?_
      refine wp_rs rfl ?_
      refine RQ.y rfl (Y.assign (v := .bool false) rfl) ?_
      refine RQ.nil ?_
      refine then_n ?_
      refine wp_ret ?_
      obtain rfl := Option.some.inj hm
      exact (then_r (ret1 rfl rfl rfl ⟨rfl, T⟩))
end
section
open Go.RowKit
set_option linter.unusedVariables false
set_option linter.unusedSimpArgs false
/-- A loop that goes on while p holds. -/
theorem allK {α β : Type} {d : List α} {L : Nat → Int → Option β} {p : α → Bool} {K z : Option β} (h : ∀ g (k : Nat) (hk : k < d.length), L (g + 1) (k : Int) = bif p d[k] then L g ((k : Int) + 1) else z) (he : ∀ g, L (g + 1) (d.length : Int) = K) (g : Nat) (hg : d.length < g) : L g 0 = bif d.all p then K else z := by
  have key : ∀ (m k g : Nat), k + m = d.length → m < g → L g (k : Int) = bif (d.drop k).all p then K else z := by
    intro m
    induction m with
    | zero =>
      intro k g hk hg
      obtain ⟨g, rfl⟩ : ∃ g', g = g' + 1 := ⟨g - 1, by omega⟩
      obtain rfl : k = d.length := by omega
      rw [he, List.drop_length]; rfl
    | succ m ih =>
      intro k g hk hg
      obtain ⟨g, rfl⟩ : ∃ g', g = g' + 1 := ⟨g - 1, by omega⟩
      have hl : k < d.length := by omega
      rw [h g k hl, List.drop_eq_getElem_cons hl, List.all_cons]
      cases hp : p d[k] with
      | false => rfl
      | true => exact ih (k + 1) g (by omega) (by omega)
  exact key d.length 0 g (by omega) hg
/-- The first index at which p holds, or -1. -/
def idxD {α : Type} (d : List α) (p : α → Bool) : Int := match d.findIdx? p with | some i => (i : Int) | none => -1
theorem idxK {α : Type} {d : List α} {L : Nat → Int → Option Int} {p : α → Bool} (h : ∀ g (k : Nat) (hk : k < d.length), L (g + 1) (k : Int) = bif p d[k] then some (k : Int) else L g ((k : Int) + 1)) (he : ∀ g, L (g + 1) (d.length : Int) = some (-1)) (g : Nat) (hg : d.length < g) : L g 0 = some (idxD d p) := by
  have key : ∀ (m k g : Nat), k + m = d.length → m < g → L g (k : Int) = some (match (d.drop k).findIdx? p with | some i => ((k + i : Nat) : Int) | none => -1) := by
    intro m
    induction m with
    | zero =>
      intro k g hk hg
      obtain ⟨g, rfl⟩ : ∃ g', g = g' + 1 := ⟨g - 1, by omega⟩
      obtain rfl : k = d.length := by omega
      rw [he, List.drop_length]; rfl
    | succ m ih =>
      intro k g hk hg
      obtain ⟨g, rfl⟩ : ∃ g', g = g' + 1 := ⟨g - 1, by omega⟩
      have hl : k < d.length := by omega
      rw [h g k hl, List.drop_eq_getElem_cons hl, List.findIdx?_cons]
      cases hp : p d[k] with
      | true => simp
      | false =>
        have := ih (k + 1) g (by omega) (by omega)
        simp only [cond_false, Bool.false_eq_true, if_false]
        rw [show ((k : Int) + 1) = ((k + 1 : Nat) : Int) by omega, this]
        cases (d.drop (k + 1)).findIdx? p with
        | none => rfl
        | some i =>
          show some (((k + 1 + i : Nat) : Int)) = some (((k + (i + 1) : Nat) : Int))
          congr 1; omega
  have := key d.length 0 g (by omega) hg
  rw [List.drop_zero] at this
  refine this.trans ?_
  unfold idxD
  cases d.findIdx? p <;> simp
theorem idxD_ge {α : Type} (d : List α) (p : α → Bool) : decide (idxD d p ≥ 0) = d.any p := by
  unfold idxD
  cases h : d.findIdx? p with
  | none =>
    have := List.findIdx?_eq_none_iff.1 h
    rw [List.any_eq_false.2 (fun x hx => by simp [this x hx])]
    rfl
  | some i =>
    have h2 : d.any p = true := by
      have := List.findIdx?_eq_some_iff_getElem.1 h
      obtain ⟨hl, hp, _⟩ := this
      exact List.any_eq_true.2 ⟨d[i], List.getElem_mem _, hp⟩
    rw [h2]; simp
theorem idxD_lt {α : Type} (d : List α) (p : α → Bool) : decide (idxD d p < 0) = !(d.any p) := by
  rw [← idxD_ge]
  by_cases h : idxD d p < 0
  · rw [decide_eq_true h, decide_eq_false (by omega)]; rfl
  · rw [decide_eq_false h, decide_eq_true (by omega)]; rfl
theorem idxD_take {α : Type} (d : List α) (p : α → Bool) (i : Nat) (hi : i < d.length) (hp : p d[i] = true) : (idxD d p != (i : Int)) = (d.take i).any p := by
  unfold idxD
  cases h : d.findIdx? p with
  | none =>
    have := List.findIdx?_eq_none_iff.1 h d[i] (List.getElem_mem _)
    rw [hp] at this; cases this
  | some j =>
    obtain ⟨hl, hpj, hlt⟩ := List.findIdx?_eq_some_iff_getElem.1 h
    by_cases hij : j < i
    · have h2 : (d.take i).any p = true := List.any_eq_true.2 ⟨d[j], by
        rw [List.mem_take_iff_getElem]
        exact ⟨j, by omega, rfl⟩, hpj⟩
      rw [h2]; simp; omega
    · have hji : j = i := by
        rcases Nat.lt_or_ge i j with h3 | h3
        · have := hlt i h3
          rw [hp] at this; simp at this
        · omega
      subst hji
      have h2 : (d.take j).any p = false := List.any_eq_false.2 (fun x hx => by
        rw [List.mem_take_iff_getElem] at hx
        obtain ⟨k, hk, rfl⟩ := hx
        exact hlt k (by omega))
      rw [h2]; simp
theorem size_toL (s : ByteArray) : s.size = s.data.toList.length := Array.length_toList.symm
theorem getB_nat (s : ByteArray) (k : Nat) (hk : k < s.data.toList.length) : getB s (k : Int) = some ((s.data.toList[k].toNat : Nat) : Int) := by
  unfold getB
  rw [if_pos (by omega), Int.toNat_natCast]
  have hk2 : k < s.size := by rw [size_toL]; exact hk
  have e : s[k]? = some s[k] := by
    rw [getElem?_pos s k hk2]
  rw [e, Option.map_some]
  rfl
def b0 (s : ByteArray) : Int := match s.data.toList with | [] => 0 | c :: _ => (c.toNat : Int)
theorem getB_zero (s : ByteArray) (h : 1 ≤ s.size) : getB s 0 = some (b0 s) := by
  have h1 : 0 < s.data.toList.length := by rw [← size_toL]; omega
  refine (getB_nat s 0 h1).trans ?_
  unfold b0
  revert h1
  cases s.data.toList with
  | nil => intro h1; cases h1
  | cons c cs => intro h1; rfl
def letterB (b : Int) : Bool := (decide (b ≥ 97) && decide (b ≤ 122)) || (decide (b ≥ 65) && decide (b ≤ 90))
def digitB (b : Int) : Bool := decide (b ≥ 48) && decide (b ≤ 57)
def wordB (b : UInt8) : Bool := letterB (b.toNat : Int) || digitB (b.toNat : Int)
def keyL : List ByteArray := [(ByteArray.mk #[100, 97, 116, 97]), (ByteArray.mk #[100, 101, 102]), (ByteArray.mk #[108, 101, 116]), (ByteArray.mk #[105, 110]), (ByteArray.mk #[109, 97, 116, 99, 104]), (ByteArray.mk #[105, 102]), (ByteArray.mk #[116, 104, 101, 110]), (ByteArray.mk #[101, 108, 115, 101])]
def keyD (s : ByteArray) : Bool := keyL.any fun x => decide (x = s)
def nameD (s : ByteArray) : Bool := decide (1 ≤ s.size) && (decide (s.size ≤ 12) && (letterB (b0 s) && (!keyD s && s.data.toList.all wordB)))
def upperD (s : ByteArray) : Bool := nameD s && decide (b0 s ≤ 90)
theorem upperD_size {s : ByteArray} (h : upperD s = true) : s.size ≤ 12 := by
  unfold upperD nameD at h
  simp only [Bool.and_eq_true, decide_eq_true_eq] at h
  exact h.1.2.1
theorem p_letter (b : Int) : m_spec_l01Letter b = some (letterB b) := by
  unfold m_spec_l01Letter letterB
  cases decide (b ≥ 97) <;> cases decide (b ≤ 122) <;> cases decide (b ≥ 65) <;> cases decide (b ≤ 90) <;> rfl
theorem p_digit (b : Int) : m_spec_l01Digit b = some (digitB b) := by
  unfold m_spec_l01Digit digitB
  cases decide (b ≥ 48) <;> rfl
theorem p_sKeyword (s : ByteArray) : m_spec_IsKeyword s = some (keyD s) := by
  unfold m_spec_IsKeyword
  have key := allK (L := m_spec_IsKeyword_L1 s m_spec_IsKeyword_A1) (d := keyL) (p := fun x => !decide (x = s)) (K := some false) (z := some true)
    (fun g k hk => by
      have e : m_spec_IsKeyword_L1 s m_spec_IsKeyword_A1 (g + 1) (k : Int) = (bif decide ((k : Int) < (keyL.length : Int)) then (getI keyL (k : Int)).bind fun x23 => (bif (x23.toList == s.toList) then some true else (m_spec_IsKeyword_L1 s m_spec_IsKeyword_A1 g ((k : Int) + 1))) else m_spec_IsKeyword_A1) := rfl
      rw [e, dlt hk, cond_true, getI_lt hk, Option.bind_some, nameEq]
      cases decide (keyL[k] = s) <;> rfl)
    (fun g => by
      have e : m_spec_IsKeyword_L1 s m_spec_IsKeyword_A1 (g + 1) (keyL.length : Int) = (bif decide ((keyL.length : Int) < (keyL.length : Int)) then (getI keyL (keyL.length : Int)).bind fun x23 => (bif (x23.toList == s.toList) then some true else (m_spec_IsKeyword_L1 s m_spec_IsKeyword_A1 g ((keyL.length : Int) + 1))) else m_spec_IsKeyword_A1) := rfl
      rw [e, dge, cond_false]; rfl)
    10 (by decide)
  rw [key]
  unfold keyD
  rw [← List.not_any_eq_all_not]
  cases keyL.any fun x => decide (x = s) <;> rfl
theorem p_sName (s : ByteArray) : m_spec_IsName s = some (nameD s) := by
  unfold m_spec_IsName nameD
  by_cases h1 : 1 ≤ s.size
  · rw [decide_eq_false (show ¬ (s.size : Int) < 1 by omega), cond_false, decide_eq_true h1, Bool.true_and]
    by_cases h2 : s.size ≤ 12
    · rw [decide_eq_false (show ¬ (s.size : Int) > 12 by omega), cond_false, decide_eq_true h2, Bool.true_and, getB_zero s h1, Option.bind_some, p_letter, Option.bind_some, p_sKeyword, Option.bind_some]
      have key := allK (L := m_spec_IsName_L1 s m_spec_IsName_A1) (d := s.data.toList) (p := wordB) (K := some true) (z := some false)
        (fun g k hk => by
          have hd : decide ((k : Int) < (s.size : Int)) = true := by rw [size_toL]; exact dlt hk
          simp -implicitDefEqProofs only [m_spec_IsName_L1, m_spec_IsName_B1, hd, cond_true, getB_nat s k hk, Option.bind_some, p_letter, p_digit]
          unfold wordB
          cases letterB (s.data.toList[k].toNat : Int) <;> cases digitB (s.data.toList[k].toNat : Int) <;> rfl)
        (fun g => by
          have hd : decide ((s.data.toList.length : Int) < (s.size : Int)) = false := by rw [size_toL]; exact dge
          simp -implicitDefEqProofs only [m_spec_IsName_L1, m_spec_IsName_B1, hd, cond_false, m_spec_IsName_A1])
        (s.size + 1) (by rw [size_toL]; omega)
      rw [key]
      cases letterB (b0 s) <;> cases keyD s <;> cases s.data.toList.all wordB <;> rfl
    · rw [decide_eq_true (show (s.size : Int) > 12 by omega), cond_true, decide_eq_false h2]; rfl
  · rw [decide_eq_true (show (s.size : Int) < 1 by omega), cond_true, decide_eq_false h1]; rfl
theorem p_sUpper (s : ByteArray) : m_spec_IsUpper s = some (upperD s) := by
  unfold m_spec_IsUpper upperD
  rw [p_sName, Option.bind_some]
  cases h : nameD s with
  | false => rfl
  | true =>
    have h1 : 1 ≤ s.size := by unfold nameD at h; simp only [Bool.and_eq_true, decide_eq_true_eq] at h; exact h.1
    rw [cond_true, getB_zero s h1, Option.bind_some]; rfl
theorem p_IndexS (d : List ByteArray) (s : ByteArray) : m_slices_Index_string_string d s = some (idxD d fun x => decide (x = s)) := by
  unfold m_slices_Index_string_string
  exact idxK (L := m_slices_Index_string_string_L1 d s m_slices_Index_string_string_A1) (d := d)
    (fun g k hk => by
      simp -implicitDefEqProofs only [m_slices_Index_string_string_L1, m_slices_Index_string_string_B1, dlt hk, cond_true, getI_lt hk, Option.bind_some, nameEq]
      rw [show decide (s = d[k]) = decide (d[k] = s) from decide_eq_decide.2 eq_comm])
    (fun g => by simp -implicitDefEqProofs only [m_slices_Index_string_string_L1, m_slices_Index_string_string_B1, dge, cond_false, m_slices_Index_string_string_A1]) _ (Nat.lt_succ_self _)
theorem p_iKeyword (s : ByteArray) : m_impl_IsKeyword s = some (keyD s) := by
  unfold m_impl_IsKeyword m_slices_Contains_string_string
  show ((m_slices_Index_string_string keyL s).bind _).bind _ = _
  rw [p_IndexS, Option.bind_some, idxD_ge]; rfl
theorem p_iDigit (b : Int) : m_impl_isDigit b = some (digitB b) := by
  unfold m_impl_isDigit digitB
  cases decide (b ≥ 48) <;> rfl
theorem p_iWord (b : Int) : m_impl_isWordByte b = some (letterB b || digitB b) := by
  unfold m_impl_isWordByte m_impl_isSmall m_impl_isCapital letterB
  rw [p_iDigit]
  cases decide (b ≥ 97) <;> cases decide (b ≤ 122) <;> cases decide (b ≥ 65) <;> cases decide (b ≤ 90) <;> rfl
theorem p_iName (s : ByteArray) : m_impl_IsName s = some (nameD s) := by
  unfold m_impl_IsName nameD
  by_cases h1 : 1 ≤ s.size
  · rw [decide_eq_false (show ¬ (s.size : Int) < 1 by omega), cond_false, decide_eq_true h1, Bool.true_and]
    by_cases h2 : s.size ≤ 12
    · rw [decide_eq_false (show ¬ (s.size : Int) > 12 by omega), cond_false, decide_eq_true h2, Bool.true_and, getB_zero s h1, Option.bind_some, p_iDigit, Option.bind_some, p_iKeyword, Option.bind_some]
      have key := allK (L := m_impl_IsName_L1 s m_impl_IsName_A1) (d := s.data.toList) (p := wordB) (K := some true) (z := some false)
        (fun g k hk => by
          have hd : decide ((k : Int) < (s.size : Int)) = true := by rw [size_toL]; exact dlt hk
          simp -implicitDefEqProofs only [m_impl_IsName_L1, m_impl_IsName_B1, hd, cond_true, getB_nat s k hk, Option.bind_some, p_iWord]
          unfold wordB
          cases letterB (s.data.toList[k].toNat : Int) <;> cases digitB (s.data.toList[k].toNat : Int) <;> rfl)
        (fun g => by
          have hd : decide ((s.data.toList.length : Int) < (s.size : Int)) = false := by rw [size_toL]; exact dge
          simp -implicitDefEqProofs only [m_impl_IsName_L1, m_impl_IsName_B1, hd, cond_false, m_impl_IsName_A1])
        (s.size + 1) (by rw [size_toL]; omega)
      rw [key]
      have hb : letterB (b0 s) = false → digitB (b0 s) = false → s.data.toList.all wordB = false := fun e1 e2 => by
        have hl : 0 < s.data.toList.length := by rw [← size_toL]; omega
        unfold b0 at e1 e2
        revert e1 e2 hl
        cases s.data.toList with
        | nil => intro _ _ hl; cases hl
        | cons c cs => intro e1 e2 _; rw [List.all_cons]; unfold wordB; simp only at e1 e2; rw [e1, e2]; rfl
      have hc : letterB (b0 s) = true → digitB (b0 s) = false := fun e1 => by
        unfold letterB at e1; unfold digitB
        rw [Bool.eq_false_iff]; intro e2
        simp only [Bool.or_eq_true, Bool.and_eq_true, decide_eq_true_eq] at e1 e2
        omega
      cases h5 : letterB (b0 s) with
      | true => rw [hc h5]; cases keyD s <;> cases s.data.toList.all wordB <;> rfl
      | false =>
        cases h6 : digitB (b0 s) with
        | true => cases keyD s <;> cases s.data.toList.all wordB <;> rfl
        | false => rw [hb h5 h6]; cases keyD s <;> rfl
    · rw [decide_eq_true (show (s.size : Int) > 12 by omega), cond_true, decide_eq_false h2]; rfl
  · rw [decide_eq_true (show (s.size : Int) < 1 by omega), cond_true, decide_eq_false h1]; rfl
theorem p_iUpper (s : ByteArray) : m_impl_IsUpper s = some (upperD s) := by
  unfold m_impl_IsUpper upperD
  rw [p_iName, Option.bind_some]
  cases h : nameD s with
  | false => rfl
  | true =>
    have h1 : 1 ≤ s.size ∧ letterB (b0 s) = true := by unfold nameD at h; simp only [Bool.and_eq_true, decide_eq_true_eq] at h; exact ⟨h.1, h.2.2.1⟩
    rw [cond_true, getB_zero s h1.1, Option.bind_some]
    have h2 := h1.2
    unfold letterB at h2
    simp only [Bool.or_eq_true, Bool.and_eq_true, decide_eq_true_eq] at h2
    unfold m_impl_isCapital
    by_cases h3 : b0 s ≥ 65
    · rw [decide_eq_true h3]; rfl
    · omega
end
end Go.Proofs.Ytpbobilkejblgaa
