/- Lemmas of the proof of IsOrientable, part 3. No condition. -/
import Derived.Test.YtpbobilkejblgaaZIsOrientable2
namespace Go.Proofs.Ytpbobilkejblgaa
section
open Go.RowKit
set_option linter.unusedVariables false
set_option linter.unusedSimpArgs false
set_option maxRecDepth 100000
def m_slices_IndexFunc_impl_Port_impl_Port_A1 : Option Int :=
  some (-1)
def m_slices_IndexFunc_impl_Port_impl_Port_B1 (d0 : List DPort) (d1 : DPort → Option Bool) (rec1 : Int → Option Int) (K1 : Option Int) (i2 : Int) : Option Int :=
  (bif (decide (i2 < (d0.length : Int))) then ((getI d0 i2).bind fun x5 => ((d1 x5).bind fun y14 => (bif y14 then some i2 else (rec1 (i2 + 1))))) else (K1))
def m_slices_IndexFunc_impl_Port_impl_Port_L1 (d0 : List DPort) (d1 : DPort → Option Bool) (K1 : Option Int) : Nat → Int → Option Int
  | 0, _ => none
  | g + 1, i2 => m_slices_IndexFunc_impl_Port_impl_Port_B1 d0 d1 (m_slices_IndexFunc_impl_Port_impl_Port_L1 d0 d1 K1 g) K1 i2
def m_slices_IndexFunc_impl_Port_impl_Port (d0 : List DPort) (d1 : DPort → Option Bool) : Option Int :=
  (m_slices_IndexFunc_impl_Port_impl_Port_L1 d0 d1 m_slices_IndexFunc_impl_Port_impl_Port_A1 (d0.length + 1) 0)
set_option maxHeartbeats 2000000 in
theorem c_m_slices_IndexFunc_impl_Port_impl_Port (d0 : List DPort) (d1 : DPort → Option Bool) (r : Int) (hm : m_slices_IndexFunc_impl_Port_impl_Port d0 d1 = some r) (v0 : Value) (gf1 : FuncId) (caps1 : Array Value) (w : World) (hv0 : Sl portRd 2 w v0 d0) (hgo1 : isGo Try.prog gf1 = true) (hf1 : ∀ (x0 : DPort) (b : Bool), d1 x0 = some b → ∀ w1, Below w.heap.size w w1 → Calls Try.prog gf1 (#[.agg #[.int .i64 x0.agent, .int .i64 x0.slot]] ++ caps1) w1 fun e w2 => e = .returned (.bool b) ∧ Below w1.heap.size w1 w2) :
    Calls Try.prog 127 #[v0, .func (.func gf1) #[] caps1] w fun e w' => e = .returned (.int .i64 r) ∧ Below w.heap.size w w' := by
  obtain ⟨Aa0, na0, ca0, rfl, ha0, ra0⟩ := hv0
  have ea0 := ha0.len; subst ea0
  have qa0 := len_le ra0
  have T := Below.refl w.heap.size w
  unfold m_slices_IndexFunc_impl_Port_impl_Port at hm
  refine enter 19 Try.func127 rfl rfl rfl ?_
  intro f hf
  have s0 : f 0 = .slice Aa0 d0.length ca0 := hf 0 _ rfl
  have s1 : f 1 = .func (.func gf1) #[] caps1 := hf 1 _ rfl
  refine wp_seq ?_
  refine wp_rs rfl ?_
  refine RQ.y rfl (Y.assign (v := .int .i64 0) rfl) ?_
  refine RQ.nil ?_
  refine then_n ?_
  refine wp_seq ?_
  refine wp_seq ?_
  refine wp_rs rfl ?_
  refine RQ.y rfl (Y.move (v := .slice Aa0 d0.length ca0) s0) ?_
  refine RQ.y rfl (Y.len (by kernel_rfl) rfl) ?_
  refine RQ.y rfl (Y.move (v := .int .i64 0) rfl) ?_
  refine RQ.nil ?_
  refine then_n ?_
  refine wp_block ?_
  obtain ⟨K1, hK1, hm⟩ : ∃ K, K = m_slices_IndexFunc_impl_Port_impl_Port_A1 ∧ m_slices_IndexFunc_impl_Port_impl_Port_L1 d0 d1 K (d0.length + 1) 0 = some r := ⟨_, rfl, hm⟩
  refine wp_loopX (fun g f w' => ∃ (i2 : Int), f 0 = .slice Aa0 d0.length ca0 ∧ f 1 = .func (.func gf1) #[] caps1 ∧ f 7 = .int .i64 (d0.length : Int) ∧ f 8 = .int .i64 i2 ∧ 0 ≤ i2 ∧ Below w.heap.size w w' ∧ m_slices_IndexFunc_impl_Port_impl_Port_L1 d0 d1 K1 g i2 = some r) 0 (fun f w' => Below w.heap.size w w' ∧ m_slices_IndexFunc_impl_Port_impl_Port_A1  = some r) (d0.length + 1) ⟨0, s0, s1, rfl, rfl, (by omega), T, hm⟩ ?_ ?_
  · rintro f w1 ⟨T, hm⟩
    unfold m_slices_IndexFunc_impl_Port_impl_Port_A1 at hm
    refine blk_hit (then_n ?_)
    refine wp_seq ?_
    refine wp_rs rfl ?_
    refine RQ.y rfl (Y.assign (v := .int .i64 (-1)) rfl) ?_
    refine RQ.nil ?_
    refine then_n ?_
    refine wp_ret ?_
    obtain rfl := Option.some.inj hm
    exact (ret1 rfl rfl rfl ⟨rfl, T⟩)
  · rintro g f w3 ⟨i2, s0_1, s1_1, s7_1, s8_1, nn8_1, T, hm⟩
    rcases g with _ | g
    · simp only [m_slices_IndexFunc_impl_Port_impl_Port_L1] at hm; cases hm
    obtain ⟨rec1, hrec1, hm⟩ : ∃ z, z = m_slices_IndexFunc_impl_Port_impl_Port_L1 d0 d1 K1 g ∧ m_slices_IndexFunc_impl_Port_impl_Port_B1 d0 d1 z K1 i2 = some r := ⟨_, rfl, hm⟩
    unfold m_slices_IndexFunc_impl_Port_impl_Port_B1 at hm
    refine wp_seq ?_
    refine wp_rs rfl ?_
    refine RQ.y rfl (Y.binI (v := .bool (decide (i2 < (d0.length : Int)))) s8_1 s7_1 rfl) ?_
    refine RQ.nil ?_
    refine then_n ?_
    refine wp_seq ?_
    rcases bcases (decide (i2 < (d0.length : Int))) with c4 | c4
    · replace hm := cF c4 hm
      have pc4 := of_decide_eq_false c4
      refine cond_f rfl (vb rfl c4) ?_
      refine wp_exit ?_
      exact (then_x (then_x (hit_x ⟨_, rfl, ⟨T, (by rw [hK1] at hm; exact hm)⟩⟩)))
    · replace hm := cT c4 hm
      have pc4 := of_decide_eq_true c4
      refine cond_t rfl (vb rfl c4) ?_
      refine wp_skip ?_
      refine then_n ?_
      refine wp_seq ?_
      refine wp_block ?_
      refine wp_seq ?_
      refine wp_rs rfl ?_
      refine RQ.y rfl (Y.move (v := .int .i64 i2) s8_1) ?_
      refine RQ.y rfl (Y.assign (v := .int .i64 i2) rfl) ?_
      refine RQ.nil ?_
      refine then_n ?_
      refine wp_seq ?_
      refine wp_rb rfl ?_
      refine RQ.y rfl (Y.move (v := .func (.func gf1) #[] caps1) s1_1) ?_
      refine RQ.y rfl (Y.move (v := .slice Aa0 d0.length ca0) s0_1) ?_
      refine RQ.y rfl (Y.move (v := .int .i64 i2) rfl) ?_
      obtain ⟨x5, hx8, hm⟩ := bnd hm
      obtain ⟨k6, hk9, hl10, hx8⟩ := getI_some hx8
      obtain ⟨b12, o13, rfl, hbb12⟩ := ha0.addr (by omega)
      obtain ⟨cs7, hRcs7, hc11⟩ := ha0.el hx8
      have hScs7 := hRcs7
      obtain rfl := hRcs7
      refine RQ.y rfl (Y.indexAddr (m := k6) (sz := 2) rfl rfl hk9 hl10 (by kernel_rfl)) ?_
      refine RQ.y rfl (Y.loadN (cs := [.int .i64 x5.agent, .int .i64 x5.slot]) rfl (by kernel_rfl) (cells2 (beC (cellT T (hc11 0 _ rfl))) (beC (cellT T (hc11 1 _ rfl))))) ?_
      obtain ⟨y14, e15, hm⟩ := bnd hm
      refine RQ.callV rfl rfl (am1 rfl) hgo1 (v := .bool y14) (bel (K := fun _ => True) fun w' hb' => hf1 x5 y14 e15 w' (Tt T hb')) ?_
      refine RQ.nil ?_
      intro w16 hb17
      have szw16 := hb17.size
      have T := Tt T hb17
      refine then_n ?_
      rcases bcases y14 with c18 | c18
      · replace hm := cF c18 hm
        refine cond_f rfl (vb rfl c18) ?_
        refine wp_skip ?_
        refine blk_n (then_n ?_)
        refine wp_rs rfl ?_
        refine RQ.y rfl (Y.binI s8_1 rfl (binI_add (m := i2) (by omega))) ?_
        refine RQ.y rfl (Y.move (v := .int .i64 (i2 + 1)) rfl) ?_
        refine RQ.nil ?_
        exact (then_n ⟨g, _, Nat.lt_succ_self _, rfl, ⟨(i2 + 1), s0_1, s1_1, s7_1, rfl, (by omega), T, (by rw [← hrec1]; exact hm)⟩⟩)
      · replace hm := cT c18 hm
        refine cond_t rfl (vb rfl c18) ?_
        refine wp_seq ?_
        refine wp_rs rfl ?_
        refine RQ.y rfl (Y.move (v := .int .i64 i2) rfl) ?_
        refine RQ.y rfl (Y.assign (v := .int .i64 i2) rfl) ?_
        refine RQ.nil ?_
        refine then_n ?_
        refine wp_ret ?_
        obtain rfl := Option.some.inj hm
        exact (blk_r (then_r (then_r (hit_r (blk_r (then_r (ret1 rfl rfl rfl ⟨rfl, T⟩)))))))
def m_slices_ContainsFunc_impl_Port_impl_Port (d0 : List DPort) (d1 : DPort → Option Bool) : Option Bool :=
  ((m_slices_IndexFunc_impl_Port_impl_Port d0 d1).bind fun y1 => some (decide (y1 ≥ 0)))
set_option maxHeartbeats 2000000 in
theorem c_m_slices_ContainsFunc_impl_Port_impl_Port (d0 : List DPort) (d1 : DPort → Option Bool) (r : Bool) (hm : m_slices_ContainsFunc_impl_Port_impl_Port d0 d1 = some r) (v0 : Value) (gf1 : FuncId) (caps1 : Array Value) (w : World) (hv0 : Sl portRd 2 w v0 d0) (hgo1 : isGo Try.prog gf1 = true) (hf1 : ∀ (x0 : DPort) (b : Bool), d1 x0 = some b → ∀ w1, Below w.heap.size w w1 → Calls Try.prog gf1 (#[.agg #[.int .i64 x0.agent, .int .i64 x0.slot]] ++ caps1) w1 fun e w2 => e = .returned (.bool b) ∧ Below w1.heap.size w1 w2) :
    Calls Try.prog 80 #[v0, .func (.func gf1) #[] caps1] w fun e w' => e = .returned (.bool r) ∧ Below w.heap.size w w' := by
  obtain ⟨Aa0, na0, ca0, rfl, ha0, ra0⟩ := hv0
  have ea0 := ha0.len; subst ea0
  have qa0 := len_le ra0
  have T := Below.refl w.heap.size w
  unfold m_slices_ContainsFunc_impl_Port_impl_Port at hm
  refine enter 9 Try.func80 rfl rfl rfl ?_
  intro f hf
  have s0 : f 0 = .slice Aa0 d0.length ca0 := hf 0 _ rfl
  have s1 : f 1 = .func (.func gf1) #[] caps1 := hf 1 _ rfl
  refine wp_seq ?_
  refine wp_rs rfl ?_
  refine RQ.y rfl (Y.assign (v := .bool false) rfl) ?_
  refine RQ.nil ?_
  refine then_n ?_
  refine wp_seq ?_
  refine wp_rb rfl ?_
  refine RQ.y rfl (Y.move (v := .slice Aa0 d0.length ca0) s0) ?_
  refine RQ.y rfl (Y.move (v := .func (.func gf1) #[] caps1) s1) ?_
  obtain ⟨y1, e2, hm⟩ := bnd hm
  refine RQ.call rfl (am2 rfl rfl) (by kernel_rfl) (v := .int .i64 y1) (bel (K := fun _ => True) fun w' hb' => (c_m_slices_IndexFunc_impl_Port_impl_Port d0 d1 _ e2 _ _ _ w' (slArg portRd_ok ha0 ra0 (Tt T hb')) hgo1 (fun x0 b hx w1 hb1 => hf1 x0 b hx w1 (Tt (Tt T hb') hb1)))) ?_
  refine RQ.y rfl (Y.binI (v := .bool (decide (y1 ≥ 0))) rfl rfl rfl) ?_
  refine RQ.y rfl (Y.assign (v := .bool (decide (y1 ≥ 0))) rfl) ?_
  refine RQ.nil ?_
  intro w3 hb4
  have szw3 := hb4.size
  have T := Tt T hb4
  refine then_n ?_
  refine wp_ret ?_
  obtain rfl := Option.some.inj hm
  exact (ret1 rfl rfl rfl ⟨rfl, T⟩)
def m_slices_IndexFunc_int64_int64_A1 : Option Int :=
  some (-1)
def m_slices_IndexFunc_int64_int64_B1 (d0 : List Int) (d1 : Int → Option Bool) (rec1 : Int → Option Int) (K1 : Option Int) (i2 : Int) : Option Int :=
  (bif (decide (i2 < (d0.length : Int))) then ((getI d0 i2).bind fun x5 => ((d1 x5).bind fun y14 => (bif y14 then some i2 else (rec1 (i2 + 1))))) else (K1))
def m_slices_IndexFunc_int64_int64_L1 (d0 : List Int) (d1 : Int → Option Bool) (K1 : Option Int) : Nat → Int → Option Int
  | 0, _ => none
  | g + 1, i2 => m_slices_IndexFunc_int64_int64_B1 d0 d1 (m_slices_IndexFunc_int64_int64_L1 d0 d1 K1 g) K1 i2
def m_slices_IndexFunc_int64_int64 (d0 : List Int) (d1 : Int → Option Bool) : Option Int :=
  (m_slices_IndexFunc_int64_int64_L1 d0 d1 m_slices_IndexFunc_int64_int64_A1 (d0.length + 1) 0)
set_option maxHeartbeats 2000000 in
theorem c_m_slices_IndexFunc_int64_int64 (d0 : List Int) (d1 : Int → Option Bool) (r : Int) (hm : m_slices_IndexFunc_int64_int64 d0 d1 = some r) (v0 : Value) (gf1 : FuncId) (caps1 : Array Value) (w : World) (hv0 : Sl intRd 1 w v0 d0) (hgo1 : isGo Try.prog gf1 = true) (hf1 : ∀ (x0 : Int) (b : Bool), d1 x0 = some b → ∀ w1, Below w.heap.size w w1 → Calls Try.prog gf1 (#[.int .i64 x0] ++ caps1) w1 fun e w2 => e = .returned (.bool b) ∧ Below w1.heap.size w1 w2) :
    Calls Try.prog 183 #[v0, .func (.func gf1) #[] caps1] w fun e w' => e = .returned (.int .i64 r) ∧ Below w.heap.size w w' := by
  obtain ⟨Aa0, na0, ca0, rfl, ha0, ra0⟩ := hv0
  have ea0 := ha0.len; subst ea0
  have qa0 := len_le ra0
  have T := Below.refl w.heap.size w
  unfold m_slices_IndexFunc_int64_int64 at hm
  refine enter 19 Try.func183 rfl rfl rfl ?_
  intro f hf
  have s0 : f 0 = .slice Aa0 d0.length ca0 := hf 0 _ rfl
  have s1 : f 1 = .func (.func gf1) #[] caps1 := hf 1 _ rfl
  refine wp_seq ?_
  refine wp_rs rfl ?_
  refine RQ.y rfl (Y.assign (v := .int .i64 0) rfl) ?_
  refine RQ.nil ?_
  refine then_n ?_
  refine wp_seq ?_
  refine wp_seq ?_
  refine wp_rs rfl ?_
  refine RQ.y rfl (Y.move (v := .slice Aa0 d0.length ca0) s0) ?_
  refine RQ.y rfl (Y.len (by kernel_rfl) rfl) ?_
  refine RQ.y rfl (Y.move (v := .int .i64 0) rfl) ?_
  refine RQ.nil ?_
  refine then_n ?_
  refine wp_block ?_
  obtain ⟨K1, hK1, hm⟩ : ∃ K, K = m_slices_IndexFunc_int64_int64_A1 ∧ m_slices_IndexFunc_int64_int64_L1 d0 d1 K (d0.length + 1) 0 = some r := ⟨_, rfl, hm⟩
  refine wp_loopX (fun g f w' => ∃ (i2 : Int), f 0 = .slice Aa0 d0.length ca0 ∧ f 1 = .func (.func gf1) #[] caps1 ∧ f 7 = .int .i64 (d0.length : Int) ∧ f 8 = .int .i64 i2 ∧ 0 ≤ i2 ∧ Below w.heap.size w w' ∧ m_slices_IndexFunc_int64_int64_L1 d0 d1 K1 g i2 = some r) 0 (fun f w' => Below w.heap.size w w' ∧ m_slices_IndexFunc_int64_int64_A1  = some r) (d0.length + 1) ⟨0, s0, s1, rfl, rfl, (by omega), T, hm⟩ ?_ ?_
  · rintro f w1 ⟨T, hm⟩
    unfold m_slices_IndexFunc_int64_int64_A1 at hm
    refine blk_hit (then_n ?_)
    refine wp_seq ?_
    refine wp_rs rfl ?_
    refine RQ.y rfl (Y.assign (v := .int .i64 (-1)) rfl) ?_
    refine RQ.nil ?_
    refine then_n ?_
    refine wp_ret ?_
    obtain rfl := Option.some.inj hm
    exact (ret1 rfl rfl rfl ⟨rfl, T⟩)
  · rintro g f w3 ⟨i2, s0_1, s1_1, s7_1, s8_1, nn8_1, T, hm⟩
    rcases g with _ | g
    · simp only [m_slices_IndexFunc_int64_int64_L1] at hm; cases hm
    obtain ⟨rec1, hrec1, hm⟩ : ∃ z, z = m_slices_IndexFunc_int64_int64_L1 d0 d1 K1 g ∧ m_slices_IndexFunc_int64_int64_B1 d0 d1 z K1 i2 = some r := ⟨_, rfl, hm⟩
    unfold m_slices_IndexFunc_int64_int64_B1 at hm
    refine wp_seq ?_
    refine wp_rs rfl ?_
    refine RQ.y rfl (Y.binI (v := .bool (decide (i2 < (d0.length : Int)))) s8_1 s7_1 rfl) ?_
    refine RQ.nil ?_
    refine then_n ?_
    refine wp_seq ?_
    rcases bcases (decide (i2 < (d0.length : Int))) with c4 | c4
    · replace hm := cF c4 hm
      have pc4 := of_decide_eq_false c4
      refine cond_f rfl (vb rfl c4) ?_
      refine wp_exit ?_
      exact (then_x (then_x (hit_x ⟨_, rfl, ⟨T, (by rw [hK1] at hm; exact hm)⟩⟩)))
    · replace hm := cT c4 hm
      have pc4 := of_decide_eq_true c4
      refine cond_t rfl (vb rfl c4) ?_
      refine wp_skip ?_
      refine then_n ?_
      refine wp_seq ?_
      refine wp_block ?_
      refine wp_seq ?_
      refine wp_rs rfl ?_
      refine RQ.y rfl (Y.move (v := .int .i64 i2) s8_1) ?_
      refine RQ.y rfl (Y.assign (v := .int .i64 i2) rfl) ?_
      refine RQ.nil ?_
      refine then_n ?_
      refine wp_seq ?_
      refine wp_rb rfl ?_
      refine RQ.y rfl (Y.move (v := .func (.func gf1) #[] caps1) s1_1) ?_
      refine RQ.y rfl (Y.move (v := .slice Aa0 d0.length ca0) s0_1) ?_
      refine RQ.y rfl (Y.move (v := .int .i64 i2) rfl) ?_
      obtain ⟨x5, hx8, hm⟩ := bnd hm
      obtain ⟨k6, hk9, hl10, hx8⟩ := getI_some hx8
      obtain ⟨b12, o13, rfl, hbb12⟩ := ha0.addr (by omega)
      obtain ⟨cs7, hRcs7, hc11⟩ := ha0.el hx8
      have hScs7 := hRcs7
      obtain rfl := hRcs7
      refine RQ.y rfl (Y.indexAddr (m := k6) (sz := 1) rfl rfl hk9 hl10 (by kernel_rfl)) ?_
      refine RQ.y rfl (Y.load (v := .int .i64 x5) rfl (by kernel_rfl) (beC (cellT T (hc11 0 _ rfl)))) ?_
      obtain ⟨y14, e15, hm⟩ := bnd hm
      refine RQ.callV rfl rfl (am1 rfl) hgo1 (v := .bool y14) (bel (K := fun _ => True) fun w' hb' => hf1 x5 y14 e15 w' (Tt T hb')) ?_
      refine RQ.nil ?_
      intro w16 hb17
      have szw16 := hb17.size
      have T := Tt T hb17
      refine then_n ?_
      rcases bcases y14 with c18 | c18
      · replace hm := cF c18 hm
        refine cond_f rfl (vb rfl c18) ?_
        refine wp_skip ?_
        refine blk_n (then_n ?_)
        refine wp_rs rfl ?_
        refine RQ.y rfl (Y.binI s8_1 rfl (binI_add (m := i2) (by omega))) ?_
        refine RQ.y rfl (Y.move (v := .int .i64 (i2 + 1)) rfl) ?_
        refine RQ.nil ?_
        exact (then_n ⟨g, _, Nat.lt_succ_self _, rfl, ⟨(i2 + 1), s0_1, s1_1, s7_1, rfl, (by omega), T, (by rw [← hrec1]; exact hm)⟩⟩)
      · replace hm := cT c18 hm
        refine cond_t rfl (vb rfl c18) ?_
        refine wp_seq ?_
        refine wp_rs rfl ?_
        refine RQ.y rfl (Y.move (v := .int .i64 i2) rfl) ?_
        refine RQ.y rfl (Y.assign (v := .int .i64 i2) rfl) ?_
        refine RQ.nil ?_
        refine then_n ?_
        refine wp_ret ?_
        obtain rfl := Option.some.inj hm
        exact (blk_r (then_r (then_r (hit_r (blk_r (then_r (ret1 rfl rfl rfl ⟨rfl, T⟩)))))))
def m_slices_ContainsFunc_int64_int64 (d0 : List Int) (d1 : Int → Option Bool) : Option Bool :=
  ((m_slices_IndexFunc_int64_int64 d0 d1).bind fun y1 => some (decide (y1 ≥ 0)))
set_option maxHeartbeats 2000000 in
theorem c_m_slices_ContainsFunc_int64_int64 (d0 : List Int) (d1 : Int → Option Bool) (r : Bool) (hm : m_slices_ContainsFunc_int64_int64 d0 d1 = some r) (v0 : Value) (gf1 : FuncId) (caps1 : Array Value) (w : World) (hv0 : Sl intRd 1 w v0 d0) (hgo1 : isGo Try.prog gf1 = true) (hf1 : ∀ (x0 : Int) (b : Bool), d1 x0 = some b → ∀ w1, Below w.heap.size w w1 → Calls Try.prog gf1 (#[.int .i64 x0] ++ caps1) w1 fun e w2 => e = .returned (.bool b) ∧ Below w1.heap.size w1 w2) :
    Calls Try.prog 157 #[v0, .func (.func gf1) #[] caps1] w fun e w' => e = .returned (.bool r) ∧ Below w.heap.size w w' := by
  obtain ⟨Aa0, na0, ca0, rfl, ha0, ra0⟩ := hv0
  have ea0 := ha0.len; subst ea0
  have qa0 := len_le ra0
  have T := Below.refl w.heap.size w
  unfold m_slices_ContainsFunc_int64_int64 at hm
  refine enter 9 Try.func157 rfl rfl rfl ?_
  intro f hf
  have s0 : f 0 = .slice Aa0 d0.length ca0 := hf 0 _ rfl
  have s1 : f 1 = .func (.func gf1) #[] caps1 := hf 1 _ rfl
  refine wp_seq ?_
  refine wp_rs rfl ?_
  refine RQ.y rfl (Y.assign (v := .bool false) rfl) ?_
  refine RQ.nil ?_
  refine then_n ?_
  refine wp_seq ?_
  refine wp_rb rfl ?_
  refine RQ.y rfl (Y.move (v := .slice Aa0 d0.length ca0) s0) ?_
  refine RQ.y rfl (Y.move (v := .func (.func gf1) #[] caps1) s1) ?_
  obtain ⟨y1, e2, hm⟩ := bnd hm
  refine RQ.call rfl (am2 rfl rfl) (by kernel_rfl) (v := .int .i64 y1) (bel (K := fun _ => True) fun w' hb' => (c_m_slices_IndexFunc_int64_int64 d0 d1 _ e2 _ _ _ w' (slArg intRd_ok ha0 ra0 (Tt T hb')) hgo1 (fun x0 b hx w1 hb1 => hf1 x0 b hx w1 (Tt (Tt T hb') hb1)))) ?_
  refine RQ.y rfl (Y.binI (v := .bool (decide (y1 ≥ 0))) rfl rfl rfl) ?_
  refine RQ.y rfl (Y.assign (v := .bool (decide (y1 ≥ 0))) rfl) ?_
  refine RQ.nil ?_
  intro w3 hb4
  have szw3 := hb4.size
  have T := Tt T hb4
  refine then_n ?_
  refine wp_ret ?_
  obtain rfl := Option.some.inj hm
  exact (ret1 rfl rfl rfl ⟨rfl, T⟩)
def m_impl_ValidNet_1 (d0 : DPort) (d1 : DNet) : Option Bool :=
  ((m_impl_Net_peer d1 d0).bind fun y6 => (bif (y6.agent == d0.agent && y6.slot == d0.slot) then some true else ((m_impl_hasPort d1.agents y6).bind fun y18 => (bif y18 then ((m_impl_Net_peer d1 y6).bind fun y23 => some (!(y23.agent == d0.agent && y23.slot == d0.slot))) else some true))))
set_option maxHeartbeats 2000000 in
theorem c_m_impl_ValidNet_1 (d0 : DPort) (d1 : DNet) (r : Bool) (hm : m_impl_ValidNet_1 d0 d1 = some r) (v1 : Value) (w : World) (hv1 : Pt netRd w v1 d1) :
    Calls Try.prog 82 #[.agg #[.int .i64 d0.agent, .int .i64 d0.slot], v1] w fun e w' => e = .returned (.bool r) ∧ Below w.heap.size w w' := by
  obtain ⟨ba1, oa1, csa1, rfl, hba1, hRa1, hca1⟩ := hv1
  have hSa1 := hRa1
  obtain ⟨A1, n1, c1, rfl, ⟨h1, r1⟩⟩ := hRa1
  have e1 := h1.len; subst e1
  have q1 := len_le r1
  have T := Below.refl w.heap.size w
  unfold m_impl_ValidNet_1 at hm
  refine enter 23 Try.func82 rfl rfl rfl ?_
  intro f hf
  have s0 : f 0 = .agg #[.int .i64 d0.agent, .int .i64 d0.slot] := hf 0 _ rfl
  have s1 : f 1 = .pointer (some ⟨ba1, oa1, none⟩) := hf 1 _ rfl
  refine wp_seq ?_
  refine wp_rl rfl ?_
  refine RL.box rfl s0 (fun w2 B3 hb4 szw2 => ?_)
  replace B3 : Blk w2 w.heap.size 81 #[.int .i64 d0.agent, .int .i64 d0.slot] := B3
  have GB3 : w.heap.size ≤ w.heap.size := T.size
  have T := Tt T hb4
  refine RL.y rfl (Y.assign (v := .bool false) rfl) ?_
  refine RL.nil ?_
  refine then_n ?_
  refine wp_seq ?_
  refine wp_rl rfl ?_
  refine RL.y rfl (Y.loadN (cs := [.int .i64 d0.agent, .int .i64 d0.slot]) rfl (by kernel_rfl) (cells2 (eqC (blkCell B3 (i := 0) rfl)) (eqC (blkCell B3 (i := 1) rfl)))) ?_
  obtain ⟨y6, e7, hm⟩ := bnd hm
  refine RL.call rfl (am2 s1 rfl) (by kernel_rfl) ((c_m_impl_Net_peer d1 d0 _ e7 _ _ (ptArg netRd_ok hba1 hSa1 hca1 T)).mono ?_)
  rintro _ w8 ⟨rfl, hb9⟩
  refine ⟨_, rfl, ?_⟩
  have szw8 := hb9.size
  have B3 := blkT B3 hb9
  have T := Tt T hb9
  refine RL.alloc (z := .agg #[.int .i64 0, .int .i64 0]) rfl (by kernel_rfl) (fun w10 B11 hb12 szw10 => ?_)
  replace B11 : Blk w10 w8.heap.size 81 #[.int .i64 0, .int .i64 0] := B11
  have GB11 : w.heap.size ≤ w8.heap.size := T.size
  have Eob13_ob5 := Nat.ne_of_lt B3.lt
  have B3 := blkT B3 hb12
  have T := Tt T hb12
  refine RL.store (v := .agg #[.int .i64 y6.agent, .int .i64 y6.slot]) (cs' := #[.int .i64 y6.agent, .int .i64 y6.slot]) rfl rfl rfl B11 (by kernel_rfl) (by rfl) (by rfl) (by rfl) (fun w14 B15 ho16 => ?_)
  have szw14 := ho16.size
  have B3 := B3.only_ ho16 (by intro hin; simp at hin; exact Eob13_ob5 hin)
  have T := T.trans (ho16.below (by simp; omega))
  refine RL.nil ?_
  refine then_n ?_
  refine wp_seq ?_
  refine wp_rbd (by kernel_rfl) (by kernel_rfl) ?_
  refine RQ.y rfl (Y.loadN (cs := [.int .i64 y6.agent, .int .i64 y6.slot]) rfl (by kernel_rfl) (cells2 (beC (blkCell B15 (i := 0) rfl)) (beC (blkCell B15 (i := 1) rfl)))) ?_
  refine RQ.y rfl (Y.loadN (cs := [.int .i64 d0.agent, .int .i64 d0.slot]) rfl (by kernel_rfl) (cells2 (beC (blkCell B3 (i := 0) rfl)) (beC (blkCell B3 (i := 1) rfl)))) ?_
  refine RQ.y rfl (Y.eqS (b := (y6.agent == d0.agent && y6.slot == d0.slot)) rfl rfl (eqPort_run _ _ _ _) (eqGuardPort_run _ _ _ _ _)) ?_
  refine RQ.y rfl (Y.move (v := .bool (y6.agent == d0.agent && y6.slot == d0.slot)) rfl) ?_
  rcases bcases (y6.agent == d0.agent && y6.slot == d0.slot) with c17 | c17
  · replace hm := cF c17 hm
    refine RQ.y (wantT (dj := 10) rfl (vb rfl c17)) (Y.fieldAddr (off := 0) s1 (by kernel_rfl)) ?_
    refine RQ.y (wantT (dj := 10) rfl (vb rfl c17)) (Y.load (v := .slice A1 d1.agents.length c1) rfl (by kernel_rfl) (beC (cellT T (hca1 0 _ rfl)))) ?_
    refine RQ.y (wantT (dj := 10) rfl (vb rfl c17)) (Y.loadN (cs := [.int .i64 y6.agent, .int .i64 y6.slot]) rfl (by kernel_rfl) (cells2 (beC (blkCell B15 (i := 0) rfl)) (beC (blkCell B15 (i := 1) rfl)))) ?_
    obtain ⟨y18, e19, hm⟩ := bnd hm
    refine RQ.call (wantT (dj := 10) rfl (vb rfl c17)) (am2 rfl rfl) (by kernel_rfl) (v := .bool y18) (bel (K := fun _ => True) fun w' hb' => (c_m_impl_hasPort d1.agents y6 _ e19 _ w' (slArg agentRd_ok h1 r1 (Tt T hb')))) ?_
    refine RQ.y (wantT (dj := 10) rfl (vb rfl c17)) (Y.not (b' := (!y18)) rfl rfl) ?_
    refine RQ.y rfl (Y.pick (b := false) (v := .bool (!y18)) (vb rfl c17) rfl) ?_
    refine RQ.y rfl (Y.move (v := .bool (!y18)) rfl) ?_
    rcases bcases y18 with c20 | c20
    · replace hm := cF c20 hm
      refine RQ.skip (wantN (dj := 17) rfl (vbn rfl c20 rfl) rfl) ?_
      refine RQ.skip (wantN (dj := 17) rfl (vbn rfl c20 rfl) rfl) ?_
      refine RQ.skip (wantN (dj := 17) rfl (vbn rfl c20 rfl) rfl) ?_
      refine RQ.skip (wantN (dj := 17) rfl (vbn rfl c20 rfl) rfl) ?_
      refine RQ.y rfl (Y.pick (b := true) (v := .bool true) (vbn rfl c20 rfl) rfl) ?_
      refine RQ.y rfl (Y.assign (v := .bool true) rfl) ?_
      refine RQ.nil ?_
      intro w21 hb22
      have szw21 := hb22.size
      have T := Tt T hb22
      refine then_n ?_
      refine wp_ret ?_
      obtain rfl := Option.some.inj hm
      exact (ret1 rfl rfl rfl ⟨rfl, T⟩)
    · replace hm := cT c20 hm
      refine RQ.y (wantT (dj := 17) rfl (vbn rfl c20 rfl)) (Y.loadN (cs := [.int .i64 y6.agent, .int .i64 y6.slot]) rfl (by kernel_rfl) (cells2 (beC (blkCell B15 (i := 0) rfl)) (beC (blkCell B15 (i := 1) rfl)))) ?_
      obtain ⟨y23, e24, hm⟩ := bnd hm
      refine RQ.call (wantT (dj := 17) rfl (vbn rfl c20 rfl)) (am2 s1 rfl) (by kernel_rfl) (v := .agg #[.int .i64 y23.agent, .int .i64 y23.slot]) (bel (K := fun _ => True) fun w' hb' => (c_m_impl_Net_peer d1 y6 _ e24 _ w' (ptArg netRd_ok hba1 hSa1 hca1 (Tt T hb')))) ?_
      refine RQ.y (wantT (dj := 17) rfl (vbn rfl c20 rfl)) (Y.loadN (cs := [.int .i64 d0.agent, .int .i64 d0.slot]) rfl (by kernel_rfl) (cells2 (beC (blkCell B3 (i := 0) rfl)) (beC (blkCell B3 (i := 1) rfl)))) ?_
      refine RQ.y (wantT (dj := 17) rfl (vbn rfl c20 rfl)) (Y.neS (b := (y23.agent == d0.agent && y23.slot == d0.slot)) rfl rfl (eqPort_run _ _ _ _) (eqGuardPort_run _ _ _ _ _)) ?_
      refine RQ.y rfl (Y.pick (b := false) (v := .bool (!(y23.agent == d0.agent && y23.slot == d0.slot))) (vbn rfl c20 rfl) rfl) ?_
      refine RQ.y rfl (Y.assign (v := .bool (!(y23.agent == d0.agent && y23.slot == d0.slot))) rfl) ?_
      refine RQ.nil ?_
      intro w25 hb26
      have szw25 := hb26.size
      have T := Tt T hb26
      refine then_n ?_
      refine wp_ret ?_
      obtain rfl := Option.some.inj hm
      exact (ret1 rfl rfl rfl ⟨rfl, T⟩)
  · replace hm := cT c17 hm
    refine RQ.skip (wantN (dj := 10) rfl (vb rfl c17) rfl) ?_
    refine RQ.skip (wantN (dj := 10) rfl (vb rfl c17) rfl) ?_
    refine RQ.skip (wantN (dj := 10) rfl (vb rfl c17) rfl) ?_
    refine RQ.skip (wantN (dj := 10) rfl (vb rfl c17) rfl) ?_
    refine RQ.skip (wantN (dj := 10) rfl (vb rfl c17) rfl) ?_
    refine RQ.y rfl (Y.pick (b := true) (v := .bool true) (vb rfl c17) rfl) ?_
    refine RQ.y rfl (Y.move (v := .bool true) rfl) ?_
    refine RQ.skip (wantN (dj := 17) rfl rfl rfl) ?_
    refine RQ.skip (wantN (dj := 17) rfl rfl rfl) ?_
    refine RQ.skip (wantN (dj := 17) rfl rfl rfl) ?_
    refine RQ.skip (wantN (dj := 17) rfl rfl rfl) ?_
    refine RQ.y rfl (Y.pick (b := true) (v := .bool true) rfl rfl) ?_
    refine RQ.y rfl (Y.assign (v := .bool true) rfl) ?_
    refine RQ.nil ?_
    intro w27 hb28
    have szw27 := hb28.size
    have T := Tt T hb28
    refine then_n ?_
    refine wp_ret ?_
    obtain rfl := Option.some.inj hm
    exact (ret1 rfl rfl rfl ⟨rfl, T⟩)
def m_impl_wellFormed (d0 : DAgent) : Option Bool :=
  (bif ((d0.ports.length : Int) == 0) then some false else ((m_impl_fieldsOf d0.kind (d0.ports.length : Int)).bind fun y8 => (bif ((portsOf d0.kind y8) != (d0.ports.length : Int)) then some false else (bif (allowed d0.kind d0.level) then ((m_slices_ContainsFunc_int64_int64 d0.data (fun x0 => m_impl_wellFormed_1 x0)).bind fun y16 => (bif (d0.kind == 6) then ((m_impl_isInt d0.value).bind fun y69 => (bif y69 then some ((d0.data.length : Int) == 0) else some false)) else (bif (d0.kind == 7) then ((m_impl_isOperator d0.value).bind fun y64 => (bif y64 then some ((d0.data.length : Int) == 0) else some false)) else (bif (d0.kind == 8) then ((m_impl_isOperator d0.value).bind fun y43 => (bif y43 then (bif ((d0.data.length : Int) == 1) then ((getI d0.data 0).bind fun x51 => ((m_impl_isInt x51).bind fun y60 => some y60)) else some false) else some false)) else (bif (d0.kind == 9) then (bif (decide (d0.value ≥ 0)) then (bif (decide (d0.value < 4)) then some ((d0.data.length : Int) == 0) else some false) else some false) else (bif (d0.kind == 10) then (bif (decide ((d0.data.length : Int) ≥ 1)) then (bif (decide ((d0.data.length : Int) ≤ 4)) then (bif (d0.value == 0) then some (!y16) else some false) else (bif (d0.value == 0) then some false else some false)) else (bif (d0.value == 0) then some false else some false)) else (bif (d0.kind == 11) then (bif ((d0.data.length : Int) == 2) then (bif (d0.value == 0) then some (!y16) else some false) else (bif (d0.value == 0) then some false else some false)) else (bif (d0.kind == 12) then ((m_impl_isDefIndex d0.value).bind fun y28 => (bif y28 then some ((d0.data.length : Int) == 0) else some false)) else (bif (d0.value == 0) then some ((d0.data.length : Int) == 0) else some false))))))))) else some false))))
set_option maxHeartbeats 2000000 in
theorem c_m_impl_wellFormed (d0 : DAgent) (r : Bool) (hm : m_impl_wellFormed d0 = some r) (v0 : Value) (w : World) (hv0 : St agentRd w v0 d0) :
    Calls Try.prog 126 #[v0] w fun e w' => e = .returned (.bool r) ∧ Below w.heap.size w w' := by
  obtain ⟨csa0, rfl, ⟨A1, n1, c1, A2, n2, c2, rfl, ⟨h1, r1⟩, ⟨h2, r2⟩⟩⟩ := hv0
  have e1 := h1.len; subst e1
  have q1 := len_le r1
  have e2 := h2.len; subst e2
  have q2 := len_le r2
  have T := Below.refl w.heap.size w
  unfold m_impl_wellFormed at hm
  refine enter 117 Try.func126 rfl rfl rfl ?_
  intro f hf
  have s0 : f 0 = .agg #[.int .i64 d0.kind, .int .i64 d0.level, .int .i64 d0.value, .slice A1 d0.data.length c1, .slice A2 d0.ports.length c2] := hf 0 _ rfl
  refine wp_seq ?_
  refine wp_rl rfl ?_
  refine RL.box rfl s0 (fun w3 B4 hb5 szw3 => ?_)
  replace B4 : Blk w3 w.heap.size 122 #[.int .i64 d0.kind, .int .i64 d0.level, .int .i64 d0.value, .slice A1 d0.data.length c1, .slice A2 d0.ports.length c2] := B4
  have GB4 : w.heap.size ≤ w.heap.size := T.size
  have T := Tt T hb5
  refine RL.y rfl (Y.assign (v := .bool false) rfl) ?_
  refine RL.nil ?_
  refine then_n ?_
  refine wp_seq ?_
  refine wp_seq ?_
  refine wp_rbd (by kernel_rfl) (by kernel_rfl) ?_
  refine RQ.y rfl (Y.fieldAddr (off := 4) rfl (by kernel_rfl)) ?_
  refine RQ.y rfl (Y.load (v := .slice A2 d0.ports.length c2) rfl (by kernel_rfl) (beC (blkCell B4 (i := 4) rfl))) ?_
  refine RQ.y rfl (Y.len (by kernel_rfl) rfl) ?_
  refine RQ.y rfl (Y.binI (v := .bool ((d0.ports.length : Int) == 0)) rfl rfl rfl) ?_
  refine RQ.y rfl (Y.move (v := .bool ((d0.ports.length : Int) == 0)) rfl) ?_
  rcases bcases ((d0.ports.length : Int) == 0) with c7 | c7
  · replace hm := cF c7 hm
    refine RQ.y (wantT (dj := 10) rfl (vb rfl c7)) (Y.fieldAddr (off := 0) rfl (by kernel_rfl)) ?_
    refine RQ.y (wantT (dj := 10) rfl (vb rfl c7)) (Y.load (v := .int .i64 d0.kind) rfl (by kernel_rfl) (beC (blkCell B4 (i := 0) rfl))) ?_
    refine RQ.y (wantT (dj := 10) rfl (vb rfl c7)) (Y.fieldAddr (off := 0) rfl (by kernel_rfl)) ?_
    refine RQ.y (wantT (dj := 10) rfl (vb rfl c7)) (Y.load (v := .int .i64 d0.kind) rfl (by kernel_rfl) (beC (blkCell B4 (i := 0) rfl))) ?_
    refine RQ.y (wantT (dj := 10) rfl (vb rfl c7)) (Y.fieldAddr (off := 4) rfl (by kernel_rfl)) ?_
    refine RQ.y (wantT (dj := 10) rfl (vb rfl c7)) (Y.load (v := .slice A2 d0.ports.length c2) rfl (by kernel_rfl) (beC (blkCell B4 (i := 4) rfl))) ?_
    refine RQ.y (wantT (dj := 10) rfl (vb rfl c7)) (Y.len (by kernel_rfl) rfl) ?_
    obtain ⟨y8, e9, hm⟩ := bnd hm
    refine RQ.call (wantT (dj := 10) rfl (vb rfl c7)) (am2 rfl rfl) (by kernel_rfl) (v := .int .i64 y8) (bel (K := fun _ => True) fun w' hb' => (c_m_impl_fieldsOf d0.kind (d0.ports.length : Int) _ e9  w' )) ?_
    refine RQ.call (wantT (dj := 10) rfl (vb rfl c7)) (am2 rfl rfl) (by kernel_rfl) (v := .int .i64 (portsOf d0.kind y8)) (bel (K := fun _ => True) fun w' hb' => (callB (impl_PortsOf d0.kind y8 w'))) ?_
    refine RQ.y (wantT (dj := 10) rfl (vb rfl c7)) (Y.fieldAddr (off := 4) rfl (by kernel_rfl)) ?_
    refine RQ.y (wantT (dj := 10) rfl (vb rfl c7)) (Y.load (v := .slice A2 d0.ports.length c2) rfl (by kernel_rfl) (beC (blkCell B4 (i := 4) rfl))) ?_
    refine RQ.y (wantT (dj := 10) rfl (vb rfl c7)) (Y.len (by kernel_rfl) rfl) ?_
    refine RQ.y (wantT (dj := 10) rfl (vb rfl c7)) (Y.binI (v := .bool ((portsOf d0.kind y8) != (d0.ports.length : Int))) rfl rfl rfl) ?_
    refine RQ.y rfl (Y.pick (b := false) (v := .bool ((portsOf d0.kind y8) != (d0.ports.length : Int))) (vb rfl c7) rfl) ?_
    refine RQ.y rfl (Y.move (v := .bool ((portsOf d0.kind y8) != (d0.ports.length : Int))) rfl) ?_
    rcases bcases ((portsOf d0.kind y8) != (d0.ports.length : Int)) with c10 | c10
    · replace hm := cF c10 hm
      refine RQ.y (wantT (dj := 25) rfl (vb rfl c10)) (Y.fieldAddr (off := 0) rfl (by kernel_rfl)) ?_
      refine RQ.y (wantT (dj := 25) rfl (vb rfl c10)) (Y.load (v := .int .i64 d0.kind) rfl (by kernel_rfl) (beC (blkCell B4 (i := 0) rfl))) ?_
      refine RQ.y (wantT (dj := 25) rfl (vb rfl c10)) (Y.fieldAddr (off := 1) rfl (by kernel_rfl)) ?_
      refine RQ.y (wantT (dj := 25) rfl (vb rfl c10)) (Y.load (v := .int .i64 d0.level) rfl (by kernel_rfl) (beC (blkCell B4 (i := 1) rfl))) ?_
      refine RQ.call (wantT (dj := 25) rfl (vb rfl c10)) (am2 rfl rfl) (by kernel_rfl) (v := .bool (allowed d0.kind d0.level)) (bel (K := fun _ => True) fun w' hb' => (callB (impl_isAllowed d0.kind d0.level w'))) ?_
      refine RQ.y (wantT (dj := 25) rfl (vb rfl c10)) (Y.not (b' := (!(allowed d0.kind d0.level))) rfl rfl) ?_
      refine RQ.y rfl (Y.pick (b := false) (v := .bool (!(allowed d0.kind d0.level))) (vb rfl c10) rfl) ?_
      refine RQ.nil ?_
      intro w11 hb12
      have szw11 := hb12.size
      have B4 := blkT B4 hb12
      have T := Tt T hb12
      refine then_n ?_
      rcases bcases (allowed d0.kind d0.level) with c13 | c13
      · replace hm := cF c13 hm
        refine cond_t rfl (vbn rfl c13 rfl) ?_
        refine wp_seq ?_
        refine wp_rs rfl ?_
        refine RQ.y rfl (Y.assign (v := .bool false) rfl) ?_
        refine RQ.nil ?_
        refine then_n ?_
        refine wp_ret ?_
        obtain rfl := Option.some.inj hm
        exact (then_r (ret1 rfl rfl rfl ⟨rfl, T⟩))
      · replace hm := cT c13 hm
        refine cond_f rfl (vbn rfl c13 rfl) ?_
        refine wp_skip ?_
        refine then_n ?_
        refine wp_seq ?_
        refine wp_rbd (by kernel_rfl) (by kernel_rfl) ?_
        refine RQ.y rfl (Y.fieldAddr (off := 2) rfl (by kernel_rfl)) ?_
        refine RQ.y rfl (Y.load (v := .int .i64 d0.value) rfl (by kernel_rfl) (beC (blkCell B4 (i := 2) rfl))) ?_
        refine RQ.y rfl (Y.binI (v := .bool (d0.value == 0)) rfl rfl rfl) ?_
        refine RQ.y rfl (Y.fieldAddr (off := 3) rfl (by kernel_rfl)) ?_
        refine RQ.y rfl (Y.load (v := .slice A1 d0.data.length c1) rfl (by kernel_rfl) (beC (blkCell B4 (i := 3) rfl))) ?_
        refine RQ.y rfl (Y.len (by kernel_rfl) rfl) ?_
        refine RQ.y rfl (Y.binI (v := .bool ((d0.data.length : Int) == 0)) rfl rfl rfl) ?_
        refine RQ.y rfl (Y.assign (v := .bool (d0.value == 0)) rfl) ?_
        refine RQ.y rfl (Y.assign (v := .bool ((d0.data.length : Int) == 0)) rfl) ?_
        refine RQ.nil ?_
        intro w14 hb15
        have szw14 := hb15.size
        have B4 := blkT B4 hb15
        have T := Tt T hb15
        refine then_n ?_
        refine wp_seq ?_
        refine wp_rb rfl ?_
        refine RQ.y rfl (Y.fieldAddr (off := 3) rfl (by kernel_rfl)) ?_
        refine RQ.y rfl (Y.load (v := .slice A1 d0.data.length c1) rfl (by kernel_rfl) (beC (blkCell B4 (i := 3) rfl))) ?_
        obtain ⟨y16, e17, hm⟩ := bnd hm
        refine RQ.call rfl (am2 rfl rfl) (by kernel_rfl) (v := .bool y16) (bel (K := fun _ => True) fun w' hb' => (c_m_slices_ContainsFunc_int64_int64 d0.data (fun x0 => m_impl_wellFormed_1 x0) _ e17 _ _ _ w' (slArg intRd_ok h1 r1 (Tt T hb')) (by kernel_rfl) (fun x0 b hx w1 hb1 => Calls.arr (by simp) (c_m_impl_wellFormed_1 x0 _ hx  w1 )))) ?_
        refine RQ.y rfl (Y.not (b' := (!y16)) rfl rfl) ?_
        refine RQ.y rfl (Y.assign (v := .bool (!y16)) rfl) ?_
        refine RQ.nil ?_
        intro w18 hb19
        have szw18 := hb19.size
        have B4 := blkT B4 hb19
        have T := Tt T hb19
        refine then_n ?_
        refine wp_seq ?_
        refine wp_seq ?_
        refine wp_rs rfl ?_
        refine RQ.y rfl (Y.fieldAddr (off := 0) rfl (by kernel_rfl)) ?_
        refine RQ.y rfl (Y.load (v := .int .i64 d0.kind) rfl (by kernel_rfl) (eqC (blkCell B4 (i := 0) rfl))) ?_
        refine RQ.nil ?_
        refine then_n ?_
        refine wp_block ?_
        refine wp_seq ?_
        refine wp_rs rfl ?_
        refine RQ.y rfl (Y.binI (v := .bool (d0.kind == 6)) rfl rfl rfl) ?_
        refine RQ.y rfl (Y.assign (v := .bool (d0.kind == 6)) rfl) ?_
        refine RQ.nil ?_
        refine then_n ?_
        rcases bcases (d0.kind == 6) with c20 | c20
        · replace hm := cF c20 hm
          refine cond_f rfl (vb rfl c20) ?_
          refine wp_seq ?_
          refine wp_rs rfl ?_
          refine RQ.y rfl (Y.binI (v := .bool (d0.kind == 7)) rfl rfl rfl) ?_
          refine RQ.y rfl (Y.assign (v := .bool (d0.kind == 7)) rfl) ?_
          refine RQ.nil ?_
          refine then_n ?_
          rcases bcases (d0.kind == 7) with c21 | c21
          · replace hm := cF c21 hm
            refine cond_f rfl (vb rfl c21) ?_
            refine wp_seq ?_
            refine wp_rs rfl ?_
            refine RQ.y rfl (Y.binI (v := .bool (d0.kind == 8)) rfl rfl rfl) ?_
            refine RQ.y rfl (Y.assign (v := .bool (d0.kind == 8)) rfl) ?_
            refine RQ.nil ?_
            refine then_n ?_
            rcases bcases (d0.kind == 8) with c22 | c22
            · replace hm := cF c22 hm
              refine cond_f rfl (vb rfl c22) ?_
              refine wp_seq ?_
              refine wp_rs rfl ?_
              refine RQ.y rfl (Y.binI (v := .bool (d0.kind == 9)) rfl rfl rfl) ?_
              refine RQ.y rfl (Y.assign (v := .bool (d0.kind == 9)) rfl) ?_
              refine RQ.nil ?_
              refine then_n ?_
              rcases bcases (d0.kind == 9) with c23 | c23
              · replace hm := cF c23 hm
                refine cond_f rfl (vb rfl c23) ?_
                refine wp_seq ?_
                refine wp_rs rfl ?_
                refine RQ.y rfl (Y.binI (v := .bool (d0.kind == 10)) rfl rfl rfl) ?_
                refine RQ.y rfl (Y.assign (v := .bool (d0.kind == 10)) rfl) ?_
                refine RQ.nil ?_
                refine then_n ?_
                rcases bcases (d0.kind == 10) with c24 | c24
                · replace hm := cF c24 hm
                  refine cond_f rfl (vb rfl c24) ?_
                  refine wp_seq ?_
                  refine wp_rs rfl ?_
                  refine RQ.y rfl (Y.binI (v := .bool (d0.kind == 11)) rfl rfl rfl) ?_
                  refine RQ.y rfl (Y.assign (v := .bool (d0.kind == 11)) rfl) ?_
                  refine RQ.nil ?_
                  refine then_n ?_
                  rcases bcases (d0.kind == 11) with c25 | c25
                  · replace hm := cF c25 hm
                    refine cond_f rfl (vb rfl c25) ?_
                    refine wp_seq ?_
                    refine wp_rs rfl ?_
                    refine RQ.y rfl (Y.binI (v := .bool (d0.kind == 12)) rfl rfl rfl) ?_
                    refine RQ.y rfl (Y.assign (v := .bool (d0.kind == 12)) rfl) ?_
                    refine RQ.nil ?_
                    refine then_n ?_
                    rcases bcases (d0.kind == 12) with c26 | c26
                    · replace hm := cF c26 hm
                      refine cond_f rfl (vb rfl c26) ?_
                      refine wp_skip ?_
                      refine blk_n (then_n ?_)
                      refine wp_seq ?_
                      refine wp_rs rfl ?_
                      refine RQ.y rfl (Y.move (v := .bool (d0.value == 0)) rfl) ?_
                      refine RQ.y rfl (Y.move (v := .bool (d0.value == 0)) rfl) ?_
                      rcases bcases (d0.value == 0) with c27 | c27
                      · replace hm := cF c27 hm
                        refine RQ.skip (wantN (dj := 114) rfl (vb rfl c27) rfl) ?_
                        refine RQ.y rfl (Y.pick (b := false) (v := .bool false) (vb rfl c27) rfl) ?_
                        refine RQ.y rfl (Y.assign (v := .bool false) rfl) ?_
                        refine RQ.nil ?_
                        refine then_n ?_
                        refine wp_ret ?_
                        obtain rfl := Option.some.inj hm
                        exact (ret1 rfl rfl rfl ⟨rfl, T⟩)
                      · replace hm := cT c27 hm
                        refine RQ.y (wantT (dj := 114) rfl (vb rfl c27)) (Y.move (v := .bool ((d0.data.length : Int) == 0)) rfl) ?_
                        refine RQ.y rfl (Y.pick (b := true) (v := .bool ((d0.data.length : Int) == 0)) (vb rfl c27) rfl) ?_
                        refine RQ.y rfl (Y.assign (v := .bool ((d0.data.length : Int) == 0)) rfl) ?_
                        refine RQ.nil ?_
                        refine then_n ?_
                        refine wp_ret ?_
                        obtain rfl := Option.some.inj hm
                        exact (ret1 rfl rfl rfl ⟨rfl, T⟩)
                    · replace hm := cT c26 hm
                      refine cond_t rfl (vb rfl c26) ?_
                      refine wp_rb rfl ?_
                      refine RQ.y rfl (Y.fieldAddr (off := 2) rfl (by kernel_rfl)) ?_
                      refine RQ.y rfl (Y.load (v := .int .i64 d0.value) rfl (by kernel_rfl) (beC (blkCell B4 (i := 2) rfl))) ?_
                      obtain ⟨y28, e29, hm⟩ := bnd hm
                      refine RQ.call rfl (am1 rfl) (by kernel_rfl) (v := .bool y28) (bel (K := fun _ => True) fun w' hb' => (c_m_impl_isDefIndex d0.value _ e29  w' )) ?_
                      refine RQ.y rfl (Y.assign (v := .bool y28) rfl) ?_
                      refine RQ.nil ?_
                      intro w30 hb31
                      have szw30 := hb31.size
                      have T := Tt T hb31
                      refine blk_n (then_n ?_)
                      refine wp_seq ?_
                      refine wp_rs rfl ?_
                      refine RQ.y rfl (Y.move (v := .bool y28) rfl) ?_
                      refine RQ.y rfl (Y.move (v := .bool y28) rfl) ?_
                      rcases bcases y28 with c32 | c32
                      · replace hm := cF c32 hm
                        refine RQ.skip (wantN (dj := 114) rfl (vb rfl c32) rfl) ?_
                        refine RQ.y rfl (Y.pick (b := false) (v := .bool false) (vb rfl c32) rfl) ?_
                        refine RQ.y rfl (Y.assign (v := .bool false) rfl) ?_
                        refine RQ.nil ?_
                        refine then_n ?_
                        refine wp_ret ?_
                        obtain rfl := Option.some.inj hm
                        exact (ret1 rfl rfl rfl ⟨rfl, T⟩)
                      · replace hm := cT c32 hm
                        refine RQ.y (wantT (dj := 114) rfl (vb rfl c32)) (Y.move (v := .bool ((d0.data.length : Int) == 0)) rfl) ?_
                        refine RQ.y rfl (Y.pick (b := true) (v := .bool ((d0.data.length : Int) == 0)) (vb rfl c32) rfl) ?_
                        refine RQ.y rfl (Y.assign (v := .bool ((d0.data.length : Int) == 0)) rfl) ?_
                        refine RQ.nil ?_
                        refine then_n ?_
                        refine wp_ret ?_
                        obtain rfl := Option.some.inj hm
                        exact (ret1 rfl rfl rfl ⟨rfl, T⟩)
                  · replace hm := cT c25 hm
                    refine cond_t rfl (vb rfl c25) ?_
                    refine wp_rs rfl ?_
                    refine RQ.y rfl (Y.fieldAddr (off := 3) rfl (by kernel_rfl)) ?_
                    refine RQ.y rfl (Y.load (v := .slice A1 d0.data.length c1) rfl (by kernel_rfl) (eqC (blkCell B4 (i := 3) rfl))) ?_
                    refine RQ.y rfl (Y.len (by kernel_rfl) rfl) ?_
                    refine RQ.y rfl (Y.binI (v := .bool ((d0.data.length : Int) == 2)) rfl rfl rfl) ?_
                    refine RQ.y rfl (Y.move (v := .bool ((d0.data.length : Int) == 2)) rfl) ?_
                    rcases bcases ((d0.data.length : Int) == 2) with c33 | c33
                    · replace hm := cF c33 hm
                      refine RQ.skip (wantN (dj := 105) rfl (vb rfl c33) rfl) ?_
                      refine RQ.y rfl (Y.pick (b := false) (v := .bool false) (vb rfl c33) rfl) ?_
                      refine RQ.y rfl (Y.assign (v := .bool false) rfl) ?_
                      refine RQ.nil ?_
                      refine blk_n (then_n ?_)
                      refine wp_seq ?_
                      refine wp_rs rfl ?_
                      refine RQ.y rfl (Y.move (v := .bool (d0.value == 0)) rfl) ?_
                      refine RQ.y rfl (Y.move (v := .bool (d0.value == 0)) rfl) ?_
                      rcases bcases (d0.value == 0) with c34 | c34
                      · replace hm := cF c34 hm
                        refine RQ.skip (wantN (dj := 114) rfl (vb rfl c34) rfl) ?_
                        refine RQ.y rfl (Y.pick (b := false) (v := .bool false) (vb rfl c34) rfl) ?_
                        refine RQ.y rfl (Y.assign (v := .bool false) rfl) ?_
                        refine RQ.nil ?_
                        refine then_n ?_
                        refine wp_ret ?_
                        obtain rfl := Option.some.inj hm
                        exact (ret1 rfl rfl rfl ⟨rfl, T⟩)
                      · replace hm := cT c34 hm
                        refine RQ.y (wantT (dj := 114) rfl (vb rfl c34)) (Y.move (v := .bool false) rfl) ?_
                        refine RQ.y rfl (Y.pick (b := true) (v := .bool false) (vb rfl c34) rfl) ?_
                        refine RQ.y rfl (Y.assign (v := .bool false) rfl) ?_
                        refine RQ.nil ?_
                        refine then_n ?_
                        refine wp_ret ?_
                        obtain rfl := Option.some.inj hm
                        exact (ret1 rfl rfl rfl ⟨rfl, T⟩)
                    · replace hm := cT c33 hm
                      refine RQ.y (wantT (dj := 105) rfl (vb rfl c33)) (Y.move (v := .bool (!y16)) rfl) ?_
                      refine RQ.y rfl (Y.pick (b := true) (v := .bool (!y16)) (vb rfl c33) rfl) ?_
                      refine RQ.y rfl (Y.assign (v := .bool (!y16)) rfl) ?_
                      refine RQ.nil ?_
                      refine blk_n (then_n ?_)
                      refine wp_seq ?_
                      refine wp_rs rfl ?_
                      refine RQ.y rfl (Y.move (v := .bool (d0.value == 0)) rfl) ?_
                      refine RQ.y rfl (Y.move (v := .bool (d0.value == 0)) rfl) ?_
                      rcases bcases (d0.value == 0) with c35 | c35
                      · replace hm := cF c35 hm
                        refine RQ.skip (wantN (dj := 114) rfl (vb rfl c35) rfl) ?_
                        refine RQ.y rfl (Y.pick (b := false) (v := .bool false) (vb rfl c35) rfl) ?_
                        refine RQ.y rfl (Y.assign (v := .bool false) rfl) ?_
                        refine RQ.nil ?_
                        refine then_n ?_
                        refine wp_ret ?_
                        obtain rfl := Option.some.inj hm
                        exact (ret1 rfl rfl rfl ⟨rfl, T⟩)
                      · replace hm := cT c35 hm
                        refine RQ.y (wantT (dj := 114) rfl (vb rfl c35)) (Y.move (v := .bool (!y16)) rfl) ?_
                        refine RQ.y rfl (Y.pick (b := true) (v := .bool (!y16)) (vb rfl c35) rfl) ?_
                        refine RQ.y rfl (Y.assign (v := .bool (!y16)) rfl) ?_
                        refine RQ.nil ?_
                        refine then_n ?_
                        refine wp_ret ?_
                        obtain rfl := Option.some.inj hm
                        exact (ret1 rfl rfl rfl ⟨rfl, T⟩)
                · replace hm := cT c24 hm
                  refine cond_t rfl (vb rfl c24) ?_
                  refine wp_rs rfl ?_
                  refine RQ.y rfl (Y.fieldAddr (off := 3) rfl (by kernel_rfl)) ?_
                  refine RQ.y rfl (Y.load (v := .slice A1 d0.data.length c1) rfl (by kernel_rfl) (eqC (blkCell B4 (i := 3) rfl))) ?_
                  refine RQ.y rfl (Y.len (by kernel_rfl) rfl) ?_
                  refine RQ.y rfl (Y.binI (v := .bool (decide ((d0.data.length : Int) ≥ 1))) rfl rfl rfl) ?_
                  refine RQ.y rfl (Y.move (v := .bool (decide ((d0.data.length : Int) ≥ 1))) rfl) ?_
                  rcases bcases (decide ((d0.data.length : Int) ≥ 1)) with c36 | c36
                  · replace hm := cF c36 hm
                    have pc36 := of_decide_eq_false c36
                    refine RQ.skip (wantN (dj := 90) rfl (vb rfl c36) rfl) ?_
                    refine RQ.skip (wantN (dj := 90) rfl (vb rfl c36) rfl) ?_
                    refine RQ.skip (wantN (dj := 90) rfl (vb rfl c36) rfl) ?_
                    refine RQ.skip (wantN (dj := 90) rfl (vb rfl c36) rfl) ?_
                    refine RQ.y rfl (Y.pick (b := false) (v := .bool false) (vb rfl c36) rfl) ?_
                    refine RQ.y rfl (Y.move (v := .bool false) rfl) ?_
                    refine RQ.skip (wantN (dj := 96) rfl rfl rfl) ?_
                    refine RQ.y rfl (Y.pick (b := false) (v := .bool false) rfl rfl) ?_
                    refine RQ.y rfl (Y.assign (v := .bool false) rfl) ?_
                    refine RQ.nil ?_
                    refine blk_n (then_n ?_)
                    refine wp_seq ?_
                    refine wp_rs rfl ?_
                    refine RQ.y rfl (Y.move (v := .bool (d0.value == 0)) rfl) ?_
                    refine RQ.y rfl (Y.move (v := .bool (d0.value == 0)) rfl) ?_
                    rcases bcases (d0.value == 0) with c37 | c37
                    · replace hm := cF c37 hm
                      refine RQ.skip (wantN (dj := 114) rfl (vb rfl c37) rfl) ?_
                      refine RQ.y rfl (Y.pick (b := false) (v := .bool false) (vb rfl c37) rfl) ?_
                      refine RQ.y rfl (Y.assign (v := .bool false) rfl) ?_
                      refine RQ.nil ?_
                      refine then_n ?_
                      refine wp_ret ?_
                      obtain rfl := Option.some.inj hm
                      exact (ret1 rfl rfl rfl ⟨rfl, T⟩)
                    · replace hm := cT c37 hm
                      refine RQ.y (wantT (dj := 114) rfl (vb rfl c37)) (Y.move (v := .bool false) rfl) ?_
                      refine RQ.y rfl (Y.pick (b := true) (v := .bool false) (vb rfl c37) rfl) ?_
                      refine RQ.y rfl (Y.assign (v := .bool false) rfl) ?_
                      refine RQ.nil ?_
                      refine then_n ?_
                      refine wp_ret ?_
                      obtain rfl := Option.some.inj hm
                      exact (ret1 rfl rfl rfl ⟨rfl, T⟩)
                  · replace hm := cT c36 hm
                    have pc36 := of_decide_eq_true c36
                    refine RQ.y (wantT (dj := 90) rfl (vb rfl c36)) (Y.fieldAddr (off := 3) rfl (by kernel_rfl)) ?_
                    refine RQ.y (wantT (dj := 90) rfl (vb rfl c36)) (Y.load (v := .slice A1 d0.data.length c1) rfl (by kernel_rfl) (eqC (blkCell B4 (i := 3) rfl))) ?_
                    refine RQ.y (wantT (dj := 90) rfl (vb rfl c36)) (Y.len (by kernel_rfl) rfl) ?_
                    refine RQ.y (wantT (dj := 90) rfl (vb rfl c36)) (Y.binI (v := .bool (decide ((d0.data.length : Int) ≤ 4))) rfl rfl rfl) ?_
                    refine RQ.y rfl (Y.pick (b := true) (v := .bool (decide ((d0.data.length : Int) ≤ 4))) (vb rfl c36) rfl) ?_
                    refine RQ.y rfl (Y.move (v := .bool (decide ((d0.data.length : Int) ≤ 4))) rfl) ?_
                    rcases bcases (decide ((d0.data.length : Int) ≤ 4)) with c38 | c38
                    · replace hm := cF c38 hm
                      have pc38 := of_decide_eq_false c38
                      refine RQ.skip (wantN (dj := 96) rfl (vb rfl c38) rfl) ?_
                      refine RQ.y rfl (Y.pick (b := false) (v := .bool false) (vb rfl c38) rfl) ?_
                      refine RQ.y rfl (Y.assign (v := .bool false) rfl) ?_
                      refine RQ.nil ?_
                      refine blk_n (then_n ?_)
                      refine wp_seq ?_
                      refine wp_rs rfl ?_
                      refine RQ.y rfl (Y.move (v := .bool (d0.value == 0)) rfl) ?_
                      refine RQ.y rfl (Y.move (v := .bool (d0.value == 0)) rfl) ?_
                      rcases bcases (d0.value == 0) with c39 | c39
                      · replace hm := cF c39 hm
                        refine RQ.skip (wantN (dj := 114) rfl (vb rfl c39) rfl) ?_
                        refine RQ.y rfl (Y.pick (b := false) (v := .bool false) (vb rfl c39) rfl) ?_
                        refine RQ.y rfl (Y.assign (v := .bool false) rfl) ?_
                        refine RQ.nil ?_
                        refine then_n ?_
                        refine wp_ret ?_
                        obtain rfl := Option.some.inj hm
                        exact (ret1 rfl rfl rfl ⟨rfl, T⟩)
                      · replace hm := cT c39 hm
                        refine RQ.y (wantT (dj := 114) rfl (vb rfl c39)) (Y.move (v := .bool false) rfl) ?_
                        refine RQ.y rfl (Y.pick (b := true) (v := .bool false) (vb rfl c39) rfl) ?_
                        refine RQ.y rfl (Y.assign (v := .bool false) rfl) ?_
                        refine RQ.nil ?_
                        refine then_n ?_
                        refine wp_ret ?_
                        obtain rfl := Option.some.inj hm
                        exact (ret1 rfl rfl rfl ⟨rfl, T⟩)
                    · replace hm := cT c38 hm
                      have pc38 := of_decide_eq_true c38
                      refine RQ.y (wantT (dj := 96) rfl (vb rfl c38)) (Y.move (v := .bool (!y16)) rfl) ?_
                      refine RQ.y rfl (Y.pick (b := true) (v := .bool (!y16)) (vb rfl c38) rfl) ?_
                      refine RQ.y rfl (Y.assign (v := .bool (!y16)) rfl) ?_
                      refine RQ.nil ?_
                      refine blk_n (then_n ?_)
                      refine wp_seq ?_
                      refine wp_rs rfl ?_
                      refine RQ.y rfl (Y.move (v := .bool (d0.value == 0)) rfl) ?_
                      refine RQ.y rfl (Y.move (v := .bool (d0.value == 0)) rfl) ?_
                      rcases bcases (d0.value == 0) with c40 | c40
                      · replace hm := cF c40 hm
                        refine RQ.skip (wantN (dj := 114) rfl (vb rfl c40) rfl) ?_
                        refine RQ.y rfl (Y.pick (b := false) (v := .bool false) (vb rfl c40) rfl) ?_
                        refine RQ.y rfl (Y.assign (v := .bool false) rfl) ?_
                        refine RQ.nil ?_
                        refine then_n ?_
                        refine wp_ret ?_
                        obtain rfl := Option.some.inj hm
                        exact (ret1 rfl rfl rfl ⟨rfl, T⟩)
                      · replace hm := cT c40 hm
                        refine RQ.y (wantT (dj := 114) rfl (vb rfl c40)) (Y.move (v := .bool (!y16)) rfl) ?_
                        refine RQ.y rfl (Y.pick (b := true) (v := .bool (!y16)) (vb rfl c40) rfl) ?_
                        refine RQ.y rfl (Y.assign (v := .bool (!y16)) rfl) ?_
                        refine RQ.nil ?_
                        refine then_n ?_
                        refine wp_ret ?_
                        obtain rfl := Option.some.inj hm
                        exact (ret1 rfl rfl rfl ⟨rfl, T⟩)
              · replace hm := cT c23 hm
                refine cond_t rfl (vb rfl c23) ?_
                refine wp_rs rfl ?_
                refine RQ.y rfl (Y.fieldAddr (off := 2) rfl (by kernel_rfl)) ?_
                refine RQ.y rfl (Y.load (v := .int .i64 d0.value) rfl (by kernel_rfl) (eqC (blkCell B4 (i := 2) rfl))) ?_
                refine RQ.y rfl (Y.binI (v := .bool (decide (d0.value ≥ 0))) rfl rfl rfl) ?_
                refine RQ.y rfl (Y.move (v := .bool (decide (d0.value ≥ 0))) rfl) ?_
                rcases bcases (decide (d0.value ≥ 0)) with c41 | c41
                · replace hm := cF c41 hm
                  have pc41 := of_decide_eq_false c41
                  refine RQ.skip (wantN (dj := 79) rfl (vb rfl c41) rfl) ?_
                  refine RQ.skip (wantN (dj := 79) rfl (vb rfl c41) rfl) ?_
                  refine RQ.skip (wantN (dj := 79) rfl (vb rfl c41) rfl) ?_
                  refine RQ.y rfl (Y.pick (b := false) (v := .bool false) (vb rfl c41) rfl) ?_
                  refine RQ.y rfl (Y.assign (v := .bool false) rfl) ?_
                  refine RQ.nil ?_
                  refine blk_n (then_n ?_)
                  refine wp_seq ?_
                  refine wp_rs rfl ?_
                  refine RQ.y rfl (Y.move (v := .bool false) rfl) ?_
                  refine RQ.y rfl (Y.move (v := .bool false) rfl) ?_
                  refine RQ.skip (wantN (dj := 114) rfl rfl rfl) ?_
                  refine RQ.y rfl (Y.pick (b := false) (v := .bool false) rfl rfl) ?_
                  refine RQ.y rfl (Y.assign (v := .bool false) rfl) ?_
                  refine RQ.nil ?_
                  refine then_n ?_
                  refine wp_ret ?_
                  obtain rfl := Option.some.inj hm
                  exact (ret1 rfl rfl rfl ⟨rfl, T⟩)
                · replace hm := cT c41 hm
                  have pc41 := of_decide_eq_true c41
                  refine RQ.y (wantT (dj := 79) rfl (vb rfl c41)) (Y.fieldAddr (off := 2) rfl (by kernel_rfl)) ?_
                  refine RQ.y (wantT (dj := 79) rfl (vb rfl c41)) (Y.load (v := .int .i64 d0.value) rfl (by kernel_rfl) (eqC (blkCell B4 (i := 2) rfl))) ?_
                  refine RQ.y (wantT (dj := 79) rfl (vb rfl c41)) (Y.binI (v := .bool (decide (d0.value < 4))) rfl rfl rfl) ?_
                  refine RQ.y rfl (Y.pick (b := true) (v := .bool (decide (d0.value < 4))) (vb rfl c41) rfl) ?_
                  refine RQ.y rfl (Y.assign (v := .bool (decide (d0.value < 4))) rfl) ?_
                  refine RQ.nil ?_
                  refine blk_n (then_n ?_)
                  refine wp_seq ?_
                  refine wp_rs rfl ?_
                  refine RQ.y rfl (Y.move (v := .bool (decide (d0.value < 4))) rfl) ?_
                  refine RQ.y rfl (Y.move (v := .bool (decide (d0.value < 4))) rfl) ?_
                  rcases bcases (decide (d0.value < 4)) with c42 | c42
                  · replace hm := cF c42 hm
                    have pc42 := of_decide_eq_false c42
                    refine RQ.skip (wantN (dj := 114) rfl (vb rfl c42) rfl) ?_
                    refine RQ.y rfl (Y.pick (b := false) (v := .bool false) (vb rfl c42) rfl) ?_
                    refine RQ.y rfl (Y.assign (v := .bool false) rfl) ?_
                    refine RQ.nil ?_
                    refine then_n ?_
                    refine wp_ret ?_
                    obtain rfl := Option.some.inj hm
                    exact (ret1 rfl rfl rfl ⟨rfl, T⟩)
                  · replace hm := cT c42 hm
                    have pc42 := of_decide_eq_true c42
                    refine RQ.y (wantT (dj := 114) rfl (vb rfl c42)) (Y.move (v := .bool ((d0.data.length : Int) == 0)) rfl) ?_
                    refine RQ.y rfl (Y.pick (b := true) (v := .bool ((d0.data.length : Int) == 0)) (vb rfl c42) rfl) ?_
                    refine RQ.y rfl (Y.assign (v := .bool ((d0.data.length : Int) == 0)) rfl) ?_
                    refine RQ.nil ?_
                    refine then_n ?_
                    refine wp_ret ?_
                    obtain rfl := Option.some.inj hm
                    exact (ret1 rfl rfl rfl ⟨rfl, T⟩)
            · replace hm := cT c22 hm
              refine cond_t rfl (vb rfl c22) ?_
              refine wp_seq ?_
              refine wp_rb rfl ?_
              refine RQ.y rfl (Y.fieldAddr (off := 2) rfl (by kernel_rfl)) ?_
              refine RQ.y rfl (Y.load (v := .int .i64 d0.value) rfl (by kernel_rfl) (beC (blkCell B4 (i := 2) rfl))) ?_
              obtain ⟨y43, e44, hm⟩ := bnd hm
              refine RQ.call rfl (am1 rfl) (by kernel_rfl) (v := .bool y43) (bel (K := fun _ => True) fun w' hb' => (c_m_impl_isOperator d0.value _ e44  w' )) ?_
              refine RQ.y rfl (Y.move (v := .bool y43) rfl) ?_
              rcases bcases y43 with c45 | c45
              · replace hm := cF c45 hm
                refine RQ.skip (wantN (dj := 61) rfl (vb rfl c45) rfl) ?_
                refine RQ.skip (wantN (dj := 61) rfl (vb rfl c45) rfl) ?_
                refine RQ.skip (wantN (dj := 61) rfl (vb rfl c45) rfl) ?_
                refine RQ.skip (wantN (dj := 61) rfl (vb rfl c45) rfl) ?_
                refine RQ.y rfl (Y.pick (b := false) (v := .bool false) (vb rfl c45) rfl) ?_
                refine RQ.y rfl (Y.move (v := .bool false) rfl) ?_
                refine RQ.skip (wantN (dj := 67) rfl rfl rfl) ?_
                refine RQ.skip (wantN (dj := 67) rfl rfl rfl) ?_
                refine RQ.skip (wantN (dj := 67) rfl rfl rfl) ?_
                refine RQ.skip (wantN (dj := 67) rfl rfl rfl) ?_
                refine RQ.skip (wantN (dj := 67) rfl rfl rfl) ?_
                refine RQ.y rfl (Y.pick (b := false) (v := .bool false) rfl rfl) ?_
                refine RQ.y rfl (Y.assign (v := .bool false) rfl) ?_
                refine RQ.nil ?_
                intro w46 hb47
                have szw46 := hb47.size
                have T := Tt T hb47
                refine then_n ?_
                refine wp_ret ?_
                obtain rfl := Option.some.inj hm
                exact (blk_r (then_r (ret1 rfl rfl rfl ⟨rfl, T⟩)))
              · replace hm := cT c45 hm
                refine RQ.y (wantT (dj := 61) rfl (vb rfl c45)) (Y.fieldAddr (off := 3) rfl (by kernel_rfl)) ?_
                refine RQ.y (wantT (dj := 61) rfl (vb rfl c45)) (Y.load (v := .slice A1 d0.data.length c1) rfl (by kernel_rfl) (beC (blkCell B4 (i := 3) rfl))) ?_
                refine RQ.y (wantT (dj := 61) rfl (vb rfl c45)) (Y.len (by kernel_rfl) rfl) ?_
                refine RQ.y (wantT (dj := 61) rfl (vb rfl c45)) (Y.binI (v := .bool ((d0.data.length : Int) == 1)) rfl rfl rfl) ?_
                refine RQ.y rfl (Y.pick (b := true) (v := .bool ((d0.data.length : Int) == 1)) (vb rfl c45) rfl) ?_
                refine RQ.y rfl (Y.move (v := .bool ((d0.data.length : Int) == 1)) rfl) ?_
                rcases bcases ((d0.data.length : Int) == 1) with c48 | c48
                · replace hm := cF c48 hm
                  refine RQ.skip (wantN (dj := 67) rfl (vb rfl c48) rfl) ?_
                  refine RQ.skip (wantN (dj := 67) rfl (vb rfl c48) rfl) ?_
                  refine RQ.skip (wantN (dj := 67) rfl (vb rfl c48) rfl) ?_
                  refine RQ.skip (wantN (dj := 67) rfl (vb rfl c48) rfl) ?_
                  refine RQ.skip (wantN (dj := 67) rfl (vb rfl c48) rfl) ?_
                  refine RQ.y rfl (Y.pick (b := false) (v := .bool false) (vb rfl c48) rfl) ?_
                  refine RQ.y rfl (Y.assign (v := .bool false) rfl) ?_
                  refine RQ.nil ?_
                  intro w49 hb50
                  have szw49 := hb50.size
                  have T := Tt T hb50
                  refine then_n ?_
                  refine wp_ret ?_
                  obtain rfl := Option.some.inj hm
                  exact (blk_r (then_r (ret1 rfl rfl rfl ⟨rfl, T⟩)))
                · replace hm := cT c48 hm
                  refine RQ.y (wantT (dj := 67) rfl (vb rfl c48)) (Y.fieldAddr (off := 3) rfl (by kernel_rfl)) ?_
                  refine RQ.y (wantT (dj := 67) rfl (vb rfl c48)) (Y.load (v := .slice A1 d0.data.length c1) rfl (by kernel_rfl) (beC (blkCell B4 (i := 3) rfl))) ?_
                  obtain ⟨x51, hx54, hm⟩ := bnd hm
                  obtain ⟨k52, hk55, hl56, hx54⟩ := getI_some hx54
                  obtain ⟨b58, o59, rfl, hbb58⟩ := h1.addr (by omega)
                  obtain ⟨cs53, hRcs53, hc57⟩ := h1.el hx54
                  have hScs53 := hRcs53
                  obtain rfl := hRcs53
                  refine RQ.y (wantT (dj := 67) rfl (vb rfl c48)) (Y.indexAddr (m := k52) (sz := 1) rfl rfl hk55 hl56 (by kernel_rfl)) ?_
                  refine RQ.y (wantT (dj := 67) rfl (vb rfl c48)) (Y.load (v := .int .i64 x51) rfl (by kernel_rfl) (beC (cellT T (hc57 0 _ rfl)))) ?_
                  obtain ⟨y60, e61, hm⟩ := bnd hm
                  refine RQ.call (wantT (dj := 67) rfl (vb rfl c48)) (am1 rfl) (by kernel_rfl) (v := .bool y60) (bel (K := fun _ => True) fun w' hb' => (c_m_impl_isInt x51 _ e61  w' )) ?_
                  refine RQ.y rfl (Y.pick (b := true) (v := .bool y60) (vb rfl c48) rfl) ?_
                  refine RQ.y rfl (Y.assign (v := .bool y60) rfl) ?_
                  refine RQ.nil ?_
                  intro w62 hb63
                  have szw62 := hb63.size
                  have T := Tt T hb63
                  refine then_n ?_
                  refine wp_ret ?_
                  obtain rfl := Option.some.inj hm
                  exact (blk_r (then_r (ret1 rfl rfl rfl ⟨rfl, T⟩)))
          · replace hm := cT c21 hm
            refine cond_t rfl (vb rfl c21) ?_
            refine wp_rb rfl ?_
            refine RQ.y rfl (Y.fieldAddr (off := 2) rfl (by kernel_rfl)) ?_
            refine RQ.y rfl (Y.load (v := .int .i64 d0.value) rfl (by kernel_rfl) (beC (blkCell B4 (i := 2) rfl))) ?_
            obtain ⟨y64, e65, hm⟩ := bnd hm
            refine RQ.call rfl (am1 rfl) (by kernel_rfl) (v := .bool y64) (bel (K := fun _ => True) fun w' hb' => (c_m_impl_isOperator d0.value _ e65  w' )) ?_
            refine RQ.y rfl (Y.assign (v := .bool y64) rfl) ?_
            refine RQ.nil ?_
            intro w66 hb67
            have szw66 := hb67.size
            have T := Tt T hb67
            refine blk_n (then_n ?_)
            refine wp_seq ?_
            refine wp_rs rfl ?_
            refine RQ.y rfl (Y.move (v := .bool y64) rfl) ?_
            refine RQ.y rfl (Y.move (v := .bool y64) rfl) ?_
            rcases bcases y64 with c68 | c68
            · replace hm := cF c68 hm
              refine RQ.skip (wantN (dj := 114) rfl (vb rfl c68) rfl) ?_
              refine RQ.y rfl (Y.pick (b := false) (v := .bool false) (vb rfl c68) rfl) ?_
              refine RQ.y rfl (Y.assign (v := .bool false) rfl) ?_
              refine RQ.nil ?_
              refine then_n ?_
              refine wp_ret ?_
              obtain rfl := Option.some.inj hm
              exact (ret1 rfl rfl rfl ⟨rfl, T⟩)
            · replace hm := cT c68 hm
              refine RQ.y (wantT (dj := 114) rfl (vb rfl c68)) (Y.move (v := .bool ((d0.data.length : Int) == 0)) rfl) ?_
              refine RQ.y rfl (Y.pick (b := true) (v := .bool ((d0.data.length : Int) == 0)) (vb rfl c68) rfl) ?_
              refine RQ.y rfl (Y.assign (v := .bool ((d0.data.length : Int) == 0)) rfl) ?_
              refine RQ.nil ?_
              refine then_n ?_
              refine wp_ret ?_
              obtain rfl := Option.some.inj hm
              exact (ret1 rfl rfl rfl ⟨rfl, T⟩)
        · replace hm := cT c20 hm
          refine cond_t rfl (vb rfl c20) ?_
          refine wp_rb rfl ?_
          refine RQ.y rfl (Y.fieldAddr (off := 2) rfl (by kernel_rfl)) ?_
          refine RQ.y rfl (Y.load (v := .int .i64 d0.value) rfl (by kernel_rfl) (beC (blkCell B4 (i := 2) rfl))) ?_
          obtain ⟨y69, e70, hm⟩ := bnd hm
          refine RQ.call rfl (am1 rfl) (by kernel_rfl) (v := .bool y69) (bel (K := fun _ => True) fun w' hb' => (c_m_impl_isInt d0.value _ e70  w' )) ?_
          refine RQ.y rfl (Y.assign (v := .bool y69) rfl) ?_
          refine RQ.nil ?_
          intro w71 hb72
          have szw71 := hb72.size
          have T := Tt T hb72
          refine blk_n (then_n ?_)
          refine wp_seq ?_
          refine wp_rs rfl ?_
          refine RQ.y rfl (Y.move (v := .bool y69) rfl) ?_
          refine RQ.y rfl (Y.move (v := .bool y69) rfl) ?_
          rcases bcases y69 with c73 | c73
          · replace hm := cF c73 hm
            refine RQ.skip (wantN (dj := 114) rfl (vb rfl c73) rfl) ?_
            refine RQ.y rfl (Y.pick (b := false) (v := .bool false) (vb rfl c73) rfl) ?_
            refine RQ.y rfl (Y.assign (v := .bool false) rfl) ?_
            refine RQ.nil ?_
            refine then_n ?_
            refine wp_ret ?_
            obtain rfl := Option.some.inj hm
            exact (ret1 rfl rfl rfl ⟨rfl, T⟩)
          · replace hm := cT c73 hm
            refine RQ.y (wantT (dj := 114) rfl (vb rfl c73)) (Y.move (v := .bool ((d0.data.length : Int) == 0)) rfl) ?_
            refine RQ.y rfl (Y.pick (b := true) (v := .bool ((d0.data.length : Int) == 0)) (vb rfl c73) rfl) ?_
            refine RQ.y rfl (Y.assign (v := .bool ((d0.data.length : Int) == 0)) rfl) ?_
            refine RQ.nil ?_
            refine then_n ?_
            refine wp_ret ?_
            obtain rfl := Option.some.inj hm
            exact (ret1 rfl rfl rfl ⟨rfl, T⟩)
    · replace hm := cT c10 hm
      refine RQ.skip (wantN (dj := 25) rfl (vb rfl c10) rfl) ?_
      refine RQ.skip (wantN (dj := 25) rfl (vb rfl c10) rfl) ?_
      refine RQ.skip (wantN (dj := 25) rfl (vb rfl c10) rfl) ?_
      refine RQ.skip (wantN (dj := 25) rfl (vb rfl c10) rfl) ?_
      refine RQ.skip (wantN (dj := 25) rfl (vb rfl c10) rfl) ?_
      refine RQ.skip (wantN (dj := 25) rfl (vb rfl c10) rfl) ?_
      refine RQ.y rfl (Y.pick (b := true) (v := .bool true) (vb rfl c10) rfl) ?_
      refine RQ.nil ?_
      intro w74 hb75
      have szw74 := hb75.size
      have B4 := blkT B4 hb75
      have T := Tt T hb75
      refine then_n ?_
      refine cond_t rfl rfl ?_
      refine wp_seq ?_
      refine wp_rs rfl ?_
      refine RQ.y rfl (Y.assign (v := .bool false) rfl) ?_
      refine RQ.nil ?_
      refine then_n ?_
      refine wp_ret ?_
      obtain rfl := Option.some.inj hm
      exact (then_r (ret1 rfl rfl rfl ⟨rfl, T⟩))
  · replace hm := cT c7 hm
    refine RQ.skip (wantN (dj := 10) rfl (vb rfl c7) rfl) ?_
    refine RQ.skip (wantN (dj := 10) rfl (vb rfl c7) rfl) ?_
    refine RQ.skip (wantN (dj := 10) rfl (vb rfl c7) rfl) ?_
    refine RQ.skip (wantN (dj := 10) rfl (vb rfl c7) rfl) ?_
    refine RQ.skip (wantN (dj := 10) rfl (vb rfl c7) rfl) ?_
    refine RQ.skip (wantN (dj := 10) rfl (vb rfl c7) rfl) ?_
    refine RQ.skip (wantN (dj := 10) rfl (vb rfl c7) rfl) ?_
    refine RQ.skip (wantN (dj := 10) rfl (vb rfl c7) rfl) ?_
    refine RQ.skip (wantN (dj := 10) rfl (vb rfl c7) rfl) ?_
    refine RQ.skip (wantN (dj := 10) rfl (vb rfl c7) rfl) ?_
    refine RQ.skip (wantN (dj := 10) rfl (vb rfl c7) rfl) ?_
    refine RQ.skip (wantN (dj := 10) rfl (vb rfl c7) rfl) ?_
    refine RQ.skip (wantN (dj := 10) rfl (vb rfl c7) rfl) ?_
    refine RQ.y rfl (Y.pick (b := true) (v := .bool true) (vb rfl c7) rfl) ?_
    refine RQ.y rfl (Y.move (v := .bool true) rfl) ?_
    refine RQ.skip (wantN (dj := 25) rfl rfl rfl) ?_
    refine RQ.skip (wantN (dj := 25) rfl rfl rfl) ?_
    refine RQ.skip (wantN (dj := 25) rfl rfl rfl) ?_
    refine RQ.skip (wantN (dj := 25) rfl rfl rfl) ?_
    refine RQ.skip (wantN (dj := 25) rfl rfl rfl) ?_
    refine RQ.skip (wantN (dj := 25) rfl rfl rfl) ?_
    refine RQ.y rfl (Y.pick (b := true) (v := .bool true) rfl rfl) ?_
    refine RQ.nil ?_
    intro w76 hb77
    have szw76 := hb77.size
    have B4 := blkT B4 hb77
    have T := Tt T hb77
    refine then_n ?_
    refine cond_t rfl rfl ?_
    refine wp_seq ?_
    refine wp_rs rfl ?_
    refine RQ.y rfl (Y.assign (v := .bool false) rfl) ?_
    refine RQ.nil ?_
    refine then_n ?_
    refine wp_ret ?_
    obtain rfl := Option.some.inj hm
    exact (then_r (ret1 rfl rfl rfl ⟨rfl, T⟩))
def m_impl_areAgents_A1 : Option Bool :=
  some true
def m_impl_areAgents_B1 (d0 : List DAgent) (rec1 : Int → Option Bool) (K1 : Option Bool) (i4 : Int) : Option Bool :=
  (bif (decide (i4 < (d0.length : Int))) then ((getI d0 i4).bind fun x7 => ((m_impl_wellFormed x7).bind fun y25 => (bif y25 then (bif ((x7.kind == 1) != (i4 == 0)) then some false else (rec1 (i4 + 1))) else some false))) else (K1))
def m_impl_areAgents_L1 (d0 : List DAgent) (K1 : Option Bool) : Nat → Int → Option Bool
  | 0, _ => none
  | g + 1, i4 => m_impl_areAgents_B1 d0 (m_impl_areAgents_L1 d0 K1 g) K1 i4
def m_impl_areAgents (d0 : List DAgent) : Option Bool :=
  (bif (decide ((d0.length : Int) < 1)) then some false else (bif (decide ((d0.length : Int) > 600)) then some false else (m_impl_areAgents_L1 d0 m_impl_areAgents_A1 (d0.length + 1) 0)))
set_option maxHeartbeats 2000000 in
theorem c_m_impl_areAgents (d0 : List DAgent) (r : Bool) (hm : m_impl_areAgents d0 = some r) (v0 : Value) (w : World) (hv0 : Sl agentRd 5 w v0 d0) :
    Calls Try.prog 79 #[v0] w fun e w' => e = .returned (.bool r) ∧ Below w.heap.size w w' := by
  obtain ⟨Aa0, na0, ca0, rfl, ha0, ra0⟩ := hv0
  have ea0 := ha0.len; subst ea0
  have qa0 := len_le ra0
  have T := Below.refl w.heap.size w
  unfold m_impl_areAgents at hm
  refine enter 32 Try.func79 rfl rfl rfl ?_
  intro f hf
  have s0 : f 0 = .slice Aa0 d0.length ca0 := hf 0 _ rfl
  refine wp_seq ?_
  refine wp_rs rfl ?_
  refine RQ.y rfl (Y.assign (v := .bool false) rfl) ?_
  refine RQ.nil ?_
  refine then_n ?_
  refine wp_seq ?_
  refine wp_seq ?_
  refine wp_rs rfl ?_
  refine RQ.y rfl (Y.move (v := .slice Aa0 d0.length ca0) s0) ?_
  refine RQ.y rfl (Y.len (by kernel_rfl) rfl) ?_
  refine RQ.y rfl (Y.binI (v := .bool (decide ((d0.length : Int) < 1))) rfl rfl rfl) ?_
  refine RQ.y rfl (Y.move (v := .bool (decide ((d0.length : Int) < 1))) rfl) ?_
  rcases bcases (decide ((d0.length : Int) < 1)) with c1 | c1
  · replace hm := cF c1 hm
    have pc1 := of_decide_eq_false c1
    refine RQ.y (wantT (dj := 8) rfl (vb rfl c1)) (Y.move (v := .slice Aa0 d0.length ca0) s0) ?_
    refine RQ.y (wantT (dj := 8) rfl (vb rfl c1)) (Y.len (by kernel_rfl) rfl) ?_
    refine RQ.y (wantT (dj := 8) rfl (vb rfl c1)) (Y.binI (v := .bool (decide ((d0.length : Int) > 600))) rfl rfl rfl) ?_
    refine RQ.y rfl (Y.pick (b := false) (v := .bool (decide ((d0.length : Int) > 600))) (vb rfl c1) rfl) ?_
    refine RQ.nil ?_
    refine then_n ?_
    rcases bcases (decide ((d0.length : Int) > 600)) with c2 | c2
    · replace hm := cF c2 hm
      have pc2 := of_decide_eq_false c2
      refine cond_f rfl (vb rfl c2) ?_
      refine wp_skip ?_
      refine then_n ?_
      refine wp_seq ?_
      refine wp_seq ?_
      refine wp_rs rfl ?_
      refine RQ.y rfl (Y.move (v := .slice Aa0 d0.length ca0) s0) ?_
      refine RQ.y rfl (Y.len (by kernel_rfl) rfl) ?_
      refine RQ.y rfl (Y.move (v := .int .i64 0) rfl) ?_
      refine RQ.nil ?_
      refine then_n ?_
      refine wp_block ?_
      obtain ⟨K1, hK1, hm⟩ : ∃ K, K = m_impl_areAgents_A1 ∧ m_impl_areAgents_L1 d0 K (d0.length + 1) 0 = some r := ⟨_, rfl, hm⟩
      refine wp_loopX (fun g f w' => ∃ (i4 : Int), f 13 = .slice Aa0 d0.length ca0 ∧ f 14 = .int .i64 (d0.length : Int) ∧ f 15 = .int .i64 i4 ∧ 0 ≤ i4 ∧ Below w.heap.size w w' ∧ m_impl_areAgents_L1 d0 K1 g i4 = some r) 0 (fun f w' => Below w.heap.size w w' ∧ m_impl_areAgents_A1  = some r) (d0.length + 1) ⟨0, rfl, rfl, rfl, (by omega), T, hm⟩ ?_ ?_
      · rintro f w3 ⟨T, hm⟩
        unfold m_impl_areAgents_A1 at hm
        refine blk_hit (then_n ?_)
        refine wp_seq ?_
        refine wp_rs rfl ?_
        refine RQ.y rfl (Y.assign (v := .bool true) rfl) ?_
        refine RQ.nil ?_
        refine then_n ?_
        refine wp_ret ?_
        obtain rfl := Option.some.inj hm
        exact (ret1 rfl rfl rfl ⟨rfl, T⟩)
      · rintro g f w5 ⟨i4, s13_1, s14_1, s15_1, nn15_1, T, hm⟩
        rcases g with _ | g
        · simp only [m_impl_areAgents_L1] at hm; cases hm
        obtain ⟨rec1, hrec1, hm⟩ : ∃ z, z = m_impl_areAgents_L1 d0 K1 g ∧ m_impl_areAgents_B1 d0 z K1 i4 = some r := ⟨_, rfl, hm⟩
        unfold m_impl_areAgents_B1 at hm
        refine wp_seq ?_
        refine wp_rs rfl ?_
        refine RQ.y rfl (Y.binI (v := .bool (decide (i4 < (d0.length : Int)))) s15_1 s14_1 rfl) ?_
        refine RQ.nil ?_
        refine then_n ?_
        refine wp_seq ?_
        rcases bcases (decide (i4 < (d0.length : Int))) with c6 | c6
        · replace hm := cF c6 hm
          have pc6 := of_decide_eq_false c6
          refine cond_f rfl (vb rfl c6) ?_
          refine wp_exit ?_
          exact (then_x (then_x (hit_x ⟨_, rfl, ⟨T, (by rw [hK1] at hm; exact hm)⟩⟩)))
        · replace hm := cT c6 hm
          have pc6 := of_decide_eq_true c6
          refine cond_t rfl (vb rfl c6) ?_
          refine wp_skip ?_
          refine then_n ?_
          refine wp_seq ?_
          refine wp_block ?_
          refine wp_seq ?_
          refine wp_rl rfl ?_
          refine RL.y rfl (Y.move (v := .int .i64 i4) s15_1) ?_
          obtain ⟨x7, hx10, hm⟩ := bnd hm
          obtain ⟨k8, hk11, hl12, hx10⟩ := getI_some hx10
          obtain ⟨b14, o15, rfl, hbb14⟩ := ha0.addr (by omega)
          obtain ⟨cs9, hRcs9, hc13⟩ := ha0.el hx10
          have hScs9 := hRcs9
          obtain ⟨A16, n16, c16, A17, n17, c17, rfl, ⟨h16, r16⟩, ⟨h17, r17⟩⟩ := hRcs9
          have e16 := h16.len; subst e16
          have q16 := len_le r16
          have e17 := h17.len; subst e17
          have q17 := len_le r17
          refine RL.y rfl (Y.indexAddr (m := k8) (sz := 5) s13_1 s15_1 hk11 hl12 (by kernel_rfl)) ?_
          refine RL.y rfl (Y.loadN (cs := [.int .i64 x7.kind, .int .i64 x7.level, .int .i64 x7.value, .slice A16 x7.data.length c16, .slice A17 x7.ports.length c17]) rfl (by kernel_rfl) (cells5 (eqC (cellT T (hc13 0 _ rfl))) (eqC (cellT T (hc13 1 _ rfl))) (eqC (cellT T (hc13 2 _ rfl))) (eqC (cellT T (hc13 3 _ rfl))) (eqC (cellT T (hc13 4 _ rfl))))) ?_
          refine RL.alloc (z := .agg #[.int .i64 0, .int .i64 0, .int .i64 0, .slice none 0 0, .slice none 0 0]) rfl (by kernel_rfl) (fun w18 B19 hb20 szw18 => ?_)
          replace B19 : Blk w18 w5.heap.size 122 #[.int .i64 0, .int .i64 0, .int .i64 0, .slice none 0 0, .slice none 0 0] := B19
          have GB19 : w.heap.size ≤ w5.heap.size := T.size
          have T := Tt T hb20
          refine RL.y rfl (Y.assign (v := .int .i64 i4) rfl) ?_
          refine RL.store (v := .agg #[.int .i64 x7.kind, .int .i64 x7.level, .int .i64 x7.value, .slice A16 x7.data.length c16, .slice A17 x7.ports.length c17]) (cs' := #[.int .i64 x7.kind, .int .i64 x7.level, .int .i64 x7.value, .slice A16 x7.data.length c16, .slice A17 x7.ports.length c17]) rfl rfl rfl B19 (by kernel_rfl) (by rfl) (by rfl) (by rfl) (fun w22 B23 ho24 => ?_)
          have szw22 := ho24.size
          have T := T.trans (ho24.below (by simp; omega))
          refine RL.nil ?_
          refine then_n ?_
          refine wp_seq ?_
          refine wp_rb rfl ?_
          refine RQ.y rfl (Y.loadN (cs := [.int .i64 x7.kind, .int .i64 x7.level, .int .i64 x7.value, .slice A16 x7.data.length c16, .slice A17 x7.ports.length c17]) rfl (by kernel_rfl) (cells5 (beC (blkCell B23 (i := 0) rfl)) (beC (blkCell B23 (i := 1) rfl)) (beC (blkCell B23 (i := 2) rfl)) (beC (blkCell B23 (i := 3) rfl)) (beC (blkCell B23 (i := 4) rfl)))) ?_
          obtain ⟨y25, e26, hm⟩ := bnd hm
          refine RQ.call rfl (am1 rfl) (by kernel_rfl) (v := .bool y25) (bel (K := fun _ => True) fun w' hb' => (c_m_impl_wellFormed x7 _ e26 _ w' (stArg (R := agentRd) ⟨_, _, _, _, _, _, rfl, ⟨SlAt.now intRd_ok h16 (Nat.le_refl _) (Tt T hb'), r16⟩, ⟨SlAt.now portRd_ok h17 (Nat.le_refl _) (Tt T hb'), r17⟩⟩))) ?_
          refine RQ.y rfl (Y.not (b' := (!y25)) rfl rfl) ?_
          refine RQ.y rfl (Y.move (v := .bool (!y25)) rfl) ?_
          rcases bcases y25 with c27 | c27
          · replace hm := cF c27 hm
            refine RQ.skip (wantN (dj := 23) rfl (vbn rfl c27 rfl) rfl) ?_
            refine RQ.skip (wantN (dj := 23) rfl (vbn rfl c27 rfl) rfl) ?_
            refine RQ.skip (wantN (dj := 23) rfl (vbn rfl c27 rfl) rfl) ?_
            refine RQ.skip (wantN (dj := 23) rfl (vbn rfl c27 rfl) rfl) ?_
            refine RQ.skip (wantN (dj := 23) rfl (vbn rfl c27 rfl) rfl) ?_
            refine RQ.skip (wantN (dj := 23) rfl (vbn rfl c27 rfl) rfl) ?_
            refine RQ.y rfl (Y.pick (b := true) (v := .bool true) (vbn rfl c27 rfl) rfl) ?_
            refine RQ.nil ?_
            intro w28 hb29
            have szw28 := hb29.size
            have T := Tt T hb29
            refine then_n ?_
            refine cond_t rfl rfl ?_
            refine wp_seq ?_
            refine wp_rs rfl ?_
            refine RQ.y rfl (Y.assign (v := .bool false) rfl) ?_
            refine RQ.nil ?_
            refine then_n ?_
            refine wp_ret ?_
            obtain rfl := Option.some.inj hm
            exact (blk_r (then_r (then_r (hit_r (blk_r (then_r (ret1 rfl rfl rfl ⟨rfl, T⟩)))))))
          · replace hm := cT c27 hm
            refine RQ.y (wantT (dj := 23) rfl (vbn rfl c27 rfl)) (Y.fieldAddr (off := 0) rfl (by kernel_rfl)) ?_
            refine RQ.y (wantT (dj := 23) rfl (vbn rfl c27 rfl)) (Y.load (v := .int .i64 x7.kind) rfl (by kernel_rfl) (beC (blkCell B23 (i := 0) rfl))) ?_
            refine RQ.y (wantT (dj := 23) rfl (vbn rfl c27 rfl)) (Y.binI (v := .bool (x7.kind == 1)) rfl rfl rfl) ?_
            refine RQ.y (wantT (dj := 23) rfl (vbn rfl c27 rfl)) (Y.move (v := .int .i64 i4) rfl) ?_
            refine RQ.y (wantT (dj := 23) rfl (vbn rfl c27 rfl)) (Y.binI (v := .bool (i4 == 0)) rfl rfl rfl) ?_
            refine RQ.y (wantT (dj := 23) rfl (vbn rfl c27 rfl)) (Y.beq (c := ((x7.kind == 1) != (i4 == 0))) (by kernel_rfl) rfl rfl (.inr ⟨rfl, rfl⟩)) ?_
            refine RQ.y rfl (Y.pick (b := false) (v := .bool ((x7.kind == 1) != (i4 == 0))) (vbn rfl c27 rfl) rfl) ?_
            refine RQ.nil ?_
            intro w30 hb31
            have szw30 := hb31.size
            have T := Tt T hb31
            refine then_n ?_
            rcases bcases ((x7.kind == 1) != (i4 == 0)) with c32 | c32
            · replace hm := cF c32 hm
              refine cond_f rfl (vb rfl c32) ?_
              refine wp_skip ?_
              refine blk_n (then_n ?_)
              refine wp_rs rfl ?_
              refine RQ.y rfl (Y.binI s15_1 rfl (binI_add (m := i4) (by omega))) ?_
              refine RQ.y rfl (Y.move (v := .int .i64 (i4 + 1)) rfl) ?_
              refine RQ.nil ?_
              exact (then_n ⟨g, _, Nat.lt_succ_self _, rfl, ⟨(i4 + 1), s13_1, s14_1, rfl, (by omega), T, (by rw [← hrec1]; exact hm)⟩⟩)
            · replace hm := cT c32 hm
              refine cond_t rfl (vb rfl c32) ?_
              refine wp_seq ?_
              refine wp_rs rfl ?_
              refine RQ.y rfl (Y.assign (v := .bool false) rfl) ?_
              refine RQ.nil ?_
              refine then_n ?_
              refine wp_ret ?_
              obtain rfl := Option.some.inj hm
              exact (blk_r (then_r (then_r (hit_r (blk_r (then_r (ret1 rfl rfl rfl ⟨rfl, T⟩)))))))
    · replace hm := cT c2 hm
      have pc2 := of_decide_eq_true c2
      refine cond_t rfl (vb rfl c2) ?_
      refine wp_seq ?_
      refine wp_rs rfl ?_
      refine RQ.y rfl (Y.assign (v := .bool false) rfl) ?_
      refine RQ.nil ?_
      refine then_n ?_
      refine wp_ret ?_
      obtain rfl := Option.some.inj hm
      exact (then_r (ret1 rfl rfl rfl ⟨rfl, T⟩))
  · replace hm := cT c1 hm
    have pc1 := of_decide_eq_true c1
    refine RQ.skip (wantN (dj := 8) rfl (vb rfl c1) rfl) ?_
    refine RQ.skip (wantN (dj := 8) rfl (vb rfl c1) rfl) ?_
    refine RQ.skip (wantN (dj := 8) rfl (vb rfl c1) rfl) ?_
    refine RQ.y rfl (Y.pick (b := true) (v := .bool true) (vb rfl c1) rfl) ?_
    refine RQ.nil ?_
    refine then_n ?_
    refine cond_t rfl rfl ?_
    refine wp_seq ?_
    refine wp_rs rfl ?_
    refine RQ.y rfl (Y.assign (v := .bool false) rfl) ?_
    refine RQ.nil ?_
    refine then_n ?_
    refine wp_ret ?_
    obtain rfl := Option.some.inj hm
    exact (then_r (ret1 rfl rfl rfl ⟨rfl, T⟩))
def m_impl_ValidNet (d0 : DNet) : Option Bool :=
  ((m_impl_areAgents d0.agents).bind fun y6 => (bif y6 then ((m_impl_Net_ports d0).bind fun y11 => ((m_slices_ContainsFunc_impl_Port_impl_Port y11 (fun x0 => m_impl_ValidNet_1 x0 d0)).bind fun y18 => some (!y18))) else some false))
set_option maxHeartbeats 2000000 in
theorem c_m_impl_ValidNet (d0 : DNet) (r : Bool) (hm : m_impl_ValidNet d0 = some r) (v0 : Value) (w : World) (hv0 : St netRd w v0 d0) :
    Calls Try.prog 38 #[v0] w fun e w' => e = .returned (.bool r) ∧ Below w.heap.size w w' := by
  obtain ⟨csa0, rfl, ⟨A1, n1, c1, rfl, ⟨h1, r1⟩⟩⟩ := hv0
  have e1 := h1.len; subst e1
  have q1 := len_le r1
  have T := Below.refl w.heap.size w
  unfold m_impl_ValidNet at hm
  refine enter 11 Try.func38 rfl rfl rfl ?_
  intro f hf
  have s0 : f 0 = .agg #[.slice A1 d0.agents.length c1] := hf 0 _ rfl
  refine wp_seq ?_
  refine wp_rl rfl ?_
  refine RL.box rfl s0 (fun w2 B3 hb4 szw2 => ?_)
  replace B3 : Blk w2 w.heap.size 31 #[.slice A1 d0.agents.length c1] := B3
  have GB3 : w.heap.size ≤ w.heap.size := T.size
  have T := Tt T hb4
  refine RL.y rfl (Y.assign (v := .bool false) rfl) ?_
  refine RL.nil ?_
  refine then_n ?_
  refine wp_seq ?_
  refine wp_seq ?_
  refine wp_rb rfl ?_
  refine RQ.y rfl (Y.fieldAddr (off := 0) rfl (by kernel_rfl)) ?_
  refine RQ.y rfl (Y.load (v := .slice A1 d0.agents.length c1) rfl (by kernel_rfl) (beC (blkCell B3 (i := 0) rfl))) ?_
  obtain ⟨y6, e7, hm⟩ := bnd hm
  refine RQ.call rfl (am1 rfl) (by kernel_rfl) (v := .bool y6) (bel (K := fun _ => True) fun w' hb' => (c_m_impl_areAgents d0.agents _ e7 _ w' (slArg agentRd_ok h1 r1 (Tt T hb')))) ?_
  refine RQ.y rfl (Y.not (b' := (!y6)) rfl rfl) ?_
  refine RQ.nil ?_
  intro w8 hb9
  have szw8 := hb9.size
  have B3 := blkT B3 hb9
  have T := Tt T hb9
  refine then_n ?_
  rcases bcases y6 with c10 | c10
  · replace hm := cF c10 hm
    refine cond_t rfl (vbn rfl c10 rfl) ?_
    refine wp_seq ?_
    refine wp_rs rfl ?_
    refine RQ.y rfl (Y.assign (v := .bool false) rfl) ?_
    refine RQ.nil ?_
    refine then_n ?_
    refine wp_ret ?_
    obtain rfl := Option.some.inj hm
    exact (then_r (ret1 rfl rfl rfl ⟨rfl, T⟩))
  · replace hm := cT c10 hm
    refine cond_f rfl (vbn rfl c10 rfl) ?_
    refine wp_skip ?_
    refine then_n ?_
    refine wp_seq ?_
    refine wp_rl rfl ?_
    obtain ⟨y11, e12, hm⟩ := bnd hm
    refine RL.call rfl (am1 rfl) (by kernel_rfl) ((c_m_impl_Net_ports d0 _ e12 _ _ (ptBox (R := netRd) B3 ⟨_, _, _, rfl, ⟨SlAt.now agentRd_ok h1 (Nat.le_refl _) T, r1⟩⟩)).mono ?_)
    rintro _ w16 ⟨⟨v13, rfl, G14⟩, hb17⟩
    refine ⟨_, rfl, ?_⟩
    have szw16 := hb17.size
    have T0w16 := T.size
    have No15_ob5 := OwF.ne G14 B3.lt
    have B3 := blkT B3 hb17
    have T := Tt T hb17
    replace G14 := OwF.mono G14 T0w16
    refine RL.y rfl (Y.makeFunc (vals := #[.pointer (some ⟨w.heap.size, 0, none⟩)]) (am1 rfl)) ?_
    obtain ⟨y18, e19, hm⟩ := bnd hm
    refine RL.call rfl (am2 rfl rfl) (by kernel_rfl) ((c_m_slices_ContainsFunc_impl_Port_impl_Port y11 (fun x0 => m_impl_ValidNet_1 x0 d0) _ e19 _ _ _ _ (OwF.arg fPort G14) (by kernel_rfl) (fun x0 b hx w1 hb1 => Calls.arr (by simp) (c_m_impl_ValidNet_1 x0 d0 _ hx _ w1 (ptBox (R := netRd) (blkT B3 hb1) ⟨_, _, _, rfl, ⟨SlAt.now agentRd_ok h1 (Nat.le_refl _) (Tt T hb1), r1⟩⟩)))).mono ?_)
    rintro _ w20 ⟨rfl, hb21⟩
    refine ⟨_, rfl, ?_⟩
    have szw20 := hb21.size
    have B3 := blkT B3 hb21
    have G14 := OwF.below G14 hb21
    have T := Tt T hb21
    refine RL.y rfl (Y.not (b' := (!y18)) rfl rfl) ?_
    refine RL.y rfl (Y.assign (v := .bool (!y18)) rfl) ?_
    refine RL.nil ?_
    refine then_n ?_
    refine wp_ret ?_
    obtain rfl := Option.some.inj hm
    exact (ret1 rfl rfl rfl ⟨rfl, T⟩)
end
section
open Go.RowKit
set_option linter.unusedVariables false
set_option linter.unusedSimpArgs false
theorem allDef {xs : List Int} : (∀ k, k < xs.length → ∃ x, xs[k]? = some x ∧ defIx x = true) ↔ xs.all defIx = true := by
  rw [List.all_eq_true]
  constructor
  · intro h x hx
    obtain ⟨k, hk, rfl⟩ := List.getElem_of_mem hx
    obtain ⟨y, hy, hd⟩ := h k hk
    rw [List.getElem?_eq_getElem hk] at hy
    injection hy with hy
    rw [hy]; exact hd
  · intro h k hk
    exact ⟨xs[k], List.getElem?_eq_getElem hk, h _ (List.getElem_mem _)⟩
theorem inR_def (x : Int) : inR x 0 23 = defIx x := rfl
theorem content_L1 (x : DAgent) (g : Nat) (hg : x.data.length < g) : m_spec_l11Content_L1 x m_spec_l11Content_A1 g 0 = some (x.data.all defIx) := by
  have h := allI (L := m_spec_l11Content_L1 x m_spec_l11Content_A1) (n := x.data.length) (p := fun k => ∃ y, x.data[k]? = some y ∧ defIx y = true) (no := some false) (K := some true)
    (fun g k hk ⟨y, hy, hd⟩ => by simp [m_spec_l11Content_L1, m_spec_l11Content_B1, hk, getI_nat hy, m_spec_l11Def, inR_def, hd])
    (fun g k hk hn => by
      have hd : defIx x.data[k] = false := by
        cases h : defIx x.data[k] with
        | false => rfl
        | true => exact absurd ⟨_, List.getElem?_eq_getElem hk, h⟩ hn
      simp [m_spec_l11Content_L1, m_spec_l11Content_B1, hk, getI_lt hk, m_spec_l11Def, inR_def, hd])
    (fun g => by simp [m_spec_l11Content_L1, m_spec_l11Content_B1, m_spec_l11Content_A1]) g hg
  rw [h]
  by_cases ha : x.data.all defIx = true
  · rw [if_pos (allDef.2 ha), ha]
  · rw [if_neg (fun hh => ha (allDef.1 hh))]; simp at ha ⊢; exact ha
theorem content_L2 (x : DAgent) (g : Nat) (hg : x.data.length < g) : m_spec_l11Content_L2 x m_spec_l11Content_A2 g 0 = some (x.data.all defIx) := by
  have h := allI (L := m_spec_l11Content_L2 x m_spec_l11Content_A2) (n := x.data.length) (p := fun k => ∃ y, x.data[k]? = some y ∧ defIx y = true) (no := some false) (K := some true)
    (fun g k hk ⟨y, hy, hd⟩ => by simp [m_spec_l11Content_L2, m_spec_l11Content_B2, hk, getI_nat hy, m_spec_l11Def, inR_def, hd])
    (fun g k hk hn => by
      have hd : defIx x.data[k] = false := by
        cases h : defIx x.data[k] with
        | false => rfl
        | true => exact absurd ⟨_, List.getElem?_eq_getElem hk, h⟩ hn
      simp [m_spec_l11Content_L2, m_spec_l11Content_B2, hk, getI_lt hk, m_spec_l11Def, inR_def, hd])
    (fun g => by simp [m_spec_l11Content_L2, m_spec_l11Content_B2, m_spec_l11Content_A2]) g hg
  rw [h]
  by_cases ha : x.data.all defIx = true
  · rw [if_pos (allDef.2 ha), ha]
  · rw [if_neg (fun hh => ha (allDef.1 hh))]; simp at ha ⊢; exact ha
theorem p_content (x : DAgent) : m_spec_l11Content x = some (content x.kind x.value x.data) := by
  have l1 := content_L1 x (x.data.length + 1) (by omega)
  have l2 := content_L2 x (x.data.length + 1) (by omega)
  have i2 : ((x.data.length : Int) = 2) ↔ x.data.length = 2 := by omega
  have i1 : ((x.data.length : Int) = 1) ↔ x.data.length = 1 := by omega
  have i14 : inR (x.data.length : Int) 1 4 = (decide (1 ≤ x.data.length) && decide (x.data.length ≤ 4)) := by
    rw [Bool.eq_iff_iff]; simp [inR]; omega
  have hI : ∀ y, inR y (-2147483648) 2147483647 = int32B y := fun _ => rfl
  have hO : inR x.value 1 6 = operB x.value := rfl
  unfold m_spec_l11Content content
  simp only [hI, hO, l1, l2, m_spec_l11Def, inR_def, Bool.cond_eq_ite, beq_iff_eq, bne_iff_ne, ne_eq, i14, i1, i2]
  by_cases h8 : x.kind = 8
  · by_cases h0 : x.data.length = 1
    · obtain ⟨y, hy⟩ : ∃ y, x.data = [y] := List.length_eq_one_iff.1 h0
      simp only [h8, hy]
      cases ho : operB x.value <;> simp [getI]
    · simp [h8, h0]
  by_cases h6 : x.kind = 6
  · by_cases h0 : x.data.length = 0 <;> simp [h6, h0]
  by_cases h7 : x.kind = 7
  · by_cases h0 : x.data.length = 0 <;> simp [h7, h0]
  by_cases h9 : x.kind = 9
  · by_cases h0 : x.data.length = 0 <;> simp [h9, h0, inR]
  by_cases h12 : x.kind = 12
  · by_cases h0 : x.data.length = 0 <;> simp [h12, h0]
  by_cases h10 : x.kind = 10
  · by_cases hv : x.value = 0 <;> by_cases n1 : 1 ≤ x.data.length <;> by_cases n4 : x.data.length ≤ 4 <;> simp [h10, hv, n1, n4]
  by_cases h11 : x.kind = 11
  · by_cases hv : x.value = 0 <;> by_cases hn : x.data.length = 2 <;> simp [h11, hv, hn]
  by_cases hv : x.value = 0 <;> by_cases h0 : x.data.length = 0 <;> simp [h6, h7, h8, h9, h10, h11, h12, hv, h0]
theorem p_fields (x : DAgent) (hp : x.ports.length ≤ 9223372036854775807) : m_spec_l11Fields x = some (fieldsN x.kind x.ports.length) := by
  unfold m_spec_l11Fields fieldsN
  simp only [Bool.cond_eq_ite, beq_iff_eq]
  by_cases h : x.kind = 9
  · simp [h, ck_ok (n := (x.ports.length : Int) - 1) (by omega)]
  · simp [h]
theorem p_agent (x : DAgent) (hp : x.ports.length ≤ 9223372036854775807) : m_spec_l11Agent x = some (agentOk x) := by
  unfold m_spec_l11Agent agentOk
  simp only [p_fields x hp, Option.bind_some, p_content, Bool.cond_eq_ite, beq_iff_eq, decide_eq_true_eq]
  generalize portsOf x.kind (fieldsN x.kind x.ports.length) = p
  by_cases h1 : p > 0
  · have h1' : 0 < p := h1
    by_cases h2 : (x.ports.length : Int) = p
    · cases h3 : allowed x.kind x.level <;> simp [h1, h1', h2]
    · simp [h1, h1', h2]
  · have h1' : ¬ 0 < p := h1
    simp [h1, h1']
theorem p_ifields (k : Int) (n : Nat) (hn : n ≤ 9223372036854775807) : m_impl_fieldsOf k (n : Int) = some (fieldsN k n) := by
  unfold m_impl_fieldsOf fieldsN
  simp only [Bool.cond_eq_ite, beq_iff_eq]
  by_cases h : k = 9
  · simp [h, ck_ok (n := (n : Int) - 1) (by omega)]
  · simp [h]
theorem p_isDef (n : Int) : m_impl_isDefIndex n = some (defIx n) := by
  unfold m_impl_isDefIndex defIx
  simp only [Bool.cond_eq_ite, decide_eq_true_eq]
  by_cases h : 0 ≤ n <;> simp [h] <;> omega
theorem p_isInt (n : Int) : m_impl_isInt n = some (int32B n) := by
  unfold m_impl_isInt int32B
  simp only [Bool.cond_eq_ite, decide_eq_true_eq]
  by_cases h : -2147483648 ≤ n <;> simp [h]
theorem p_isOper (n : Int) : m_impl_isOperator n = some (operB n) := by
  unfold m_impl_isOperator operB
  simp only [Bool.cond_eq_ite, decide_eq_true_eq]
  by_cases h : 1 ≤ n <;> simp [h]
theorem p_index_int (d : List Int) (p : Int → Option Bool) (q : Int → Bool) (h : ∀ x ∈ d, p x = some (q x)) : ∃ i, m_slices_IndexFunc_int64_int64 d p = some i ∧ decide (i ≥ 0) = d.any q := by
  unfold m_slices_IndexFunc_int64_int64
  by_cases ha : ∃ k, k < d.length ∧ ∃ x, d[k]? = some x ∧ q x = true
  · obtain ⟨m, ⟨hm, x, hx, hq⟩, hl⟩ : ∃ m, (m < d.length ∧ ∃ x, d[m]? = some x ∧ q x = true) ∧ ∀ k, k < m → ∀ y, d[k]? = some y → q y = false := by
      obtain ⟨k0, hk0⟩ := ha
      induction k0 using Nat.strongRecOn with
      | _ k0 ih =>
        by_cases hh : ∃ k, k < k0 ∧ k < d.length ∧ ∃ x, d[k]? = some x ∧ q x = true
        · obtain ⟨k, hk, hk1⟩ := hh; exact ih k hk hk1
        · exact ⟨k0, hk0, fun k hk y hy => by
            cases hq : q y with
            | false => rfl
            | true => exact absurd ⟨k, hk, lt_of_some hy, y, hy, hq⟩ hh⟩
    refine ⟨m, ?_, ?_⟩
    · refine trajI (n := m) (fun g k hk => ?_) (fun g => ?_) _ (by omega)
      · have hkl : k < d.length := by omega
        have hy := List.getElem?_eq_getElem hkl
        simp [m_slices_IndexFunc_int64_int64_L1, m_slices_IndexFunc_int64_int64_B1, hkl, getI_lt hkl, h _ (List.getElem_mem hkl), hl k hk _ hy]
      · have hmem := List.mem_of_getElem? hx
        simp [m_slices_IndexFunc_int64_int64_L1, m_slices_IndexFunc_int64_int64_B1, hm, getI_nat hx, h _ hmem, hq]
    · have : d.any q = true := List.any_eq_true.2 ⟨x, List.mem_of_getElem? hx, hq⟩
      rw [this]; simp
  · refine ⟨-1, ?_, ?_⟩
    · refine trajI (n := d.length) (fun g k hk => ?_) (fun g => ?_) _ (by omega)
      · have hq : q d[k] = false := by
          cases hq : q d[k] with
          | false => rfl
          | true => exact absurd ⟨k, hk, _, List.getElem?_eq_getElem hk, hq⟩ ha
        simp [m_slices_IndexFunc_int64_int64_L1, m_slices_IndexFunc_int64_int64_B1, hk, getI_lt hk, h _ (List.getElem_mem hk), hq]
      · simp [m_slices_IndexFunc_int64_int64_L1, m_slices_IndexFunc_int64_int64_B1, m_slices_IndexFunc_int64_int64_A1]
    · have : d.any q = false := List.any_eq_false.2 fun x hx hq => by
        obtain ⟨k, hk, rfl⟩ := List.getElem_of_mem hx
        exact ha ⟨k, hk, _, List.getElem?_eq_getElem hk, hq⟩
      rw [this]; simp
theorem p_contains_int (d : List Int) (p : Int → Option Bool) (q : Int → Bool) (h : ∀ x ∈ d, p x = some (q x)) : m_slices_ContainsFunc_int64_int64 d p = some (d.any q) := by
  obtain ⟨i, h1, h2⟩ := p_index_int d p q h
  simp -implicitDefEqProofs only [m_slices_ContainsFunc_int64_int64, h1, Option.bind_some, h2]
theorem p_wellFormed (x : DAgent) (hp : x.ports.length ≤ 9223372036854775807) : m_impl_wellFormed x = some (agentOk x) := by
  have hc := p_contains_int x.data (fun x0 => m_impl_wellFormed_1 x0) (fun x0 => !defIx x0) (fun y _ => by simp [m_impl_wellFormed_1, p_isDef])
  have hall : x.data.all defIx = !(x.data.any fun x0 => !defIx x0) := by rw [List.not_any_eq_all_not]; simp
  have e0 : ((x.data.length : Int) == 0) = decide (x.data.length = 0) := by rw [Bool.eq_iff_iff]; simp
  have i2 : ((x.data.length : Int) = 2) ↔ x.data.length = 2 := by omega
  have i1 : ((x.data.length : Int) = 1) ↔ x.data.length = 1 := by omega
  have g1 : ((x.data.length : Int) ≥ 1) ↔ 1 ≤ x.data.length := by omega
  have g4 : ((x.data.length : Int) ≤ 4) ↔ x.data.length ≤ 4 := by omega
  have ip : ((x.ports.length : Int) = 0) ↔ x.ports.length = 0 := by omega
  unfold m_impl_wellFormed agentOk
  simp only [p_ifields _ _ hp, Option.bind_some, hc, p_isInt, p_isOper, p_isDef, content, hall, e0, Bool.cond_eq_ite, beq_iff_eq, bne_iff_ne, ne_eq, decide_eq_true_eq, i1, i2, ip, g1, g4, ge_iff_le]
  generalize hp0 : portsOf x.kind (fieldsN x.kind x.ports.length) = p
  by_cases h0 : x.ports.length = 0
  · by_cases h1 : 0 < p
    · have : ¬ (x.ports.length : Int) = p := by omega
      simp [h0]; intro h2; omega
    · simp [h0, h1]
  by_cases h2 : p = (x.ports.length : Int)
  case neg =>
    have h2' : ¬ (x.ports.length : Int) = p := fun e => h2 e.symm
    simp [h0, h2, h2']
  have hpos : 0 < x.ports.length := by omega
  have v4 : x.value < 4 ↔ x.value ≤ 3 := by omega
  subst h2
  generalize hany : (x.data.any fun x0 => !defIx x0) = anyb
  cases h3 : allowed x.kind x.level
  · simp [h0]
  by_cases k6 : x.kind = 6
  · cases hi : int32B x.value <;> simp [h0, hpos, k6]
  by_cases k7 : x.kind = 7
  · cases hi : operB x.value <;> simp [h0, hpos, k7]
  by_cases k8 : x.kind = 8
  · by_cases hd : x.data.length = 1
    · obtain ⟨y, hy⟩ : ∃ y, x.data = [y] := List.length_eq_one_iff.1 hd
      cases hi : operB x.value <;> simp [h0, hpos, k8, hy, getI]
    · cases hi : operB x.value <;> simp [h0, hpos, k8, hd]
  by_cases k9 : x.kind = 9
  · by_cases v0 : 0 ≤ x.value <;> by_cases v3 : x.value ≤ 3
    all_goals simp [h0, hpos, k9, v0, v3, v4]
  by_cases k10 : x.kind = 10
  · by_cases v0 : x.value = 0 <;> by_cases n1 : 1 ≤ x.data.length <;> by_cases n4 : x.data.length ≤ 4 <;> simp [h0, hpos, k10, v0, n1, n4]
  by_cases k11 : x.kind = 11
  · by_cases v0 : x.value = 0 <;> by_cases n2 : x.data.length = 2 <;> simp [h0, hpos, k11, v0, n2]
  by_cases k12 : x.kind = 12
  · cases hi : defIx x.value <;> simp [h0, hpos, k12]
  by_cases v0 : x.value = 0 <;> simp [h0, hpos, k6, k7, k8, k9, k10, k11, k12, v0]
theorem agentsOk_iff {xs : List DAgent} : agentsOk xs = true ↔ AgentsOk xs := by unfold agentsOk; simp
theorem agents_p {xs : List DAgent} : (∀ k, k < xs.length → ∃ x, xs[k]? = some x ∧ agentOk x = true ∧ decide (x.kind = 1) = decide (k = 0)) ↔ ∀ (i : Nat) (x : DAgent), xs[i]? = some x → agentOk x = true ∧ decide (x.kind = 1) = decide (i = 0) := by
  constructor
  · intro h i x hx
    obtain ⟨y, hy, h1⟩ := h i (lt_of_some hx)
    rw [hx] at hy; injection hy with hy; subst hy; exact h1
  · intro h k hk
    exact ⟨xs[k], List.getElem?_eq_getElem hk, h k _ (List.getElem?_eq_getElem hk)⟩
theorem kind_ne (k : Int) (i : Nat) : ((k == 1) != ((i : Int) == 0)) = !(decide (decide (k = 1) = decide (i = 0))) := by
  have e1 : (k == 1) = decide (k = 1) := by rw [Bool.eq_iff_iff]; simp
  have e2 : ((i : Int) == 0) = decide (i = 0) := by rw [Bool.eq_iff_iff]; simp
  rw [e1, e2]
  cases decide (k = 1) <;> cases decide (i = 0) <;> rfl
open Classical in
theorem p_agents (xs : List DAgent) (hb : ∀ x ∈ xs, x.ports.length ≤ 9223372036854775807) : m_spec_l11Agents xs = some (agentsOk xs) := by
  unfold m_spec_l11Agents
  by_cases hl : 1 ≤ xs.length ∧ xs.length ≤ 600
  · have h0 : inR (xs.length : Int) 1 600 = true := by simp [inR]; omega
    rw [h0, cond_true]
    have h := allI (L := m_spec_l11Agents_L1 xs m_spec_l11Agents_A1) (n := xs.length) (p := fun k => ∃ x, xs[k]? = some x ∧ agentOk x = true ∧ decide (x.kind = 1) = decide (k = 0)) (no := some false) (K := some true)
      (fun g k hk ⟨x, hx, h1, h2⟩ => by
        have hm := hb x (List.mem_of_getElem? hx)
        simp [m_spec_l11Agents_L1, m_spec_l11Agents_B1, hk, getI_nat hx, p_agent x hm, h1, kind_ne, h2])
      (fun g k hk hn => by
        have hx := List.getElem?_eq_getElem hk
        have hm := hb _ (List.getElem_mem hk)
        cases h1 : agentOk xs[k] with
        | false => simp [m_spec_l11Agents_L1, m_spec_l11Agents_B1, hk, getI_lt hk, p_agent _ hm, h1]
        | true =>
          have h2 : ¬ decide (xs[k].kind = 1) = decide (k = 0) := fun h2 => hn ⟨_, hx, h1, h2⟩
          simp -implicitDefEqProofs only [m_spec_l11Agents_L1, m_spec_l11Agents_B1, dlt hk, cond_true, getI_lt hk, Option.bind_some, p_agent _ hm, h1, kind_ne, decide_eq_false h2, Bool.not_false, Bool.not_true, Bool.or_true, Bool.false_or, cond_false])
      (fun g => by simp [m_spec_l11Agents_L1, m_spec_l11Agents_B1, m_spec_l11Agents_A1]) (xs.length + 1) (by omega)
    rw [h]
    by_cases ha : ∀ k, k < xs.length → ∃ x, xs[k]? = some x ∧ agentOk x = true ∧ decide (x.kind = 1) = decide (k = 0)
    · rw [if_pos ha, agentsOk_iff.2 ⟨hl.1, hl.2, agents_p.1 ha⟩]
    · rw [if_neg ha]
      cases hc : agentsOk xs with
      | false => rfl
      | true => exact absurd (agents_p.2 (agentsOk_iff.1 hc).2.2) ha
  · have h0 : inR (xs.length : Int) 1 600 = false := by simp [inR]; omega
    rw [h0, cond_false]
    cases hc : agentsOk xs with
    | false => rfl
    | true => exact absurd ⟨(agentsOk_iff.1 hc).1, (agentsOk_iff.1 hc).2.1⟩ hl
open Classical in
theorem p_areAgents (xs : List DAgent) (hb : ∀ x ∈ xs, x.ports.length ≤ 9223372036854775807) : m_impl_areAgents xs = some (agentsOk xs) := by
  unfold m_impl_areAgents
  by_cases hl : 1 ≤ xs.length ∧ xs.length ≤ 600
  · have h0 : decide ((xs.length : Int) < 1) = false := by simp; omega
    have h0' : decide ((xs.length : Int) > 600) = false := by simp; omega
    rw [h0, h0', cond_false, cond_false]
    have h := allI (L := m_impl_areAgents_L1 xs m_impl_areAgents_A1) (n := xs.length) (p := fun k => ∃ x, xs[k]? = some x ∧ agentOk x = true ∧ decide (x.kind = 1) = decide (k = 0)) (no := some false) (K := some true)
      (fun g k hk ⟨x, hx, h1, h2⟩ => by
        have hm := hb x (List.mem_of_getElem? hx)
        simp [m_impl_areAgents_L1, m_impl_areAgents_B1, hk, getI_nat hx, p_wellFormed x hm, h1, kind_ne, h2])
      (fun g k hk hn => by
        have hx := List.getElem?_eq_getElem hk
        have hm := hb _ (List.getElem_mem hk)
        cases h1 : agentOk xs[k] with
        | false => simp [m_impl_areAgents_L1, m_impl_areAgents_B1, hk, getI_lt hk, p_wellFormed _ hm, h1]
        | true =>
          have h2 : ¬ decide (xs[k].kind = 1) = decide (k = 0) := fun h2 => hn ⟨_, hx, h1, h2⟩
          simp -implicitDefEqProofs only [m_impl_areAgents_L1, m_impl_areAgents_B1, dlt hk, cond_true, getI_lt hk, Option.bind_some, p_wellFormed _ hm, h1, kind_ne, decide_eq_false h2, Bool.not_false, Bool.not_true, Bool.or_true, Bool.false_or, cond_false])
      (fun g => by simp [m_impl_areAgents_L1, m_impl_areAgents_B1, m_impl_areAgents_A1]) (xs.length + 1) (by omega)
    rw [h]
    by_cases ha : ∀ k, k < xs.length → ∃ x, xs[k]? = some x ∧ agentOk x = true ∧ decide (x.kind = 1) = decide (k = 0)
    · rw [if_pos ha, agentsOk_iff.2 ⟨hl.1, hl.2, agents_p.1 ha⟩]
    · rw [if_neg ha]
      cases hc : agentsOk xs with
      | false => rfl
      | true => exact absurd (agents_p.2 (agentsOk_iff.1 hc).2.2) ha
  · have hc : agentsOk xs = false := by
      cases hc : agentsOk xs with
      | false => rfl
      | true => exact absurd ⟨(agentsOk_iff.1 hc).1, (agentsOk_iff.1 hc).2.1⟩ hl
    by_cases h1 : xs.length < 1
    · have h0 : decide ((xs.length : Int) < 1) = true := by simp; omega
      rw [h0, cond_true, hc]
    · have h0 : decide ((xs.length : Int) < 1) = false := by simp; omega
      have h0' : decide ((xs.length : Int) > 600) = true := by simp; omega
      rw [h0, h0', cond_false, cond_true, hc]
/-- No list is longer than what a net of the laws may hold. -/
def Small (xs : List DAgent) : Prop := szAgentS xs ≤ 1048576
theorem Small.len {xs : List DAgent} (h : Small xs) : xs.length ≤ 1048576 := by unfold Small szAgentS at h; omega
theorem sum_mem {α : Type} {f : α → Nat} {xs : List α} {x : α} (h : x ∈ xs) : f x ≤ (xs.map f).sum := by
  induction xs with
  | nil => cases h
  | cons y ys ih =>
    rcases List.mem_cons.1 h with rfl | h
    · simp
    · have := ih h; simp; omega
theorem Small.ports {xs : List DAgent} (h : Small xs) {x : DAgent} (hx : x ∈ xs) : x.ports.length ≤ 1048576 := by
  have := sum_mem (f := szAgent) hx
  have e : szAgent x = x.data.length + x.ports.length := rfl
  unfold Small szAgentS at h; omega
theorem Small.data {xs : List DAgent} (h : Small xs) {x : DAgent} (hx : x ∈ xs) : x.data.length ≤ 1048576 := by
  have := sum_mem (f := szAgent) hx
  have e : szAgent x = x.data.length + x.ports.length := rfl
  unfold Small szAgentS at h; omega
theorem Small.ports' {xs : List DAgent} (h : Small xs) : ∀ x ∈ xs, x.ports.length ≤ 9223372036854775807 := fun x hx => by have := h.ports hx; omega
theorem portsFrom_len : ∀ (i : Nat) (xs : List DAgent), (portsFrom i xs).length ≤ (xs.map szAgent).sum
  | _, [] => by simp [portsFrom]
  | i, x :: xs => by have := portsFrom_len (i + 1) xs; simp [portsFrom, agentPorts, szAgent]; omega
theorem Small.all {xs : List DAgent} (h : Small xs) : (allPorts xs).length ≤ 1048576 := by
  have := portsFrom_len 0 xs
  unfold Small szAgentS at h; unfold allPorts; omega
theorem agentAt_nat {xs : List DAgent} {k : Nat} {x : DAgent} (h : xs[k]? = some x) : agentAt xs (k : Int) = x := by simp [agentAt, List.getD, h]
theorem p_port (xs : List DAgent) (p : DPort) (h : Small xs) : m_spec_l11Port xs p = some (hasPort xs p) := by
  unfold m_spec_l11Port
  have hl := h.len
  rw [ck_ok (by omega), Option.bind_some]
  by_cases ha : 0 ≤ p.agent ∧ p.agent < xs.length
  · obtain ⟨k, hk⟩ := Int.eq_ofNat_of_zero_le ha.1
    have hkl : k < xs.length := by omega
    have h0 : inR p.agent 0 ((xs.length : Int) - 1) = true := by simp [inR]; omega
    have hx := List.getElem?_eq_getElem hkl
    have hp := h.ports (List.getElem_mem hkl)
    rw [h0, cond_true, hk, getI_nat hx, Option.bind_some, ck_ok (by omega), Option.bind_some]
    congr 1
    rw [Bool.eq_iff_iff]
    simp [inR, hasPort, hk, agentAt_nat hx]
    omega
  · have h0 : inR p.agent 0 ((xs.length : Int) - 1) = false := by simp [inR]; omega
    rw [h0, cond_false]
    congr 1
    simp [hasPort]
    omega
theorem p_hasPort (xs : List DAgent) (p : DPort) : m_impl_hasPort xs p = some (hasPort xs p) := by
  unfold m_impl_hasPort
  by_cases h1 : 0 ≤ p.agent
  · by_cases h2 : p.agent < xs.length
    · by_cases h3 : 0 ≤ p.slot
      · obtain ⟨k, hk⟩ := Int.eq_ofNat_of_zero_le h1
        have hkl : k < xs.length := by omega
        have hx := List.getElem?_eq_getElem hkl
        simp [h3, hk, hkl, hasPort, getI_nat hx, agentAt_nat hx]
      · simp [h1, h2, h3, hasPort]
    · simp [h1, h2, hasPort]
  · simp [h1, hasPort]
theorem p_peer {xs : List DAgent} {p : DPort} (h : hasPort xs p = true) : m_impl_Net_peer ⟨xs⟩ p = some (peer xs p) := by
  obtain ⟨i, k, x, rfl, hx, hk, ha⟩ := hasPort_at h
  have hy := List.getElem?_eq_getElem hk
  simp [m_impl_Net_peer, getI_nat hx, getI_nat hy, peer_of hx hy]
theorem port_eq (q p : DPort) : (q.agent == p.agent && q.slot == p.slot) = decide (q = p) := by
  rw [Bool.eq_iff_iff]
  cases q; cases p; simp
theorem badPort_at {xs : List DAgent} {i k : Nat} {x : DAgent} {q : DPort} (hx : xs[i]? = some x) (hq : x.ports[k]? = some q) : badPort xs ⟨i, k⟩ = (decide (q = ⟨i, k⟩) || !hasPort xs q || !decide (peer xs q = ⟨i, k⟩)) := by
  unfold badPort; rw [peer_of hx hq]
open Classical in
theorem p_ok_inner {xs : List DAgent} (hs : Small xs) {i : Nat} {x : DAgent} (hx : xs[i]? = some x) (rec : Int → Option Bool) (g : Nat) (hg : x.ports.length < g) :
    ((∀ k, k < x.ports.length → badPort xs ⟨i, k⟩ = false) ∧ m_spec_l11Ok_L2 ⟨xs⟩ (i : Int) x (m_spec_l11Ok_A2 rec (i : Int)) g 0 = rec ((i : Int) + 1)) ∨ ((¬ ∀ k, k < x.ports.length → badPort xs ⟨i, k⟩ = false) ∧ m_spec_l11Ok_L2 ⟨xs⟩ (i : Int) x (m_spec_l11Ok_A2 rec (i : Int)) g 0 = some false) := by
  have hi := lt_of_some hx
  have hl := hs.len
  refine (allO (L := m_spec_l11Ok_L2 ⟨xs⟩ (i : Int) x (m_spec_l11Ok_A2 rec (i : Int))) (n := x.ports.length) (p := fun k => badPort xs ⟨i, k⟩ = false) (no := some false) (K := rec ((i : Int) + 1)) ?_ ?_ ?_ g hg)
  · intro g k hk hb
    have hq := List.getElem?_eq_getElem hk
    rw [badPort_at hx hq] at hb
    simp only [Bool.or_eq_false_iff, Bool.not_eq_false', decide_eq_false_iff_not, decide_eq_true_eq] at hb
    obtain ⟨⟨h1, h2⟩, h3⟩ := hb
    obtain ⟨i2, k2, x2, he, hx2, hk2, _⟩ := hasPort_at h2
    have hq2 := List.getElem?_eq_getElem hk2
    have h1' : (x.ports[k].agent == (i : Int) && x.ports[k].slot == (k : Int)) = false := by
      have := port_eq x.ports[k] ⟨i, k⟩
      simp only at this
      rw [this]; simpa using h1
    have h3' : (x2.ports[k2].agent == (i : Int) && x2.ports[k2].slot == (k : Int)) = true := by
      have := port_eq x2.ports[k2] ⟨i, k⟩
      simp only at this
      rw [this]
      rw [he, peer_of hx2 hq2] at h3
      simpa using h3
    have ha : x.ports[k].agent = (i2 : Int) := by rw [he]
    have hsl : x.ports[k].slot = (k2 : Int) := by rw [he]
    have e1 : getI xs x.ports[k].agent = some x2 := by rw [ha]; exact getI_nat hx2
    have e2 : getI x2.ports x.ports[k].slot = some x2.ports[k2] := by rw [hsl]; exact getI_nat hq2
    simp -implicitDefEqProofs only [m_spec_l11Ok_L2, m_spec_l11Ok_B2, dlt hk, cond_true, getI_lt hk, Option.bind_some, h1', cond_false, p_port xs _ hs, h2, e1, e2, h3']
  · intro g k hk hb
    have hq := List.getElem?_eq_getElem hk
    have hb : badPort xs ⟨i, k⟩ = true := by simpa using hb
    rw [badPort_at hx hq] at hb
    have hE := port_eq x.ports[k] ⟨i, k⟩
    simp only at hE
    by_cases h1 : x.ports[k] = (⟨i, k⟩ : DPort)
    · have : (x.ports[k].agent == (i : Int) && x.ports[k].slot == (k : Int)) = true := by rw [hE]; simpa using h1
      simp -implicitDefEqProofs only [m_spec_l11Ok_L2, m_spec_l11Ok_B2, dlt hk, cond_true, getI_lt hk, Option.bind_some, this]
    · have h1' : (x.ports[k].agent == (i : Int) && x.ports[k].slot == (k : Int)) = false := by rw [hE]; simpa using h1
      cases h2 : hasPort xs x.ports[k] with
      | false => simp -implicitDefEqProofs only [m_spec_l11Ok_L2, m_spec_l11Ok_B2, dlt hk, cond_true, getI_lt hk, Option.bind_some, h1', cond_false, p_port xs _ hs, h2]
      | true =>
        have h3 : ¬ peer xs x.ports[k] = (⟨i, k⟩ : DPort) := by
          intro h3; rw [h2, h3] at hb; simp [h1] at hb
        obtain ⟨i2, k2, x2, he, hx2, hk2, _⟩ := hasPort_at h2
        have hq2 := List.getElem?_eq_getElem hk2
        have h3' : (x2.ports[k2].agent == (i : Int) && x2.ports[k2].slot == (k : Int)) = false := by
          have := port_eq x2.ports[k2] ⟨i, k⟩
          simp only at this
          rw [this]
          rw [he, peer_of hx2 hq2] at h3
          simpa using h3
        have ha : x.ports[k].agent = (i2 : Int) := by rw [he]
        have hsl : x.ports[k].slot = (k2 : Int) := by rw [he]
        have e1 : getI xs x.ports[k].agent = some x2 := by rw [ha]; exact getI_nat hx2
        have e2 : getI x2.ports x.ports[k].slot = some x2.ports[k2] := by rw [hsl]; exact getI_nat hq2
        simp -implicitDefEqProofs only [m_spec_l11Ok_L2, m_spec_l11Ok_B2, dlt hk, cond_true, getI_lt hk, Option.bind_some, h1', cond_false, p_port xs _ hs, h2, e1, e2, h3']
  · intro g
    simp -implicitDefEqProofs only [m_spec_l11Ok_L2, m_spec_l11Ok_B2, dge, cond_false, m_spec_l11Ok_A2]
    rw [ck_ok (by omega), Option.bind_some]
theorem portsOk_p {xs : List DAgent} : (∀ i, i < xs.length → ∃ x, xs[i]? = some x ∧ ∀ k, k < x.ports.length → badPort xs ⟨i, k⟩ = false) ↔ PortsOk xs := by
  constructor
  · intro h i x hx k hk
    obtain ⟨y, hy, h1⟩ := h i (lt_of_some hx)
    rw [hx] at hy; injection hy with hy; subst hy; exact h1 k hk
  · intro h i hi
    exact ⟨xs[i], List.getElem?_eq_getElem hi, fun k hk => h i _ (List.getElem?_eq_getElem hi) k hk⟩
theorem validNet_iff {x : DNet} : validNet x = true ↔ AgentsOk x.agents ∧ PortsOk x.agents := by unfold validNet; simp
open Classical in
theorem p_ok (d : DNet) (hs : Small d.agents) : m_spec_l11Ok d = some (validNet d) := by
  obtain ⟨xs⟩ := d
  have hs : Small xs := hs
  unfold m_spec_l11Ok
  rw [p_agents xs hs.ports', Option.bind_some]
  cases hag : agentsOk xs with
  | false =>
    rw [cond_false]
    cases hv : validNet ⟨xs⟩ with
    | false => rfl
    | true => rw [agentsOk_iff.2 (validNet_iff.1 hv).1] at hag; cases hag
  | true =>
    rw [cond_true]
    have h := allO (L := m_spec_l11Ok_L1 ⟨xs⟩ m_spec_l11Ok_A1) (n := xs.length) (p := fun i => ∃ x, xs[i]? = some x ∧ ∀ k, k < x.ports.length → badPort xs ⟨i, k⟩ = false) (no := some false) (K := some true)
      (fun g i hi ⟨x, hx, hp⟩ => by
        simp -implicitDefEqProofs only [m_spec_l11Ok_L1, m_spec_l11Ok_B1, dlt hi, cond_true, getI_nat hx, Option.bind_some]
        rcases p_ok_inner hs hx (m_spec_l11Ok_L1 ⟨xs⟩ m_spec_l11Ok_A1 g) _ (Nat.lt_succ_self _) with ⟨_, h⟩ | ⟨hn, _⟩
        · exact h
        · exact absurd hp hn)
      (fun g i hi hn => by
        have hx := List.getElem?_eq_getElem hi
        simp -implicitDefEqProofs only [m_spec_l11Ok_L1, m_spec_l11Ok_B1, dlt hi, cond_true, getI_lt hi, Option.bind_some]
        rcases p_ok_inner hs hx (m_spec_l11Ok_L1 ⟨xs⟩ m_spec_l11Ok_A1 g) _ (Nat.lt_succ_self _) with ⟨hp, _⟩ | ⟨_, h⟩
        · exact absurd ⟨_, hx, hp⟩ hn
        · exact h)
      (fun g => by simp -implicitDefEqProofs only [m_spec_l11Ok_L1, m_spec_l11Ok_B1, dge, cond_false, m_spec_l11Ok_A1]) (xs.length + 1) (Nat.lt_succ_self _)
    rcases h with ⟨ha, h⟩ | ⟨ha, h⟩
    · rw [validNet_iff.2 ⟨agentsOk_iff.1 hag, portsOk_p.1 ha⟩]; exact h
    · cases hv : validNet ⟨xs⟩ with
      | false => exact h
      | true => exact absurd (portsOk_p.2 (validNet_iff.1 hv).2) ha
theorem agentPorts_len (i : Nat) (x : DAgent) : (agentPorts i x).length = x.ports.length := by simp [agentPorts]
theorem p_ports_inner {i : Nat} {x : DAgent} (rec : List DPort → Int → Option (List DPort)) (acc : List DPort) (hb : acc.length + x.ports.length ≤ 4294967296) (hi : (i : Int) < 9223372036854775807) (g : Nat) (hg : x.ports.length < g) :
    m_impl_Net_ports_L2 (i : Int) x (m_impl_Net_ports_A2 rec (i : Int)) g acc 0 = rec (acc ++ agentPorts i x) ((i : Int) + 1) := by
  have h := traj (L := fun g (s : List DPort × Int) => m_impl_Net_ports_L2 (i : Int) x (m_impl_Net_ports_A2 rec (i : Int)) g s.1 s.2) (st := fun k => (acc ++ (List.range k).map (fun (j : Nat) => (⟨i, j⟩ : DPort)), (k : Int))) (n := x.ports.length) (r := rec (acc ++ agentPorts i x) ((i : Int) + 1))
    (fun g k hk => by
      simp -implicitDefEqProofs only [m_impl_Net_ports_L2, m_impl_Net_ports_B2, dlt hk, cond_true]
      rw [mustP_ok (by simp; omega), Option.bind_some]
      rw [List.range_succ, List.map_append, List.append_assoc]
      simp only [List.map_cons, List.map_nil, Int.natCast_add, Int.cast_ofNat_Int])
    (fun g => by
      simp -implicitDefEqProofs only [m_impl_Net_ports_L2, m_impl_Net_ports_B2, dge, cond_false, m_impl_Net_ports_A2]
      rw [ck_ok (by omega), Option.bind_some, agentPorts]) g hg
  simpa using h
theorem p_ports (d : DNet) (hs : Small d.agents) : m_impl_Net_ports d = some (allPorts d.agents) := by
  obtain ⟨xs⟩ := d
  have hs : Small xs := hs
  have hl := hs.len
  have ha := hs.all
  unfold m_impl_Net_ports
  have h := traj (L := fun g (s : List DPort × Int) => m_impl_Net_ports_L1 ⟨xs⟩ m_impl_Net_ports_A1 g s.1 s.2) (st := fun k => (allPorts (xs.take k), (k : Int))) (n := xs.length) (r := some (allPorts xs))
    (fun g k hk => by
      have hx := List.getElem?_eq_getElem hk
      have hlen : (allPorts (xs.take (k + 1))).length ≤ (allPorts xs).length := by
        have : allPorts xs = portsFrom 0 (xs.take (k + 1) ++ xs.drop (k + 1)) := by rw [List.take_append_drop]; rfl
        rw [this, portsFrom_append, List.length_append]
        exact Nat.le_add_right _ _
      rw [allPorts_take hx, List.length_append, agentPorts_len] at hlen
      simp -implicitDefEqProofs only [m_impl_Net_ports_L1, m_impl_Net_ports_B1, dlt hk, cond_true, getI_lt hk, Option.bind_some]
      rw [p_ports_inner (m_impl_Net_ports_L1 ⟨xs⟩ m_impl_Net_ports_A1 g) _ (by omega) (by omega) _ (Nat.lt_succ_self _), allPorts_take hx]
      simp only [Int.natCast_add, Int.cast_ofNat_Int])
    (fun g => by
      simp -implicitDefEqProofs only [m_impl_Net_ports_L1, m_impl_Net_ports_B1, dge, cond_false, m_impl_Net_ports_A1, List.take_length]) (xs.length + 1) (Nat.lt_succ_self _)
  exact h
theorem p_index_port (d : List DPort) (p : DPort → Option Bool) (q : DPort → Bool) (h : ∀ x ∈ d, p x = some (q x)) : ∃ i, m_slices_IndexFunc_impl_Port_impl_Port d p = some i ∧ decide (i ≥ 0) = d.any q := by
  unfold m_slices_IndexFunc_impl_Port_impl_Port
  by_cases ha : ∃ k, k < d.length ∧ ∃ x, d[k]? = some x ∧ q x = true
  · obtain ⟨m, ⟨hm, x, hx, hq⟩, hl⟩ : ∃ m, (m < d.length ∧ ∃ x, d[m]? = some x ∧ q x = true) ∧ ∀ k, k < m → ∀ y, d[k]? = some y → q y = false := by
      obtain ⟨k0, hk0⟩ := ha
      induction k0 using Nat.strongRecOn with
      | _ k0 ih =>
        by_cases hh : ∃ k, k < k0 ∧ k < d.length ∧ ∃ x, d[k]? = some x ∧ q x = true
        · obtain ⟨k, hk, hk1⟩ := hh; exact ih k hk hk1
        · exact ⟨k0, hk0, fun k hk y hy => by
            cases hq : q y with
            | false => rfl
            | true => exact absurd ⟨k, hk, lt_of_some hy, y, hy, hq⟩ hh⟩
    refine ⟨m, ?_, ?_⟩
    · refine trajI (n := m) (fun g k hk => ?_) (fun g => ?_) _ (by omega)
      · have hkl : k < d.length := by omega
        have hy := List.getElem?_eq_getElem hkl
        simp [m_slices_IndexFunc_impl_Port_impl_Port_L1, m_slices_IndexFunc_impl_Port_impl_Port_B1, hkl, getI_lt hkl, h _ (List.getElem_mem hkl), hl k hk _ hy]
      · have hmem := List.mem_of_getElem? hx
        simp [m_slices_IndexFunc_impl_Port_impl_Port_L1, m_slices_IndexFunc_impl_Port_impl_Port_B1, hm, getI_nat hx, h _ hmem, hq]
    · have : d.any q = true := List.any_eq_true.2 ⟨x, List.mem_of_getElem? hx, hq⟩
      rw [this]; simp
  · refine ⟨-1, ?_, ?_⟩
    · refine trajI (n := d.length) (fun g k hk => ?_) (fun g => ?_) _ (by omega)
      · have hq : q d[k] = false := by
          cases hq : q d[k] with
          | false => rfl
          | true => exact absurd ⟨k, hk, _, List.getElem?_eq_getElem hk, hq⟩ ha
        simp [m_slices_IndexFunc_impl_Port_impl_Port_L1, m_slices_IndexFunc_impl_Port_impl_Port_B1, hk, getI_lt hk, h _ (List.getElem_mem hk), hq]
      · simp [m_slices_IndexFunc_impl_Port_impl_Port_L1, m_slices_IndexFunc_impl_Port_impl_Port_B1, m_slices_IndexFunc_impl_Port_impl_Port_A1]
    · have : d.any q = false := List.any_eq_false.2 fun x hx hq => by
        obtain ⟨k, hk, rfl⟩ := List.getElem_of_mem hx
        exact ha ⟨k, hk, _, List.getElem?_eq_getElem hk, hq⟩
      rw [this]; simp
theorem p_contains_port (d : List DPort) (p : DPort → Option Bool) (q : DPort → Bool) (h : ∀ x ∈ d, p x = some (q x)) : m_slices_ContainsFunc_impl_Port_impl_Port d p = some (d.any q) := by
  obtain ⟨i, h1, h2⟩ := p_index_port d p q h
  simp -implicitDefEqProofs only [m_slices_ContainsFunc_impl_Port_impl_Port, h1, Option.bind_some, h2]
theorem p_valid1 {xs : List DAgent} {p : DPort} (h : hasPort xs p = true) : m_impl_ValidNet_1 p ⟨xs⟩ = some (badPort xs p) := by
  unfold m_impl_ValidNet_1 badPort
  rw [p_peer h, Option.bind_some, port_eq]
  by_cases h1 : peer xs p = p
  · simp [h1]
  · cases h2 : hasPort xs (peer xs p) with
    | false => simp [h1, p_hasPort, h2]
    | true => simp [h1, p_hasPort, h2, p_peer h2, port_eq]
theorem p_valid (d : DNet) (hs : Small d.agents) : m_impl_ValidNet d = some (validNet d) := by
  obtain ⟨xs⟩ := d
  have hs : Small xs := hs
  unfold m_impl_ValidNet
  rw [p_areAgents xs hs.ports', Option.bind_some]
  cases hag : agentsOk xs with
  | false =>
    rw [cond_false]
    cases hv : validNet ⟨xs⟩ with
    | false => rfl
    | true => rw [agentsOk_iff.2 (validNet_iff.1 hv).1] at hag; cases hag
  | true =>
    rw [cond_true, p_ports _ hs, Option.bind_some]
    have hc := p_contains_port (allPorts xs) (fun x0 => m_impl_ValidNet_1 x0 ⟨xs⟩) (badPort xs) (fun p hp => by
      obtain ⟨j, x, k, h1, h2, rfl⟩ := mem_portsFrom.1 hp
      have hh := hasPort_of h1 h2
      simp only [Nat.zero_add]
      exact p_valid1 hh)
    rw [hc, Option.bind_some]
    congr 1
    rw [Bool.eq_iff_iff, validNet_iff, Bool.not_eq_true', any_allPorts]
    exact ⟨fun h => ⟨agentsOk_iff.1 hag, h⟩, fun h => h.2⟩
end
section
open Go.RowKit
set_option linter.unusedVariables false
set_option linter.unusedSimpArgs false
/-- A loop that appends f k at index k. -/
theorem appI {α ρ : Type} {L : Nat → List α → Int → Option ρ} {f : Nat → List α} {n M : Nat} {K : List α → Option ρ} (h : ∀ g (k : Nat) acc, k < n → acc.length + (f k).length ≤ M → L (g + 1) acc (k : Int) = L g (acc ++ f k) ((k : Int) + 1)) (he : ∀ g acc, L (g + 1) acc (n : Int) = K acc) :
    ∀ (k0 : Nat) acc g, k0 ≤ n → n < g + k0 → acc.length + ((List.range' k0 (n - k0)).flatMap f).length ≤ M → L g acc (k0 : Int) = K (acc ++ (List.range' k0 (n - k0)).flatMap f) := by
  have key : ∀ d k0 acc g, k0 + d = n → d < g → acc.length + ((List.range' k0 d).flatMap f).length ≤ M → L g acc (k0 : Int) = K (acc ++ (List.range' k0 d).flatMap f) := by
    intro d
    induction d with
    | zero =>
      intro k0 acc g hk hg hM
      obtain ⟨g, rfl⟩ : ∃ g', g = g' + 1 := ⟨g - 1, by omega⟩
      obtain rfl : k0 = n := by omega
      rw [he g]; simp
    | succ d ih =>
      intro k0 acc g hk hg hM
      obtain ⟨g, rfl⟩ : ∃ g', g = g' + 1 := ⟨g - 1, by omega⟩
      rw [List.range'_succ, List.flatMap_cons, List.length_append] at hM
      rw [h g k0 acc (by omega) (by omega)]
      have := ih (k0 + 1) (acc ++ f k0) g (by omega) (by omega) (by rw [List.length_append]; omega)
      rw [List.range'_succ, List.flatMap_cons, ← List.append_assoc]
      simpa using this
  intro k0 acc g hk hg hM
  exact key (n - k0) k0 acc g (by omega) (by omega) hM
theorem portsOf_kind {k f : Int} (h : 0 < portsOf k f) : 1 ≤ k ∧ k ≤ 12 := by
  unfold portsOf at h
  split at h
  · omega
  · split at h
    · omega
    · split at h
      · omega
      · split at h
        · omega
        · split at h <;> omega
structure Good (xs : List DAgent) : Prop where
  one : 1 ≤ xs.length
  len : xs.length ≤ 600
  ok : ∀ (i : Nat) (x : DAgent), xs[i]? = some x → agentOk x = true
  root : ∀ (i : Nat) (x : DAgent), xs[i]? = some x → (x.kind = 1 ↔ i = 0)
  ports : PortsOk xs
theorem good {d : DNet} (h : validNet d = true) : Good d.agents := by
  obtain ⟨⟨h1, h2, h3⟩, h4⟩ := validNet_iff.1 h
  exact ⟨h1, h2, fun i x hx => (h3 i x hx).1, fun i x hx => by have := (h3 i x hx).2; simpa using this, h4⟩
theorem agentOk_pos {x : DAgent} (h : agentOk x = true) : 0 < x.ports.length ∧ 1 ≤ x.kind ∧ x.kind ≤ 12 := by
  unfold agentOk at h
  simp only [Bool.and_eq_true, decide_eq_true_eq] at h
  have := portsOf_kind h.1.1.1
  omega
theorem Good.pos {xs : List DAgent} (G : Good xs) {i : Nat} {x : DAgent} (hx : xs[i]? = some x) : 0 < x.ports.length := (agentOk_pos (G.ok i x hx)).1
theorem flat_le {α β : Type} {f : α → List β} (h : ∀ a, (f a).length ≤ 1) : ∀ l : List α, (l.flatMap f).length ≤ l.length
  | [] => by simp
  | a :: l => by have := flat_le h l; have := h a; simp only [List.flatMap_cons, List.length_append, List.length_cons]; omega
def before (p q : DPort) : Bool := decide (p.agent < q.agent) || (p.agent == q.agent && decide (p.slot < q.slot))
theorem p_before (p q : DPort) : m_spec_l11Before p q = some (before p q) := by
  unfold m_spec_l11Before before
  cases decide (p.agent < q.agent) <;> cases (p.agent == q.agent) <;> simp
def wireOf (xs : List DAgent) (p : DPort) : List DWire := bif before p (peer xs p) then [⟨p, peer xs p⟩] else []
theorem wireOf_le (xs : List DAgent) (p : DPort) : (wireOf xs p).length ≤ 1 := by
  unfold wireOf; cases before p (peer xs p) <;> simp
def wires (xs : List DAgent) : List DWire := (allPorts xs).flatMap (wireOf xs)
theorem portsFrom_flat : ∀ (i : Nat) (xs : List DAgent), portsFrom i xs = (List.range' i xs.length).flatMap fun k => agentPorts k ((xs[k - i]?).getD default)
  | i, [] => by simp [portsFrom]
  | i, x :: xs => by
    rw [portsFrom, portsFrom_flat (i + 1) xs, List.length_cons, List.range'_succ, List.flatMap_cons]
    simp only [Nat.sub_self, List.getElem?_cons_zero, Option.getD_some]
    congr 1
    rw [List.flatMap_def, List.flatMap_def]
    congr 1
    apply List.map_congr_left
    intro k hk
    rw [List.mem_range'_1] at hk
    obtain ⟨m, rfl⟩ : ∃ m, k = i + 1 + m := ⟨k - (i + 1), by omega⟩
    rw [show i + 1 + m - (i + 1) = m by omega, show i + 1 + m - i = m + 1 by omega, List.getElem?_cons_succ]
theorem p_sWires {d : DNet} (hs : Small d.agents) : m_spec_l11Wires d = some (wires d.agents) := by
  obtain ⟨xs⟩ := d
  have hs : Small xs := hs
  have hl := hs.len
  have ha := hs.all
  unfold m_spec_l11Wires
  have ew : wires xs = (List.range' 0 xs.length).flatMap fun k => (agentPorts k ((xs[k]?).getD default)).flatMap (wireOf xs) := by
    unfold wires allPorts
    rw [portsFrom_flat 0 xs, List.flatMap_assoc]
    simp
  have hw : (wires xs).length ≤ 1048576 := by
    have := flat_le (f := wireOf xs) (wireOf_le xs) (allPorts xs)
    unfold wires; omega
  have key := appI (L := m_spec_l11Wires_L1 ⟨xs⟩ m_spec_l11Wires_A1) (f := fun k => (agentPorts k ((xs[k]?).getD default)).flatMap (wireOf xs)) (n := xs.length) (M := 4294967296) (K := some)
    (fun g i acc hi hM => by
      have hx := List.getElem?_eq_getElem hi
      have e1 := getI_lt hi
      rw [hx, Option.getD_some] at hM ⊢
      have ei : (agentPorts i xs[i]).flatMap (wireOf xs) = (List.range' 0 (xs[i].ports.length - 0)).flatMap fun k => wireOf xs ⟨(i : Int), (k : Nat)⟩ := by
        rw [agentPorts, List.flatMap_map, List.range_eq_range', Nat.sub_zero]
      have inner := appI (L := m_spec_l11Wires_L2 ⟨xs⟩ (i : Int) (m_spec_l11Wires_A2 (m_spec_l11Wires_L1 ⟨xs⟩ m_spec_l11Wires_A1 g) (i : Int))) (f := fun k => wireOf xs ⟨(i : Int), (k : Nat)⟩) (n := xs[i].ports.length) (M := 4294967296) (K := fun acc => m_spec_l11Wires_L1 ⟨xs⟩ m_spec_l11Wires_A1 g acc ((i : Int) + 1))
        (fun g k acc hk hM => by
          have hq := List.getElem?_eq_getElem hk
          have e2 := getI_lt hk
          have ep : peer xs ⟨(i : Int), (k : Nat)⟩ = xs[i].ports[k] := peer_of hx hq
          unfold wireOf at hM ⊢
          rw [ep] at hM ⊢
          simp -implicitDefEqProofs only [m_spec_l11Wires_L2, m_spec_l11Wires_B2, e1, e2, Option.bind_some, dlt hk, cond_true, p_before]
          cases hb : before ⟨(i : Int), (k : Nat)⟩ xs[i].ports[k] with
          | false => rw [cond_false, cond_false, List.append_nil]
          | true =>
            rw [hb, cond_true] at hM
            rw [cond_true, cond_true, mustP_ok hM, Option.bind_some])
        (fun g acc => by
          simp -implicitDefEqProofs only [m_spec_l11Wires_L2, m_spec_l11Wires_B2, e1, Option.bind_some, dge, cond_false, m_spec_l11Wires_A2]
          rw [ck_ok (by omega), Option.bind_some])
        0 acc (xs[i].ports.length + 1) (by omega) (by omega) (by rw [← ei]; exact hM)
      rw [← ei] at inner
      simp -implicitDefEqProofs only [m_spec_l11Wires_L1, m_spec_l11Wires_B1, dlt hi, cond_true, e1, Option.getD_some]
      exact inner)
    (fun g acc => by
      simp -implicitDefEqProofs only [m_spec_l11Wires_L1, m_spec_l11Wires_B1, dge, cond_false, m_spec_l11Wires_A1])
    0 [] (xs.length + 1) (by omega) (by omega) (by rw [Nat.sub_zero, ← ew]; simp only [List.length_nil]; omega)
  rw [Nat.sub_zero, ← ew] at key
  simpa using key
end
section
open Go.RowKit
set_option linter.unusedVariables false
set_option linter.unusedSimpArgs false
inductive OT where
  | nil | q (i : Nat) (r : OT) | a (i : Nat) (r : OT) | two (i : Nat) (r1 : OT) (j : Nat) (r2 : OT)
def OT.len : OT → Nat
  | .nil => 0
  | .q _ r => r.len + 1
  | .a _ r => r.len + 1
  | .two _ r1 _ _ => r1.len + 1
section
variable {P : Program} {ops : Array Oper} {S : World → Prop}
def ActAt (P : Program) (ops : Array Oper) (K : (Nat → Value) → World → Prop) (i : Nat) (f : Nat → Value) (w : World) : Prop :=
  match ops[i]? with
  | none => False
  | some o => (wantF f ops o = true ∧ OpX P (fun v w' => K (upo f o.dst v) w') ((execOp (ev f) o).run P w)) ∨ (wantF f ops o = false ∧ K (upo f o.dst undef) w)
def RT (P : Program) (ops : Array Oper) (S : World → Prop) (Q : (Nat → Value) → World → Prop) : OT → (Nat → Value) → World → Prop
  | .nil, f, w => Q f w
  | .q i r, f, w => match ops[i]? with
    | none => False
    | some o => ∃ v, ((wantF f ops o = true ∧ ∀ w, S w → (execOp (ev f) o).run P w = .ok (.value v) w) ∨ (wantF f ops o = false ∧ v = undef)) ∧ RT P ops S Q r (upo f o.dst v) w
  | .a i r, f, w => ActAt P ops (fun f' w' => S w' ∧ RT P ops S Q r f' w') i f w
  | .two i r1 j r2, f, w => ActAt P ops (fun f' w' => S w' ∧ RT P ops S Q r1 f' w') i f w ∧ ActAt P ops (fun f' w' => S w' ∧ RT P ops S Q r2 f' w') j f w
variable {Q : (Nat → Value) → World → Prop} {rest r2 : OT} {f : Nat → Value} {w : World} {i j : Nat} {o o2 : Oper}
theorem RT.y {v : Value} (ho : ops[i]? = some o) (hg : wantF f ops o = true) (hy : Y P S f o v) (h : RT P ops S Q rest (upo f o.dst v) w) : RT P ops S Q (.q i rest) f w := by
  unfold RT; rw [ho]; exact ⟨v, .inl ⟨hg, hy⟩, h⟩
theorem RT.skip (ho : ops[i]? = some o) (hg : wantF f ops o = false) (h : RT P ops S Q rest (upo f o.dst undef) w) : RT P ops S Q (.q i rest) f w := by
  unfold RT; rw [ho]; exact ⟨undef, .inr ⟨hg, rfl⟩, h⟩
theorem ActAt.of {K : (Nat → Value) → World → Prop} (ho : ops[i]? = some o) (h : RL P ops K [o] f w) : ActAt P ops K i f w := by
  unfold ActAt
  rw [ho]
  unfold RL at h
  exact h
theorem RT.act (ho : ops[i]? = some o) (h : RL P ops (fun f' w' => S w' ∧ RT P ops S Q rest f' w') [o] f w) : RT P ops S Q (.a i rest) f w := ActAt.of ho h
theorem RT.both (ho : ops[i]? = some o) (ho2 : ops[j]? = some o2) (h : RL P ops (fun f' w' => S w' ∧ RT P ops S Q rest f' w') [o] f w) (h2 : RL P ops (fun f' w' => S w' ∧ RT P ops S Q r2 f' w') [o2] f w) : RT P ops S Q (.two i rest j r2) f w :=
  ⟨ActAt.of ho h, ActAt.of ho2 h2⟩
end
end
section
open Go.RowKit
set_option linter.unusedVariables false
set_option linter.unusedSimpArgs false
set_option maxRecDepth 100000
def m_spec_l19At (d0 : DNet) (d1 : List Bool) (d2 : DPort) : Option Int :=
  ((getI d0.agents d2.agent).bind fun x6 => ((getI d1 d2.agent).bind fun x17 => some (roleSpec x6.kind d2.slot x17)))
set_option maxHeartbeats 2000000 in
theorem c_m_spec_l19At (d0 : DNet) (d1 : List Bool) (d2 : DPort) (r : Int) (hm : m_spec_l19At d0 d1 d2 = some r) (v0 : Value) (v1 : Value) (w : World) (hv0 : Pt netRd w v0 d0) (hv1 : Sl boolRd 1 w v1 d1) :
    Calls Try.prog 123 #[v0, v1, .agg #[.int .i64 d2.agent, .int .i64 d2.slot]] w fun e w' => e = .returned (.int .i64 r) ∧ Below w.heap.size w w' := by
  obtain ⟨ba0, oa0, csa0, rfl, hba0, hRa0, hca0⟩ := hv0
  have hSa0 := hRa0
  obtain ⟨A1, n1, c1, rfl, ⟨h1, r1⟩⟩ := hRa0
  have e1 := h1.len; subst e1
  have q1 := len_le r1
  obtain ⟨Aa1, na1, ca1, rfl, ha1, ra1⟩ := hv1
  have ea1 := ha1.len; subst ea1
  have qa1 := len_le ra1
  have T := Below.refl w.heap.size w
  unfold m_spec_l19At at hm
  refine enter 24 Try.func123 rfl rfl rfl ?_
  intro f hf
  have s0 : f 0 = .pointer (some ⟨ba0, oa0, none⟩) := hf 0 _ rfl
  have s1 : f 1 = .slice Aa1 d1.length ca1 := hf 1 _ rfl
  have s2 : f 2 = .agg #[.int .i64 d2.agent, .int .i64 d2.slot] := hf 2 _ rfl
  refine wp_seq ?_
  refine wp_rl rfl ?_
  refine RL.box rfl s2 (fun w2 B3 hb4 szw2 => ?_)
  replace B3 : Blk w2 w.heap.size 81 #[.int .i64 d2.agent, .int .i64 d2.slot] := B3
  have GB3 : w.heap.size ≤ w.heap.size := T.size
  have T := Tt T hb4
  refine RL.y rfl (Y.assign (v := .int .i64 0) rfl) ?_
  refine RL.nil ?_
  refine then_n ?_
  refine wp_seq ?_
  refine wp_rbd (by kernel_rfl) (by kernel_rfl) ?_
  refine RQ.y rfl (Y.move (v := .pointer (some ⟨ba0, oa0, none⟩)) s0) ?_
  refine RQ.y rfl (Y.nilCheck rfl) ?_
  refine RQ.y rfl (Y.fieldAddr (off := 0) rfl (by kernel_rfl)) ?_
  refine RQ.y rfl (Y.load (v := .slice A1 d0.agents.length c1) rfl (by kernel_rfl) (beC (cellT T (hca0 0 _ rfl)))) ?_
  refine RQ.y rfl (Y.fieldAddr (off := 0) rfl (by kernel_rfl)) ?_
  refine RQ.y rfl (Y.load (v := .int .i64 d2.agent) rfl (by kernel_rfl) (beC (blkCell B3 (i := 0) rfl))) ?_
  obtain ⟨x6, hx9, hm⟩ := bnd hm
  obtain ⟨k7, hk10, hl11, hx9⟩ := getI_some hx9
  obtain ⟨b13, o14, rfl, hbb13⟩ := h1.addr (by omega)
  obtain ⟨cs8, hRcs8, hc12⟩ := h1.el hx9
  have hScs8 := hRcs8
  obtain ⟨A15, n15, c15, A16, n16, c16, rfl, ⟨h15, r15⟩, ⟨h16, r16⟩⟩ := hRcs8
  have e15 := h15.len; subst e15
  have q15 := len_le r15
  have e16 := h16.len; subst e16
  have q16 := len_le r16
  refine RQ.y rfl (Y.indexAddr (m := k7) (sz := 5) rfl rfl hk10 hl11 (by kernel_rfl)) ?_
  refine RQ.y rfl (Y.fieldAddr (off := 0) rfl (by kernel_rfl)) ?_
  refine RQ.y rfl (Y.load (v := .int .i64 x6.kind) rfl (by kernel_rfl) (beC (cellT T (hc12 0 _ rfl)))) ?_
  refine RQ.y rfl (Y.fieldAddr (off := 1) rfl (by kernel_rfl)) ?_
  refine RQ.y rfl (Y.load (v := .int .i64 d2.slot) rfl (by kernel_rfl) (beC (blkCell B3 (i := 1) rfl))) ?_
  refine RQ.y rfl (Y.move (v := .slice Aa1 d1.length ca1) s1) ?_
  refine RQ.y rfl (Y.fieldAddr (off := 0) rfl (by kernel_rfl)) ?_
  refine RQ.y rfl (Y.load (v := .int .i64 d2.agent) rfl (by kernel_rfl) (beC (blkCell B3 (i := 0) rfl))) ?_
  obtain ⟨x17, hx20, hm⟩ := bnd hm
  obtain ⟨k18, hk21, hl22, hx20⟩ := getI_some hx20
  obtain ⟨b24, o25, rfl, hbb24⟩ := ha1.addr (by omega)
  obtain ⟨cs19, hRcs19, hc23⟩ := ha1.el hx20
  have hScs19 := hRcs19
  obtain rfl := hRcs19
  refine RQ.y rfl (Y.indexAddr (m := k18) (sz := 1) rfl rfl hk21 hl22 (by kernel_rfl)) ?_
  refine RQ.y rfl (Y.load (v := .bool x17) rfl (by kernel_rfl) (beC (cellT T (hc23 0 _ rfl)))) ?_
  refine RQ.call rfl (am3 rfl rfl rfl) (by kernel_rfl) (v := .int .i64 (roleSpec x6.kind d2.slot x17)) (bel (K := fun _ => True) fun w' hb' => (callB (spec_l19Role x6.kind d2.slot x17 w'))) ?_
  refine RQ.y rfl (Y.assign (v := .int .i64 (roleSpec x6.kind d2.slot x17)) rfl) ?_
  refine RQ.nil ?_
  intro w26 hb27
  have szw26 := hb27.size
  have T := Tt T hb27
  refine then_n ?_
  refine wp_ret ?_
  obtain rfl := Option.some.inj hm
  exact (ret1 rfl rfl rfl ⟨rfl, T⟩)
def m_impl_Net_fits_A1 : Option Bool :=
  some true
def m_impl_Net_fits_B1 (d0 : DNet) (d1 : List Bool) (rec1 : Int → Option Bool) (K1 : Option Bool) (i4 : Int) : Option Bool :=
  (bif (decide (i4 < (d1.length : Int))) then ((getI d1 i4).bind fun x7 => (bif x7 then ((getI d0.agents i4).bind fun x19 => (bif (turns x19.kind) then (rec1 (i4 + 1)) else some false)) else (rec1 (i4 + 1)))) else (K1))
def m_impl_Net_fits_L1 (d0 : DNet) (d1 : List Bool) (K1 : Option Bool) : Nat → Int → Option Bool
  | 0, _ => none
  | g + 1, i4 => m_impl_Net_fits_B1 d0 d1 (m_impl_Net_fits_L1 d0 d1 K1 g) K1 i4
def m_impl_Net_fits (d0 : DNet) (d1 : List Bool) : Option Bool :=
  (bif ((d1.length : Int) != (d0.agents.length : Int)) then some false else (m_impl_Net_fits_L1 d0 d1 m_impl_Net_fits_A1 (d1.length + 1) 0))
set_option maxHeartbeats 2000000 in
theorem c_m_impl_Net_fits (d0 : DNet) (d1 : List Bool) (r : Bool) (hm : m_impl_Net_fits d0 d1 = some r) (v0 : Value) (v1 : Value) (w : World) (hv0 : Pt netRd w v0 d0) (hv1 : Sl boolRd 1 w v1 d1) :
    Calls Try.prog 129 #[v0, v1] w fun e w' => e = .returned (.bool r) ∧ Below w.heap.size w w' := by
  obtain ⟨ba0, oa0, csa0, rfl, hba0, hRa0, hca0⟩ := hv0
  have hSa0 := hRa0
  obtain ⟨A1, n1, c1, rfl, ⟨h1, r1⟩⟩ := hRa0
  have e1 := h1.len; subst e1
  have q1 := len_le r1
  obtain ⟨Aa1, na1, ca1, rfl, ha1, ra1⟩ := hv1
  have ea1 := ha1.len; subst ea1
  have qa1 := len_le ra1
  have T := Below.refl w.heap.size w
  unfold m_impl_Net_fits at hm
  refine enter 36 Try.func129 rfl rfl rfl ?_
  intro f hf
  have s0 : f 0 = .pointer (some ⟨ba0, oa0, none⟩) := hf 0 _ rfl
  have s1 : f 1 = .slice Aa1 d1.length ca1 := hf 1 _ rfl
  refine wp_seq ?_
  refine wp_rs rfl ?_
  refine RQ.y rfl (Y.assign (v := .bool false) rfl) ?_
  refine RQ.nil ?_
  refine then_n ?_
  refine wp_seq ?_
  refine wp_seq ?_
  refine wp_rs rfl ?_
  refine RQ.y rfl (Y.move (v := .slice Aa1 d1.length ca1) s1) ?_
  refine RQ.y rfl (Y.len (by kernel_rfl) rfl) ?_
  refine RQ.y rfl (Y.move (v := .pointer (some ⟨ba0, oa0, none⟩)) s0) ?_
  refine RQ.y rfl (Y.nilCheck rfl) ?_
  refine RQ.y rfl (Y.fieldAddr (off := 0) rfl (by kernel_rfl)) ?_
  refine RQ.y rfl (Y.load (v := .slice A1 d0.agents.length c1) rfl (by kernel_rfl) (eqC (cellT T (hca0 0 _ rfl)))) ?_
  refine RQ.y rfl (Y.len (by kernel_rfl) rfl) ?_
  refine RQ.y rfl (Y.binI (v := .bool ((d1.length : Int) != (d0.agents.length : Int))) rfl rfl rfl) ?_
  refine RQ.nil ?_
  refine then_n ?_
  rcases bcases ((d1.length : Int) != (d0.agents.length : Int)) with c2 | c2
  · replace hm := cF c2 hm
    refine cond_f rfl (vb rfl c2) ?_
    refine wp_skip ?_
    refine then_n ?_
    refine wp_seq ?_
    refine wp_seq ?_
    refine wp_rs rfl ?_
    refine RQ.y rfl (Y.move (v := .slice Aa1 d1.length ca1) s1) ?_
    refine RQ.y rfl (Y.len (by kernel_rfl) rfl) ?_
    refine RQ.y rfl (Y.move (v := .int .i64 0) rfl) ?_
    refine RQ.nil ?_
    refine then_n ?_
    refine wp_block ?_
    obtain ⟨K1, hK1, hm⟩ : ∃ K, K = m_impl_Net_fits_A1 ∧ m_impl_Net_fits_L1 d0 d1 K (d1.length + 1) 0 = some r := ⟨_, rfl, hm⟩
    refine wp_loopX (fun g f w' => ∃ (i4 : Int), f 0 = .pointer (some ⟨ba0, oa0, none⟩) ∧ f 15 = .slice Aa1 d1.length ca1 ∧ f 16 = .int .i64 (d1.length : Int) ∧ f 17 = .int .i64 i4 ∧ 0 ≤ i4 ∧ Below w.heap.size w w' ∧ m_impl_Net_fits_L1 d0 d1 K1 g i4 = some r) 0 (fun f w' => Below w.heap.size w w' ∧ m_impl_Net_fits_A1  = some r) (d1.length + 1) ⟨0, s0, rfl, rfl, rfl, (by omega), T, hm⟩ ?_ ?_
    · rintro f w3 ⟨T, hm⟩
      unfold m_impl_Net_fits_A1 at hm
      refine blk_hit (then_n ?_)
      refine wp_seq ?_
      refine wp_rs rfl ?_
      refine RQ.y rfl (Y.assign (v := .bool true) rfl) ?_
      refine RQ.nil ?_
      refine then_n ?_
      refine wp_ret ?_
      obtain rfl := Option.some.inj hm
      exact (ret1 rfl rfl rfl ⟨rfl, T⟩)
    · rintro g f w5 ⟨i4, s0_1, s15_1, s16_1, s17_1, nn17_1, T, hm⟩
      rcases g with _ | g
      · simp only [m_impl_Net_fits_L1] at hm; cases hm
      obtain ⟨rec1, hrec1, hm⟩ : ∃ z, z = m_impl_Net_fits_L1 d0 d1 K1 g ∧ m_impl_Net_fits_B1 d0 d1 z K1 i4 = some r := ⟨_, rfl, hm⟩
      unfold m_impl_Net_fits_B1 at hm
      refine wp_seq ?_
      refine wp_rs rfl ?_
      refine RQ.y rfl (Y.binI (v := .bool (decide (i4 < (d1.length : Int)))) s17_1 s16_1 rfl) ?_
      refine RQ.nil ?_
      refine then_n ?_
      refine wp_seq ?_
      rcases bcases (decide (i4 < (d1.length : Int))) with c6 | c6
      · replace hm := cF c6 hm
        have pc6 := of_decide_eq_false c6
        refine cond_f rfl (vb rfl c6) ?_
        refine wp_exit ?_
        exact (then_x (then_x (hit_x ⟨_, rfl, ⟨T, (by rw [hK1] at hm; exact hm)⟩⟩)))
      · replace hm := cT c6 hm
        have pc6 := of_decide_eq_true c6
        refine cond_t rfl (vb rfl c6) ?_
        refine wp_skip ?_
        refine then_n ?_
        refine wp_seq ?_
        refine wp_block ?_
        refine wp_seq ?_
        refine wp_rs rfl ?_
        refine RQ.y rfl (Y.move (v := .int .i64 i4) s17_1) ?_
        obtain ⟨x7, hx10, hm⟩ := bnd hm
        obtain ⟨k8, hk11, hl12, hx10⟩ := getI_some hx10
        obtain ⟨b14, o15, rfl, hbb14⟩ := ha1.addr (by omega)
        obtain ⟨cs9, hRcs9, hc13⟩ := ha1.el hx10
        have hScs9 := hRcs9
        obtain rfl := hRcs9
        refine RQ.y rfl (Y.indexAddr (m := k8) (sz := 1) s15_1 s17_1 hk11 hl12 (by kernel_rfl)) ?_
        refine RQ.y rfl (Y.load (v := .bool x7) rfl (by kernel_rfl) (eqC (cellT T (hc13 0 _ rfl)))) ?_
        refine RQ.y rfl (Y.assign (v := .int .i64 i4) rfl) ?_
        refine RQ.y rfl (Y.assign (v := .bool x7) rfl) ?_
        refine RQ.nil ?_
        refine then_n ?_
        refine wp_seq ?_
        refine wp_rb rfl ?_
        refine RQ.y rfl (Y.move (v := .bool x7) rfl) ?_
        refine RQ.y rfl (Y.move (v := .bool x7) rfl) ?_
        rcases bcases x7 with c16 | c16
        · replace hm := cF c16 hm
          refine RQ.skip (wantN (dj := 23) rfl (vb rfl c16) rfl) ?_
          refine RQ.skip (wantN (dj := 23) rfl (vb rfl c16) rfl) ?_
          refine RQ.skip (wantN (dj := 23) rfl (vb rfl c16) rfl) ?_
          refine RQ.skip (wantN (dj := 23) rfl (vb rfl c16) rfl) ?_
          refine RQ.skip (wantN (dj := 23) rfl (vb rfl c16) rfl) ?_
          refine RQ.skip (wantN (dj := 23) rfl (vb rfl c16) rfl) ?_
          refine RQ.skip (wantN (dj := 23) rfl (vb rfl c16) rfl) ?_
          refine RQ.skip (wantN (dj := 23) rfl (vb rfl c16) rfl) ?_
          refine RQ.skip (wantN (dj := 23) rfl (vb rfl c16) rfl) ?_
          refine RQ.skip (wantN (dj := 23) rfl (vb rfl c16) rfl) ?_
          refine RQ.y rfl (Y.pick (b := false) (v := .bool false) (vb rfl c16) rfl) ?_
          refine RQ.nil ?_
          intro w17 hb18
          have szw17 := hb18.size
          have T := Tt T hb18
          refine then_n ?_
          refine cond_f rfl rfl ?_
          refine wp_skip ?_
          refine blk_n (then_n ?_)
          refine wp_rs rfl ?_
          refine RQ.y rfl (Y.binI s17_1 rfl (binI_add (m := i4) (by omega))) ?_
          refine RQ.y rfl (Y.move (v := .int .i64 (i4 + 1)) rfl) ?_
          refine RQ.nil ?_
          exact (then_n ⟨g, _, Nat.lt_succ_self _, rfl, ⟨(i4 + 1), s0_1, s15_1, s16_1, rfl, (by omega), T, (by rw [← hrec1]; exact hm)⟩⟩)
        · replace hm := cT c16 hm
          refine RQ.y (wantT (dj := 23) rfl (vb rfl c16)) (Y.move (v := .pointer (some ⟨ba0, oa0, none⟩)) s0_1) ?_
          refine RQ.y (wantT (dj := 23) rfl (vb rfl c16)) (Y.nilCheck rfl) ?_
          refine RQ.y (wantT (dj := 23) rfl (vb rfl c16)) (Y.fieldAddr (off := 0) rfl (by kernel_rfl)) ?_
          refine RQ.y (wantT (dj := 23) rfl (vb rfl c16)) (Y.load (v := .slice A1 d0.agents.length c1) rfl (by kernel_rfl) (beC (cellT T (hca0 0 _ rfl)))) ?_
          refine RQ.y (wantT (dj := 23) rfl (vb rfl c16)) (Y.move (v := .int .i64 i4) rfl) ?_
          obtain ⟨x19, hx22, hm⟩ := bnd hm
          obtain ⟨k20, hk23, hl24, hx22⟩ := getI_some hx22
          obtain ⟨b26, o27, rfl, hbb26⟩ := h1.addr (by omega)
          obtain ⟨cs21, hRcs21, hc25⟩ := h1.el hx22
          have hScs21 := hRcs21
          obtain ⟨A28, n28, c28, A29, n29, c29, rfl, ⟨h28, r28⟩, ⟨h29, r29⟩⟩ := hRcs21
          have e28 := h28.len; subst e28
          have q28 := len_le r28
          have e29 := h29.len; subst e29
          have q29 := len_le r29
          refine RQ.y (wantT (dj := 23) rfl (vb rfl c16)) (Y.indexAddr (m := k20) (sz := 5) rfl rfl hk23 hl24 (by kernel_rfl)) ?_
          refine RQ.y (wantT (dj := 23) rfl (vb rfl c16)) (Y.fieldAddr (off := 0) rfl (by kernel_rfl)) ?_
          refine RQ.y (wantT (dj := 23) rfl (vb rfl c16)) (Y.load (v := .int .i64 x19.kind) rfl (by kernel_rfl) (beC (cellT T (hc25 0 _ rfl)))) ?_
          refine RQ.call (wantT (dj := 23) rfl (vb rfl c16)) (am1 rfl) (by kernel_rfl) (v := .bool (turns x19.kind)) (bel (K := fun _ => True) fun w' hb' => (callB (impl_canReverse x19.kind w'))) ?_
          refine RQ.y (wantT (dj := 23) rfl (vb rfl c16)) (Y.not (b' := (!(turns x19.kind))) rfl rfl) ?_
          refine RQ.y rfl (Y.pick (b := true) (v := .bool (!(turns x19.kind))) (vb rfl c16) rfl) ?_
          refine RQ.nil ?_
          intro w30 hb31
          have szw30 := hb31.size
          have T := Tt T hb31
          refine then_n ?_
          rcases bcases (turns x19.kind) with c32 | c32
          · replace hm := cF c32 hm
            refine cond_t rfl (vbn rfl c32 rfl) ?_
            refine wp_seq ?_
            refine wp_rs rfl ?_
            refine RQ.y rfl (Y.assign (v := .bool false) rfl) ?_
            refine RQ.nil ?_
            refine then_n ?_
            refine wp_ret ?_
            obtain rfl := Option.some.inj hm
            exact (blk_r (then_r (then_r (hit_r (blk_r (then_r (ret1 rfl rfl rfl ⟨rfl, T⟩)))))))
          · replace hm := cT c32 hm
            refine cond_f rfl (vbn rfl c32 rfl) ?_
            refine wp_skip ?_
            refine blk_n (then_n ?_)
            refine wp_rs rfl ?_
            refine RQ.y rfl (Y.binI s17_1 rfl (binI_add (m := i4) (by omega))) ?_
            refine RQ.y rfl (Y.move (v := .int .i64 (i4 + 1)) rfl) ?_
            refine RQ.nil ?_
            exact (then_n ⟨g, _, Nat.lt_succ_self _, rfl, ⟨(i4 + 1), s0_1, s15_1, s16_1, rfl, (by omega), T, (by rw [← hrec1]; exact hm)⟩⟩)
  · replace hm := cT c2 hm
    refine cond_t rfl (vb rfl c2) ?_
    refine wp_seq ?_
    refine wp_rs rfl ?_
    refine RQ.y rfl (Y.assign (v := .bool false) rfl) ?_
    refine RQ.nil ?_
    refine then_n ?_
    refine wp_ret ?_
    obtain rfl := Option.some.inj hm
    exact (then_r (ret1 rfl rfl rfl ⟨rfl, T⟩))
def m_impl_Net_role (d0 : DNet) (d1 : DPort) (d2 : List Bool) : Option Int :=
  ((getI d0.agents d1.agent).bind fun x6 => ((getI d2 d1.agent).bind fun x17 => some (portRole x6.kind d1.slot x17)))
set_option maxHeartbeats 2000000 in
theorem c_m_impl_Net_role (d0 : DNet) (d1 : DPort) (d2 : List Bool) (r : Int) (hm : m_impl_Net_role d0 d1 d2 = some r) (v0 : Value) (v2 : Value) (w : World) (hv0 : Pt netRd w v0 d0) (hv2 : Sl boolRd 1 w v2 d2) :
    Calls Try.prog 128 #[v0, .agg #[.int .i64 d1.agent, .int .i64 d1.slot], v2] w fun e w' => e = .returned (.int .i64 r) ∧ Below w.heap.size w w' := by
  obtain ⟨ba0, oa0, csa0, rfl, hba0, hRa0, hca0⟩ := hv0
  have hSa0 := hRa0
  obtain ⟨A1, n1, c1, rfl, ⟨h1, r1⟩⟩ := hRa0
  have e1 := h1.len; subst e1
  have q1 := len_le r1
  obtain ⟨Aa2, na2, ca2, rfl, ha2, ra2⟩ := hv2
  have ea2 := ha2.len; subst ea2
  have qa2 := len_le ra2
  have T := Below.refl w.heap.size w
  unfold m_impl_Net_role at hm
  refine enter 24 Try.func128 rfl rfl rfl ?_
  intro f hf
  have s0 : f 0 = .pointer (some ⟨ba0, oa0, none⟩) := hf 0 _ rfl
  have s1 : f 1 = .agg #[.int .i64 d1.agent, .int .i64 d1.slot] := hf 1 _ rfl
  have s2 : f 2 = .slice Aa2 d2.length ca2 := hf 2 _ rfl
  refine wp_seq ?_
  refine wp_rl rfl ?_
  refine RL.box rfl s1 (fun w2 B3 hb4 szw2 => ?_)
  replace B3 : Blk w2 w.heap.size 81 #[.int .i64 d1.agent, .int .i64 d1.slot] := B3
  have GB3 : w.heap.size ≤ w.heap.size := T.size
  have T := Tt T hb4
  refine RL.y rfl (Y.assign (v := .int .i64 0) rfl) ?_
  refine RL.nil ?_
  refine then_n ?_
  refine wp_seq ?_
  refine wp_rbd (by kernel_rfl) (by kernel_rfl) ?_
  refine RQ.y rfl (Y.move (v := .pointer (some ⟨ba0, oa0, none⟩)) s0) ?_
  refine RQ.y rfl (Y.nilCheck rfl) ?_
  refine RQ.y rfl (Y.fieldAddr (off := 0) rfl (by kernel_rfl)) ?_
  refine RQ.y rfl (Y.load (v := .slice A1 d0.agents.length c1) rfl (by kernel_rfl) (beC (cellT T (hca0 0 _ rfl)))) ?_
  refine RQ.y rfl (Y.fieldAddr (off := 0) rfl (by kernel_rfl)) ?_
  refine RQ.y rfl (Y.load (v := .int .i64 d1.agent) rfl (by kernel_rfl) (beC (blkCell B3 (i := 0) rfl))) ?_
  obtain ⟨x6, hx9, hm⟩ := bnd hm
  obtain ⟨k7, hk10, hl11, hx9⟩ := getI_some hx9
  obtain ⟨b13, o14, rfl, hbb13⟩ := h1.addr (by omega)
  obtain ⟨cs8, hRcs8, hc12⟩ := h1.el hx9
  have hScs8 := hRcs8
  obtain ⟨A15, n15, c15, A16, n16, c16, rfl, ⟨h15, r15⟩, ⟨h16, r16⟩⟩ := hRcs8
  have e15 := h15.len; subst e15
  have q15 := len_le r15
  have e16 := h16.len; subst e16
  have q16 := len_le r16
  refine RQ.y rfl (Y.indexAddr (m := k7) (sz := 5) rfl rfl hk10 hl11 (by kernel_rfl)) ?_
  refine RQ.y rfl (Y.fieldAddr (off := 0) rfl (by kernel_rfl)) ?_
  refine RQ.y rfl (Y.load (v := .int .i64 x6.kind) rfl (by kernel_rfl) (beC (cellT T (hc12 0 _ rfl)))) ?_
  refine RQ.y rfl (Y.fieldAddr (off := 1) rfl (by kernel_rfl)) ?_
  refine RQ.y rfl (Y.load (v := .int .i64 d1.slot) rfl (by kernel_rfl) (beC (blkCell B3 (i := 1) rfl))) ?_
  refine RQ.y rfl (Y.move (v := .slice Aa2 d2.length ca2) s2) ?_
  refine RQ.y rfl (Y.fieldAddr (off := 0) rfl (by kernel_rfl)) ?_
  refine RQ.y rfl (Y.load (v := .int .i64 d1.agent) rfl (by kernel_rfl) (beC (blkCell B3 (i := 0) rfl))) ?_
  obtain ⟨x17, hx20, hm⟩ := bnd hm
  obtain ⟨k18, hk21, hl22, hx20⟩ := getI_some hx20
  obtain ⟨b24, o25, rfl, hbb24⟩ := ha2.addr (by omega)
  obtain ⟨cs19, hRcs19, hc23⟩ := ha2.el hx20
  have hScs19 := hRcs19
  obtain rfl := hRcs19
  refine RQ.y rfl (Y.indexAddr (m := k18) (sz := 1) rfl rfl hk21 hl22 (by kernel_rfl)) ?_
  refine RQ.y rfl (Y.load (v := .bool x17) rfl (by kernel_rfl) (beC (cellT T (hc23 0 _ rfl)))) ?_
  refine RQ.call rfl (am3 rfl rfl rfl) (by kernel_rfl) (v := .int .i64 (portRole x6.kind d1.slot x17)) (bel (K := fun _ => True) fun w' hb' => (callB (impl_PortRole x6.kind d1.slot x17 w'))) ?_
  refine RQ.y rfl (Y.assign (v := .int .i64 (portRole x6.kind d1.slot x17)) rfl) ?_
  refine RQ.nil ?_
  intro w26 hb27
  have szw26 := hb27.size
  have T := Tt T hb27
  refine then_n ?_
  refine wp_ret ?_
  obtain rfl := Option.some.inj hm
  exact (ret1 rfl rfl rfl ⟨rfl, T⟩)
end
section
open Go.RowKit
set_option linter.unusedVariables false
set_option linter.unusedSimpArgs false
/-- A loop that seeks the first element with q. -/
theorem findI {α ρ : Type} {L : Nat → Int → Option ρ} {d : List α} {q : α → Bool} {hit : Nat → Option ρ} {K : Option ρ} (h : ∀ g (k : Nat) x, d[k]? = some x → L (g + 1) (k : Int) = if q x then hit k else L g ((k : Int) + 1)) (he : ∀ g, L (g + 1) (d.length : Int) = K) (g : Nat) (hg : d.length < g) :
    L g 0 = match d.findIdx? q with | some i => hit i | none => K := by
  cases hf : d.findIdx? q with
  | none =>
    refine trajI (n := d.length) (fun g k hk => ?_) he g hg
    have hx := List.getElem?_eq_getElem hk
    have := List.findIdx?_eq_none_iff.1 hf d[k] (List.getElem_mem hk)
    rw [h g k _ hx, this]; simp
  | some i =>
    obtain ⟨hi, h1, h2⟩ := List.findIdx?_eq_some_iff_getElem.1 hf
    refine trajI (n := i) (fun g k hk => ?_) (fun g => ?_) g (by omega)
    · have hkl : k < d.length := by omega
      have hx := List.getElem?_eq_getElem hkl
      have := h2 k hk
      rw [h g k _ hx]; simp [this]
    · rw [h g i _ (List.getElem?_eq_getElem hi), h1]; simp
/-- A loop over a list. -/
theorem foldL {α σ ρ : Type} {L : Nat → σ → Int → Option ρ} {d : List α} {f : σ → α → σ} {I : Nat → σ → Prop} {K : σ → Option ρ} (h : ∀ g (k : Nat) x s, d[k]? = some x → I k s → L (g + 1) s (k : Int) = L g (f s x) ((k : Int) + 1) ∧ I (k + 1) (f s x)) (he : ∀ g s, I d.length s → L (g + 1) s (d.length : Int) = K s) :
    ∀ (g : Nat) (s : σ), d.length < g → I 0 s → L g s 0 = K (d.foldl f s) ∧ I d.length (d.foldl f s) := by
  have key : ∀ (m k g : Nat) s, k + m = d.length → m < g → I k s → L g s (k : Int) = K ((d.drop k).foldl f s) ∧ I d.length ((d.drop k).foldl f s) := by
    intro m
    induction m with
    | zero =>
      intro k g s hk hg hI
      obtain ⟨g, rfl⟩ : ∃ g', g = g' + 1 := ⟨g - 1, by omega⟩
      obtain rfl : k = d.length := by omega
      rw [List.drop_length]
      exact ⟨he g s hI, hI⟩
    | succ m ih =>
      intro k g s hk hg hI
      obtain ⟨g, rfl⟩ : ∃ g', g = g' + 1 := ⟨g - 1, by omega⟩
      have hkl : k < d.length := by omega
      have hx := List.getElem?_eq_getElem hkl
      obtain ⟨h1, h2⟩ := h g k _ s hx hI
      rw [h1, List.drop_eq_getElem_cons hkl, List.foldl_cons]
      exact ih (k + 1) g _ (by omega) (by omega) h2
  intro g s hg hI
  have := key d.length 0 g s (by omega) hg hI
  simpa using this
def revAt (rev : List Bool) (p : DPort) : Bool := (rev[p.agent.toNat]?).getD false
def Fits (xs : List DAgent) (rev : List Bool) : Prop := rev.length = xs.length ∧ ∀ i, i < xs.length → ∃ x r, xs[i]? = some x ∧ rev[i]? = some r ∧ (r = true → turns x.kind = true)
theorem fits_loop {L : Nat → Int → Option Bool} {xs : List DAgent} {rev : List Bool} (hl : rev.length = xs.length)
    (h : ∀ g (i : Nat) x r, xs[i]? = some x → rev[i]? = some r → L (g + 1) (i : Int) = bif r then (bif turns x.kind then L g ((i : Int) + 1) else some false) else L g ((i : Int) + 1)) (he : ∀ g, L (g + 1) (rev.length : Int) = some true) (g : Nat) (hg : rev.length < g) :
    (Fits xs rev ∧ L g 0 = some true) ∨ (¬ Fits xs rev ∧ L g 0 = some false) := by
  have key := allO (L := L) (n := rev.length) (p := fun i => ∃ x r, xs[i]? = some x ∧ rev[i]? = some r ∧ (r = true → turns x.kind = true)) (no := some false) (K := some true)
    (fun g i hi ⟨x, r, hx, hr, h1⟩ => by
      rw [h g i x r hx hr]
      cases r with
      | false => rfl
      | true => rw [h1 rfl]; rfl)
    (fun g i hi hn => by
      have hx := List.getElem?_eq_getElem (show i < xs.length by omega)
      have hr := List.getElem?_eq_getElem hi
      rw [h g i _ _ hx hr]
      cases h1 : rev[i] with
      | false => exact absurd ⟨_, _, hx, hr, fun e => by rw [h1] at e; cases e⟩ hn
      | true =>
        cases h2 : turns xs[i].kind with
        | false => rfl
        | true => exact absurd ⟨_, _, hx, hr, fun _ => h2⟩ hn)
    he g hg
  rcases key with ⟨h1, h2⟩ | ⟨h1, h2⟩
  · exact .inl ⟨⟨hl, fun i hi => h1 i (by omega)⟩, h2⟩
  · exact .inr ⟨fun hf => h1 (fun i hi => hf.2 i (by omega)), h2⟩
theorem rev_at {rev : List Bool} {i k : Nat} {r : Bool} (hr : rev[i]? = some r) : revAt rev ⟨(i : Int), (k : Int)⟩ = r := by simp [revAt, hr]
theorem agentOk_len {x : DAgent} (h : agentOk x = true) : (x.ports.length : Int) ≤ roleMost x.kind := by
  unfold agentOk at h
  simp only [Bool.and_eq_true, decide_eq_true_eq] at h
  have h2 := h.1.1.2
  have h1 := h.1.1.1
  unfold fieldsN at h1 h2
  unfold roleMost
  by_cases k9 : x.kind = 9
  · simp only [k9, if_true, portsOf] at h1 h2 ⊢
    split at h1
    · split at h2 <;> omega
    · omega
  · simp only [k9, if_false] at h1 h2 ⊢
    omega
theorem role_eq {xs : List DAgent} {rev : List Bool} (G : Good xs) (F : Fits xs rev) {i k : Nat} {x : DAgent} {r : Bool} (hx : xs[i]? = some x) (hr : rev[i]? = some r) (hk : k < x.ports.length) : roleSpec x.kind k r = portRole x.kind k r := by
  have h1 := agentOk_len (G.ok i x hx)
  obtain ⟨x', r', hx', hr', h2⟩ := F.2 i (lt_of_some hx)
  rw [hx] at hx'; injection hx' with e; subst e
  rw [hr] at hr'; injection hr' with e; subst e
  rw [roleSpec_eq (by omega) (by omega) h2]
  unfold portRole
  have hn : ¬ ((k : Int) < 0 ∨ roleMost x.kind ≤ (k : Int) ∨ (r = true ∧ turns x.kind = false)) := by
    rintro (h | h | ⟨h, h'⟩)
    · omega
    · omega
    · rw [h2 h] at h'; cases h'
  rw [if_neg hn]
theorem p_iFits (d : DNet) (rev : List Bool) : (Fits d.agents rev ∧ m_impl_Net_fits d rev = some true) ∨ (¬ Fits d.agents rev ∧ m_impl_Net_fits d rev = some false) := by
  obtain ⟨xs⟩ := d
  unfold m_impl_Net_fits
  by_cases hl : rev.length = xs.length
  · have e : ((rev.length : Int) != (xs.length : Int)) = false := by simp [hl]
    rw [e, cond_false]
    exact fits_loop hl (fun g i x r hx hr => by
      have hi := lt_of_some hr
      simp -implicitDefEqProofs only [m_impl_Net_fits_L1, m_impl_Net_fits_B1, dlt hi, cond_true, getI_nat hr, getI_nat hx, Option.bind_some])
      (fun g => by simp -implicitDefEqProofs only [m_impl_Net_fits_L1, m_impl_Net_fits_B1, dge, cond_false, m_impl_Net_fits_A1]) _ (Nat.lt_succ_self _)
  · have e : ((rev.length : Int) != (xs.length : Int)) = true := by simp; omega
    rw [e, cond_true]
    exact .inr ⟨fun h => hl h.1, rfl⟩
theorem mem_allPorts {xs : List DAgent} {p : DPort} (h : p ∈ allPorts xs) : ∃ (i k : Nat) (x : DAgent), xs[i]? = some x ∧ k < x.ports.length ∧ p = ⟨(i : Int), (k : Int)⟩ := by
  obtain ⟨j, x, k, h1, h2, rfl⟩ := mem_portsFrom.1 h
  exact ⟨j, k, x, h1, h2, by simp⟩
end
section
open Go.RowKit Go.Maps
set_option linter.unusedVariables false
set_option linter.unusedSimpArgs false
set_option linter.unusedSectionVars false
/-- A map as data: how often it was written, and what it holds. -/
structure MapM (κ β : Type) where
  n : Nat
  get : κ → Option β
section
variable {κ β : Type}
def MapM.empty : MapM κ β := ⟨0, fun _ => none⟩
def MapM.put [DecidableEq κ] (m : MapM κ β) (x : κ) (v : β) : MapM κ β := ⟨m.n + 1, fun y => if y = x then some v else m.get y⟩
def MapM.look (m : MapM κ β) (x : κ) (z : β) : β := (m.get x).getD z
def rdVal (v : Value) : Option (DataW Value × List MemPlace) := some (.held v, [])
/-- A map type: its keys, its elements' zero value. -/
structure MapT (P : Program) (t k : TypeId) (key : κ → Value) (lit : κ → Lit) (good : κ → Prop) (z : Value) : Prop where
  keyed : Keyed P k
  ty : ∃ e, P.underlying t = some (.map k e) ∧ ∀ w, (zeroValue e).run P w = .ok z w
  of : ∀ x, good x → keyOf P k (key x) = some (lit x)
  inj : ∀ x y, lit x = lit y → x = y
def OwM (P : Program) (k : TypeId) (lit : κ → Lit) (enc : β → Value) (w : World) (lo b : Nat) (m : MapM κ β) : Prop :=
  lo ≤ b ∧ ∃ D, w.ownsMap P k rdVal b m.n D ∧ ∀ x zd, D.atKey (lit x) zd = match m.get x with | some v => .held (enc v) | none => zd
variable {P : Program} {t k : TypeId} {key : κ → Value} {lit : κ → Lit} {good : κ → Prop} {z : Value} {enc : β → Value} {w w' : World} {lo b : Nat} {m : MapM κ β}
theorem OwM.lt (h : OwM P k lit enc w lo b m) : b < w.heap.size := by obtain ⟨_, D, h, _⟩ := h; exact h.lt
theorem OwM.keep (h : OwM P k lit enc w lo b m) (hb : w'.heap[b]? = w.heap[b]?) : OwM P k lit enc w' lo b m := by
  obtain ⟨h0, D, ⟨es, clock, h1, F, hs, hD⟩, h2⟩ := h
  exact ⟨h0, D, ⟨es, clock, hb.trans h1, F, hs, hD⟩, h2⟩
theorem OwM.below (h : OwM P k lit enc w lo b m) (hb : Below w.heap.size w w') : OwM P k lit enc w' lo b m := h.keep (hb.block b h.lt)
theorem OwM.only {bs : List Nat} (h : OwM P k lit enc w lo b m) (ho : Only bs w w') (hn : b ∉ bs) : OwM P k lit enc w' lo b m := h.keep (ho.block b hn)
theorem OwM.grown {row : Option Nat} (h : OwM P k lit enc w lo b m) (hg : w.grownBy w' row) (hn : row ≠ some b) : OwM P k lit enc w' lo b m := h.keep (hg.block b h.lt (fun e => hn e.symm))
theorem OwM.lower {lo' : Nat} (h : OwM P k lit enc w lo b m) (hl : lo' ≤ lo) : OwM P k lit enc w lo' b m := ⟨Nat.le_trans hl h.1, h.2⟩
theorem OwM.new : OwM P k lit enc (w.alloc (.map #[] 0)) w.heap.size w.heap.size (MapM.empty : MapM κ β) :=
  ⟨Nat.le_refl _, .map [], World.ownsMap_made w P k rdVal, fun x zd => rfl⟩
theorem OwM.look {zb : β} (h : OwM P k lit enc w lo b m) (T : MapT P t k key lit good (enc zb)) {x : κ} (hx : good x) : (Instr.lookup t (.map (some b)) (key x) false).run P w = .ok (enc (m.look x zb)) w := by
  obtain ⟨_, D, h1, h2⟩ := h
  obtain ⟨e, ht, hz⟩ := T.ty
  obtain ⟨v, ps, hr, hv⟩ := h1.lookup T.keyed ht (hz w) (zd := .held (enc zb)) (zp := []) rfl (T.of x hx)
  rw [hr]
  have h3 := h2 x (.held (enc zb))
  rw [h3] at hv
  unfold MapM.look
  cases hg : m.get x with
  | none => rw [hg] at hv; simp only [rdVal, Option.some.injEq, Prod.mk.injEq, DataW.held.injEq] at hv; rw [hv.1]; rfl
  | some u => rw [hg] at hv; simp only [rdVal, Option.some.injEq, Prod.mk.injEq, DataW.held.injEq] at hv; rw [hv.1]; rfl
theorem OwM.set [DecidableEq κ] {v : β} (h : OwM P k lit enc w lo b m) (T : MapT P t k key lit good z) {x : κ} (hx : good x) (hn : m.n ≤ 4294967296) :
    ∃ w', (Instr.mapUpdate t (.map (some b)) (key x) (enc v)).run P w = .ok () w' ∧ OwM P k lit enc w' lo b (m.put x v) ∧ Only [b] w w' := by
  obtain ⟨h0, D, h1, h2⟩ := h
  obtain ⟨e, ht, hz⟩ := T.ty
  obtain ⟨w', hr, h3, h4⟩ := h1.store T.keyed ht (by unfold maxLen; omega) (T.of x hx) (d := .held (enc v)) (ps := []) rfl
  refine ⟨w', hr, ⟨h0, _, h3, fun y zd => ?_⟩, ?_⟩
  · unfold MapM.put
    by_cases hy : y = x
    · subst hy
      simp only [if_true]
      exact atKey_put_same h1.isMap (T.keyed.key (T.of y hx)) _ _
    · simp only [if_neg hy]
      rw [atKey_put_other (fun e => hy (T.inj _ _ e))]
      exact h2 y zd
  · obtain ⟨es, clock, es', clock', hb, rfl⟩ := h4
    refine ⟨rfl, rfl, rfl, by simp [ChangeMaps.setBlock], fun j hj => ?_⟩
    exact ChangeMaps.heap_setBlock_other hb _ (by simpa using hj)
end
section
variable {κ β : Type} [DecidableEq κ] {P : Program} {t k : TypeId} {key : κ → Value} {lit : κ → Lit} {good : κ → Prop} {enc : β → Value} {w : World} {lo b : Nat} {m : MapM κ β}
variable {C : World → Prop} {f : Nat → Value} {d : Option Tmp} {ty : TypeId} {pos : String} {af : Array Edge} {g : Option (Nat × Bool)} {x y u : Operand} {ops : Array Oper} {rest : List Oper} {Q : (Nat → Value) → World → Prop}
theorem Y.look {a : κ} {zb : β} (T : MapT P t k key lit good (enc zb)) (hx : ev f x = .map (some b)) (hy : ev f y = key a) (ha : good a) (hC : ∀ w, C w → OwM P k lit enc w lo b m) : Y P C f ⟨d, .lookup t x y false, ty, pos, af, g⟩ (enc (m.look a zb)) := fun w hw => by
  simp [execOp, hx, hy, (hC w hw).look T ha]
theorem RL.mapSet {a : κ} {v : β} {z : Value} (T : MapT P t k key lit good z) (hg : wantF f ops ⟨d, .mapUpdate t x y u, ty, pos, af, g⟩ = true) (hx : ev f x = .map (some b)) (hy : ev f y = key a) (hu : ev f u = enc v) (ha : good a) (hm : OwM P k lit enc w lo b m) (hn : m.n ≤ 4294967296)
    (h : ∀ w1, OwM P k lit enc w1 lo b (m.put a v) → Only [b] w w1 → RL P ops Q rest (upo f d undef) w1) : RL P ops Q (⟨d, .mapUpdate t x y u, ty, pos, af, g⟩ :: rest) f w := by
  refine .inl ⟨hg, ?_⟩
  obtain ⟨w1, hr, h1, h2⟩ := hm.set (v := v) T ha hn
  have hr : (execOp (ev f) ⟨d, .mapUpdate t x y u, ty, pos, af, g⟩).run P w = .ok .skip w1 := by simp [execOp, hx, hy, hu, hr]
  rw [hr]
  exact h _ h1 h2
theorem RL.mapIns {a : κ} {v : β} {z : Value} (T : MapT P t k key lit good z) (hg : wantF f ops ⟨d, .insert t x y u, ty, pos, af, g⟩ = true) (hx : ev f x = .map (some b)) (hy : ev f y = key a) (hu : ev f u = enc v) (ha : good a) (hm : OwM P k lit enc w lo b m) (hn : m.n ≤ 4294967296)
    (h : ∀ w1, OwM P k lit enc w1 lo b (m.put a v) → Only [b] w w1 → RL P ops Q rest (upo f d undef) w1) : RL P ops Q (⟨d, .insert t x y u, ty, pos, af, g⟩ :: rest) f w := by
  refine .inl ⟨hg, ?_⟩
  obtain ⟨w1, hr, h1, h2⟩ := hm.set (v := v) T ha hn
  have hr : (execOp (ev f) ⟨d, .insert t x y u, ty, pos, af, g⟩).run P w = .ok .skip w1 := by simp [execOp, hx, hy, hu, hr]
  rw [hr]
  exact h _ h1 h2
theorem RL.makeMap (k : TypeId) (lit : κ → Lit) (enc : β → Value) (hg : wantF f ops ⟨d, .makeMap t none, ty, pos, af, g⟩ = true)
    (h : ∀ w1, OwM P k lit enc w1 w.heap.size w.heap.size (MapM.empty : MapM κ β) → Below w.heap.size w w1 → w1.heap.size = w.heap.size + 1 → RL P ops Q rest (upo f d (.map (some w.heap.size))) w1) : RL P ops Q (⟨d, .makeMap t none, ty, pos, af, g⟩ :: rest) f w := by
  refine .inl ⟨hg, ?_⟩
  have hr : (execOp (ev f) ⟨d, .makeMap t none, ty, pos, af, g⟩).run P w = .ok (.value (.map (some w.heap.size))) (w.alloc (.map #[] 0)) := by
    simp [execOp, run_makeMap]
  rw [hr]
  exact h _ OwM.new (below_alloc _ _) (World.size_alloc _ _)
end
/-- Keys that are numbers. -/
def keyI (x : Int) : Value := .int .i64 x
def litI (x : Int) : Lit := .int .i64 x
def goodI (x : Int) : Prop := -9223372036854775808 ≤ x ∧ x ≤ 9223372036854775807
theorem goodI_wf {x : Int} (h : goodI x) : (Lit.int .i64 x).wf = true := by
  unfold goodI at h
  have h1 : IntKind.min .i64 = -9223372036854775808 := by decide
  have h2 : IntKind.max .i64 = 9223372036854775807 := by decide
  simp only [Lit.wf, h1, h2, Bool.and_eq_true, decide_eq_true_eq]
  exact h
theorem mapTI {P : Program} {t k e : TypeId} {z : Value} (hk : P.underlying k = some (.int .i64)) (ht : P.underlying t = some (.map k e)) (hz : (P.info? e).bind (·.zero) = some z) : MapT P t k keyI litI goodI z :=
  ⟨int_keyed hk, ⟨e, ht, fun w => by
    cases hi : P.info? e with
    | none => rw [hi] at hz; cases hz
    | some inf =>
      rw [hi] at hz
      simp only [Option.bind_some] at hz
      simp [zeroValue, typeInfo, hi, hz]⟩, fun x hx => keyOf_int_mk hk (goodI_wf hx), fun x y h => by unfold litI at h; injection h⟩
end
section
open Go.RowKit
set_option maxRecDepth 100000
def encVB (x : Bool) : Value := .bool x
theorem mt_int64_bool : MapT Try.prog 134 2 keyI litI goodI (.bool false) := mapTI (e := 4) Try.underlying2 Try.underlying134 (by kernel_rfl)
end
section
open Go.RowKit
set_option linter.unusedVariables false
set_option linter.unusedSimpArgs false
set_option maxRecDepth 100000
def m_spec_l19Bad_A1 : Option Int :=
  some (-1)
def m_spec_l19Bad_B1 (d0 : DNet) (d1 : List Bool) (d2 : List DWire) (rec1 : Int → Option Int) (K1 : Option Int) (i3 : Int) : Option Int :=
  (bif (decide (i3 < (d2.length : Int))) then ((getI d2 i3).bind fun x6 => ((m_spec_l19At d0 d1 x6.a).bind fun y15 => ((getI d2 i3).bind fun x17 => ((m_spec_l19At d0 d1 x17.b).bind fun y24 => (bif (y15 == y24) then some i3 else (rec1 (i3 + 1))))))) else (K1))
def m_spec_l19Bad_L1 (d0 : DNet) (d1 : List Bool) (d2 : List DWire) (K1 : Option Int) : Nat → Int → Option Int
  | 0, _ => none
  | g + 1, i3 => m_spec_l19Bad_B1 d0 d1 d2 (m_spec_l19Bad_L1 d0 d1 d2 K1 g) K1 i3
def m_spec_l19Bad (d0 : DNet) (d1 : List Bool) (d2 : List DWire) : Option Int :=
  (m_spec_l19Bad_L1 d0 d1 d2 m_spec_l19Bad_A1 (d2.length + 1) 0)
set_option maxHeartbeats 2000000 in
theorem c_m_spec_l19Bad (d0 : DNet) (d1 : List Bool) (d2 : List DWire) (r : Int) (hm : m_spec_l19Bad d0 d1 d2 = some r) (v0 : Value) (v1 : Value) (v2 : Value) (w : World) (hv0 : Pt netRd w v0 d0) (hv1 : Sl boolRd 1 w v1 d1) (hv2 : Sl wireRd 4 w v2 d2) :
    Calls Try.prog 77 #[v0, v1, v2] w fun e w' => e = .returned (.int .i64 r) ∧ Below w.heap.size w w' := by
  obtain ⟨ba0, oa0, csa0, rfl, hba0, hRa0, hca0⟩ := hv0
  have hSa0 := hRa0
  obtain ⟨A1, n1, c1, rfl, ⟨h1, r1⟩⟩ := hRa0
  have e1 := h1.len; subst e1
  have q1 := len_le r1
  obtain ⟨Aa1, na1, ca1, rfl, ha1, ra1⟩ := hv1
  have ea1 := ha1.len; subst ea1
  have qa1 := len_le ra1
  obtain ⟨Aa2, na2, ca2, rfl, ha2, ra2⟩ := hv2
  have ea2 := ha2.len; subst ea2
  have qa2 := len_le ra2
  have T := Below.refl w.heap.size w
  unfold m_spec_l19Bad at hm
  refine enter 32 Try.func77 rfl rfl rfl ?_
  intro f hf
  have s0 : f 0 = .pointer (some ⟨ba0, oa0, none⟩) := hf 0 _ rfl
  have s1 : f 1 = .slice Aa1 d1.length ca1 := hf 1 _ rfl
  have s2 : f 2 = .slice Aa2 d2.length ca2 := hf 2 _ rfl
  refine wp_seq ?_
  refine wp_rs rfl ?_
  refine RQ.y rfl (Y.assign (v := .int .i64 0) rfl) ?_
  refine RQ.nil ?_
  refine then_n ?_
  refine wp_seq ?_
  refine wp_seq ?_
  refine wp_rs rfl ?_
  refine RQ.y rfl (Y.assign (v := .int .i64 0) rfl) ?_
  refine RQ.nil ?_
  refine then_n ?_
  refine wp_block ?_
  obtain ⟨K1, hK1, hm⟩ : ∃ K, K = m_spec_l19Bad_A1 ∧ m_spec_l19Bad_L1 d0 d1 d2 K (d2.length + 1) 0 = some r := ⟨_, rfl, hm⟩
  refine wp_loopX (fun g f w' => ∃ (i3 : Int), f 0 = .pointer (some ⟨ba0, oa0, none⟩) ∧ f 1 = .slice Aa1 d1.length ca1 ∧ f 2 = .slice Aa2 d2.length ca2 ∧ f 7 = .int .i64 i3 ∧ 0 ≤ i3 ∧ Below w.heap.size w w' ∧ m_spec_l19Bad_L1 d0 d1 d2 K1 g i3 = some r) 0 (fun f w' => Below w.heap.size w w' ∧ m_spec_l19Bad_A1  = some r) (d2.length + 1) ⟨0, s0, s1, s2, rfl, (by omega), T, hm⟩ ?_ ?_
  · rintro f w2 ⟨T, hm⟩
    unfold m_spec_l19Bad_A1 at hm
    refine blk_hit (then_n ?_)
    refine wp_seq ?_
    refine wp_rs rfl ?_
    refine RQ.y rfl (Y.assign (v := .int .i64 (-1)) rfl) ?_
    refine RQ.nil ?_
    refine then_n ?_
    refine wp_ret ?_
    obtain rfl := Option.some.inj hm
    exact (ret1 rfl rfl rfl ⟨rfl, T⟩)
  · rintro g f w4 ⟨i3, s0_1, s1_1, s2_1, s7_1, nn7_1, T, hm⟩
    rcases g with _ | g
    · simp only [m_spec_l19Bad_L1] at hm; cases hm
    obtain ⟨rec1, hrec1, hm⟩ : ∃ z, z = m_spec_l19Bad_L1 d0 d1 d2 K1 g ∧ m_spec_l19Bad_B1 d0 d1 d2 z K1 i3 = some r := ⟨_, rfl, hm⟩
    unfold m_spec_l19Bad_B1 at hm
    refine wp_seq ?_
    refine wp_seq ?_
    refine wp_rs rfl ?_
    refine RQ.y rfl (Y.move (v := .int .i64 i3) s7_1) ?_
    refine RQ.y rfl (Y.move (v := .slice Aa2 d2.length ca2) s2_1) ?_
    refine RQ.y rfl (Y.len (by kernel_rfl) rfl) ?_
    refine RQ.y rfl (Y.binI (v := .bool (decide (i3 < (d2.length : Int)))) rfl rfl rfl) ?_
    refine RQ.nil ?_
    refine then_n ?_
    rcases bcases (decide (i3 < (d2.length : Int))) with c5 | c5
    · replace hm := cF c5 hm
      have pc5 := of_decide_eq_false c5
      refine cond_f rfl (vb rfl c5) ?_
      refine wp_exit ?_
      exact (then_x (then_x (hit_x ⟨_, rfl, ⟨T, (by rw [hK1] at hm; exact hm)⟩⟩)))
    · replace hm := cT c5 hm
      have pc5 := of_decide_eq_true c5
      refine cond_t rfl (vb rfl c5) ?_
      refine wp_skip ?_
      refine then_n ?_
      refine wp_seq ?_
      refine wp_block ?_
      refine wp_seq ?_
      refine wp_rbd (by kernel_rfl) (by kernel_rfl) ?_
      refine RQ.y rfl (Y.move (v := .pointer (some ⟨ba0, oa0, none⟩)) s0_1) ?_
      refine RQ.y rfl (Y.move (v := .slice Aa1 d1.length ca1) s1_1) ?_
      refine RQ.y rfl (Y.move (v := .slice Aa2 d2.length ca2) s2_1) ?_
      refine RQ.y rfl (Y.move (v := .int .i64 i3) s7_1) ?_
      obtain ⟨x6, hx9, hm⟩ := bnd hm
      obtain ⟨k7, hk10, hl11, hx9⟩ := getI_some hx9
      obtain ⟨b13, o14, rfl, hbb13⟩ := ha2.addr (by omega)
      obtain ⟨cs8, hRcs8, hc12⟩ := ha2.el hx9
      have hScs8 := hRcs8
      obtain rfl := hRcs8
      refine RQ.y rfl (Y.indexAddr (m := k7) (sz := 4) rfl rfl hk10 hl11 (by kernel_rfl)) ?_
      refine RQ.y rfl (Y.fieldAddr (off := 0) rfl (by kernel_rfl)) ?_
      refine RQ.y rfl (Y.loadN (cs := [.int .i64 x6.a.agent, .int .i64 x6.a.slot]) rfl (by kernel_rfl) (cells2 (beC (cellT T (hc12 0 _ rfl))) (beC (cellT T (hc12 1 _ rfl))))) ?_
      obtain ⟨y15, e16, hm⟩ := bnd hm
      refine RQ.call rfl (am3 rfl rfl rfl) (by kernel_rfl) (v := .int .i64 y15) (bel (K := fun _ => True) fun w' hb' => (c_m_spec_l19At d0 d1 x6.a _ e16 _ _ w' (ptArg netRd_ok hba0 hSa0 hca0 (Tt T hb')) (slArg boolRd_ok ha1 ra1 (Tt T hb')))) ?_
      refine RQ.y rfl (Y.move (v := .pointer (some ⟨ba0, oa0, none⟩)) s0_1) ?_
      refine RQ.y rfl (Y.move (v := .slice Aa1 d1.length ca1) s1_1) ?_
      refine RQ.y rfl (Y.move (v := .slice (some ⟨b13, o14, none⟩) d2.length ca2) s2_1) ?_
      refine RQ.y rfl (Y.move (v := .int .i64 i3) s7_1) ?_
      obtain ⟨x17, hx20, hm⟩ := bnd hm
      obtain ⟨k18, hk21, hl22, hx20⟩ := getI_some hx20
      obtain ⟨cs19, hRcs19, hc23⟩ := ha2.el hx20
      have hScs19 := hRcs19
      obtain rfl := hRcs19
      refine RQ.y rfl (Y.indexAddr (m := k18) (sz := 4) rfl rfl hk21 hl22 (by kernel_rfl)) ?_
      refine RQ.y rfl (Y.fieldAddr (off := 2) rfl (by kernel_rfl)) ?_
      refine RQ.y rfl (Y.loadN (cs := [.int .i64 x17.b.agent, .int .i64 x17.b.slot]) rfl (by kernel_rfl) (cells2 (beC (cellT T (hc23 2 _ rfl))) (beC (cellT T (hc23 3 _ rfl))))) ?_
      obtain ⟨y24, e25, hm⟩ := bnd hm
      refine RQ.call rfl (am3 rfl rfl rfl) (by kernel_rfl) (v := .int .i64 y24) (bel (K := fun _ => True) fun w' hb' => (c_m_spec_l19At d0 d1 x17.b _ e25 _ _ w' (ptArg netRd_ok hba0 hSa0 hca0 (Tt T hb')) (slArg boolRd_ok ha1 ra1 (Tt T hb')))) ?_
      refine RQ.y rfl (Y.binI (v := .bool (y15 == y24)) rfl rfl rfl) ?_
      refine RQ.nil ?_
      intro w26 hb27
      have szw26 := hb27.size
      have T := Tt T hb27
      refine then_n ?_
      rcases bcases (y15 == y24) with c28 | c28
      · replace hm := cF c28 hm
        refine cond_f rfl (vb rfl c28) ?_
        refine wp_skip ?_
        refine blk_n (then_n ?_)
        refine wp_rs rfl ?_
        refine RQ.y rfl (Y.move (v := .int .i64 i3) s7_1) ?_
        refine RQ.y rfl (Y.binI rfl rfl (binI_add (m := i3) (by omega))) ?_
        refine RQ.y rfl (Y.assign (v := .int .i64 (i3 + 1)) rfl) ?_
        refine RQ.nil ?_
        exact (then_n ⟨g, _, Nat.lt_succ_self _, rfl, ⟨(i3 + 1), s0_1, s1_1, s2_1, rfl, (by omega), T, (by rw [← hrec1]; exact hm)⟩⟩)
      · replace hm := cT c28 hm
        refine cond_t rfl (vb rfl c28) ?_
        refine wp_seq ?_
        refine wp_rs rfl ?_
        refine RQ.y rfl (Y.move (v := .int .i64 i3) s7_1) ?_
        refine RQ.y rfl (Y.assign (v := .int .i64 i3) rfl) ?_
        refine RQ.nil ?_
        refine then_n ?_
        refine wp_ret ?_
        obtain rfl := Option.some.inj hm
        exact (blk_r (then_r (then_r (hit_r (blk_r (then_r (ret1 rfl rfl rfl ⟨rfl, T⟩)))))))
def m_impl_Net_badWire_A1 (z15 : DWire) : Option (DWire × Bool) :=
  some ((⟨(⟨0, 0⟩ : DPort), (⟨0, 0⟩ : DPort)⟩ : DWire), false)
def m_impl_Net_badWire_B1 (d0 : DNet) (d1 : List Bool) (y6 : List DPort) (rec1 : Int → DWire → Option (DWire × Bool)) (K1 : DWire → Option (DWire × Bool)) (i20 : Int) (z21 : DWire) : Option (DWire × Bool) :=
  (bif (decide (i20 < (y6.length : Int))) then ((getI y6 i20).bind fun x24 => ((m_impl_Net_peer d0 x24).bind fun y37 => ((m_impl_Port_before x24 y37).bind fun y48 => (bif y48 then ((m_impl_Net_role d0 x24 d1).bind fun y53 => ((m_impl_Net_role d0 y37 d1).bind fun y55 => (bif (y53 == y55) then some ((⟨x24, y37⟩ : DWire), true) else (rec1 (i20 + 1) z21)))) else (rec1 (i20 + 1) z21))))) else (K1 z21))
def m_impl_Net_badWire_L1 (d0 : DNet) (d1 : List Bool) (y6 : List DPort) (K1 : DWire → Option (DWire × Bool)) : Nat → Int → DWire → Option (DWire × Bool)
  | 0, _, _ => none
  | g + 1, i20, z21 => m_impl_Net_badWire_B1 d0 d1 y6 (m_impl_Net_badWire_L1 d0 d1 y6 K1 g) K1 i20 z21
def m_impl_Net_badWire (d0 : DNet) (d1 : List Bool) : Option (DWire × Bool) :=
  ((m_impl_Net_ports d0).bind fun y6 => (m_impl_Net_badWire_L1 d0 d1 y6 m_impl_Net_badWire_A1 (y6.length + 1) 0 (⟨(⟨0, 0⟩ : DPort), (⟨0, 0⟩ : DPort)⟩ : DWire)))
set_option maxHeartbeats 2000000 in
theorem c_m_impl_Net_badWire (d0 : DNet) (d1 : List Bool) (r : DWire × Bool) (hm : m_impl_Net_badWire d0 d1 = some r) (v0 : Value) (v1 : Value) (w : World) (hv0 : Pt netRd w v0 d0) (hv1 : Sl boolRd 1 w v1 d1) :
    Calls Try.prog 130 #[v0, v1] w fun e w' => e = .returned (.tuple #[.agg #[.int .i64 r.1.a.agent, .int .i64 r.1.a.slot, .int .i64 r.1.b.agent, .int .i64 r.1.b.slot], .bool r.2]) ∧ Below w.heap.size w w' := by
  obtain ⟨ba0, oa0, csa0, rfl, hba0, hRa0, hca0⟩ := hv0
  have hSa0 := hRa0
  obtain ⟨A1, n1, c1, rfl, ⟨h1, r1⟩⟩ := hRa0
  have e1 := h1.len; subst e1
  have q1 := len_le r1
  obtain ⟨Aa1, na1, ca1, rfl, ha1, ra1⟩ := hv1
  have ea1 := ha1.len; subst ea1
  have qa1 := len_le ra1
  have T := Below.refl w.heap.size w
  unfold m_impl_Net_badWire at hm
  refine enter 38 Try.func130 rfl rfl rfl ?_
  intro f hf
  have s0 : f 0 = .pointer (some ⟨ba0, oa0, none⟩) := hf 0 _ rfl
  have s1 : f 1 = .slice Aa1 d1.length ca1 := hf 1 _ rfl
  refine wp_seq ?_
  refine wp_rl rfl ?_
  refine RL.alloc (z := .agg #[.int .i64 0, .int .i64 0, .int .i64 0, .int .i64 0]) rfl (by kernel_rfl) (fun w2 B3 hb4 szw2 => ?_)
  replace B3 : Blk w2 w.heap.size 171 #[.int .i64 0, .int .i64 0, .int .i64 0, .int .i64 0] := B3
  have GB3 : w.heap.size ≤ w.heap.size := T.size
  have T := Tt T hb4
  refine RL.y rfl (Y.assign (v := .bool false) rfl) ?_
  refine RL.nil ?_
  refine then_n ?_
  refine wp_seq ?_
  refine wp_seq ?_
  refine wp_rl rfl ?_
  refine RL.y rfl (Y.move (v := .pointer (some ⟨ba0, oa0, none⟩)) s0) ?_
  obtain ⟨y6, e7, hm⟩ := bnd hm
  refine RL.call rfl (am1 rfl) (by kernel_rfl) ((c_m_impl_Net_ports d0 _ e7 _ _ (ptArg netRd_ok hba0 hSa0 hca0 T)).mono ?_)
  rintro _ w11 ⟨⟨v8, rfl, G9⟩, hb12⟩
  refine ⟨_, rfl, ?_⟩
  have szw11 := hb12.size
  have T0w11 := T.size
  have No10_ob5 := OwF.ne G9 B3.lt
  have B3 := blkT B3 hb12
  have T := Tt T hb12
  replace G9 := OwF.mono G9 T0w11
  obtain ⟨A13, c14, rfl⟩ := OwF.form G9
  have qbA13 := OwF.bound G9
  refine RL.y rfl (Y.len (by kernel_rfl) rfl) ?_
  refine RL.y rfl (Y.move (v := .int .i64 0) rfl) ?_
  refine RL.nil ?_
  refine then_n ?_
  refine wp_block ?_
  obtain ⟨K1, hK1, hm⟩ : ∃ K, K = m_impl_Net_badWire_A1 ∧ m_impl_Net_badWire_L1 d0 d1 y6 K (y6.length + 1) 0 (⟨(⟨0, 0⟩ : DPort), (⟨0, 0⟩ : DPort)⟩ : DWire) = some r := ⟨_, rfl, hm⟩
  refine wp_loopX (fun g f w' => ∃ (i20 : Int) (z21 : DWire), f 0 = .pointer (some ⟨ba0, oa0, none⟩) ∧ f 1 = .slice Aa1 d1.length ca1 ∧ f 4 = .pointer (some ⟨w.heap.size, 0, none⟩) ∧ f 10 = .slice A13 y6.length c14 ∧ f 11 = .int .i64 (y6.length : Int) ∧ f 12 = .int .i64 i20 ∧ 0 ≤ i20 ∧ Blk w' w.heap.size 171 #[.int .i64 z21.a.agent, .int .i64 z21.a.slot, .int .i64 z21.b.agent, .int .i64 z21.b.slot] ∧ OwF 81 encPort 2 w' w.heap.size (.slice A13 y6.length c14) y6 ∧ Below w.heap.size w w' ∧ m_impl_Net_badWire_L1 d0 d1 y6 K1 g i20 z21 = some r) 0 (fun f w' => ∃ (z15 : DWire), f 4 = .pointer (some ⟨w.heap.size, 0, none⟩) ∧ Blk w' w.heap.size 171 #[.int .i64 z15.a.agent, .int .i64 z15.a.slot, .int .i64 z15.b.agent, .int .i64 z15.b.slot] ∧ Below w.heap.size w w' ∧ m_impl_Net_badWire_A1 z15 = some r) (y6.length + 1) ⟨0, (⟨(⟨0, 0⟩ : DPort), (⟨0, 0⟩ : DPort)⟩ : DWire), s0, s1, rfl, rfl, rfl, rfl, (by omega), B3, G9, T, hm⟩ ?_ ?_
  · rintro f w16 ⟨z15, s4_1x, Bz15, T, hm⟩
    unfold m_impl_Net_badWire_A1 at hm
    refine blk_hit (then_n ?_)
    refine wp_seq ?_
    refine wp_rl rfl ?_
    refine RL.y rfl (Y.build0 (cells := #[.int .i64 0, .int .i64 0, .int .i64 0, .int .i64 0])  (by kernel_rfl) (by kernel_rfl)) ?_
    refine RL.store (v := .agg #[.int .i64 0, .int .i64 0, .int .i64 0, .int .i64 0]) (cs' := #[.int .i64 0, .int .i64 0, .int .i64 0, .int .i64 0]) rfl s4_1x rfl Bz15 (by kernel_rfl) (by rfl) (by rfl) (by rfl) (fun w17 B18 ho19 => ?_)
    have szw17 := ho19.size
    have T := T.trans (ho19.below (by first | (simp; done) | (simp; omega)))
    refine RL.y rfl (Y.assign (v := .bool false) rfl) ?_
    refine RL.nil ?_
    refine then_n ?_
    refine wp_ret ?_
    obtain rfl := Option.some.inj hm
    exact (retct (cs := [.int .i64 0, .int .i64 0, .int .i64 0, .int .i64 0]) rfl rfl s4_1x rfl (by kernel_rfl) (blkCells B18) ⟨rfl, T⟩)
  · rintro g f w22 ⟨i20, z21, s0_1, s1_1, s4_1, s10_1, s11_1, s12_1, nn12_1, Bz21, G9, T, hm⟩
    rcases g with _ | g
    · simp only [m_impl_Net_badWire_L1] at hm; cases hm
    obtain ⟨rec1, hrec1, hm⟩ : ∃ z, z = m_impl_Net_badWire_L1 d0 d1 y6 K1 g ∧ m_impl_Net_badWire_B1 d0 d1 y6 z K1 i20 z21 = some r := ⟨_, rfl, hm⟩
    unfold m_impl_Net_badWire_B1 at hm
    refine wp_seq ?_
    refine wp_rs rfl ?_
    refine RQ.y rfl (Y.binI (v := .bool (decide (i20 < (y6.length : Int)))) s12_1 s11_1 rfl) ?_
    refine RQ.nil ?_
    refine then_n ?_
    refine wp_seq ?_
    rcases bcases (decide (i20 < (y6.length : Int))) with c23 | c23
    · replace hm := cF c23 hm
      have pc23 := of_decide_eq_false c23
      refine cond_f rfl (vb rfl c23) ?_
      refine wp_exit ?_
      exact (then_x (then_x (hit_x ⟨_, rfl, ⟨z21, s4_1, Bz21, T, (by rw [hK1] at hm; exact hm)⟩⟩)))
    · replace hm := cT c23 hm
      have pc23 := of_decide_eq_true c23
      refine cond_t rfl (vb rfl c23) ?_
      refine wp_skip ?_
      refine then_n ?_
      refine wp_seq ?_
      refine wp_block ?_
      refine wp_seq ?_
      refine wp_rl rfl ?_
      obtain ⟨x24, hx26, hm⟩ := bnd hm
      obtain ⟨k25, hk27, hl28, hx26⟩ := getI_some hx26
      obtain ⟨b29, rfl⟩ := OwF.addr0 G9 (by omega)
      refine RL.y rfl (Y.indexAddr (m := k25) (sz := 2) s10_1 s12_1 hk27 hl28 (by kernel_rfl)) ?_
      refine RL.y rfl (Y.loadN (cs := [.int .i64 x24.agent, .int .i64 x24.slot]) rfl (by kernel_rfl) (cells2 (eqC (OwF.cell fPort G9 hx26 (j := 0) rfl)) (eqC (OwF.cell fPort G9 hx26 (j := 1) rfl)))) ?_
      refine RL.alloc (z := .agg #[.int .i64 0, .int .i64 0]) rfl (by kernel_rfl) (fun w30 B31 hb32 szw30 => ?_)
      replace B31 : Blk w30 w22.heap.size 81 #[.int .i64 0, .int .i64 0] := B31
      have GB31 : w.heap.size ≤ w22.heap.size := T.size
      have Eob33_ob5 := Nat.ne_of_lt Bz21.lt
      have No10_ob33 := OwF.far G9 (Nat.le_refl _)
      have Bz21 := blkT Bz21 hb32
      have G9 := OwF.below G9 hb32
      have T := Tt T hb32
      refine RL.store (v := .agg #[.int .i64 x24.agent, .int .i64 x24.slot]) (cs' := #[.int .i64 x24.agent, .int .i64 x24.slot]) rfl rfl rfl B31 (by kernel_rfl) (by rfl) (by rfl) (by rfl) (fun w34 B35 ho36 => ?_)
      have szw34 := ho36.size
      have Bz21 := Bz21.only_ ho36 (by intro hin; simp at hin; exact Eob33_ob5 hin)
      have G9 := OwF.only G9 ho36 No10_ob33
      have T := T.trans (ho36.below (by first | (simp; done) | (simp; omega)))
      refine RL.nil ?_
      refine then_n ?_
      refine wp_seq ?_
      refine wp_rl rfl ?_
      refine RL.y rfl (Y.move (v := .pointer (some ⟨ba0, oa0, none⟩)) s0_1) ?_
      refine RL.y rfl (Y.loadN (cs := [.int .i64 x24.agent, .int .i64 x24.slot]) rfl (by kernel_rfl) (cells2 (eqC (blkCell B35 (i := 0) rfl)) (eqC (blkCell B35 (i := 1) rfl)))) ?_
      obtain ⟨y37, e38, hm⟩ := bnd hm
      refine RL.call rfl (am2 rfl rfl) (by kernel_rfl) ((c_m_impl_Net_peer d0 x24 _ e38 _ _ (ptArg netRd_ok hba0 hSa0 hca0 T)).mono ?_)
      rintro _ w39 ⟨rfl, hb40⟩
      refine ⟨_, rfl, ?_⟩
      have szw39 := hb40.size
      have Bz21 := blkT Bz21 hb40
      have B35 := blkT B35 hb40
      have G9 := OwF.below G9 hb40
      have T := Tt T hb40
      refine RL.alloc (z := .agg #[.int .i64 0, .int .i64 0]) rfl (by kernel_rfl) (fun w41 B42 hb43 szw41 => ?_)
      replace B42 : Blk w41 w39.heap.size 81 #[.int .i64 0, .int .i64 0] := B42
      have GB42 : w.heap.size ≤ w39.heap.size := T.size
      have Eob44_ob5 := Nat.ne_of_lt Bz21.lt
      have Eob44_ob33 := Nat.ne_of_lt B35.lt
      have No10_ob44 := OwF.far G9 (Nat.le_refl _)
      have Bz21 := blkT Bz21 hb43
      have B35 := blkT B35 hb43
      have G9 := OwF.below G9 hb43
      have T := Tt T hb43
      refine RL.store (v := .agg #[.int .i64 y37.agent, .int .i64 y37.slot]) (cs' := #[.int .i64 y37.agent, .int .i64 y37.slot]) rfl rfl rfl B42 (by kernel_rfl) (by rfl) (by rfl) (by rfl) (fun w45 B46 ho47 => ?_)
      have szw45 := ho47.size
      have Bz21 := Bz21.only_ ho47 (by intro hin; simp at hin; exact Eob44_ob5 hin)
      have B35 := B35.only_ ho47 (by intro hin; simp at hin; exact Eob44_ob33 hin)
      have G9 := OwF.only G9 ho47 No10_ob44
      have T := T.trans (ho47.below (by first | (simp; done) | (simp; omega)))
      refine RL.nil ?_
      refine then_n ?_
      refine wp_seq ?_
      refine wp_rbd (by kernel_rfl) (by kernel_rfl) ?_
      refine RQ.y rfl (Y.loadN (cs := [.int .i64 x24.agent, .int .i64 x24.slot]) rfl (by kernel_rfl) (cells2 (beC (blkCell B35 (i := 0) rfl)) (beC (blkCell B35 (i := 1) rfl)))) ?_
      refine RQ.y rfl (Y.loadN (cs := [.int .i64 y37.agent, .int .i64 y37.slot]) rfl (by kernel_rfl) (cells2 (beC (blkCell B46 (i := 0) rfl)) (beC (blkCell B46 (i := 1) rfl)))) ?_
      obtain ⟨y48, e49, hm⟩ := bnd hm
      refine RQ.call rfl (am2 rfl rfl) (by kernel_rfl) (v := .bool y48) (bel (K := fun _ => True) fun w' hb' => (c_m_impl_Port_before x24 y37 _ e49  w' )) ?_
      refine RQ.y rfl (Y.move (v := .bool y48) rfl) ?_
      rcases bcases y48 with c50 | c50
      · replace hm := cF c50 hm
        refine RQ.skip (wantN (dj := 22) rfl (vb rfl c50) rfl) ?_
        refine RQ.skip (wantN (dj := 22) rfl (vb rfl c50) rfl) ?_
        refine RQ.skip (wantN (dj := 22) rfl (vb rfl c50) rfl) ?_
        refine RQ.skip (wantN (dj := 22) rfl (vb rfl c50) rfl) ?_
        refine RQ.skip (wantN (dj := 22) rfl (vb rfl c50) rfl) ?_
        refine RQ.skip (wantN (dj := 22) rfl (vb rfl c50) rfl) ?_
        refine RQ.skip (wantN (dj := 22) rfl (vb rfl c50) rfl) ?_
        refine RQ.skip (wantN (dj := 22) rfl (vb rfl c50) rfl) ?_
        refine RQ.skip (wantN (dj := 22) rfl (vb rfl c50) rfl) ?_
        refine RQ.y rfl (Y.pick (b := false) (v := .bool false) (vb rfl c50) rfl) ?_
        refine RQ.nil ?_
        intro w51 hb52
        have szw51 := hb52.size
        have Bz21 := blkT Bz21 hb52
        have B35 := blkT B35 hb52
        have B46 := blkT B46 hb52
        have G9 := OwF.below G9 hb52
        have T := Tt T hb52
        refine then_n ?_
        refine cond_f rfl rfl ?_
        refine wp_skip ?_
        refine blk_n (then_n ?_)
        refine wp_rs rfl ?_
        refine RQ.y rfl (Y.binI s12_1 rfl (binI_add (m := i20) (by omega))) ?_
        refine RQ.y rfl (Y.move (v := .int .i64 (i20 + 1)) rfl) ?_
        refine RQ.nil ?_
        exact (then_n ⟨g, _, Nat.lt_succ_self _, rfl, ⟨(i20 + 1), z21, s0_1, s1_1, s4_1, s10_1, s11_1, rfl, (by omega), Bz21, G9, T, (by rw [← hrec1]; exact hm)⟩⟩)
      · replace hm := cT c50 hm
        refine RQ.y (wantT (dj := 22) rfl (vb rfl c50)) (Y.move (v := .pointer (some ⟨ba0, oa0, none⟩)) s0_1) ?_
        refine RQ.y (wantT (dj := 22) rfl (vb rfl c50)) (Y.loadN (cs := [.int .i64 x24.agent, .int .i64 x24.slot]) rfl (by kernel_rfl) (cells2 (beC (blkCell B35 (i := 0) rfl)) (beC (blkCell B35 (i := 1) rfl)))) ?_
        refine RQ.y (wantT (dj := 22) rfl (vb rfl c50)) (Y.move (v := .slice Aa1 d1.length ca1) s1_1) ?_
        obtain ⟨y53, e54, hm⟩ := bnd hm
        refine RQ.call (wantT (dj := 22) rfl (vb rfl c50)) (am3 rfl rfl rfl) (by kernel_rfl) (v := .int .i64 y53) (bel (K := fun _ => True) fun w' hb' => (c_m_impl_Net_role d0 x24 d1 _ e54 _ _ w' (ptArg netRd_ok hba0 hSa0 hca0 (Tt T hb')) (slArg boolRd_ok ha1 ra1 (Tt T hb')))) ?_
        refine RQ.y (wantT (dj := 22) rfl (vb rfl c50)) (Y.move (v := .pointer (some ⟨ba0, oa0, none⟩)) s0_1) ?_
        refine RQ.y (wantT (dj := 22) rfl (vb rfl c50)) (Y.loadN (cs := [.int .i64 y37.agent, .int .i64 y37.slot]) rfl (by kernel_rfl) (cells2 (beC (blkCell B46 (i := 0) rfl)) (beC (blkCell B46 (i := 1) rfl)))) ?_
        refine RQ.y (wantT (dj := 22) rfl (vb rfl c50)) (Y.move (v := .slice Aa1 d1.length ca1) s1_1) ?_
        obtain ⟨y55, e56, hm⟩ := bnd hm
        refine RQ.call (wantT (dj := 22) rfl (vb rfl c50)) (am3 rfl rfl rfl) (by kernel_rfl) (v := .int .i64 y55) (bel (K := fun _ => True) fun w' hb' => (c_m_impl_Net_role d0 y37 d1 _ e56 _ _ w' (ptArg netRd_ok hba0 hSa0 hca0 (Tt T hb')) (slArg boolRd_ok ha1 ra1 (Tt T hb')))) ?_
        refine RQ.y (wantT (dj := 22) rfl (vb rfl c50)) (Y.binI (v := .bool (y53 == y55)) rfl rfl rfl) ?_
        refine RQ.y rfl (Y.pick (b := true) (v := .bool (y53 == y55)) (vb rfl c50) rfl) ?_
        refine RQ.nil ?_
        intro w57 hb58
        have szw57 := hb58.size
        have Bz21 := blkT Bz21 hb58
        have B35 := blkT B35 hb58
        have B46 := blkT B46 hb58
        have G9 := OwF.below G9 hb58
        have T := Tt T hb58
        refine then_n ?_
        rcases bcases (y53 == y55) with c59 | c59
        · replace hm := cF c59 hm
          refine cond_f rfl (vb rfl c59) ?_
          refine wp_skip ?_
          refine blk_n (then_n ?_)
          refine wp_rs rfl ?_
          refine RQ.y rfl (Y.binI s12_1 rfl (binI_add (m := i20) (by omega))) ?_
          refine RQ.y rfl (Y.move (v := .int .i64 (i20 + 1)) rfl) ?_
          refine RQ.nil ?_
          exact (then_n ⟨g, _, Nat.lt_succ_self _, rfl, ⟨(i20 + 1), z21, s0_1, s1_1, s4_1, s10_1, s11_1, rfl, (by omega), Bz21, G9, T, (by rw [← hrec1]; exact hm)⟩⟩)
        · replace hm := cT c59 hm
          refine cond_t rfl (vb rfl c59) ?_
          refine wp_seq ?_
          refine wp_rl rfl ?_
          refine RL.y rfl (Y.loadN (cs := [.int .i64 x24.agent, .int .i64 x24.slot]) rfl (by kernel_rfl) (cells2 (eqC (blkCell B35 (i := 0) rfl)) (eqC (blkCell B35 (i := 1) rfl)))) ?_
          refine RL.y rfl (Y.loadN (cs := [.int .i64 y37.agent, .int .i64 y37.slot]) rfl (by kernel_rfl) (cells2 (eqC (blkCell B46 (i := 0) rfl)) (eqC (blkCell B46 (i := 1) rfl)))) ?_
          refine RL.y rfl (Y.build2 (cells := #[.int .i64 x24.agent, .int .i64 x24.slot, .int .i64 y37.agent, .int .i64 y37.slot]) rfl rfl (by kernel_rfl) (by kernel_rfl)) ?_
          refine RL.store (v := .agg #[.int .i64 x24.agent, .int .i64 x24.slot, .int .i64 y37.agent, .int .i64 y37.slot]) (cs' := #[.int .i64 x24.agent, .int .i64 x24.slot, .int .i64 y37.agent, .int .i64 y37.slot]) rfl s4_1 rfl Bz21 (by kernel_rfl) (by rfl) (by rfl) (by rfl) (fun w60 B61 ho62 => ?_)
          have szw60 := ho62.size
          have B35 := B35.only_ ho62 (by intro hin; simp at hin; exact Eob33_ob5.symm hin)
          have B46 := B46.only_ ho62 (by intro hin; simp at hin; exact Eob44_ob5.symm hin)
          have G9 := OwF.only G9 ho62 No10_ob5
          have T := T.trans (ho62.below (by first | (simp; done) | (simp; omega)))
          refine RL.y rfl (Y.assign (v := .bool true) rfl) ?_
          refine RL.nil ?_
          refine then_n ?_
          refine wp_ret ?_
          obtain rfl := Option.some.inj hm
          exact (blk_r (then_r (then_r (hit_r (blk_r (then_r (retct (cs := [.int .i64 x24.agent, .int .i64 x24.slot, .int .i64 y37.agent, .int .i64 y37.slot]) rfl rfl s4_1 rfl (by kernel_rfl) (blkCells B61) ⟨rfl, T⟩)))))))
def m_impl_Net_isOriented (d0 : DNet) (d1 : List Bool) : Option Bool :=
  ((m_impl_Net_fits d0 d1).bind fun y2 => (bif y2 then ((m_impl_Net_badWire d0 d1).bind fun y7 => some (!y7.2)) else some false))
set_option maxHeartbeats 2000000 in
theorem c_m_impl_Net_isOriented (d0 : DNet) (d1 : List Bool) (r : Bool) (hm : m_impl_Net_isOriented d0 d1 = some r) (v0 : Value) (v1 : Value) (w : World) (hv0 : Pt netRd w v0 d0) (hv1 : Sl boolRd 1 w v1 d1) :
    Calls Try.prog 88 #[v0, v1] w fun e w' => e = .returned (.bool r) ∧ Below w.heap.size w w' := by
  obtain ⟨ba0, oa0, csa0, rfl, hba0, hRa0, hca0⟩ := hv0
  have hSa0 := hRa0
  obtain ⟨A1, n1, c1, rfl, ⟨h1, r1⟩⟩ := hRa0
  have e1 := h1.len; subst e1
  have q1 := len_le r1
  obtain ⟨Aa1, na1, ca1, rfl, ha1, ra1⟩ := hv1
  have ea1 := ha1.len; subst ea1
  have qa1 := len_le ra1
  have T := Below.refl w.heap.size w
  unfold m_impl_Net_isOriented at hm
  refine enter 19 Try.func88 rfl rfl rfl ?_
  intro f hf
  have s0 : f 0 = .pointer (some ⟨ba0, oa0, none⟩) := hf 0 _ rfl
  have s1 : f 1 = .slice Aa1 d1.length ca1 := hf 1 _ rfl
  refine wp_seq ?_
  refine wp_rs rfl ?_
  refine RQ.y rfl (Y.assign (v := .bool false) rfl) ?_
  refine RQ.nil ?_
  refine then_n ?_
  refine wp_seq ?_
  refine wp_seq ?_
  refine wp_rb rfl ?_
  refine RQ.y rfl (Y.move (v := .pointer (some ⟨ba0, oa0, none⟩)) s0) ?_
  refine RQ.y rfl (Y.move (v := .slice Aa1 d1.length ca1) s1) ?_
  obtain ⟨y2, e3, hm⟩ := bnd hm
  refine RQ.call rfl (am2 rfl rfl) (by kernel_rfl) (v := .bool y2) (bel (K := fun _ => True) fun w' hb' => (c_m_impl_Net_fits d0 d1 _ e3 _ _ w' (ptArg netRd_ok hba0 hSa0 hca0 (Tt T hb')) (slArg boolRd_ok ha1 ra1 (Tt T hb')))) ?_
  refine RQ.y rfl (Y.not (b' := (!y2)) rfl rfl) ?_
  refine RQ.nil ?_
  intro w4 hb5
  have szw4 := hb5.size
  have T := Tt T hb5
  refine then_n ?_
  rcases bcases y2 with c6 | c6
  · replace hm := cF c6 hm
    refine cond_t rfl (vbn rfl c6 rfl) ?_
    refine wp_seq ?_
    refine wp_rs rfl ?_
    refine RQ.y rfl (Y.assign (v := .bool false) rfl) ?_
    refine RQ.nil ?_
    refine then_n ?_
    refine wp_ret ?_
    obtain rfl := Option.some.inj hm
    exact (then_r (ret1 rfl rfl rfl ⟨rfl, T⟩))
  · replace hm := cT c6 hm
    refine cond_f rfl (vbn rfl c6 rfl) ?_
    refine wp_skip ?_
    refine then_n ?_
    refine wp_seq ?_
    refine wp_rl rfl ?_
    refine RL.y rfl (Y.move (v := .pointer (some ⟨ba0, oa0, none⟩)) s0) ?_
    refine RL.y rfl (Y.move (v := .slice Aa1 d1.length ca1) s1) ?_
    obtain ⟨y7, e8, hm⟩ := bnd hm
    refine RL.call rfl (am2 rfl rfl) (by kernel_rfl) ((c_m_impl_Net_badWire d0 d1 _ e8 _ _ _ (ptArg netRd_ok hba0 hSa0 hca0 T) (slArg boolRd_ok ha1 ra1 T)).mono ?_)
    rintro _ w9 ⟨rfl, hb10⟩
    refine ⟨_, rfl, ?_⟩
    have szw9 := hb10.size
    have T := Tt T hb10
    refine RL.y rfl (Y.move (v := .tuple #[.agg #[.int .i64 y7.1.a.agent, .int .i64 y7.1.a.slot, .int .i64 y7.1.b.agent, .int .i64 y7.1.b.slot], .bool y7.2]) rfl) ?_
    refine RL.y rfl (Y.extract (i := 0) rfl rfl) ?_
    refine RL.y rfl (Y.extract (i := 1) rfl rfl) ?_
    refine RL.alloc (z := .agg #[.int .i64 0, .int .i64 0, .int .i64 0, .int .i64 0]) rfl (by kernel_rfl) (fun w11 B12 hb13 szw11 => ?_)
    replace B12 : Blk w11 w9.heap.size 171 #[.int .i64 0, .int .i64 0, .int .i64 0, .int .i64 0] := B12
    have GB12 : w.heap.size ≤ w9.heap.size := T.size
    have T := Tt T hb13
    refine RL.store (v := .agg #[.int .i64 y7.1.a.agent, .int .i64 y7.1.a.slot, .int .i64 y7.1.b.agent, .int .i64 y7.1.b.slot]) (cs' := #[.int .i64 y7.1.a.agent, .int .i64 y7.1.a.slot, .int .i64 y7.1.b.agent, .int .i64 y7.1.b.slot]) rfl rfl rfl B12 (by kernel_rfl) (by rfl) (by rfl) (by rfl) (fun w15 B16 ho17 => ?_)
    have szw15 := ho17.size
    have T := T.trans (ho17.below (by first | (simp; done) | (simp; omega)))
    refine RL.y rfl (Y.assign (v := .bool y7.2) rfl) ?_
    refine RL.nil ?_
    refine then_n ?_
    refine wp_seq ?_
    refine wp_rs rfl ?_
    refine RQ.y rfl (Y.move (v := .bool y7.2) rfl) ?_
    refine RQ.y rfl (Y.not (b' := (!y7.2)) rfl rfl) ?_
    refine RQ.y rfl (Y.assign (v := .bool (!y7.2)) rfl) ?_
    refine RQ.nil ?_
    refine then_n ?_
    refine wp_ret ?_
    obtain rfl := Option.some.inj hm
    exact (ret1 rfl rfl rfl ⟨rfl, T⟩)
end
section
open Go.RowKit
set_option linter.unusedVariables false
set_option linter.unusedSimpArgs false
def roleP (xs : List DAgent) (rev : List Bool) (p : DPort) : Int := portRole (agentAt xs p.agent).kind p.slot (revAt rev p)
def badP (xs : List DAgent) (rev : List Bool) (p : DPort) : Bool := before p (peer xs p) && (roleP xs rev p == roleP xs rev (peer xs p))
def badW (xs : List DAgent) (rev : List Bool) (w : DWire) : Bool := roleP xs rev w.a == roleP xs rev w.b
def firstBad (xs : List DAgent) (rev : List Bool) : Option DWire := ((allPorts xs).find? (badP xs rev)).map fun p => ⟨p, peer xs p⟩
theorem wires_find (xs : List DAgent) (rev : List Bool) : (wires xs).find? (badW xs rev) = firstBad xs rev := by
  unfold wires firstBad
  generalize allPorts xs = l
  induction l with
  | nil => rfl
  | cons p l ih =>
    rw [List.flatMap_cons, List.find?_append, ih, List.find?_cons]
    unfold wireOf badP
    cases before p (peer xs p) with
    | false => simp
    | true =>
      simp only [cond_true, Bool.true_and, List.find?_cons, List.find?_nil, badW]
      cases roleP xs rev p == roleP xs rev (peer xs p) <;> simp
theorem find_idx {α : Type} {q : α → Bool} : ∀ {l : List α}, l.find? q = match l.findIdx? q with | some i => l[i]? | none => none
  | [] => rfl
  | a :: l => by
    rw [List.find?_cons, List.findIdx?_cons, find_idx (l := l)]
    cases q a with
    | true => simp
    | false => simp; cases l.findIdx? q <;> simp
theorem mem_wires {xs : List DAgent} {w : DWire} (h : w ∈ wires xs) : ∃ p ∈ allPorts xs, w = ⟨p, peer xs p⟩ := by
  unfold wires at h
  obtain ⟨p, hp, hw⟩ := List.mem_flatMap.1 h
  refine ⟨p, hp, ?_⟩
  unfold wireOf at hw
  cases hb : before p (peer xs p) with
  | false => rw [hb] at hw; simp at hw
  | true => rw [hb] at hw; simpa using hw
theorem good_peer {xs : List DAgent} (G : Good xs) {i k : Nat} {x : DAgent} (hx : xs[i]? = some x) (hk : k < x.ports.length) : ∃ (j q : Nat) (y : DAgent), peer xs ⟨(i : Int), (k : Int)⟩ = ⟨(j : Int), (q : Int)⟩ ∧ xs[j]? = some y ∧ q < y.ports.length := by
  have hb := G.ports i x hx k hk
  unfold badPort at hb
  simp only [Bool.or_eq_false_iff, Bool.not_eq_false'] at hb
  obtain ⟨j, q, y, he, hy, hq, _⟩ := hasPort_at hb.1.2
  exact ⟨j, q, y, he, hy, hq⟩
theorem fit_at {xs : List DAgent} {rev : List Bool} (F : Fits xs rev) {i : Nat} {x : DAgent} (hx : xs[i]? = some x) : ∃ r, rev[i]? = some r :=
  ⟨_, List.getElem?_eq_getElem (show i < rev.length by rw [F.1]; exact lt_of_some hx)⟩
theorem roleP_at {xs : List DAgent} {rev : List Bool} {i k : Nat} {x : DAgent} {r : Bool} (hx : xs[i]? = some x) (hr : rev[i]? = some r) : roleP xs rev ⟨(i : Int), (k : Int)⟩ = portRole x.kind k r := by
  unfold roleP
  rw [rev_at hr]
  simp only [agentAt_nat hx]
theorem p_sBad {xs : List DAgent} {rev : List Bool} (G : Good xs) (F : Fits xs rev) : m_spec_l19Bad ⟨xs⟩ rev (wires xs) = some (match (wires xs).findIdx? (badW xs rev) with | some i => (i : Int) | none => -1) := by
  unfold m_spec_l19Bad
  have key := findI (L := m_spec_l19Bad_L1 ⟨xs⟩ rev (wires xs) m_spec_l19Bad_A1) (d := wires xs) (q := badW xs rev) (hit := fun i => some (i : Int)) (K := some (-1))
    (fun g k w hw => by
      have hkl := lt_of_some hw
      obtain ⟨p, hp, rfl⟩ := mem_wires (List.mem_of_getElem? hw)
      obtain ⟨i, k', x, hx, hk, rfl⟩ := mem_allPorts hp
      obtain ⟨j, q, y, he, hy, hq⟩ := good_peer G hx hk
      obtain ⟨r, hr⟩ := fit_at F hx
      obtain ⟨s, hs⟩ := fit_at F hy
      rw [he] at hw ⊢
      have e1 := role_eq G F hx hr hk
      have e2 := role_eq G F hy hs hq
      have hb : badW xs rev ⟨⟨(i : Int), (k' : Int)⟩, ⟨(j : Int), (q : Int)⟩⟩ = (portRole x.kind k' r == portRole y.kind q s) := by
        unfold badW; rw [roleP_at hx hr, roleP_at hy hs]
      rw [hb]
      simp -implicitDefEqProofs only [m_spec_l19Bad_L1, m_spec_l19Bad_B1, dlt hkl, cond_true, getI_nat hw, Option.bind_some, m_spec_l19At, getI_nat hx, getI_nat hr, getI_nat hy, getI_nat hs, e1, e2]
      cases portRole x.kind k' r == portRole y.kind q s <;> rfl)
    (fun g => by simp -implicitDefEqProofs only [m_spec_l19Bad_L1, m_spec_l19Bad_B1, dge, cond_false, m_spec_l19Bad_A1]) ((wires xs).length + 1) (Nat.lt_succ_self _)
  refine key.trans ?_
  cases (wires xs).findIdx? (badW xs rev) <;> rfl
theorem p_i_before (p q : DPort) : m_impl_Port_before p q = some (before p q) := by
  unfold m_impl_Port_before before
  cases decide (p.agent < q.agent) <;> cases (p.agent == q.agent) <;> simp
theorem p_iBad {xs : List DAgent} {rev : List Bool} (G : Good xs) (F : Fits xs rev) (hs : Small xs) : m_impl_Net_badWire ⟨xs⟩ rev = some (match firstBad xs rev with | some w => (w, true) | none => (⟨⟨0, 0⟩, ⟨0, 0⟩⟩, false)) := by
  unfold m_impl_Net_badWire
  rw [p_ports _ hs, Option.bind_some]
  have key := findI (L := fun g i => m_impl_Net_badWire_L1 ⟨xs⟩ rev (allPorts xs) m_impl_Net_badWire_A1 g i ⟨⟨0, 0⟩, ⟨0, 0⟩⟩) (d := allPorts xs) (q := badP xs rev) (hit := fun i => match (allPorts xs)[i]? with | some p => some ((⟨p, peer xs p⟩ : DWire), true) | none => none) (K := some (⟨⟨0, 0⟩, ⟨0, 0⟩⟩, false))
    (fun g n p hp => by
      have hn := lt_of_some hp
      rw [hp]
      obtain ⟨i, k, x, hx, hk, rfl⟩ := mem_allPorts (List.mem_of_getElem? hp)
      obtain ⟨j, q, y, he, hy, hq⟩ := good_peer G hx hk
      obtain ⟨r, hr⟩ := fit_at F hx
      obtain ⟨s, hs⟩ := fit_at F hy
      have e0 : m_impl_Net_peer ⟨xs⟩ ⟨(i : Int), (k : Int)⟩ = some ⟨(j : Int), (q : Int)⟩ := by
        have hq0 := List.getElem?_eq_getElem hk
        rw [show some (⟨(j : Int), (q : Int)⟩ : DPort) = some x.ports[k] by rw [← he, peer_of hx hq0]]
        simp -implicitDefEqProofs only [m_impl_Net_peer, getI_nat hx, getI_nat hq0, Option.bind_some]
      unfold badP
      dsimp only
      rw [he, roleP_at hx hr, roleP_at hy hs]
      simp -implicitDefEqProofs only [m_impl_Net_badWire_L1, m_impl_Net_badWire_B1, dlt hn, cond_true, getI_nat hp, Option.bind_some, e0, p_i_before, m_impl_Net_role, getI_nat hx, getI_nat hr, getI_nat hy, getI_nat hs]
      cases before ⟨(i : Int), (k : Int)⟩ ⟨(j : Int), (q : Int)⟩ <;> cases portRole x.kind k r == portRole y.kind q s <;> rfl)
    (fun g => by simp -implicitDefEqProofs only [m_impl_Net_badWire_L1, m_impl_Net_badWire_B1, dge, cond_false, m_impl_Net_badWire_A1]) ((allPorts xs).length + 1) (Nat.lt_succ_self _)
  refine key.trans ?_
  unfold firstBad
  rw [find_idx]
  cases hi : (allPorts xs).findIdx? (badP xs rev) with
  | none => rfl
  | some i =>
    have hl := (List.findIdx?_eq_some_iff_getElem.1 hi).1
    simp only [List.getElem?_eq_getElem hl, Option.map_some]
end
section
open Go.RowKit
set_option linter.unusedVariables false
set_option linter.unusedSimpArgs false
theorem php : ∀ (n : Nat) (l : List Nat), l.Nodup → (∀ x ∈ l, x < n) → l.length ≤ n
  | 0, l, _, h => by
    cases l with
    | nil => simp
    | cons x l => have := h x (by simp); omega
  | n + 1, l, hn, h => by
    by_cases hm : n ∈ l
    · have h1 := php n (l.erase n) (hn.erase n) (fun x hx => by
        have h2 := (hn.mem_erase_iff).1 hx
        have := h x h2.2
        have := h2.1
        omega)
      have := List.length_erase_of_mem hm
      omega
    · have := php n l hn (fun x hx => by
        have h1 := h x hx
        have : x ≠ n := fun e => hm (by rw [← e]; exact hx)
        omega)
      omega
theorem least {p : Nat → Prop} (h : ∃ n, p n) : ∃ n, p n ∧ ∀ k, k < n → ¬ p k := by
  obtain ⟨n, hn⟩ := h
  induction n using Nat.strongRecOn with
  | _ n ih =>
    by_cases h : ∃ k, k < n ∧ p k
    · obtain ⟨k, hk, hp⟩ := h; exact ih k hk hp
    · exact ⟨n, hn, fun k hk hp => h ⟨k, hk, hp⟩⟩
theorem steps {σ ρ : Type} {L : Nat → σ → Option ρ} {st : Nat → σ} : ∀ {n : Nat} (h : ∀ g k, k < n → L (g + 1) (st k) = L g (st (k + 1))) (g : Nat), L (g + n) (st 0) = L g (st n)
  | 0, h, g => rfl
  | n + 1, h, g => by
    rw [← h g n (by omega), ← steps (n := n) (fun g k hk => h g k (by omega)) (g + 1)]
    congr 1; omega
theorem Good.peer {xs : List DAgent} (G : Good xs) {p : DPort} (h : hasPort xs p = true) : hasPort xs (peer xs p) = true ∧ Go.Proofs.Ytpbobilkejblgaa.peer xs (Go.Proofs.Ytpbobilkejblgaa.peer xs p) = p ∧ Go.Proofs.Ytpbobilkejblgaa.peer xs p ≠ p := by
  obtain ⟨i, k, x, rfl, hx, hk, _⟩ := hasPort_at h
  have hb := G.ports i x hx k hk
  unfold badPort at hb
  simp only [Bool.or_eq_false_iff, Bool.not_eq_false', decide_eq_false_iff_not, decide_eq_true_eq] at hb
  exact ⟨hb.1.2, hb.2, hb.1.1⟩
theorem Good.zero {xs : List DAgent} (G : Good xs) {p : DPort} (h : hasPort xs p = true) : hasPort xs ⟨p.agent, 0⟩ = true := by
  obtain ⟨i, k, x, rfl, hx, hk, _⟩ := hasPort_at h
  exact hasPort_of (k := 0) hx (G.pos hx)
def known (xs : List DAgent) (p : DPort) : Bool := (peer xs p).slot == 0 && (let k := (agentAt xs (peer xs p).agent).kind; k == 2 || k == 6 || k == 9 || k == 12)
end
section
open Go.RowKit
set_option linter.unusedVariables false
set_option linter.unusedSimpArgs false
theorem before_total {p q : DPort} (h : q ≠ p) : before q p = true ∨ before p q = true := by
  obtain ⟨a, b⟩ := p
  obtain ⟨c, d⟩ := q
  unfold before
  simp only [Bool.or_eq_true, Bool.and_eq_true, decide_eq_true_eq, beq_iff_eq]
  by_cases h1 : a = c
  · subst h1
    by_cases h2 : b = d
    · subst h2; exact absurd rfl h
    · omega
  · omega
theorem allPorts_mem {xs : List DAgent} {i k : Nat} {x : DAgent} (hx : xs[i]? = some x) (hk : k < x.ports.length) : (⟨(i : Int), (k : Int)⟩ : DPort) ∈ allPorts xs := mem_portsFrom.2 ⟨i, x, k, hx, hk, by simp⟩
def sv (S : List Bool) (a : Int) : Bool := (S[a.toNat]?).getD false
def plp (xs : List DAgent) (p : DPort) : Bool := rolePlain (agentAt xs p.agent).kind p.slot == 2
def kk (xs : List DAgent) (p : DPort) : Bool := plp xs p == plp xs (peer xs p)
structure Sol (xs : List DAgent) (S : List Bool) : Prop where
  len : S.length = xs.length
  tur : ∀ (i : Nat) (x : DAgent), xs[i]? = some x → sv S (i : Int) = true → turns x.kind = true
  ok : ∀ p, hasPort xs p = true → sv S (peer xs p).agent = (sv S p.agent ^^ kk xs p)
theorem plain12 (k s : Int) : rolePlain k s = 1 ∨ rolePlain k s = 2 := by
  have : ∀ p : Prop, ∀ [Decidable p], (if p then (2 : Int) else 1) = 1 ∨ (if p then (2 : Int) else 1) = 2 := fun p _ => by split <;> simp
  unfold rolePlain
  first | exact this _ | (split <;> first | exact this _ | simp)
theorem spec_bit (k s k' s' : Int) (r r' : Bool) : (roleSpec k s r == roleSpec k' s' r') = (r' != (r ^^ ((rolePlain k s == 2) == (rolePlain k' s' == 2)))) := by
  unfold roleSpec
  rcases plain12 k s with h | h <;> rcases plain12 k' s' with h' | h' <;> rw [h, h'] <;> cases r <;> cases r' <;> rfl
theorem sv_nat {S : List Bool} {i : Nat} {r : Bool} (h : S[i]? = some r) : sv S (i : Int) = r := by simp [sv, h]
theorem sv_ext {S T : List Bool} (hl : S.length = T.length) (h : ∀ i : Nat, i < S.length → sv S (i : Int) = sv T (i : Int)) : S = T := by
  apply List.ext_getElem?
  intro i
  by_cases hi : i < S.length
  · have := h i hi
    rw [sv_nat (List.getElem?_eq_getElem hi), sv_nat (List.getElem?_eq_getElem (show i < T.length by omega))] at this
    rw [List.getElem?_eq_getElem hi, List.getElem?_eq_getElem (show i < T.length by omega), this]
  · rw [List.getElem?_eq_none (by omega), List.getElem?_eq_none (by omega)]
section
variable {xs : List DAgent}
/-- A part of the net that its wires do not leave, of agents that turn; a is its least. -/
structure Part (xs : List DAgent) (D : Nat → Prop) (a : Nat) : Prop where
  lt : ∀ i, D i → i < xs.length
  tur : ∀ i x, xs[i]? = some x → D i → turns x.kind = true
  shut : ∀ p, hasPort xs p = true → D p.agent.toNat → D (peer xs p).agent.toNat
  mem : D a
  least : ∀ i, D i → a ≤ i
def First (xs : List DAgent) (S : List Bool) : Prop := ∀ D a, Part xs D a → sv S (a : Int) = false
theorem port_nat {p : DPort} (h : hasPort xs p = true) : ∃ i : Nat, p.agent = (i : Int) ∧ i < xs.length := by
  obtain ⟨i, k, x, e, hx, _⟩ := hasPort_at h
  exact ⟨i, by rw [e], lt_of_some hx⟩
theorem sol_unique (G : Good xs) {S T : List Bool} (hS : Sol xs S) (hT : Sol xs T) (fS : First xs S) (fT : First xs T) : S = T := by
  refine sv_ext (hS.len.trans hT.len.symm) fun i hi => ?_
  apply Classical.byContradiction
  intro hne
  obtain ⟨a, ha, hl⟩ := least (p := fun i : Nat => i < xs.length ∧ sv S (i : Int) ≠ sv T (i : Int)) ⟨i, by rw [← hS.len]; exact hi, hne⟩
  have P : Part xs (fun i => i < xs.length ∧ sv S (i : Int) ≠ sv T (i : Int)) a := {
    lt := fun i h => h.1
    tur := fun i x hx h => by
      cases h1 : sv S (i : Int) with
      | true => exact hS.tur i x hx h1
      | false =>
        cases h2 : sv T (i : Int) with
        | true => exact hT.tur i x hx h2
        | false => rw [h1, h2] at h; exact absurd rfl h.2
    shut := fun p hp h => by
      obtain ⟨i, e, hi⟩ := port_nat hp
      obtain ⟨j, e', hj⟩ := port_nat (G.peer hp).1
      have h1 := hS.ok p hp
      have h2 := hT.ok p hp
      rw [e, e'] at h1 h2
      rw [e'] 
      rw [e] at h
      simp only [Int.toNat_natCast] at h ⊢
      refine ⟨hj, fun e3 => h.2 ?_⟩
      rw [h1, h2] at e3
      exact Bool.xor_right_inj.1 (by rw [Bool.xor_comm, e3, Bool.xor_comm])
    mem := ha
    least := fun i h => by
      apply Classical.byContradiction
      intro hlt
      exact hl i (by omega) h }
  exact ha.2 ((fS _ a P).trans (fT _ a P).symm)
def flipS (S : List Bool) (U : Nat → Bool) : List Bool := (List.range S.length).map fun i : Nat => sv S (i : Int) ^^ U i
theorem sv_flip {S : List Bool} {U : Nat → Bool} {i : Nat} (hi : i < S.length) : sv (flipS S U) (i : Int) = (sv S (i : Int) ^^ U i) := by
  refine sv_nat ?_
  unfold flipS
  rw [List.getElem?_map, List.getElem?_range hi]; rfl
theorem flip_sol (G : Good xs) {S : List Bool} (hS : Sol xs S) {U : Nat → Bool} (hU : ∀ i x, xs[i]? = some x → U i = true → turns x.kind = true) (hw : ∀ p, hasPort xs p = true → U p.agent.toNat = U (peer xs p).agent.toNat) : Sol xs (flipS S U) where
  len := by unfold flipS; rw [List.length_map, List.length_range, hS.len]
  tur := fun i x hx h => by
    have hi := lt_of_some hx
    rw [sv_flip (by rw [hS.len]; exact hi)] at h
    cases hu : U i with
    | true => exact hU i x hx hu
    | false => rw [hu] at h; exact hS.tur i x hx (by simpa using h)
  ok := fun p hp => by
    obtain ⟨i, e, hi⟩ := port_nat hp
    obtain ⟨j, e', hj⟩ := port_nat (G.peer hp).1
    have h1 := hS.ok p hp
    have h2 := hw p hp
    rw [e, e'] at h1 h2 ⊢
    rw [sv_flip (by rw [hS.len]; exact hj), sv_flip (by rw [hS.len]; exact hi), h1]
    simp only [Int.toNat_natCast] at h2
    rw [h2]
    cases sv S (i : Int) <;> cases U j <;> cases kk xs p <;> rfl
theorem sol_of_fits (G : Good xs) {S : List Bool} (F : Fits xs S) (h : firstBad xs S = none) : Sol xs S := by
  have fit : ∀ (i : Nat) (x : DAgent), xs[i]? = some x → ∃ r, S[i]? = some r ∧ (r = true → turns x.kind = true) := fun i x hx => by
    obtain ⟨x', r, h1, h2, h3⟩ := F.2 i (lt_of_some hx)
    rw [hx] at h1; injection h1 with h1; subst h1
    exact ⟨r, h2, h3⟩
  refine ⟨F.1, fun i x hx hs => ?_, fun p hp => ?_⟩
  · obtain ⟨r, h2, h3⟩ := fit i x hx
    rw [sv_nat h2] at hs
    exact h3 hs
  · have key : ∀ p, hasPort xs p = true → before p (peer xs p) = true → sv S (peer xs p).agent = (sv S p.agent ^^ kk xs p) := fun p hp hb => by
      obtain ⟨i, k, x, e, hx, hk, ha⟩ := hasPort_at hp
      obtain ⟨j, q, y, e', hy, hq, ha'⟩ := hasPort_at (G.peer hp).1
      obtain ⟨r, hr, _⟩ := fit i x hx
      obtain ⟨s, hs, _⟩ := fit j y hy
      have hin : p ∈ allPorts xs := by rw [e]; exact allPorts_mem hx hk
      have h1 : badP xs S p = false := by
        unfold firstBad at h
        have h := Option.map_eq_none_iff.1 h
        have := List.find?_eq_none.1 h p hin
        simpa using this
      unfold badP at h1
      rw [hb, Bool.true_and] at h1
      rw [e', e] at h1
      rw [roleP_at hx hr, roleP_at hy hs, ← role_eq G F hx hr hk, ← role_eq G F hy hs hq, spec_bit] at h1
      have hk1 : kk xs p = ((rolePlain x.kind k == 2) == (rolePlain y.kind q == 2)) := by
        unfold kk plp
        rw [ha, ha', e', e]
      rw [hk1, e', e]
      simp only
      rw [sv_nat hr, sv_nat hs]
      cases r <;> cases s <;> simp_all
    by_cases hb : before p (peer xs p) = true
    · exact key p hp hb
    · obtain ⟨h1, h2, h3⟩ := G.peer hp
      have hb2 : before (peer xs p) (peer xs (peer xs p)) = true := by
        rw [h2]
        rcases before_total h3 with h | h
        · exact h
        · exact absurd h hb
      have := key _ h1 hb2
      rw [h2] at this
      have e3 : kk xs (peer xs p) = kk xs p := by unfold kk; rw [h2]; cases plp xs p <;> cases plp xs (peer xs p) <;> rfl
      rw [e3] at this
      rw [this]
      cases sv S (peer xs p).agent <;> cases kk xs p <;> rfl
theorem fits_of_sol {S : List Bool} (hS : Sol xs S) : Fits xs S := ⟨hS.len, fun i hi => ⟨xs[i], S[i]'(by rw [hS.len]; exact hi), List.getElem?_eq_getElem hi, List.getElem?_eq_getElem _, fun h => hS.tur i _ (List.getElem?_eq_getElem hi) (by rw [sv_nat (List.getElem?_eq_getElem (show i < S.length by rw [hS.len]; exact hi))]; exact h)⟩⟩
theorem sol_bad (G : Good xs) {S : List Bool} (hS : Sol xs S) : firstBad xs S = none := by
  unfold firstBad
  rw [Option.map_eq_none_iff, List.find?_eq_none]
  intro p hin
  obtain ⟨i, k, x, hx, hk, rfl⟩ := mem_allPorts hin
  have hp := hasPort_of hx hk
  obtain ⟨j, q, y, e', hy, hq, ha'⟩ := hasPort_at (G.peer hp).1
  have F := fits_of_sol hS
  obtain ⟨r, hr⟩ := fit_at F hx
  obtain ⟨s, hs⟩ := fit_at F hy
  have h1 := hS.ok _ hp
  have hk1 : kk xs ⟨(i : Int), (k : Int)⟩ = ((rolePlain x.kind k == 2) == (rolePlain y.kind q == 2)) := by
    unfold kk plp
    rw [ha', e']
    simp only [agentAt_nat hx]
  rw [hk1, e'] at h1
  simp only [sv_nat hr, sv_nat hs] at h1
  unfold badP
  rw [e', roleP_at hx hr, roleP_at hy hs, ← role_eq G F hx hr hk, ← role_eq G F hy hs hq, spec_bit, h1]
  simp
end
end
section
open Go.RowKit
set_option linter.unusedVariables false
set_option linter.unusedSimpArgs false
def visit (l : List Int) (a : Int) : List Int := if a ∈ l then l else l ++ [a]
structure GL (n : Nat) (l : List Int) : Prop where
  nd : l.Nodup
  inr : ∀ a ∈ l, 0 ≤ a ∧ a < n
theorem GL.len {n : Nat} {l : List Int} (h : GL n l) : l.length ≤ n := by
  have := php n (l.map Int.toNat) (by
    rw [List.nodup_iff_pairwise_ne, List.pairwise_map]
    refine (List.nodup_iff_pairwise_ne.1 h.nd).imp_of_mem ?_
    intro a b ha hb hab e
    have := h.inr a ha; have := h.inr b hb
    exact hab (by omega)) (fun x hx => by
    obtain ⟨a, ha, rfl⟩ := List.mem_map.1 hx
    have := h.inr a ha
    omega)
  simpa using this
theorem GL.add {n : Nat} {l : List Int} (h : GL n l) {a : Int} (h0 : 0 ≤ a) (h1 : a < n) (hn : a ∉ l) : GL n (l ++ [a]) :=
  ⟨List.nodup_append.2 ⟨h.nd, by simp, fun x hx y hy e => by simp at hy; subst hy; subst e; exact hn hx⟩, fun x hx => by
    rcases List.mem_append.1 hx with h2 | h2
    · exact h.inr x h2
    · simp at h2; subst h2; exact ⟨h0, h1⟩⟩
theorem GL.visit {n : Nat} {l : List Int} (h : GL n l) {a : Int} (h0 : 0 ≤ a) (h1 : a < n) : GL n (visit l a) := by
  unfold Go.Proofs.Ytpbobilkejblgaa.visit
  by_cases ha : a ∈ l
  · rw [if_pos ha]; exact h
  · rw [if_neg ha]; exact h.add h0 h1 ha
def mOf (l : List Int) : MapM Int Bool := l.foldl (fun M a => M.put a true) MapM.empty
theorem mOf_add (l : List Int) (a : Int) : mOf (l ++ [a]) = (mOf l).put a true := by simp [mOf, List.foldl_append]
theorem mOf_ok (l : List Int) : (mOf l).n = l.length ∧ ∀ a, (mOf l).look a false = decide (a ∈ l) := by
  have key : ∀ (k : Nat) (l : List Int), l.length = k → (mOf l).n = l.length ∧ ∀ a, (mOf l).look a false = decide (a ∈ l) := by
    intro k
    induction k with
    | zero => intro l hl; obtain rfl := List.eq_nil_of_length_eq_zero hl; exact ⟨rfl, fun a => by simp [mOf, MapM.empty, MapM.look]⟩
    | succ k ih =>
      intro l hl
      obtain ⟨l', b, rfl⟩ : ∃ l' b, l = l' ++ [b] := by
        have : l ≠ [] := fun e => by rw [e] at hl; simp at hl
        exact ⟨l.dropLast, l.getLast this, (List.dropLast_concat_getLast this).symm⟩
      have hl' : l'.length = k := by simpa using hl
      obtain ⟨h1, h2⟩ := ih l' hl'
      rw [mOf_add]
      refine ⟨by show (mOf l').n + 1 = _; rw [h1]; simp, fun a => ?_⟩
      have h2 := h2 a
      by_cases ha : a = b
      · simp [MapM.look, MapM.put, ha]
      · simp only [MapM.look, MapM.put, if_neg ha] at h2 ⊢
        rw [h2]; simp [ha]
  exact key l.length l rfl
/-- The ports of a valid net lead to agents. -/
theorem Good.to {xs : List DAgent} (G : Good xs) {i : Nat} {x : DAgent} (hx : xs[i]? = some x) {k : Nat} {p : DPort} (hp : x.ports[k]? = some p) : 0 ≤ p.agent ∧ p.agent < xs.length := by
  have h := (G.peer (hasPort_of hx (lt_of_some hp))).1
  rw [peer_of hx hp] at h
  obtain ⟨j, s, y, rfl, hy, _⟩ := hasPort_at h
  have := lt_of_some hy
  simp only
  omega
end
section
open Go.RowKit
set_option linter.unusedVariables false
set_option linter.unusedSimpArgs false
theorem visit_mem {l : List Int} {a : Int} : a ∈ visit l a := by
  unfold visit
  by_cases h : a ∈ l
  · rw [if_pos h]; exact h
  · rw [if_neg h]; simp
end
section
open Go.RowKit
set_option linter.unusedVariables false
set_option linter.unusedSimpArgs false
def bf (nb : Int → List Int) (s : Int) : Nat → List Int
  | 0 => [s]
  | k + 1 => match (bf nb s k)[k]? with
    | none => bf nb s k
    | some a => (nb a).foldl visit (bf nb s k)
section
variable {nb : Int → List Int} {n : Nat} {s : Int}
theorem fv_pre : ∀ (ps l : List Int), ∃ m, ps.foldl visit l = l ++ m
  | [], l => ⟨[], by simp⟩
  | p :: ps, l => by
    rw [List.foldl_cons]
    by_cases h : p ∈ l
    · rw [show visit l p = l from if_pos h]; exact fv_pre ps l
    · rw [show visit l p = l ++ [p] from if_neg h]
      obtain ⟨m, hm⟩ := fv_pre ps (l ++ [p])
      exact ⟨[p] ++ m, by rw [hm, List.append_assoc]⟩
theorem fv_gl : ∀ (ps l : List Int), (∀ p ∈ ps, 0 ≤ p ∧ p < n) → GL n l → GL n (ps.foldl visit l)
  | [], l, _, h => h
  | p :: ps, l, hp, h => by
    rw [List.foldl_cons]
    exact fv_gl ps _ (fun q hq => hp q (by simp [hq])) (h.visit (hp p (by simp)).1 (hp p (by simp)).2)
theorem fv_mem : ∀ (ps l : List Int) (p : Int), p ∈ ps → p ∈ ps.foldl visit l
  | q :: ps, l, p, h => by
    rw [List.foldl_cons]
    rcases List.mem_cons.1 h with rfl | h
    · obtain ⟨m, hm⟩ := fv_pre ps (visit l p)
      rw [hm]; exact List.mem_append.2 (.inl visit_mem)
    · exact fv_mem ps _ p h
theorem fv_from : ∀ (ps l : List Int) (b : Int), b ∈ ps.foldl visit l → b ∈ l ∨ b ∈ ps
  | [], l, b, h => .inl h
  | p :: ps, l, b, h => by
    rw [List.foldl_cons] at h
    rcases fv_from ps _ b h with h | h
    · unfold visit at h
      split at h
      · exact .inl h
      · rcases List.mem_append.1 h with h | h
        · exact .inl h
        · exact .inr (by simp at h; simp [h])
    · exact .inr (by simp [h])
theorem bf_ok (hn : ∀ a : Int, 0 ≤ a → a < n → ∀ q ∈ nb a, 0 ≤ q ∧ q < n) (h0 : 0 ≤ s) (h1 : s < n) : ∀ k, GL n (bf nb s k)
  | 0 => ⟨by simp [bf], fun a ha => by simp [bf] at ha; subst ha; exact ⟨h0, h1⟩⟩
  | k + 1 => by
    have ih := bf_ok hn h0 h1 k
    show GL n (match (bf nb s k)[k]? with | none => bf nb s k | some a => (nb a).foldl visit (bf nb s k))
    cases h : (bf nb s k)[k]? with
    | none => exact ih
    | some a =>
      have r := ih.inr a (List.mem_of_getElem? h)
      exact fv_gl _ _ (hn a r.1 r.2) ih
theorem bf_end (hn : ∀ a : Int, 0 ≤ a → a < n → ∀ q ∈ nb a, 0 ≤ q ∧ q < n) (h0 : 0 ≤ s) (h1 : s < n) : ∃ K, K ≤ n ∧ (bf nb s K).length ≤ K ∧ ∀ k, k < K → k < (bf nb s k).length := by
  obtain ⟨K, h2, h3⟩ := least (p := fun K => (bf nb s K).length ≤ K) ⟨n, (bf_ok hn h0 h1 _).len⟩
  refine ⟨K, ?_, h2, fun k hk => by have := h3 k hk; omega⟩
  apply Classical.byContradiction
  intro hlt
  exact h3 n (by omega) (bf_ok hn h0 h1 _).len
theorem bf_step {k : Nat} {a : Int} (h : (bf nb s k)[k]? = some a) : bf nb s (k + 1) = (nb a).foldl visit (bf nb s k) := by
  show (match (bf nb s k)[k]? with | none => bf nb s k | some a => (nb a).foldl visit (bf nb s k)) = _
  rw [h]
theorem bf_stable {K : Nat} (h : (bf nb s K).length ≤ K) : ∀ m, bf nb s (K + m) = bf nb s K
  | 0 => rfl
  | m + 1 => by
    have ih := bf_stable h m
    show (match (bf nb s (K + m))[K + m]? with | none => bf nb s (K + m) | some a => (nb a).foldl visit (bf nb s (K + m))) = _
    rw [ih, List.getElem?_eq_none (by omega)]
theorem bf_pre (k : Nat) : ∀ m, ∃ t, bf nb s (k + m) = bf nb s k ++ t
  | 0 => ⟨[], by simp⟩
  | m + 1 => by
    obtain ⟨t, ht⟩ := bf_pre k m
    show ∃ t, (match (bf nb s (k + m))[k + m]? with | none => bf nb s (k + m) | some a => (nb a).foldl visit (bf nb s (k + m))) = bf nb s k ++ t
    cases (bf nb s (k + m))[k + m]? with
    | none => exact ⟨t, ht⟩
    | some a =>
      obtain ⟨u, hu⟩ := fv_pre (nb a) (bf nb s (k + m))
      exact ⟨t ++ u, by simp only; rw [hu, ht, List.append_assoc]⟩
theorem bf_head (k : Nat) : ∃ t, bf nb s k = s :: t := by
  obtain ⟨t, ht⟩ := bf_pre (nb := nb) (s := s) 0 k
  rw [Nat.zero_add] at ht
  exact ⟨t, ht⟩
theorem bf_fin (hn : ∀ a : Int, 0 ≤ a → a < n → ∀ q ∈ nb a, 0 ≤ q ∧ q < n) (h0 : 0 ≤ s) (h1 : s < n) {K : Nat} (hK : K ≤ n) (hl : (bf nb s K).length ≤ K) : bf nb s n = bf nb s K := by
  have := bf_stable hl (n - K)
  rwa [show K + (n - K) = n by omega] at this
theorem bf_closed (hn : ∀ a : Int, 0 ≤ a → a < n → ∀ q ∈ nb a, 0 ≤ q ∧ q < n) (h0 : 0 ≤ s) (h1 : s < n) {a q : Int} (ha : a ∈ bf nb s n) (hq : q ∈ nb a) : q ∈ bf nb s n := by
  obtain ⟨K, hK, hK1, hK2⟩ := bf_end hn h0 h1
  rw [bf_fin hn h0 h1 hK hK1] at ha ⊢
  obtain ⟨k, hk, hka⟩ := List.getElem_of_mem ha
  have hkK : k < K := by omega
  have hlt := hK2 k hkK
  obtain ⟨t, ht⟩ := bf_pre (nb := nb) (s := s) k (K - k)
  rw [show k + (K - k) = K by omega] at ht
  have e1 : (bf nb s k)[k]? = some a := by
    have e2 := List.getElem?_eq_getElem hk
    rw [hka] at e2
    rw [← e2, ht, List.getElem?_append_left hlt]
  have e3 := bf_step e1
  have e4 := fv_mem (nb a) (bf nb s k) q hq
  rw [← e3] at e4
  obtain ⟨u, hu⟩ := bf_pre (nb := nb) (s := s) (k + 1) (K - (k + 1))
  rw [show k + 1 + (K - (k + 1)) = K by omega] at hu
  rw [hu]; simp [e4]
theorem bf_min {p : Int → Prop} (h0 : p s) (hc : ∀ a, p a → ∀ q ∈ nb a, p q) : ∀ k, ∀ a ∈ bf nb s k, p a
  | 0, a, h => by simp [bf] at h; subst h; exact h0
  | k + 1, a, h => by
    have ih := bf_min h0 hc k
    have h : a ∈ (match (bf nb s k)[k]? with | none => bf nb s k | some a => (nb a).foldl visit (bf nb s k)) := h
    cases hk : (bf nb s k)[k]? with
    | none => rw [hk] at h; exact ih a h
    | some b =>
      rw [hk] at h
      rcases fv_from _ _ _ h with h | h
      · exact ih a h
      · exact hc b (ih b (List.mem_of_getElem? hk)) a h
/-- What stands at place k (not the first) is a neighbour of what stands before it. -/
theorem bf_prev (hn : ∀ a : Int, 0 ≤ a → a < n → ∀ q ∈ nb a, 0 ≤ q ∧ q < n) (h0 : 0 ≤ s) (h1 : s < n) : ∀ m (k : Nat) (a : Int), (bf nb s m)[k]? = some a → 0 < k → ∃ (j : Nat) (b : Int), j < k ∧ (bf nb s m)[j]? = some b ∧ a ∈ nb b
  | 0, k, a, h, hk => by simp [bf, List.getElem?_cons, show k ≠ 0 by omega] at h
  | m + 1, k, a, h, hk => by
    have ih := bf_prev hn h0 h1 m
    have h : (match (bf nb s m)[m]? with | none => bf nb s m | some a => (nb a).foldl visit (bf nb s m))[k]? = some a := h
    show ∃ (j : Nat) (b : Int), j < k ∧ (match (bf nb s m)[m]? with | none => bf nb s m | some a => (nb a).foldl visit (bf nb s m))[j]? = some b ∧ a ∈ nb b
    cases hm : (bf nb s m)[m]? with
    | none => rw [hm] at h; exact ih k a h hk
    | some c =>
      rw [hm] at h
      simp only at h ⊢
      obtain ⟨t, ht⟩ := fv_pre (nb c) (bf nb s m)
      have hml := lt_of_some hm
      by_cases hkl : k < (bf nb s m).length
      · have h' : (bf nb s m)[k]? = some a := by rw [ht, List.getElem?_append_left hkl] at h; exact h
        obtain ⟨j, b, hj, hb, hab⟩ := ih k a h' hk
        exact ⟨j, b, hj, by rw [ht, List.getElem?_append_left (by omega)]; exact hb, hab⟩
      · refine ⟨m, c, by omega, by rw [ht, List.getElem?_append_left hml]; exact hm, ?_⟩
        have hgl := fv_gl (nb c) (bf nb s m) (hn c ((bf_ok hn h0 h1 m).inr c (List.mem_of_getElem? hm)).1 ((bf_ok hn h0 h1 m).inr c (List.mem_of_getElem? hm)).2) (bf_ok hn h0 h1 m)
        rcases fv_from _ _ _ (List.mem_of_getElem? h) with h2 | h2
        · obtain ⟨i, hi, hia⟩ := List.getElem_of_mem h2
          have hkk := lt_of_some h
          have h3 : ((nb c).foldl visit (bf nb s m))[i]? = some a := by rw [ht, List.getElem?_append_left hi, List.getElem?_eq_getElem hi, hia]
          have := (List.getElem?_inj hkk hgl.nd).1 (h.trans h3.symm)
          omega
        · exact h2
end
end
end Go.Proofs.Ytpbobilkejblgaa
