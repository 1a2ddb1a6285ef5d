/- Lemmas of the proof of ValidTemplates, part 3. No condition. -/
import Derived.Test.YtampijkiidjcmaaZValidTemplates2
namespace Go.Proofs.Ytampijkiidjcmaa
section
open Go.RowKit
set_option linter.unusedVariables false
set_option linter.unusedSimpArgs false
set_option maxRecDepth 100000
def m_slices_IndexFunc_impl_Port_impl_Port_A1 : Option Int :=
  some (-1)
def m_slices_IndexFunc_impl_Port_impl_Port_B1 (d0 : List DPort) (d1 : DPort → Option Bool) (rec1 : Int → Option Int) (K1 : Option Int) (i2 : Int) : Option Int :=
  (bif (decide (i2 < (d0.length : Int))) then ((getI d0 i2).bind fun x5 => ((d1 x5).bind fun y14 => (bif y14 then some i2 else (rec1 (i2 + 1))))) else (K1))
def m_slices_IndexFunc_impl_Port_impl_Port_L1 (d0 : List DPort) (d1 : DPort → Option Bool) (K1 : Option Int) : Nat → Int → Option Int
  | 0, _ => none
  | g + 1, i2 => m_slices_IndexFunc_impl_Port_impl_Port_B1 d0 d1 (m_slices_IndexFunc_impl_Port_impl_Port_L1 d0 d1 K1 g) K1 i2
def m_slices_IndexFunc_impl_Port_impl_Port (d0 : List DPort) (d1 : DPort → Option Bool) : Option Int :=
  (m_slices_IndexFunc_impl_Port_impl_Port_L1 d0 d1 m_slices_IndexFunc_impl_Port_impl_Port_A1 (d0.length + 1) 0)
set_option maxHeartbeats 2000000 in
theorem c_m_slices_IndexFunc_impl_Port_impl_Port (d0 : List DPort) (d1 : DPort → Option Bool) (r : Int) (hm : m_slices_IndexFunc_impl_Port_impl_Port d0 d1 = some r) (v0 : Value) (gf1 : FuncId) (caps1 : Array Value) (w : World) (hv0 : Sl portRd 2 w v0 d0) (hgo1 : isGo Try.prog gf1 = true) (hf1 : ∀ (x0 : DPort) (b : Bool), d1 x0 = some b → ∀ w1, Below w.heap.size w w1 → Calls Try.prog gf1 (#[.agg #[.int .i64 x0.agent, .int .i64 x0.slot]] ++ caps1) w1 fun e w2 => e = .returned (.bool b) ∧ Below w1.heap.size w1 w2) :
    Calls Try.prog 167 #[v0, .func (.func gf1) #[] caps1] w fun e w' => e = .returned (.int .i64 r) ∧ Below w.heap.size w w' := by
  obtain ⟨Aa0, na0, ca0, rfl, ha0, ra0⟩ := hv0
  have ea0 := ha0.len; subst ea0
  have qa0 := len_le ra0
  have T := Below.refl w.heap.size w
  unfold m_slices_IndexFunc_impl_Port_impl_Port at hm
  refine enter 19 Try.func167 rfl rfl rfl ?_
  intro f hf
  have s0 : f 0 = .slice Aa0 d0.length ca0 := hf 0 _ rfl
  have s1 : f 1 = .func (.func gf1) #[] caps1 := hf 1 _ rfl
  refine wp_seq ?_
  refine wp_rs rfl ?_
  refine RQ.y rfl (Y.assign (v := .int .i64 0) rfl) ?_
  refine RQ.nil ?_
  refine then_n ?_
  refine wp_seq ?_
  refine wp_seq ?_
  refine wp_rs rfl ?_
  refine RQ.y rfl (Y.move (v := .slice Aa0 d0.length ca0) s0) ?_
  refine RQ.y rfl (Y.len (by kernel_rfl) rfl) ?_
  refine RQ.y rfl (Y.move (v := .int .i64 0) rfl) ?_
  refine RQ.nil ?_
  refine then_n ?_
  refine wp_block ?_
  obtain ⟨K1, hK1, hm⟩ : ∃ K, K = m_slices_IndexFunc_impl_Port_impl_Port_A1 ∧ m_slices_IndexFunc_impl_Port_impl_Port_L1 d0 d1 K (d0.length + 1) 0 = some r := ⟨_, rfl, hm⟩
  refine wp_loopX (fun g f w' => ∃ (i2 : Int), f 0 = .slice Aa0 d0.length ca0 ∧ f 1 = .func (.func gf1) #[] caps1 ∧ f 7 = .int .i64 (d0.length : Int) ∧ f 8 = .int .i64 i2 ∧ 0 ≤ i2 ∧ Below w.heap.size w w' ∧ m_slices_IndexFunc_impl_Port_impl_Port_L1 d0 d1 K1 g i2 = some r) 0 (fun f w' => Below w.heap.size w w' ∧ m_slices_IndexFunc_impl_Port_impl_Port_A1  = some r) (d0.length + 1) ⟨0, s0, s1, rfl, rfl, (by omega), T, hm⟩ ?_ ?_
  · rintro f w1 ⟨T, hm⟩
    unfold m_slices_IndexFunc_impl_Port_impl_Port_A1 at hm
    refine blk_hit (then_n ?_)
    refine wp_seq ?_
    refine wp_rs rfl ?_
    refine RQ.y rfl (Y.assign (v := .int .i64 (-1)) rfl) ?_
    refine RQ.nil ?_
    refine then_n ?_
    refine wp_ret ?_
    obtain rfl := Option.some.inj hm
    exact (ret1 rfl rfl rfl ⟨rfl, T⟩)
  · rintro g f w3 ⟨i2, s0_1, s1_1, s7_1, s8_1, nn8_1, T, hm⟩
    rcases g with _ | g
    · simp only [m_slices_IndexFunc_impl_Port_impl_Port_L1] at hm; cases hm
    obtain ⟨rec1, hrec1, hm⟩ : ∃ z, z = m_slices_IndexFunc_impl_Port_impl_Port_L1 d0 d1 K1 g ∧ m_slices_IndexFunc_impl_Port_impl_Port_B1 d0 d1 z K1 i2 = some r := ⟨_, rfl, hm⟩
    unfold m_slices_IndexFunc_impl_Port_impl_Port_B1 at hm
    refine wp_seq ?_
    refine wp_rs rfl ?_
    refine RQ.y rfl (Y.binI (v := .bool (decide (i2 < (d0.length : Int)))) s8_1 s7_1 rfl) ?_
    refine RQ.nil ?_
    refine then_n ?_
    refine wp_seq ?_
    rcases bcases (decide (i2 < (d0.length : Int))) with c4 | c4
    · replace hm := cF c4 hm
      have pc4 := of_decide_eq_false c4
      refine cond_f rfl (vb rfl c4) ?_
      refine wp_exit ?_
      exact (then_x (then_x (hit_x ⟨_, rfl, ⟨T, (by rw [hK1] at hm; exact hm)⟩⟩)))
    · replace hm := cT c4 hm
      have pc4 := of_decide_eq_true c4
      refine cond_t rfl (vb rfl c4) ?_
      refine wp_skip ?_
      refine then_n ?_
      refine wp_seq ?_
      refine wp_block ?_
      refine wp_seq ?_
      refine wp_rs rfl ?_
      refine RQ.y rfl (Y.move (v := .int .i64 i2) s8_1) ?_
      refine RQ.y rfl (Y.assign (v := .int .i64 i2) rfl) ?_
      refine RQ.nil ?_
      refine then_n ?_
      refine wp_seq ?_
      refine wp_rb rfl ?_
      refine RQ.y rfl (Y.move (v := .func (.func gf1) #[] caps1) s1_1) ?_
      refine RQ.y rfl (Y.move (v := .slice Aa0 d0.length ca0) s0_1) ?_
      refine RQ.y rfl (Y.move (v := .int .i64 i2) rfl) ?_
      obtain ⟨x5, hx8, hm⟩ := bnd hm
      obtain ⟨k6, hk9, hl10, hx8⟩ := getI_some hx8
      obtain ⟨b12, o13, rfl, hbb12⟩ := ha0.addr (by omega)
      obtain ⟨cs7, hRcs7, hc11⟩ := ha0.el hx8
      have hScs7 := hRcs7
      obtain rfl := hRcs7
      refine RQ.y rfl (Y.indexAddr (m := k6) (sz := 2) rfl rfl hk9 hl10 (by kernel_rfl)) ?_
      refine RQ.y rfl (Y.loadN (cs := [.int .i64 x5.agent, .int .i64 x5.slot]) rfl (by kernel_rfl) (cells2 (beC (cellT T (hc11 0 _ rfl))) (beC (cellT T (hc11 1 _ rfl))))) ?_
      obtain ⟨y14, e15, hm⟩ := bnd hm
      refine RQ.callV rfl rfl (am1 rfl) hgo1 (v := .bool y14) (bel (K := fun _ => True) fun w' hb' => hf1 x5 y14 e15 w' (Tt T hb')) ?_
      refine RQ.nil ?_
      intro w16 hb17
      have szw16 := hb17.size
      have T := Tt T hb17
      refine then_n ?_
      rcases bcases y14 with c18 | c18
      · replace hm := cF c18 hm
        refine cond_f rfl (vb rfl c18) ?_
        refine wp_skip ?_
        refine blk_n (then_n ?_)
        refine wp_rs rfl ?_
        refine RQ.y rfl (Y.binI s8_1 rfl (binI_add (m := i2) (by omega))) ?_
        refine RQ.y rfl (Y.move (v := .int .i64 (i2 + 1)) rfl) ?_
        refine RQ.nil ?_
        exact (then_n ⟨g, _, Nat.lt_succ_self _, rfl, ⟨(i2 + 1), s0_1, s1_1, s7_1, rfl, (by omega), T, (by rw [← hrec1]; exact hm)⟩⟩)
      · replace hm := cT c18 hm
        refine cond_t rfl (vb rfl c18) ?_
        refine wp_seq ?_
        refine wp_rs rfl ?_
        refine RQ.y rfl (Y.move (v := .int .i64 i2) rfl) ?_
        refine RQ.y rfl (Y.assign (v := .int .i64 i2) rfl) ?_
        refine RQ.nil ?_
        refine then_n ?_
        refine wp_ret ?_
        obtain rfl := Option.some.inj hm
        exact (blk_r (then_r (then_r (hit_r (blk_r (then_r (ret1 rfl rfl rfl ⟨rfl, T⟩)))))))
def m_slices_ContainsFunc_impl_Port_impl_Port (d0 : List DPort) (d1 : DPort → Option Bool) : Option Bool :=
  ((m_slices_IndexFunc_impl_Port_impl_Port d0 d1).bind fun y1 => some (decide (y1 ≥ 0)))
set_option maxHeartbeats 2000000 in
theorem c_m_slices_ContainsFunc_impl_Port_impl_Port (d0 : List DPort) (d1 : DPort → Option Bool) (r : Bool) (hm : m_slices_ContainsFunc_impl_Port_impl_Port d0 d1 = some r) (v0 : Value) (gf1 : FuncId) (caps1 : Array Value) (w : World) (hv0 : Sl portRd 2 w v0 d0) (hgo1 : isGo Try.prog gf1 = true) (hf1 : ∀ (x0 : DPort) (b : Bool), d1 x0 = some b → ∀ w1, Below w.heap.size w w1 → Calls Try.prog gf1 (#[.agg #[.int .i64 x0.agent, .int .i64 x0.slot]] ++ caps1) w1 fun e w2 => e = .returned (.bool b) ∧ Below w1.heap.size w1 w2) :
    Calls Try.prog 116 #[v0, .func (.func gf1) #[] caps1] w fun e w' => e = .returned (.bool r) ∧ Below w.heap.size w w' := by
  obtain ⟨Aa0, na0, ca0, rfl, ha0, ra0⟩ := hv0
  have ea0 := ha0.len; subst ea0
  have qa0 := len_le ra0
  have T := Below.refl w.heap.size w
  unfold m_slices_ContainsFunc_impl_Port_impl_Port at hm
  refine enter 9 Try.func116 rfl rfl rfl ?_
  intro f hf
  have s0 : f 0 = .slice Aa0 d0.length ca0 := hf 0 _ rfl
  have s1 : f 1 = .func (.func gf1) #[] caps1 := hf 1 _ rfl
  refine wp_seq ?_
  refine wp_rs rfl ?_
  refine RQ.y rfl (Y.assign (v := .bool false) rfl) ?_
  refine RQ.nil ?_
  refine then_n ?_
  refine wp_seq ?_
  refine wp_rb rfl ?_
  refine RQ.y rfl (Y.move (v := .slice Aa0 d0.length ca0) s0) ?_
  refine RQ.y rfl (Y.move (v := .func (.func gf1) #[] caps1) s1) ?_
  obtain ⟨y1, e2, hm⟩ := bnd hm
  refine RQ.call rfl (am2 rfl rfl) (by kernel_rfl) (v := .int .i64 y1) (bel (K := fun _ => True) fun w' hb' => (c_m_slices_IndexFunc_impl_Port_impl_Port d0 d1 _ e2 _ _ _ w' (slArg portRd_ok ha0 ra0 (Tt T hb')) hgo1 (fun x0 b hx w1 hb1 => hf1 x0 b hx w1 (Tt (Tt T hb') hb1)))) ?_
  refine RQ.y rfl (Y.binI (v := .bool (decide (y1 ≥ 0))) rfl rfl rfl) ?_
  refine RQ.y rfl (Y.assign (v := .bool (decide (y1 ≥ 0))) rfl) ?_
  refine RQ.nil ?_
  intro w3 hb4
  have szw3 := hb4.size
  have T := Tt T hb4
  refine then_n ?_
  refine wp_ret ?_
  obtain rfl := Option.some.inj hm
  exact (ret1 rfl rfl rfl ⟨rfl, T⟩)
def m_slices_IndexFunc_int64_int64_A1 : Option Int :=
  some (-1)
def m_slices_IndexFunc_int64_int64_B1 (d0 : List Int) (d1 : Int → Option Bool) (rec1 : Int → Option Int) (K1 : Option Int) (i2 : Int) : Option Int :=
  (bif (decide (i2 < (d0.length : Int))) then ((getI d0 i2).bind fun x5 => ((d1 x5).bind fun y14 => (bif y14 then some i2 else (rec1 (i2 + 1))))) else (K1))
def m_slices_IndexFunc_int64_int64_L1 (d0 : List Int) (d1 : Int → Option Bool) (K1 : Option Int) : Nat → Int → Option Int
  | 0, _ => none
  | g + 1, i2 => m_slices_IndexFunc_int64_int64_B1 d0 d1 (m_slices_IndexFunc_int64_int64_L1 d0 d1 K1 g) K1 i2
def m_slices_IndexFunc_int64_int64 (d0 : List Int) (d1 : Int → Option Bool) : Option Int :=
  (m_slices_IndexFunc_int64_int64_L1 d0 d1 m_slices_IndexFunc_int64_int64_A1 (d0.length + 1) 0)
set_option maxHeartbeats 2000000 in
theorem c_m_slices_IndexFunc_int64_int64 (d0 : List Int) (d1 : Int → Option Bool) (r : Int) (hm : m_slices_IndexFunc_int64_int64 d0 d1 = some r) (v0 : Value) (gf1 : FuncId) (caps1 : Array Value) (w : World) (hv0 : Sl intRd 1 w v0 d0) (hgo1 : isGo Try.prog gf1 = true) (hf1 : ∀ (x0 : Int) (b : Bool), d1 x0 = some b → ∀ w1, Below w.heap.size w w1 → Calls Try.prog gf1 (#[.int .i64 x0] ++ caps1) w1 fun e w2 => e = .returned (.bool b) ∧ Below w1.heap.size w1 w2) :
    Calls Try.prog 195 #[v0, .func (.func gf1) #[] caps1] w fun e w' => e = .returned (.int .i64 r) ∧ Below w.heap.size w w' := by
  obtain ⟨Aa0, na0, ca0, rfl, ha0, ra0⟩ := hv0
  have ea0 := ha0.len; subst ea0
  have qa0 := len_le ra0
  have T := Below.refl w.heap.size w
  unfold m_slices_IndexFunc_int64_int64 at hm
  refine enter 19 Try.func195 rfl rfl rfl ?_
  intro f hf
  have s0 : f 0 = .slice Aa0 d0.length ca0 := hf 0 _ rfl
  have s1 : f 1 = .func (.func gf1) #[] caps1 := hf 1 _ rfl
  refine wp_seq ?_
  refine wp_rs rfl ?_
  refine RQ.y rfl (Y.assign (v := .int .i64 0) rfl) ?_
  refine RQ.nil ?_
  refine then_n ?_
  refine wp_seq ?_
  refine wp_seq ?_
  refine wp_rs rfl ?_
  refine RQ.y rfl (Y.move (v := .slice Aa0 d0.length ca0) s0) ?_
  refine RQ.y rfl (Y.len (by kernel_rfl) rfl) ?_
  refine RQ.y rfl (Y.move (v := .int .i64 0) rfl) ?_
  refine RQ.nil ?_
  refine then_n ?_
  refine wp_block ?_
  obtain ⟨K1, hK1, hm⟩ : ∃ K, K = m_slices_IndexFunc_int64_int64_A1 ∧ m_slices_IndexFunc_int64_int64_L1 d0 d1 K (d0.length + 1) 0 = some r := ⟨_, rfl, hm⟩
  refine wp_loopX (fun g f w' => ∃ (i2 : Int), f 0 = .slice Aa0 d0.length ca0 ∧ f 1 = .func (.func gf1) #[] caps1 ∧ f 7 = .int .i64 (d0.length : Int) ∧ f 8 = .int .i64 i2 ∧ 0 ≤ i2 ∧ Below w.heap.size w w' ∧ m_slices_IndexFunc_int64_int64_L1 d0 d1 K1 g i2 = some r) 0 (fun f w' => Below w.heap.size w w' ∧ m_slices_IndexFunc_int64_int64_A1  = some r) (d0.length + 1) ⟨0, s0, s1, rfl, rfl, (by omega), T, hm⟩ ?_ ?_
  · rintro f w1 ⟨T, hm⟩
    unfold m_slices_IndexFunc_int64_int64_A1 at hm
    refine blk_hit (then_n ?_)
    refine wp_seq ?_
    refine wp_rs rfl ?_
    refine RQ.y rfl (Y.assign (v := .int .i64 (-1)) rfl) ?_
    refine RQ.nil ?_
    refine then_n ?_
    refine wp_ret ?_
    obtain rfl := Option.some.inj hm
    exact (ret1 rfl rfl rfl ⟨rfl, T⟩)
  · rintro g f w3 ⟨i2, s0_1, s1_1, s7_1, s8_1, nn8_1, T, hm⟩
    rcases g with _ | g
    · simp only [m_slices_IndexFunc_int64_int64_L1] at hm; cases hm
    obtain ⟨rec1, hrec1, hm⟩ : ∃ z, z = m_slices_IndexFunc_int64_int64_L1 d0 d1 K1 g ∧ m_slices_IndexFunc_int64_int64_B1 d0 d1 z K1 i2 = some r := ⟨_, rfl, hm⟩
    unfold m_slices_IndexFunc_int64_int64_B1 at hm
    refine wp_seq ?_
    refine wp_rs rfl ?_
    refine RQ.y rfl (Y.binI (v := .bool (decide (i2 < (d0.length : Int)))) s8_1 s7_1 rfl) ?_
    refine RQ.nil ?_
    refine then_n ?_
    refine wp_seq ?_
    rcases bcases (decide (i2 < (d0.length : Int))) with c4 | c4
    · replace hm := cF c4 hm
      have pc4 := of_decide_eq_false c4
      refine cond_f rfl (vb rfl c4) ?_
      refine wp_exit ?_
      exact (then_x (then_x (hit_x ⟨_, rfl, ⟨T, (by rw [hK1] at hm; exact hm)⟩⟩)))
    · replace hm := cT c4 hm
      have pc4 := of_decide_eq_true c4
      refine cond_t rfl (vb rfl c4) ?_
      refine wp_skip ?_
      refine then_n ?_
      refine wp_seq ?_
      refine wp_block ?_
      refine wp_seq ?_
      refine wp_rs rfl ?_
      refine RQ.y rfl (Y.move (v := .int .i64 i2) s8_1) ?_
      refine RQ.y rfl (Y.assign (v := .int .i64 i2) rfl) ?_
      refine RQ.nil ?_
      refine then_n ?_
      refine wp_seq ?_
      refine wp_rb rfl ?_
      refine RQ.y rfl (Y.move (v := .func (.func gf1) #[] caps1) s1_1) ?_
      refine RQ.y rfl (Y.move (v := .slice Aa0 d0.length ca0) s0_1) ?_
      refine RQ.y rfl (Y.move (v := .int .i64 i2) rfl) ?_
      obtain ⟨x5, hx8, hm⟩ := bnd hm
      obtain ⟨k6, hk9, hl10, hx8⟩ := getI_some hx8
      obtain ⟨b12, o13, rfl, hbb12⟩ := ha0.addr (by omega)
      obtain ⟨cs7, hRcs7, hc11⟩ := ha0.el hx8
      have hScs7 := hRcs7
      obtain rfl := hRcs7
      refine RQ.y rfl (Y.indexAddr (m := k6) (sz := 1) rfl rfl hk9 hl10 (by kernel_rfl)) ?_
      refine RQ.y rfl (Y.load (v := .int .i64 x5) rfl (by kernel_rfl) (beC (cellT T (hc11 0 _ rfl)))) ?_
      obtain ⟨y14, e15, hm⟩ := bnd hm
      refine RQ.callV rfl rfl (am1 rfl) hgo1 (v := .bool y14) (bel (K := fun _ => True) fun w' hb' => hf1 x5 y14 e15 w' (Tt T hb')) ?_
      refine RQ.nil ?_
      intro w16 hb17
      have szw16 := hb17.size
      have T := Tt T hb17
      refine then_n ?_
      rcases bcases y14 with c18 | c18
      · replace hm := cF c18 hm
        refine cond_f rfl (vb rfl c18) ?_
        refine wp_skip ?_
        refine blk_n (then_n ?_)
        refine wp_rs rfl ?_
        refine RQ.y rfl (Y.binI s8_1 rfl (binI_add (m := i2) (by omega))) ?_
        refine RQ.y rfl (Y.move (v := .int .i64 (i2 + 1)) rfl) ?_
        refine RQ.nil ?_
        exact (then_n ⟨g, _, Nat.lt_succ_self _, rfl, ⟨(i2 + 1), s0_1, s1_1, s7_1, rfl, (by omega), T, (by rw [← hrec1]; exact hm)⟩⟩)
      · replace hm := cT c18 hm
        refine cond_t rfl (vb rfl c18) ?_
        refine wp_seq ?_
        refine wp_rs rfl ?_
        refine RQ.y rfl (Y.move (v := .int .i64 i2) rfl) ?_
        refine RQ.y rfl (Y.assign (v := .int .i64 i2) rfl) ?_
        refine RQ.nil ?_
        refine then_n ?_
        refine wp_ret ?_
        obtain rfl := Option.some.inj hm
        exact (blk_r (then_r (then_r (hit_r (blk_r (then_r (ret1 rfl rfl rfl ⟨rfl, T⟩)))))))
def m_slices_ContainsFunc_int64_int64 (d0 : List Int) (d1 : Int → Option Bool) : Option Bool :=
  ((m_slices_IndexFunc_int64_int64 d0 d1).bind fun y1 => some (decide (y1 ≥ 0)))
set_option maxHeartbeats 2000000 in
theorem c_m_slices_ContainsFunc_int64_int64 (d0 : List Int) (d1 : Int → Option Bool) (r : Bool) (hm : m_slices_ContainsFunc_int64_int64 d0 d1 = some r) (v0 : Value) (gf1 : FuncId) (caps1 : Array Value) (w : World) (hv0 : Sl intRd 1 w v0 d0) (hgo1 : isGo Try.prog gf1 = true) (hf1 : ∀ (x0 : Int) (b : Bool), d1 x0 = some b → ∀ w1, Below w.heap.size w w1 → Calls Try.prog gf1 (#[.int .i64 x0] ++ caps1) w1 fun e w2 => e = .returned (.bool b) ∧ Below w1.heap.size w1 w2) :
    Calls Try.prog 186 #[v0, .func (.func gf1) #[] caps1] w fun e w' => e = .returned (.bool r) ∧ Below w.heap.size w w' := by
  obtain ⟨Aa0, na0, ca0, rfl, ha0, ra0⟩ := hv0
  have ea0 := ha0.len; subst ea0
  have qa0 := len_le ra0
  have T := Below.refl w.heap.size w
  unfold m_slices_ContainsFunc_int64_int64 at hm
  refine enter 9 Try.func186 rfl rfl rfl ?_
  intro f hf
  have s0 : f 0 = .slice Aa0 d0.length ca0 := hf 0 _ rfl
  have s1 : f 1 = .func (.func gf1) #[] caps1 := hf 1 _ rfl
  refine wp_seq ?_
  refine wp_rs rfl ?_
  refine RQ.y rfl (Y.assign (v := .bool false) rfl) ?_
  refine RQ.nil ?_
  refine then_n ?_
  refine wp_seq ?_
  refine wp_rb rfl ?_
  refine RQ.y rfl (Y.move (v := .slice Aa0 d0.length ca0) s0) ?_
  refine RQ.y rfl (Y.move (v := .func (.func gf1) #[] caps1) s1) ?_
  obtain ⟨y1, e2, hm⟩ := bnd hm
  refine RQ.call rfl (am2 rfl rfl) (by kernel_rfl) (v := .int .i64 y1) (bel (K := fun _ => True) fun w' hb' => (c_m_slices_IndexFunc_int64_int64 d0 d1 _ e2 _ _ _ w' (slArg intRd_ok ha0 ra0 (Tt T hb')) hgo1 (fun x0 b hx w1 hb1 => hf1 x0 b hx w1 (Tt (Tt T hb') hb1)))) ?_
  refine RQ.y rfl (Y.binI (v := .bool (decide (y1 ≥ 0))) rfl rfl rfl) ?_
  refine RQ.y rfl (Y.assign (v := .bool (decide (y1 ≥ 0))) rfl) ?_
  refine RQ.nil ?_
  intro w3 hb4
  have szw3 := hb4.size
  have T := Tt T hb4
  refine then_n ?_
  refine wp_ret ?_
  obtain rfl := Option.some.inj hm
  exact (ret1 rfl rfl rfl ⟨rfl, T⟩)
def m_impl_ValidNet_1 (d0 : DPort) (d1 : DNet) : Option Bool :=
  ((m_impl_Net_peer d1 d0).bind fun y6 => (bif (y6.agent == d0.agent && y6.slot == d0.slot) then some true else ((m_impl_hasPort d1.agents y6).bind fun y18 => (bif y18 then ((m_impl_Net_peer d1 y6).bind fun y23 => some (!(y23.agent == d0.agent && y23.slot == d0.slot))) else some true))))
set_option maxHeartbeats 2000000 in
theorem c_m_impl_ValidNet_1 (d0 : DPort) (d1 : DNet) (r : Bool) (hm : m_impl_ValidNet_1 d0 d1 = some r) (v1 : Value) (w : World) (hv1 : Pt netRd w v1 d1) :
    Calls Try.prog 118 #[.agg #[.int .i64 d0.agent, .int .i64 d0.slot], v1] w fun e w' => e = .returned (.bool r) ∧ Below w.heap.size w w' := by
  obtain ⟨ba1, oa1, csa1, rfl, hba1, hRa1, hca1⟩ := hv1
  have hSa1 := hRa1
  obtain ⟨A1, n1, c1, rfl, ⟨h1, r1⟩⟩ := hRa1
  have e1 := h1.len; subst e1
  have q1 := len_le r1
  have T := Below.refl w.heap.size w
  unfold m_impl_ValidNet_1 at hm
  refine enter 23 Try.func118 rfl rfl rfl ?_
  intro f hf
  have s0 : f 0 = .agg #[.int .i64 d0.agent, .int .i64 d0.slot] := hf 0 _ rfl
  have s1 : f 1 = .pointer (some ⟨ba1, oa1, none⟩) := hf 1 _ rfl
  refine wp_seq ?_
  refine wp_rl rfl ?_
  refine RL.box rfl s0 (fun w2 B3 hb4 szw2 => ?_)
  replace B3 : Blk w2 w.heap.size 53 #[.int .i64 d0.agent, .int .i64 d0.slot] := B3
  have GB3 : w.heap.size ≤ w.heap.size := T.size
  have T := Tt T hb4
  refine RL.y rfl (Y.assign (v := .bool false) rfl) ?_
  refine RL.nil ?_
  refine then_n ?_
  refine wp_seq ?_
  refine wp_rl rfl ?_
  refine RL.y rfl (Y.loadN (cs := [.int .i64 d0.agent, .int .i64 d0.slot]) rfl (by kernel_rfl) (cells2 (eqC (blkCell B3 (i := 0) rfl)) (eqC (blkCell B3 (i := 1) rfl)))) ?_
  obtain ⟨y6, e7, hm⟩ := bnd hm
  refine RL.call rfl (am2 s1 rfl) (by kernel_rfl) ((c_m_impl_Net_peer d1 d0 _ e7 _ _ (ptArg netRd_ok hba1 hSa1 hca1 T)).mono ?_)
  rintro _ w8 ⟨rfl, hb9⟩
  refine ⟨_, rfl, ?_⟩
  have szw8 := hb9.size
  have B3 := blkT B3 hb9
  have T := Tt T hb9
  refine RL.alloc (z := .agg #[.int .i64 0, .int .i64 0]) rfl (by kernel_rfl) (fun w10 B11 hb12 szw10 => ?_)
  replace B11 : Blk w10 w8.heap.size 53 #[.int .i64 0, .int .i64 0] := B11
  have GB11 : w.heap.size ≤ w8.heap.size := T.size
  have Eob13_ob5 := Nat.ne_of_lt B3.lt
  have B3 := blkT B3 hb12
  have T := Tt T hb12
  refine RL.store (v := .agg #[.int .i64 y6.agent, .int .i64 y6.slot]) (cs' := #[.int .i64 y6.agent, .int .i64 y6.slot]) rfl rfl rfl B11 (by kernel_rfl) (by rfl) (by rfl) (by rfl) (fun w14 B15 ho16 => ?_)
  have szw14 := ho16.size
  have B3 := B3.only_ ho16 (by intro hin; simp at hin; exact Eob13_ob5 hin)
  have T := T.trans (ho16.below (by simp; omega))
  refine RL.nil ?_
  refine then_n ?_
  refine wp_seq ?_
  refine wp_rbd (by kernel_rfl) (by kernel_rfl) ?_
  refine RQ.y rfl (Y.loadN (cs := [.int .i64 y6.agent, .int .i64 y6.slot]) rfl (by kernel_rfl) (cells2 (beC (blkCell B15 (i := 0) rfl)) (beC (blkCell B15 (i := 1) rfl)))) ?_
  refine RQ.y rfl (Y.loadN (cs := [.int .i64 d0.agent, .int .i64 d0.slot]) rfl (by kernel_rfl) (cells2 (beC (blkCell B3 (i := 0) rfl)) (beC (blkCell B3 (i := 1) rfl)))) ?_
  refine RQ.y rfl (Y.eqS (b := (y6.agent == d0.agent && y6.slot == d0.slot)) rfl rfl (eqPort_run _ _ _ _) (eqGuardPort_run _ _ _ _ _)) ?_
  refine RQ.y rfl (Y.move (v := .bool (y6.agent == d0.agent && y6.slot == d0.slot)) rfl) ?_
  rcases bcases (y6.agent == d0.agent && y6.slot == d0.slot) with c17 | c17
  · replace hm := cF c17 hm
    refine RQ.y (wantT (dj := 10) rfl (vb rfl c17)) (Y.fieldAddr (off := 0) s1 (by kernel_rfl)) ?_
    refine RQ.y (wantT (dj := 10) rfl (vb rfl c17)) (Y.load (v := .slice A1 d1.agents.length c1) rfl (by kernel_rfl) (beC (cellT T (hca1 0 _ rfl)))) ?_
    refine RQ.y (wantT (dj := 10) rfl (vb rfl c17)) (Y.loadN (cs := [.int .i64 y6.agent, .int .i64 y6.slot]) rfl (by kernel_rfl) (cells2 (beC (blkCell B15 (i := 0) rfl)) (beC (blkCell B15 (i := 1) rfl)))) ?_
    obtain ⟨y18, e19, hm⟩ := bnd hm
    refine RQ.call (wantT (dj := 10) rfl (vb rfl c17)) (am2 rfl rfl) (by kernel_rfl) (v := .bool y18) (bel (K := fun _ => True) fun w' hb' => (c_m_impl_hasPort d1.agents y6 _ e19 _ w' (slArg agentRd_ok h1 r1 (Tt T hb')))) ?_
    refine RQ.y (wantT (dj := 10) rfl (vb rfl c17)) (Y.not (b' := (!y18)) rfl rfl) ?_
    refine RQ.y rfl (Y.pick (b := false) (v := .bool (!y18)) (vb rfl c17) rfl) ?_
    refine RQ.y rfl (Y.move (v := .bool (!y18)) rfl) ?_
    rcases bcases y18 with c20 | c20
    · replace hm := cF c20 hm
      refine RQ.skip (wantN (dj := 17) rfl (vbn rfl c20 rfl) rfl) ?_
      refine RQ.skip (wantN (dj := 17) rfl (vbn rfl c20 rfl) rfl) ?_
      refine RQ.skip (wantN (dj := 17) rfl (vbn rfl c20 rfl) rfl) ?_
      refine RQ.skip (wantN (dj := 17) rfl (vbn rfl c20 rfl) rfl) ?_
      refine RQ.y rfl (Y.pick (b := true) (v := .bool true) (vbn rfl c20 rfl) rfl) ?_
      refine RQ.y rfl (Y.assign (v := .bool true) rfl) ?_
      refine RQ.nil ?_
      intro w21 hb22
      have szw21 := hb22.size
      have T := Tt T hb22
      refine then_n ?_
      refine wp_ret ?_
      obtain rfl := Option.some.inj hm
      exact (ret1 rfl rfl rfl ⟨rfl, T⟩)
    · replace hm := cT c20 hm
      refine RQ.y (wantT (dj := 17) rfl (vbn rfl c20 rfl)) (Y.loadN (cs := [.int .i64 y6.agent, .int .i64 y6.slot]) rfl (by kernel_rfl) (cells2 (beC (blkCell B15 (i := 0) rfl)) (beC (blkCell B15 (i := 1) rfl)))) ?_
      obtain ⟨y23, e24, hm⟩ := bnd hm
      refine RQ.call (wantT (dj := 17) rfl (vbn rfl c20 rfl)) (am2 s1 rfl) (by kernel_rfl) (v := .agg #[.int .i64 y23.agent, .int .i64 y23.slot]) (bel (K := fun _ => True) fun w' hb' => (c_m_impl_Net_peer d1 y6 _ e24 _ w' (ptArg netRd_ok hba1 hSa1 hca1 (Tt T hb')))) ?_
      refine RQ.y (wantT (dj := 17) rfl (vbn rfl c20 rfl)) (Y.loadN (cs := [.int .i64 d0.agent, .int .i64 d0.slot]) rfl (by kernel_rfl) (cells2 (beC (blkCell B3 (i := 0) rfl)) (beC (blkCell B3 (i := 1) rfl)))) ?_
      refine RQ.y (wantT (dj := 17) rfl (vbn rfl c20 rfl)) (Y.neS (b := (y23.agent == d0.agent && y23.slot == d0.slot)) rfl rfl (eqPort_run _ _ _ _) (eqGuardPort_run _ _ _ _ _)) ?_
      refine RQ.y rfl (Y.pick (b := false) (v := .bool (!(y23.agent == d0.agent && y23.slot == d0.slot))) (vbn rfl c20 rfl) rfl) ?_
      refine RQ.y rfl (Y.assign (v := .bool (!(y23.agent == d0.agent && y23.slot == d0.slot))) rfl) ?_
      refine RQ.nil ?_
      intro w25 hb26
      have szw25 := hb26.size
      have T := Tt T hb26
      refine then_n ?_
      refine wp_ret ?_
      obtain rfl := Option.some.inj hm
      exact (ret1 rfl rfl rfl ⟨rfl, T⟩)
  · replace hm := cT c17 hm
    refine RQ.skip (wantN (dj := 10) rfl (vb rfl c17) rfl) ?_
    refine RQ.skip (wantN (dj := 10) rfl (vb rfl c17) rfl) ?_
    refine RQ.skip (wantN (dj := 10) rfl (vb rfl c17) rfl) ?_
    refine RQ.skip (wantN (dj := 10) rfl (vb rfl c17) rfl) ?_
    refine RQ.skip (wantN (dj := 10) rfl (vb rfl c17) rfl) ?_
    refine RQ.y rfl (Y.pick (b := true) (v := .bool true) (vb rfl c17) rfl) ?_
    refine RQ.y rfl (Y.move (v := .bool true) rfl) ?_
    refine RQ.skip (wantN (dj := 17) rfl rfl rfl) ?_
    refine RQ.skip (wantN (dj := 17) rfl rfl rfl) ?_
    refine RQ.skip (wantN (dj := 17) rfl rfl rfl) ?_
    refine RQ.skip (wantN (dj := 17) rfl rfl rfl) ?_
    refine RQ.y rfl (Y.pick (b := true) (v := .bool true) rfl rfl) ?_
    refine RQ.y rfl (Y.assign (v := .bool true) rfl) ?_
    refine RQ.nil ?_
    intro w27 hb28
    have szw27 := hb28.size
    have T := Tt T hb28
    refine then_n ?_
    refine wp_ret ?_
    obtain rfl := Option.some.inj hm
    exact (ret1 rfl rfl rfl ⟨rfl, T⟩)
def m_impl_wellFormed (d0 : DAgent) : Option Bool :=
  (bif ((d0.ports.length : Int) == 0) then some false else ((m_impl_fieldsOf d0.kind (d0.ports.length : Int)).bind fun y8 => (bif ((portsOf d0.kind y8) != (d0.ports.length : Int)) then some false else (bif (allowed d0.kind d0.level) then ((m_slices_ContainsFunc_int64_int64 d0.data (fun x0 => m_impl_wellFormed_1 x0)).bind fun y16 => (bif (d0.kind == 6) then ((m_impl_isInt d0.value).bind fun y69 => (bif y69 then some ((d0.data.length : Int) == 0) else some false)) else (bif (d0.kind == 7) then ((m_impl_isOperator d0.value).bind fun y64 => (bif y64 then some ((d0.data.length : Int) == 0) else some false)) else (bif (d0.kind == 8) then ((m_impl_isOperator d0.value).bind fun y43 => (bif y43 then (bif ((d0.data.length : Int) == 1) then ((getI d0.data 0).bind fun x51 => ((m_impl_isInt x51).bind fun y60 => some y60)) else some false) else some false)) else (bif (d0.kind == 9) then (bif (decide (d0.value ≥ 0)) then (bif (decide (d0.value < 4)) then some ((d0.data.length : Int) == 0) else some false) else some false) else (bif (d0.kind == 10) then (bif (decide ((d0.data.length : Int) ≥ 1)) then (bif (decide ((d0.data.length : Int) ≤ 4)) then (bif (d0.value == 0) then some (!y16) else some false) else (bif (d0.value == 0) then some false else some false)) else (bif (d0.value == 0) then some false else some false)) else (bif (d0.kind == 11) then (bif ((d0.data.length : Int) == 2) then (bif (d0.value == 0) then some (!y16) else some false) else (bif (d0.value == 0) then some false else some false)) else (bif (d0.kind == 12) then ((m_impl_isDefIndex d0.value).bind fun y28 => (bif y28 then some ((d0.data.length : Int) == 0) else some false)) else (bif (d0.value == 0) then some ((d0.data.length : Int) == 0) else some false))))))))) else some false))))
set_option maxHeartbeats 2000000 in
theorem c_m_impl_wellFormed (d0 : DAgent) (r : Bool) (hm : m_impl_wellFormed d0 = some r) (v0 : Value) (w : World) (hv0 : St agentRd w v0 d0) :
    Calls Try.prog 166 #[v0] w fun e w' => e = .returned (.bool r) ∧ Below w.heap.size w w' := by
  obtain ⟨csa0, rfl, ⟨A1, n1, c1, A2, n2, c2, rfl, ⟨h1, r1⟩, ⟨h2, r2⟩⟩⟩ := hv0
  have e1 := h1.len; subst e1
  have q1 := len_le r1
  have e2 := h2.len; subst e2
  have q2 := len_le r2
  have T := Below.refl w.heap.size w
  unfold m_impl_wellFormed at hm
  refine enter 117 Try.func166 rfl rfl rfl ?_
  intro f hf
  have s0 : f 0 = .agg #[.int .i64 d0.kind, .int .i64 d0.level, .int .i64 d0.value, .slice A1 d0.data.length c1, .slice A2 d0.ports.length c2] := hf 0 _ rfl
  refine wp_seq ?_
  refine wp_rl rfl ?_
  refine RL.box rfl s0 (fun w3 B4 hb5 szw3 => ?_)
  replace B4 : Blk w3 w.heap.size 89 #[.int .i64 d0.kind, .int .i64 d0.level, .int .i64 d0.value, .slice A1 d0.data.length c1, .slice A2 d0.ports.length c2] := B4
  have GB4 : w.heap.size ≤ w.heap.size := T.size
  have T := Tt T hb5
  refine RL.y rfl (Y.assign (v := .bool false) rfl) ?_
  refine RL.nil ?_
  refine then_n ?_
  refine wp_seq ?_
  refine wp_seq ?_
  refine wp_rbd (by kernel_rfl) (by kernel_rfl) ?_
  refine RQ.y rfl (Y.fieldAddr (off := 4) rfl (by kernel_rfl)) ?_
  refine RQ.y rfl (Y.load (v := .slice A2 d0.ports.length c2) rfl (by kernel_rfl) (beC (blkCell B4 (i := 4) rfl))) ?_
  refine RQ.y rfl (Y.len (by kernel_rfl) rfl) ?_
  refine RQ.y rfl (Y.binI (v := .bool ((d0.ports.length : Int) == 0)) rfl rfl rfl) ?_
  refine RQ.y rfl (Y.move (v := .bool ((d0.ports.length : Int) == 0)) rfl) ?_
  rcases bcases ((d0.ports.length : Int) == 0) with c7 | c7
  · replace hm := cF c7 hm
    refine RQ.y (wantT (dj := 10) rfl (vb rfl c7)) (Y.fieldAddr (off := 0) rfl (by kernel_rfl)) ?_
    refine RQ.y (wantT (dj := 10) rfl (vb rfl c7)) (Y.load (v := .int .i64 d0.kind) rfl (by kernel_rfl) (beC (blkCell B4 (i := 0) rfl))) ?_
    refine RQ.y (wantT (dj := 10) rfl (vb rfl c7)) (Y.fieldAddr (off := 0) rfl (by kernel_rfl)) ?_
    refine RQ.y (wantT (dj := 10) rfl (vb rfl c7)) (Y.load (v := .int .i64 d0.kind) rfl (by kernel_rfl) (beC (blkCell B4 (i := 0) rfl))) ?_
    refine RQ.y (wantT (dj := 10) rfl (vb rfl c7)) (Y.fieldAddr (off := 4) rfl (by kernel_rfl)) ?_
    refine RQ.y (wantT (dj := 10) rfl (vb rfl c7)) (Y.load (v := .slice A2 d0.ports.length c2) rfl (by kernel_rfl) (beC (blkCell B4 (i := 4) rfl))) ?_
    refine RQ.y (wantT (dj := 10) rfl (vb rfl c7)) (Y.len (by kernel_rfl) rfl) ?_
    obtain ⟨y8, e9, hm⟩ := bnd hm
    refine RQ.call (wantT (dj := 10) rfl (vb rfl c7)) (am2 rfl rfl) (by kernel_rfl) (v := .int .i64 y8) (bel (K := fun _ => True) fun w' hb' => (c_m_impl_fieldsOf d0.kind (d0.ports.length : Int) _ e9  w' )) ?_
    refine RQ.call (wantT (dj := 10) rfl (vb rfl c7)) (am2 rfl rfl) (by kernel_rfl) (v := .int .i64 (portsOf d0.kind y8)) (bel (K := fun _ => True) fun w' hb' => (callB (impl_PortsOf d0.kind y8 w'))) ?_
    refine RQ.y (wantT (dj := 10) rfl (vb rfl c7)) (Y.fieldAddr (off := 4) rfl (by kernel_rfl)) ?_
    refine RQ.y (wantT (dj := 10) rfl (vb rfl c7)) (Y.load (v := .slice A2 d0.ports.length c2) rfl (by kernel_rfl) (beC (blkCell B4 (i := 4) rfl))) ?_
    refine RQ.y (wantT (dj := 10) rfl (vb rfl c7)) (Y.len (by kernel_rfl) rfl) ?_
    refine RQ.y (wantT (dj := 10) rfl (vb rfl c7)) (Y.binI (v := .bool ((portsOf d0.kind y8) != (d0.ports.length : Int))) rfl rfl rfl) ?_
    refine RQ.y rfl (Y.pick (b := false) (v := .bool ((portsOf d0.kind y8) != (d0.ports.length : Int))) (vb rfl c7) rfl) ?_
    refine RQ.y rfl (Y.move (v := .bool ((portsOf d0.kind y8) != (d0.ports.length : Int))) rfl) ?_
    rcases bcases ((portsOf d0.kind y8) != (d0.ports.length : Int)) with c10 | c10
    · replace hm := cF c10 hm
      refine RQ.y (wantT (dj := 25) rfl (vb rfl c10)) (Y.fieldAddr (off := 0) rfl (by kernel_rfl)) ?_
      refine RQ.y (wantT (dj := 25) rfl (vb rfl c10)) (Y.load (v := .int .i64 d0.kind) rfl (by kernel_rfl) (beC (blkCell B4 (i := 0) rfl))) ?_
      refine RQ.y (wantT (dj := 25) rfl (vb rfl c10)) (Y.fieldAddr (off := 1) rfl (by kernel_rfl)) ?_
      refine RQ.y (wantT (dj := 25) rfl (vb rfl c10)) (Y.load (v := .int .i64 d0.level) rfl (by kernel_rfl) (beC (blkCell B4 (i := 1) rfl))) ?_
      refine RQ.call (wantT (dj := 25) rfl (vb rfl c10)) (am2 rfl rfl) (by kernel_rfl) (v := .bool (allowed d0.kind d0.level)) (bel (K := fun _ => True) fun w' hb' => (callB (impl_isAllowed d0.kind d0.level w'))) ?_
      refine RQ.y (wantT (dj := 25) rfl (vb rfl c10)) (Y.not (b' := (!(allowed d0.kind d0.level))) rfl rfl) ?_
      refine RQ.y rfl (Y.pick (b := false) (v := .bool (!(allowed d0.kind d0.level))) (vb rfl c10) rfl) ?_
      refine RQ.nil ?_
      intro w11 hb12
      have szw11 := hb12.size
      have B4 := blkT B4 hb12
      have T := Tt T hb12
      refine then_n ?_
      rcases bcases (allowed d0.kind d0.level) with c13 | c13
      · replace hm := cF c13 hm
        refine cond_t rfl (vbn rfl c13 rfl) ?_
        refine wp_seq ?_
        refine wp_rs rfl ?_
        refine RQ.y rfl (Y.assign (v := .bool false) rfl) ?_
        refine RQ.nil ?_
        refine then_n ?_
        refine wp_ret ?_
        obtain rfl := Option.some.inj hm
        exact (then_r (ret1 rfl rfl rfl ⟨rfl, T⟩))
      · replace hm := cT c13 hm
        refine cond_f rfl (vbn rfl c13 rfl) ?_
        refine wp_skip ?_
        refine then_n ?_
        refine wp_seq ?_
        refine wp_rbd (by kernel_rfl) (by kernel_rfl) ?_
        refine RQ.y rfl (Y.fieldAddr (off := 2) rfl (by kernel_rfl)) ?_
        refine RQ.y rfl (Y.load (v := .int .i64 d0.value) rfl (by kernel_rfl) (beC (blkCell B4 (i := 2) rfl))) ?_
        refine RQ.y rfl (Y.binI (v := .bool (d0.value == 0)) rfl rfl rfl) ?_
        refine RQ.y rfl (Y.fieldAddr (off := 3) rfl (by kernel_rfl)) ?_
        refine RQ.y rfl (Y.load (v := .slice A1 d0.data.length c1) rfl (by kernel_rfl) (beC (blkCell B4 (i := 3) rfl))) ?_
        refine RQ.y rfl (Y.len (by kernel_rfl) rfl) ?_
        refine RQ.y rfl (Y.binI (v := .bool ((d0.data.length : Int) == 0)) rfl rfl rfl) ?_
        refine RQ.y rfl (Y.assign (v := .bool (d0.value == 0)) rfl) ?_
        refine RQ.y rfl (Y.assign (v := .bool ((d0.data.length : Int) == 0)) rfl) ?_
        refine RQ.nil ?_
        intro w14 hb15
        have szw14 := hb15.size
        have B4 := blkT B4 hb15
        have T := Tt T hb15
        refine then_n ?_
        refine wp_seq ?_
        refine wp_rb rfl ?_
        refine RQ.y rfl (Y.fieldAddr (off := 3) rfl (by kernel_rfl)) ?_
        refine RQ.y rfl (Y.load (v := .slice A1 d0.data.length c1) rfl (by kernel_rfl) (beC (blkCell B4 (i := 3) rfl))) ?_
        obtain ⟨y16, e17, hm⟩ := bnd hm
        refine RQ.call rfl (am2 rfl rfl) (by kernel_rfl) (v := .bool y16) (bel (K := fun _ => True) fun w' hb' => (c_m_slices_ContainsFunc_int64_int64 d0.data (fun x0 => m_impl_wellFormed_1 x0) _ e17 _ _ _ w' (slArg intRd_ok h1 r1 (Tt T hb')) (by kernel_rfl) (fun x0 b hx w1 hb1 => Calls.arr (by simp) (c_m_impl_wellFormed_1 x0 _ hx  w1 )))) ?_
        refine RQ.y rfl (Y.not (b' := (!y16)) rfl rfl) ?_
        refine RQ.y rfl (Y.assign (v := .bool (!y16)) rfl) ?_
        refine RQ.nil ?_
        intro w18 hb19
        have szw18 := hb19.size
        have B4 := blkT B4 hb19
        have T := Tt T hb19
        refine then_n ?_
        refine wp_seq ?_
        refine wp_seq ?_
        refine wp_rs rfl ?_
        refine RQ.y rfl (Y.fieldAddr (off := 0) rfl (by kernel_rfl)) ?_
        refine RQ.y rfl (Y.load (v := .int .i64 d0.kind) rfl (by kernel_rfl) (eqC (blkCell B4 (i := 0) rfl))) ?_
        refine RQ.nil ?_
        refine then_n ?_
        refine wp_block ?_
        refine wp_seq ?_
        refine wp_rs rfl ?_
        refine RQ.y rfl (Y.binI (v := .bool (d0.kind == 6)) rfl rfl rfl) ?_
        refine RQ.y rfl (Y.assign (v := .bool (d0.kind == 6)) rfl) ?_
        refine RQ.nil ?_
        refine then_n ?_
        rcases bcases (d0.kind == 6) with c20 | c20
        · replace hm := cF c20 hm
          refine cond_f rfl (vb rfl c20) ?_
          refine wp_seq ?_
          refine wp_rs rfl ?_
          refine RQ.y rfl (Y.binI (v := .bool (d0.kind == 7)) rfl rfl rfl) ?_
          refine RQ.y rfl (Y.assign (v := .bool (d0.kind == 7)) rfl) ?_
          refine RQ.nil ?_
          refine then_n ?_
          rcases bcases (d0.kind == 7) with c21 | c21
          · replace hm := cF c21 hm
            refine cond_f rfl (vb rfl c21) ?_
            refine wp_seq ?_
            refine wp_rs rfl ?_
            refine RQ.y rfl (Y.binI (v := .bool (d0.kind == 8)) rfl rfl rfl) ?_
            refine RQ.y rfl (Y.assign (v := .bool (d0.kind == 8)) rfl) ?_
            refine RQ.nil ?_
            refine then_n ?_
            rcases bcases (d0.kind == 8) with c22 | c22
            · replace hm := cF c22 hm
              refine cond_f rfl (vb rfl c22) ?_
              refine wp_seq ?_
              refine wp_rs rfl ?_
              refine RQ.y rfl (Y.binI (v := .bool (d0.kind == 9)) rfl rfl rfl) ?_
              refine RQ.y rfl (Y.assign (v := .bool (d0.kind == 9)) rfl) ?_
              refine RQ.nil ?_
              refine then_n ?_
              rcases bcases (d0.kind == 9) with c23 | c23
              · replace hm := cF c23 hm
                refine cond_f rfl (vb rfl c23) ?_
                refine wp_seq ?_
                refine wp_rs rfl ?_
                refine RQ.y rfl (Y.binI (v := .bool (d0.kind == 10)) rfl rfl rfl) ?_
                refine RQ.y rfl (Y.assign (v := .bool (d0.kind == 10)) rfl) ?_
                refine RQ.nil ?_
                refine then_n ?_
                rcases bcases (d0.kind == 10) with c24 | c24
                · replace hm := cF c24 hm
                  refine cond_f rfl (vb rfl c24) ?_
                  refine wp_seq ?_
                  refine wp_rs rfl ?_
                  refine RQ.y rfl (Y.binI (v := .bool (d0.kind == 11)) rfl rfl rfl) ?_
                  refine RQ.y rfl (Y.assign (v := .bool (d0.kind == 11)) rfl) ?_
                  refine RQ.nil ?_
                  refine then_n ?_
                  rcases bcases (d0.kind == 11) with c25 | c25
                  · replace hm := cF c25 hm
                    refine cond_f rfl (vb rfl c25) ?_
                    refine wp_seq ?_
                    refine wp_rs rfl ?_
                    refine RQ.y rfl (Y.binI (v := .bool (d0.kind == 12)) rfl rfl rfl) ?_
                    refine RQ.y rfl (Y.assign (v := .bool (d0.kind == 12)) rfl) ?_
                    refine RQ.nil ?_
                    refine then_n ?_
                    rcases bcases (d0.kind == 12) with c26 | c26
                    · replace hm := cF c26 hm
                      refine cond_f rfl (vb rfl c26) ?_
                      refine wp_skip ?_
                      refine blk_n (then_n ?_)
                      refine wp_seq ?_
                      refine wp_rs rfl ?_
                      refine RQ.y rfl (Y.move (v := .bool (d0.value == 0)) rfl) ?_
                      refine RQ.y rfl (Y.move (v := .bool (d0.value == 0)) rfl) ?_
                      rcases bcases (d0.value == 0) with c27 | c27
                      · replace hm := cF c27 hm
                        refine RQ.skip (wantN (dj := 114) rfl (vb rfl c27) rfl) ?_
                        refine RQ.y rfl (Y.pick (b := false) (v := .bool false) (vb rfl c27) rfl) ?_
                        refine RQ.y rfl (Y.assign (v := .bool false) rfl) ?_
                        refine RQ.nil ?_
                        refine then_n ?_
                        refine wp_ret ?_
                        obtain rfl := Option.some.inj hm
                        exact (ret1 rfl rfl rfl ⟨rfl, T⟩)
                      · replace hm := cT c27 hm
                        refine RQ.y (wantT (dj := 114) rfl (vb rfl c27)) (Y.move (v := .bool ((d0.data.length : Int) == 0)) rfl) ?_
                        refine RQ.y rfl (Y.pick (b := true) (v := .bool ((d0.data.length : Int) == 0)) (vb rfl c27) rfl) ?_
                        refine RQ.y rfl (Y.assign (v := .bool ((d0.data.length : Int) == 0)) rfl) ?_
                        refine RQ.nil ?_
                        refine then_n ?_
                        refine wp_ret ?_
                        obtain rfl := Option.some.inj hm
                        exact (ret1 rfl rfl rfl ⟨rfl, T⟩)
                    · replace hm := cT c26 hm
                      refine cond_t rfl (vb rfl c26) ?_
                      refine wp_rb rfl ?_
                      refine RQ.y rfl (Y.fieldAddr (off := 2) rfl (by kernel_rfl)) ?_
                      refine RQ.y rfl (Y.load (v := .int .i64 d0.value) rfl (by kernel_rfl) (beC (blkCell B4 (i := 2) rfl))) ?_
                      obtain ⟨y28, e29, hm⟩ := bnd hm
                      refine RQ.call rfl (am1 rfl) (by kernel_rfl) (v := .bool y28) (bel (K := fun _ => True) fun w' hb' => (c_m_impl_isDefIndex d0.value _ e29  w' )) ?_
                      refine RQ.y rfl (Y.assign (v := .bool y28) rfl) ?_
                      refine RQ.nil ?_
                      intro w30 hb31
                      have szw30 := hb31.size
                      have T := Tt T hb31
                      refine blk_n (then_n ?_)
                      refine wp_seq ?_
                      refine wp_rs rfl ?_
                      refine RQ.y rfl (Y.move (v := .bool y28) rfl) ?_
                      refine RQ.y rfl (Y.move (v := .bool y28) rfl) ?_
                      rcases bcases y28 with c32 | c32
                      · replace hm := cF c32 hm
                        refine RQ.skip (wantN (dj := 114) rfl (vb rfl c32) rfl) ?_
                        refine RQ.y rfl (Y.pick (b := false) (v := .bool false) (vb rfl c32) rfl) ?_
                        refine RQ.y rfl (Y.assign (v := .bool false) rfl) ?_
                        refine RQ.nil ?_
                        refine then_n ?_
                        refine wp_ret ?_
                        obtain rfl := Option.some.inj hm
                        exact (ret1 rfl rfl rfl ⟨rfl, T⟩)
                      · replace hm := cT c32 hm
                        refine RQ.y (wantT (dj := 114) rfl (vb rfl c32)) (Y.move (v := .bool ((d0.data.length : Int) == 0)) rfl) ?_
                        refine RQ.y rfl (Y.pick (b := true) (v := .bool ((d0.data.length : Int) == 0)) (vb rfl c32) rfl) ?_
                        refine RQ.y rfl (Y.assign (v := .bool ((d0.data.length : Int) == 0)) rfl) ?_
                        refine RQ.nil ?_
                        refine then_n ?_
                        refine wp_ret ?_
                        obtain rfl := Option.some.inj hm
                        exact (ret1 rfl rfl rfl ⟨rfl, T⟩)
                  · replace hm := cT c25 hm
                    refine cond_t rfl (vb rfl c25) ?_
                    refine wp_rs rfl ?_
                    refine RQ.y rfl (Y.fieldAddr (off := 3) rfl (by kernel_rfl)) ?_
                    refine RQ.y rfl (Y.load (v := .slice A1 d0.data.length c1) rfl (by kernel_rfl) (eqC (blkCell B4 (i := 3) rfl))) ?_
                    refine RQ.y rfl (Y.len (by kernel_rfl) rfl) ?_
                    refine RQ.y rfl (Y.binI (v := .bool ((d0.data.length : Int) == 2)) rfl rfl rfl) ?_
                    refine RQ.y rfl (Y.move (v := .bool ((d0.data.length : Int) == 2)) rfl) ?_
                    rcases bcases ((d0.data.length : Int) == 2) with c33 | c33
                    · replace hm := cF c33 hm
                      refine RQ.skip (wantN (dj := 105) rfl (vb rfl c33) rfl) ?_
                      refine RQ.y rfl (Y.pick (b := false) (v := .bool false) (vb rfl c33) rfl) ?_
                      refine RQ.y rfl (Y.assign (v := .bool false) rfl) ?_
                      refine RQ.nil ?_
                      refine blk_n (then_n ?_)
                      refine wp_seq ?_
                      refine wp_rs rfl ?_
                      refine RQ.y rfl (Y.move (v := .bool (d0.value == 0)) rfl) ?_
                      refine RQ.y rfl (Y.move (v := .bool (d0.value == 0)) rfl) ?_
                      rcases bcases (d0.value == 0) with c34 | c34
                      · replace hm := cF c34 hm
                        refine RQ.skip (wantN (dj := 114) rfl (vb rfl c34) rfl) ?_
                        refine RQ.y rfl (Y.pick (b := false) (v := .bool false) (vb rfl c34) rfl) ?_
                        refine RQ.y rfl (Y.assign (v := .bool false) rfl) ?_
                        refine RQ.nil ?_
                        refine then_n ?_
                        refine wp_ret ?_
                        obtain rfl := Option.some.inj hm
                        exact (ret1 rfl rfl rfl ⟨rfl, T⟩)
                      · replace hm := cT c34 hm
                        refine RQ.y (wantT (dj := 114) rfl (vb rfl c34)) (Y.move (v := .bool false) rfl) ?_
                        refine RQ.y rfl (Y.pick (b := true) (v := .bool false) (vb rfl c34) rfl) ?_
                        refine RQ.y rfl (Y.assign (v := .bool false) rfl) ?_
                        refine RQ.nil ?_
                        refine then_n ?_
                        refine wp_ret ?_
                        obtain rfl := Option.some.inj hm
                        exact (ret1 rfl rfl rfl ⟨rfl, T⟩)
                    · replace hm := cT c33 hm
                      refine RQ.y (wantT (dj := 105) rfl (vb rfl c33)) (Y.move (v := .bool (!y16)) rfl) ?_
                      refine RQ.y rfl (Y.pick (b := true) (v := .bool (!y16)) (vb rfl c33) rfl) ?_
                      refine RQ.y rfl (Y.assign (v := .bool (!y16)) rfl) ?_
                      refine RQ.nil ?_
                      refine blk_n (then_n ?_)
                      refine wp_seq ?_
                      refine wp_rs rfl ?_
                      refine RQ.y rfl (Y.move (v := .bool (d0.value == 0)) rfl) ?_
                      refine RQ.y rfl (Y.move (v := .bool (d0.value == 0)) rfl) ?_
                      rcases bcases (d0.value == 0) with c35 | c35
                      · replace hm := cF c35 hm
                        refine RQ.skip (wantN (dj := 114) rfl (vb rfl c35) rfl) ?_
                        refine RQ.y rfl (Y.pick (b := false) (v := .bool false) (vb rfl c35) rfl) ?_
                        refine RQ.y rfl (Y.assign (v := .bool false) rfl) ?_
                        refine RQ.nil ?_
                        refine then_n ?_
                        refine wp_ret ?_
                        obtain rfl := Option.some.inj hm
                        exact (ret1 rfl rfl rfl ⟨rfl, T⟩)
                      · replace hm := cT c35 hm
                        refine RQ.y (wantT (dj := 114) rfl (vb rfl c35)) (Y.move (v := .bool (!y16)) rfl) ?_
                        refine RQ.y rfl (Y.pick (b := true) (v := .bool (!y16)) (vb rfl c35) rfl) ?_
                        refine RQ.y rfl (Y.assign (v := .bool (!y16)) rfl) ?_
                        refine RQ.nil ?_
                        refine then_n ?_
                        refine wp_ret ?_
                        obtain rfl := Option.some.inj hm
                        exact (ret1 rfl rfl rfl ⟨rfl, T⟩)
                · replace hm := cT c24 hm
                  refine cond_t rfl (vb rfl c24) ?_
                  refine wp_rs rfl ?_
                  refine RQ.y rfl (Y.fieldAddr (off := 3) rfl (by kernel_rfl)) ?_
                  refine RQ.y rfl (Y.load (v := .slice A1 d0.data.length c1) rfl (by kernel_rfl) (eqC (blkCell B4 (i := 3) rfl))) ?_
                  refine RQ.y rfl (Y.len (by kernel_rfl) rfl) ?_
                  refine RQ.y rfl (Y.binI (v := .bool (decide ((d0.data.length : Int) ≥ 1))) rfl rfl rfl) ?_
                  refine RQ.y rfl (Y.move (v := .bool (decide ((d0.data.length : Int) ≥ 1))) rfl) ?_
                  rcases bcases (decide ((d0.data.length : Int) ≥ 1)) with c36 | c36
                  · replace hm := cF c36 hm
                    have pc36 := of_decide_eq_false c36
                    refine RQ.skip (wantN (dj := 90) rfl (vb rfl c36) rfl) ?_
                    refine RQ.skip (wantN (dj := 90) rfl (vb rfl c36) rfl) ?_
                    refine RQ.skip (wantN (dj := 90) rfl (vb rfl c36) rfl) ?_
                    refine RQ.skip (wantN (dj := 90) rfl (vb rfl c36) rfl) ?_
                    refine RQ.y rfl (Y.pick (b := false) (v := .bool false) (vb rfl c36) rfl) ?_
                    refine RQ.y rfl (Y.move (v := .bool false) rfl) ?_
                    refine RQ.skip (wantN (dj := 96) rfl rfl rfl) ?_
                    refine RQ.y rfl (Y.pick (b := false) (v := .bool false) rfl rfl) ?_
                    refine RQ.y rfl (Y.assign (v := .bool false) rfl) ?_
                    refine RQ.nil ?_
                    refine blk_n (then_n ?_)
                    refine wp_seq ?_
                    refine wp_rs rfl ?_
                    refine RQ.y rfl (Y.move (v := .bool (d0.value == 0)) rfl) ?_
                    refine RQ.y rfl (Y.move (v := .bool (d0.value == 0)) rfl) ?_
                    rcases bcases (d0.value == 0) with c37 | c37
                    · replace hm := cF c37 hm
                      refine RQ.skip (wantN (dj := 114) rfl (vb rfl c37) rfl) ?_
                      refine RQ.y rfl (Y.pick (b := false) (v := .bool false) (vb rfl c37) rfl) ?_
                      refine RQ.y rfl (Y.assign (v := .bool false) rfl) ?_
                      refine RQ.nil ?_
                      refine then_n ?_
                      refine wp_ret ?_
                      obtain rfl := Option.some.inj hm
                      exact (ret1 rfl rfl rfl ⟨rfl, T⟩)
                    · replace hm := cT c37 hm
                      refine RQ.y (wantT (dj := 114) rfl (vb rfl c37)) (Y.move (v := .bool false) rfl) ?_
                      refine RQ.y rfl (Y.pick (b := true) (v := .bool false) (vb rfl c37) rfl) ?_
                      refine RQ.y rfl (Y.assign (v := .bool false) rfl) ?_
                      refine RQ.nil ?_
                      refine then_n ?_
                      refine wp_ret ?_
                      obtain rfl := Option.some.inj hm
                      exact (ret1 rfl rfl rfl ⟨rfl, T⟩)
                  · replace hm := cT c36 hm
                    have pc36 := of_decide_eq_true c36
                    refine RQ.y (wantT (dj := 90) rfl (vb rfl c36)) (Y.fieldAddr (off := 3) rfl (by kernel_rfl)) ?_
                    refine RQ.y (wantT (dj := 90) rfl (vb rfl c36)) (Y.load (v := .slice A1 d0.data.length c1) rfl (by kernel_rfl) (eqC (blkCell B4 (i := 3) rfl))) ?_
                    refine RQ.y (wantT (dj := 90) rfl (vb rfl c36)) (Y.len (by kernel_rfl) rfl) ?_
                    refine RQ.y (wantT (dj := 90) rfl (vb rfl c36)) (Y.binI (v := .bool (decide ((d0.data.length : Int) ≤ 4))) rfl rfl rfl) ?_
                    refine RQ.y rfl (Y.pick (b := true) (v := .bool (decide ((d0.data.length : Int) ≤ 4))) (vb rfl c36) rfl) ?_
                    refine RQ.y rfl (Y.move (v := .bool (decide ((d0.data.length : Int) ≤ 4))) rfl) ?_
                    rcases bcases (decide ((d0.data.length : Int) ≤ 4)) with c38 | c38
                    · replace hm := cF c38 hm
                      have pc38 := of_decide_eq_false c38
                      refine RQ.skip (wantN (dj := 96) rfl (vb rfl c38) rfl) ?_
                      refine RQ.y rfl (Y.pick (b := false) (v := .bool false) (vb rfl c38) rfl) ?_
                      refine RQ.y rfl (Y.assign (v := .bool false) rfl) ?_
                      refine RQ.nil ?_
                      refine blk_n (then_n ?_)
                      refine wp_seq ?_
                      refine wp_rs rfl ?_
                      refine RQ.y rfl (Y.move (v := .bool (d0.value == 0)) rfl) ?_
                      refine RQ.y rfl (Y.move (v := .bool (d0.value == 0)) rfl) ?_
                      rcases bcases (d0.value == 0) with c39 | c39
                      · replace hm := cF c39 hm
                        refine RQ.skip (wantN (dj := 114) rfl (vb rfl c39) rfl) ?_
                        refine RQ.y rfl (Y.pick (b := false) (v := .bool false) (vb rfl c39) rfl) ?_
                        refine RQ.y rfl (Y.assign (v := .bool false) rfl) ?_
                        refine RQ.nil ?_
                        refine then_n ?_
                        refine wp_ret ?_
                        obtain rfl := Option.some.inj hm
                        exact (ret1 rfl rfl rfl ⟨rfl, T⟩)
                      · replace hm := cT c39 hm
                        refine RQ.y (wantT (dj := 114) rfl (vb rfl c39)) (Y.move (v := .bool false) rfl) ?_
                        refine RQ.y rfl (Y.pick (b := true) (v := .bool false) (vb rfl c39) rfl) ?_
                        refine RQ.y rfl (Y.assign (v := .bool false) rfl) ?_
                        refine RQ.nil ?_
                        refine then_n ?_
                        refine wp_ret ?_
                        obtain rfl := Option.some.inj hm
                        exact (ret1 rfl rfl rfl ⟨rfl, T⟩)
                    · replace hm := cT c38 hm
                      have pc38 := of_decide_eq_true c38
                      refine RQ.y (wantT (dj := 96) rfl (vb rfl c38)) (Y.move (v := .bool (!y16)) rfl) ?_
                      refine RQ.y rfl (Y.pick (b := true) (v := .bool (!y16)) (vb rfl c38) rfl) ?_
                      refine RQ.y rfl (Y.assign (v := .bool (!y16)) rfl) ?_
                      refine RQ.nil ?_
                      refine blk_n (then_n ?_)
                      refine wp_seq ?_
                      refine wp_rs rfl ?_
                      refine RQ.y rfl (Y.move (v := .bool (d0.value == 0)) rfl) ?_
                      refine RQ.y rfl (Y.move (v := .bool (d0.value == 0)) rfl) ?_
                      rcases bcases (d0.value == 0) with c40 | c40
                      · replace hm := cF c40 hm
                        refine RQ.skip (wantN (dj := 114) rfl (vb rfl c40) rfl) ?_
                        refine RQ.y rfl (Y.pick (b := false) (v := .bool false) (vb rfl c40) rfl) ?_
                        refine RQ.y rfl (Y.assign (v := .bool false) rfl) ?_
                        refine RQ.nil ?_
                        refine then_n ?_
                        refine wp_ret ?_
                        obtain rfl := Option.some.inj hm
                        exact (ret1 rfl rfl rfl ⟨rfl, T⟩)
                      · replace hm := cT c40 hm
                        refine RQ.y (wantT (dj := 114) rfl (vb rfl c40)) (Y.move (v := .bool (!y16)) rfl) ?_
                        refine RQ.y rfl (Y.pick (b := true) (v := .bool (!y16)) (vb rfl c40) rfl) ?_
                        refine RQ.y rfl (Y.assign (v := .bool (!y16)) rfl) ?_
                        refine RQ.nil ?_
                        refine then_n ?_
                        refine wp_ret ?_
                        obtain rfl := Option.some.inj hm
                        exact (ret1 rfl rfl rfl ⟨rfl, T⟩)
              · replace hm := cT c23 hm
                refine cond_t rfl (vb rfl c23) ?_
                refine wp_rs rfl ?_
                refine RQ.y rfl (Y.fieldAddr (off := 2) rfl (by kernel_rfl)) ?_
                refine RQ.y rfl (Y.load (v := .int .i64 d0.value) rfl (by kernel_rfl) (eqC (blkCell B4 (i := 2) rfl))) ?_
                refine RQ.y rfl (Y.binI (v := .bool (decide (d0.value ≥ 0))) rfl rfl rfl) ?_
                refine RQ.y rfl (Y.move (v := .bool (decide (d0.value ≥ 0))) rfl) ?_
                rcases bcases (decide (d0.value ≥ 0)) with c41 | c41
                · replace hm := cF c41 hm
                  have pc41 := of_decide_eq_false c41
                  refine RQ.skip (wantN (dj := 79) rfl (vb rfl c41) rfl) ?_
                  refine RQ.skip (wantN (dj := 79) rfl (vb rfl c41) rfl) ?_
                  refine RQ.skip (wantN (dj := 79) rfl (vb rfl c41) rfl) ?_
                  refine RQ.y rfl (Y.pick (b := false) (v := .bool false) (vb rfl c41) rfl) ?_
                  refine RQ.y rfl (Y.assign (v := .bool false) rfl) ?_
                  refine RQ.nil ?_
                  refine blk_n (then_n ?_)
                  refine wp_seq ?_
                  refine wp_rs rfl ?_
                  refine RQ.y rfl (Y.move (v := .bool false) rfl) ?_
                  refine RQ.y rfl (Y.move (v := .bool false) rfl) ?_
                  refine RQ.skip (wantN (dj := 114) rfl rfl rfl) ?_
                  refine RQ.y rfl (Y.pick (b := false) (v := .bool false) rfl rfl) ?_
                  refine RQ.y rfl (Y.assign (v := .bool false) rfl) ?_
                  refine RQ.nil ?_
                  refine then_n ?_
                  refine wp_ret ?_
                  obtain rfl := Option.some.inj hm
                  exact (ret1 rfl rfl rfl ⟨rfl, T⟩)
                · replace hm := cT c41 hm
                  have pc41 := of_decide_eq_true c41
                  refine RQ.y (wantT (dj := 79) rfl (vb rfl c41)) (Y.fieldAddr (off := 2) rfl (by kernel_rfl)) ?_
                  refine RQ.y (wantT (dj := 79) rfl (vb rfl c41)) (Y.load (v := .int .i64 d0.value) rfl (by kernel_rfl) (eqC (blkCell B4 (i := 2) rfl))) ?_
                  refine RQ.y (wantT (dj := 79) rfl (vb rfl c41)) (Y.binI (v := .bool (decide (d0.value < 4))) rfl rfl rfl) ?_
                  refine RQ.y rfl (Y.pick (b := true) (v := .bool (decide (d0.value < 4))) (vb rfl c41) rfl) ?_
                  refine RQ.y rfl (Y.assign (v := .bool (decide (d0.value < 4))) rfl) ?_
                  refine RQ.nil ?_
                  refine blk_n (then_n ?_)
                  refine wp_seq ?_
                  refine wp_rs rfl ?_
                  refine RQ.y rfl (Y.move (v := .bool (decide (d0.value < 4))) rfl) ?_
                  refine RQ.y rfl (Y.move (v := .bool (decide (d0.value < 4))) rfl) ?_
                  rcases bcases (decide (d0.value < 4)) with c42 | c42
                  · replace hm := cF c42 hm
                    have pc42 := of_decide_eq_false c42
                    refine RQ.skip (wantN (dj := 114) rfl (vb rfl c42) rfl) ?_
                    refine RQ.y rfl (Y.pick (b := false) (v := .bool false) (vb rfl c42) rfl) ?_
                    refine RQ.y rfl (Y.assign (v := .bool false) rfl) ?_
                    refine RQ.nil ?_
                    refine then_n ?_
                    refine wp_ret ?_
                    obtain rfl := Option.some.inj hm
                    exact (ret1 rfl rfl rfl ⟨rfl, T⟩)
                  · replace hm := cT c42 hm
                    have pc42 := of_decide_eq_true c42
                    refine RQ.y (wantT (dj := 114) rfl (vb rfl c42)) (Y.move (v := .bool ((d0.data.length : Int) == 0)) rfl) ?_
                    refine RQ.y rfl (Y.pick (b := true) (v := .bool ((d0.data.length : Int) == 0)) (vb rfl c42) rfl) ?_
                    refine RQ.y rfl (Y.assign (v := .bool ((d0.data.length : Int) == 0)) rfl) ?_
                    refine RQ.nil ?_
                    refine then_n ?_
                    refine wp_ret ?_
                    obtain rfl := Option.some.inj hm
                    exact (ret1 rfl rfl rfl ⟨rfl, T⟩)
            · replace hm := cT c22 hm
              refine cond_t rfl (vb rfl c22) ?_
              refine wp_seq ?_
              refine wp_rb rfl ?_
              refine RQ.y rfl (Y.fieldAddr (off := 2) rfl (by kernel_rfl)) ?_
              refine RQ.y rfl (Y.load (v := .int .i64 d0.value) rfl (by kernel_rfl) (beC (blkCell B4 (i := 2) rfl))) ?_
              obtain ⟨y43, e44, hm⟩ := bnd hm
              refine RQ.call rfl (am1 rfl) (by kernel_rfl) (v := .bool y43) (bel (K := fun _ => True) fun w' hb' => (c_m_impl_isOperator d0.value _ e44  w' )) ?_
              refine RQ.y rfl (Y.move (v := .bool y43) rfl) ?_
              rcases bcases y43 with c45 | c45
              · replace hm := cF c45 hm
                refine RQ.skip (wantN (dj := 61) rfl (vb rfl c45) rfl) ?_
                refine RQ.skip (wantN (dj := 61) rfl (vb rfl c45) rfl) ?_
                refine RQ.skip (wantN (dj := 61) rfl (vb rfl c45) rfl) ?_
                refine RQ.skip (wantN (dj := 61) rfl (vb rfl c45) rfl) ?_
                refine RQ.y rfl (Y.pick (b := false) (v := .bool false) (vb rfl c45) rfl) ?_
                refine RQ.y rfl (Y.move (v := .bool false) rfl) ?_
                refine RQ.skip (wantN (dj := 67) rfl rfl rfl) ?_
                refine RQ.skip (wantN (dj := 67) rfl rfl rfl) ?_
                refine RQ.skip (wantN (dj := 67) rfl rfl rfl) ?_
                refine RQ.skip (wantN (dj := 67) rfl rfl rfl) ?_
                refine RQ.skip (wantN (dj := 67) rfl rfl rfl) ?_
                refine RQ.y rfl (Y.pick (b := false) (v := .bool false) rfl rfl) ?_
                refine RQ.y rfl (Y.assign (v := .bool false) rfl) ?_
                refine RQ.nil ?_
                intro w46 hb47
                have szw46 := hb47.size
                have T := Tt T hb47
                refine then_n ?_
                refine wp_ret ?_
                obtain rfl := Option.some.inj hm
                exact (blk_r (then_r (ret1 rfl rfl rfl ⟨rfl, T⟩)))
              · replace hm := cT c45 hm
                refine RQ.y (wantT (dj := 61) rfl (vb rfl c45)) (Y.fieldAddr (off := 3) rfl (by kernel_rfl)) ?_
                refine RQ.y (wantT (dj := 61) rfl (vb rfl c45)) (Y.load (v := .slice A1 d0.data.length c1) rfl (by kernel_rfl) (beC (blkCell B4 (i := 3) rfl))) ?_
                refine RQ.y (wantT (dj := 61) rfl (vb rfl c45)) (Y.len (by kernel_rfl) rfl) ?_
                refine RQ.y (wantT (dj := 61) rfl (vb rfl c45)) (Y.binI (v := .bool ((d0.data.length : Int) == 1)) rfl rfl rfl) ?_
                refine RQ.y rfl (Y.pick (b := true) (v := .bool ((d0.data.length : Int) == 1)) (vb rfl c45) rfl) ?_
                refine RQ.y rfl (Y.move (v := .bool ((d0.data.length : Int) == 1)) rfl) ?_
                rcases bcases ((d0.data.length : Int) == 1) with c48 | c48
                · replace hm := cF c48 hm
                  refine RQ.skip (wantN (dj := 67) rfl (vb rfl c48) rfl) ?_
                  refine RQ.skip (wantN (dj := 67) rfl (vb rfl c48) rfl) ?_
                  refine RQ.skip (wantN (dj := 67) rfl (vb rfl c48) rfl) ?_
                  refine RQ.skip (wantN (dj := 67) rfl (vb rfl c48) rfl) ?_
                  refine RQ.skip (wantN (dj := 67) rfl (vb rfl c48) rfl) ?_
                  refine RQ.y rfl (Y.pick (b := false) (v := .bool false) (vb rfl c48) rfl) ?_
                  refine RQ.y rfl (Y.assign (v := .bool false) rfl) ?_
                  refine RQ.nil ?_
                  intro w49 hb50
                  have szw49 := hb50.size
                  have T := Tt T hb50
                  refine then_n ?_
                  refine wp_ret ?_
                  obtain rfl := Option.some.inj hm
                  exact (blk_r (then_r (ret1 rfl rfl rfl ⟨rfl, T⟩)))
                · replace hm := cT c48 hm
                  refine RQ.y (wantT (dj := 67) rfl (vb rfl c48)) (Y.fieldAddr (off := 3) rfl (by kernel_rfl)) ?_
                  refine RQ.y (wantT (dj := 67) rfl (vb rfl c48)) (Y.load (v := .slice A1 d0.data.length c1) rfl (by kernel_rfl) (beC (blkCell B4 (i := 3) rfl))) ?_
                  obtain ⟨x51, hx54, hm⟩ := bnd hm
                  obtain ⟨k52, hk55, hl56, hx54⟩ := getI_some hx54
                  obtain ⟨b58, o59, rfl, hbb58⟩ := h1.addr (by omega)
                  obtain ⟨cs53, hRcs53, hc57⟩ := h1.el hx54
                  have hScs53 := hRcs53
                  obtain rfl := hRcs53
                  refine RQ.y (wantT (dj := 67) rfl (vb rfl c48)) (Y.indexAddr (m := k52) (sz := 1) rfl rfl hk55 hl56 (by kernel_rfl)) ?_
                  refine RQ.y (wantT (dj := 67) rfl (vb rfl c48)) (Y.load (v := .int .i64 x51) rfl (by kernel_rfl) (beC (cellT T (hc57 0 _ rfl)))) ?_
                  obtain ⟨y60, e61, hm⟩ := bnd hm
                  refine RQ.call (wantT (dj := 67) rfl (vb rfl c48)) (am1 rfl) (by kernel_rfl) (v := .bool y60) (bel (K := fun _ => True) fun w' hb' => (c_m_impl_isInt x51 _ e61  w' )) ?_
                  refine RQ.y rfl (Y.pick (b := true) (v := .bool y60) (vb rfl c48) rfl) ?_
                  refine RQ.y rfl (Y.assign (v := .bool y60) rfl) ?_
                  refine RQ.nil ?_
                  intro w62 hb63
                  have szw62 := hb63.size
                  have T := Tt T hb63
                  refine then_n ?_
                  refine wp_ret ?_
                  obtain rfl := Option.some.inj hm
                  exact (blk_r (then_r (ret1 rfl rfl rfl ⟨rfl, T⟩)))
          · replace hm := cT c21 hm
            refine cond_t rfl (vb rfl c21) ?_
            refine wp_rb rfl ?_
            refine RQ.y rfl (Y.fieldAddr (off := 2) rfl (by kernel_rfl)) ?_
            refine RQ.y rfl (Y.load (v := .int .i64 d0.value) rfl (by kernel_rfl) (beC (blkCell B4 (i := 2) rfl))) ?_
            obtain ⟨y64, e65, hm⟩ := bnd hm
            refine RQ.call rfl (am1 rfl) (by kernel_rfl) (v := .bool y64) (bel (K := fun _ => True) fun w' hb' => (c_m_impl_isOperator d0.value _ e65  w' )) ?_
            refine RQ.y rfl (Y.assign (v := .bool y64) rfl) ?_
            refine RQ.nil ?_
            intro w66 hb67
            have szw66 := hb67.size
            have T := Tt T hb67
            refine blk_n (then_n ?_)
            refine wp_seq ?_
            refine wp_rs rfl ?_
            refine RQ.y rfl (Y.move (v := .bool y64) rfl) ?_
            refine RQ.y rfl (Y.move (v := .bool y64) rfl) ?_
            rcases bcases y64 with c68 | c68
            · replace hm := cF c68 hm
              refine RQ.skip (wantN (dj := 114) rfl (vb rfl c68) rfl) ?_
              refine RQ.y rfl (Y.pick (b := false) (v := .bool false) (vb rfl c68) rfl) ?_
              refine RQ.y rfl (Y.assign (v := .bool false) rfl) ?_
              refine RQ.nil ?_
              refine then_n ?_
              refine wp_ret ?_
              obtain rfl := Option.some.inj hm
              exact (ret1 rfl rfl rfl ⟨rfl, T⟩)
            · replace hm := cT c68 hm
              refine RQ.y (wantT (dj := 114) rfl (vb rfl c68)) (Y.move (v := .bool ((d0.data.length : Int) == 0)) rfl) ?_
              refine RQ.y rfl (Y.pick (b := true) (v := .bool ((d0.data.length : Int) == 0)) (vb rfl c68) rfl) ?_
              refine RQ.y rfl (Y.assign (v := .bool ((d0.data.length : Int) == 0)) rfl) ?_
              refine RQ.nil ?_
              refine then_n ?_
              refine wp_ret ?_
              obtain rfl := Option.some.inj hm
              exact (ret1 rfl rfl rfl ⟨rfl, T⟩)
        · replace hm := cT c20 hm
          refine cond_t rfl (vb rfl c20) ?_
          refine wp_rb rfl ?_
          refine RQ.y rfl (Y.fieldAddr (off := 2) rfl (by kernel_rfl)) ?_
          refine RQ.y rfl (Y.load (v := .int .i64 d0.value) rfl (by kernel_rfl) (beC (blkCell B4 (i := 2) rfl))) ?_
          obtain ⟨y69, e70, hm⟩ := bnd hm
          refine RQ.call rfl (am1 rfl) (by kernel_rfl) (v := .bool y69) (bel (K := fun _ => True) fun w' hb' => (c_m_impl_isInt d0.value _ e70  w' )) ?_
          refine RQ.y rfl (Y.assign (v := .bool y69) rfl) ?_
          refine RQ.nil ?_
          intro w71 hb72
          have szw71 := hb72.size
          have T := Tt T hb72
          refine blk_n (then_n ?_)
          refine wp_seq ?_
          refine wp_rs rfl ?_
          refine RQ.y rfl (Y.move (v := .bool y69) rfl) ?_
          refine RQ.y rfl (Y.move (v := .bool y69) rfl) ?_
          rcases bcases y69 with c73 | c73
          · replace hm := cF c73 hm
            refine RQ.skip (wantN (dj := 114) rfl (vb rfl c73) rfl) ?_
            refine RQ.y rfl (Y.pick (b := false) (v := .bool false) (vb rfl c73) rfl) ?_
            refine RQ.y rfl (Y.assign (v := .bool false) rfl) ?_
            refine RQ.nil ?_
            refine then_n ?_
            refine wp_ret ?_
            obtain rfl := Option.some.inj hm
            exact (ret1 rfl rfl rfl ⟨rfl, T⟩)
          · replace hm := cT c73 hm
            refine RQ.y (wantT (dj := 114) rfl (vb rfl c73)) (Y.move (v := .bool ((d0.data.length : Int) == 0)) rfl) ?_
            refine RQ.y rfl (Y.pick (b := true) (v := .bool ((d0.data.length : Int) == 0)) (vb rfl c73) rfl) ?_
            refine RQ.y rfl (Y.assign (v := .bool ((d0.data.length : Int) == 0)) rfl) ?_
            refine RQ.nil ?_
            refine then_n ?_
            refine wp_ret ?_
            obtain rfl := Option.some.inj hm
            exact (ret1 rfl rfl rfl ⟨rfl, T⟩)
    · replace hm := cT c10 hm
      refine RQ.skip (wantN (dj := 25) rfl (vb rfl c10) rfl) ?_
      refine RQ.skip (wantN (dj := 25) rfl (vb rfl c10) rfl) ?_
      refine RQ.skip (wantN (dj := 25) rfl (vb rfl c10) rfl) ?_
      refine RQ.skip (wantN (dj := 25) rfl (vb rfl c10) rfl) ?_
      refine RQ.skip (wantN (dj := 25) rfl (vb rfl c10) rfl) ?_
      refine RQ.skip (wantN (dj := 25) rfl (vb rfl c10) rfl) ?_
      refine RQ.y rfl (Y.pick (b := true) (v := .bool true) (vb rfl c10) rfl) ?_
      refine RQ.nil ?_
      intro w74 hb75
      have szw74 := hb75.size
      have B4 := blkT B4 hb75
      have T := Tt T hb75
      refine then_n ?_
      refine cond_t rfl rfl ?_
      refine wp_seq ?_
      refine wp_rs rfl ?_
      refine RQ.y rfl (Y.assign (v := .bool false) rfl) ?_
      refine RQ.nil ?_
      refine then_n ?_
      refine wp_ret ?_
      obtain rfl := Option.some.inj hm
      exact (then_r (ret1 rfl rfl rfl ⟨rfl, T⟩))
  · replace hm := cT c7 hm
    refine RQ.skip (wantN (dj := 10) rfl (vb rfl c7) rfl) ?_
    refine RQ.skip (wantN (dj := 10) rfl (vb rfl c7) rfl) ?_
    refine RQ.skip (wantN (dj := 10) rfl (vb rfl c7) rfl) ?_
    refine RQ.skip (wantN (dj := 10) rfl (vb rfl c7) rfl) ?_
    refine RQ.skip (wantN (dj := 10) rfl (vb rfl c7) rfl) ?_
    refine RQ.skip (wantN (dj := 10) rfl (vb rfl c7) rfl) ?_
    refine RQ.skip (wantN (dj := 10) rfl (vb rfl c7) rfl) ?_
    refine RQ.skip (wantN (dj := 10) rfl (vb rfl c7) rfl) ?_
    refine RQ.skip (wantN (dj := 10) rfl (vb rfl c7) rfl) ?_
    refine RQ.skip (wantN (dj := 10) rfl (vb rfl c7) rfl) ?_
    refine RQ.skip (wantN (dj := 10) rfl (vb rfl c7) rfl) ?_
    refine RQ.skip (wantN (dj := 10) rfl (vb rfl c7) rfl) ?_
    refine RQ.skip (wantN (dj := 10) rfl (vb rfl c7) rfl) ?_
    refine RQ.y rfl (Y.pick (b := true) (v := .bool true) (vb rfl c7) rfl) ?_
    refine RQ.y rfl (Y.move (v := .bool true) rfl) ?_
    refine RQ.skip (wantN (dj := 25) rfl rfl rfl) ?_
    refine RQ.skip (wantN (dj := 25) rfl rfl rfl) ?_
    refine RQ.skip (wantN (dj := 25) rfl rfl rfl) ?_
    refine RQ.skip (wantN (dj := 25) rfl rfl rfl) ?_
    refine RQ.skip (wantN (dj := 25) rfl rfl rfl) ?_
    refine RQ.skip (wantN (dj := 25) rfl rfl rfl) ?_
    refine RQ.y rfl (Y.pick (b := true) (v := .bool true) rfl rfl) ?_
    refine RQ.nil ?_
    intro w76 hb77
    have szw76 := hb77.size
    have B4 := blkT B4 hb77
    have T := Tt T hb77
    refine then_n ?_
    refine cond_t rfl rfl ?_
    refine wp_seq ?_
    refine wp_rs rfl ?_
    refine RQ.y rfl (Y.assign (v := .bool false) rfl) ?_
    refine RQ.nil ?_
    refine then_n ?_
    refine wp_ret ?_
    obtain rfl := Option.some.inj hm
    exact (then_r (ret1 rfl rfl rfl ⟨rfl, T⟩))
def m_impl_areAgents_A1 : Option Bool :=
  some true
def m_impl_areAgents_B1 (d0 : List DAgent) (rec1 : Int → Option Bool) (K1 : Option Bool) (i4 : Int) : Option Bool :=
  (bif (decide (i4 < (d0.length : Int))) then ((getI d0 i4).bind fun x7 => ((m_impl_wellFormed x7).bind fun y25 => (bif y25 then (bif ((x7.kind == 1) != (i4 == 0)) then some false else (rec1 (i4 + 1))) else some false))) else (K1))
def m_impl_areAgents_L1 (d0 : List DAgent) (K1 : Option Bool) : Nat → Int → Option Bool
  | 0, _ => none
  | g + 1, i4 => m_impl_areAgents_B1 d0 (m_impl_areAgents_L1 d0 K1 g) K1 i4
def m_impl_areAgents (d0 : List DAgent) : Option Bool :=
  (bif (decide ((d0.length : Int) < 1)) then some false else (bif (decide ((d0.length : Int) > 600)) then some false else (m_impl_areAgents_L1 d0 m_impl_areAgents_A1 (d0.length + 1) 0)))
set_option maxHeartbeats 2000000 in
theorem c_m_impl_areAgents (d0 : List DAgent) (r : Bool) (hm : m_impl_areAgents d0 = some r) (v0 : Value) (w : World) (hv0 : Sl agentRd 5 w v0 d0) :
    Calls Try.prog 115 #[v0] w fun e w' => e = .returned (.bool r) ∧ Below w.heap.size w w' := by
  obtain ⟨Aa0, na0, ca0, rfl, ha0, ra0⟩ := hv0
  have ea0 := ha0.len; subst ea0
  have qa0 := len_le ra0
  have T := Below.refl w.heap.size w
  unfold m_impl_areAgents at hm
  refine enter 32 Try.func115 rfl rfl rfl ?_
  intro f hf
  have s0 : f 0 = .slice Aa0 d0.length ca0 := hf 0 _ rfl
  refine wp_seq ?_
  refine wp_rs rfl ?_
  refine RQ.y rfl (Y.assign (v := .bool false) rfl) ?_
  refine RQ.nil ?_
  refine then_n ?_
  refine wp_seq ?_
  refine wp_seq ?_
  refine wp_rs rfl ?_
  refine RQ.y rfl (Y.move (v := .slice Aa0 d0.length ca0) s0) ?_
  refine RQ.y rfl (Y.len (by kernel_rfl) rfl) ?_
  refine RQ.y rfl (Y.binI (v := .bool (decide ((d0.length : Int) < 1))) rfl rfl rfl) ?_
  refine RQ.y rfl (Y.move (v := .bool (decide ((d0.length : Int) < 1))) rfl) ?_
  rcases bcases (decide ((d0.length : Int) < 1)) with c1 | c1
  · replace hm := cF c1 hm
    have pc1 := of_decide_eq_false c1
    refine RQ.y (wantT (dj := 8) rfl (vb rfl c1)) (Y.move (v := .slice Aa0 d0.length ca0) s0) ?_
    refine RQ.y (wantT (dj := 8) rfl (vb rfl c1)) (Y.len (by kernel_rfl) rfl) ?_
    refine RQ.y (wantT (dj := 8) rfl (vb rfl c1)) (Y.binI (v := .bool (decide ((d0.length : Int) > 600))) rfl rfl rfl) ?_
    refine RQ.y rfl (Y.pick (b := false) (v := .bool (decide ((d0.length : Int) > 600))) (vb rfl c1) rfl) ?_
    refine RQ.nil ?_
    refine then_n ?_
    rcases bcases (decide ((d0.length : Int) > 600)) with c2 | c2
    · replace hm := cF c2 hm
      have pc2 := of_decide_eq_false c2
      refine cond_f rfl (vb rfl c2) ?_
      refine wp_skip ?_
      refine then_n ?_
      refine wp_seq ?_
      refine wp_seq ?_
      refine wp_rs rfl ?_
      refine RQ.y rfl (Y.move (v := .slice Aa0 d0.length ca0) s0) ?_
      refine RQ.y rfl (Y.len (by kernel_rfl) rfl) ?_
      refine RQ.y rfl (Y.move (v := .int .i64 0) rfl) ?_
      refine RQ.nil ?_
      refine then_n ?_
      refine wp_block ?_
      obtain ⟨K1, hK1, hm⟩ : ∃ K, K = m_impl_areAgents_A1 ∧ m_impl_areAgents_L1 d0 K (d0.length + 1) 0 = some r := ⟨_, rfl, hm⟩
      refine wp_loopX (fun g f w' => ∃ (i4 : Int), f 13 = .slice Aa0 d0.length ca0 ∧ f 14 = .int .i64 (d0.length : Int) ∧ f 15 = .int .i64 i4 ∧ 0 ≤ i4 ∧ Below w.heap.size w w' ∧ m_impl_areAgents_L1 d0 K1 g i4 = some r) 0 (fun f w' => Below w.heap.size w w' ∧ m_impl_areAgents_A1  = some r) (d0.length + 1) ⟨0, rfl, rfl, rfl, (by omega), T, hm⟩ ?_ ?_
      · rintro f w3 ⟨T, hm⟩
        unfold m_impl_areAgents_A1 at hm
        refine blk_hit (then_n ?_)
        refine wp_seq ?_
        refine wp_rs rfl ?_
        refine RQ.y rfl (Y.assign (v := .bool true) rfl) ?_
        refine RQ.nil ?_
        refine then_n ?_
        refine wp_ret ?_
        obtain rfl := Option.some.inj hm
        exact (ret1 rfl rfl rfl ⟨rfl, T⟩)
      · rintro g f w5 ⟨i4, s13_1, s14_1, s15_1, nn15_1, T, hm⟩
        rcases g with _ | g
        · simp only [m_impl_areAgents_L1] at hm; cases hm
        obtain ⟨rec1, hrec1, hm⟩ : ∃ z, z = m_impl_areAgents_L1 d0 K1 g ∧ m_impl_areAgents_B1 d0 z K1 i4 = some r := ⟨_, rfl, hm⟩
        unfold m_impl_areAgents_B1 at hm
        refine wp_seq ?_
        refine wp_rs rfl ?_
        refine RQ.y rfl (Y.binI (v := .bool (decide (i4 < (d0.length : Int)))) s15_1 s14_1 rfl) ?_
        refine RQ.nil ?_
        refine then_n ?_
        refine wp_seq ?_
        rcases bcases (decide (i4 < (d0.length : Int))) with c6 | c6
        · replace hm := cF c6 hm
          have pc6 := of_decide_eq_false c6
          refine cond_f rfl (vb rfl c6) ?_
          refine wp_exit ?_
          exact (then_x (then_x (hit_x ⟨_, rfl, ⟨T, (by rw [hK1] at hm; exact hm)⟩⟩)))
        · replace hm := cT c6 hm
          have pc6 := of_decide_eq_true c6
          refine cond_t rfl (vb rfl c6) ?_
          refine wp_skip ?_
          refine then_n ?_
          refine wp_seq ?_
          refine wp_block ?_
          refine wp_seq ?_
          refine wp_rl rfl ?_
          refine RL.y rfl (Y.move (v := .int .i64 i4) s15_1) ?_
          obtain ⟨x7, hx10, hm⟩ := bnd hm
          obtain ⟨k8, hk11, hl12, hx10⟩ := getI_some hx10
          obtain ⟨b14, o15, rfl, hbb14⟩ := ha0.addr (by omega)
          obtain ⟨cs9, hRcs9, hc13⟩ := ha0.el hx10
          have hScs9 := hRcs9
          obtain ⟨A16, n16, c16, A17, n17, c17, rfl, ⟨h16, r16⟩, ⟨h17, r17⟩⟩ := hRcs9
          have e16 := h16.len; subst e16
          have q16 := len_le r16
          have e17 := h17.len; subst e17
          have q17 := len_le r17
          refine RL.y rfl (Y.indexAddr (m := k8) (sz := 5) s13_1 s15_1 hk11 hl12 (by kernel_rfl)) ?_
          refine RL.y rfl (Y.loadN (cs := [.int .i64 x7.kind, .int .i64 x7.level, .int .i64 x7.value, .slice A16 x7.data.length c16, .slice A17 x7.ports.length c17]) rfl (by kernel_rfl) (cells5 (eqC (cellT T (hc13 0 _ rfl))) (eqC (cellT T (hc13 1 _ rfl))) (eqC (cellT T (hc13 2 _ rfl))) (eqC (cellT T (hc13 3 _ rfl))) (eqC (cellT T (hc13 4 _ rfl))))) ?_
          refine RL.alloc (z := .agg #[.int .i64 0, .int .i64 0, .int .i64 0, .slice none 0 0, .slice none 0 0]) rfl (by kernel_rfl) (fun w18 B19 hb20 szw18 => ?_)
          replace B19 : Blk w18 w5.heap.size 89 #[.int .i64 0, .int .i64 0, .int .i64 0, .slice none 0 0, .slice none 0 0] := B19
          have GB19 : w.heap.size ≤ w5.heap.size := T.size
          have T := Tt T hb20
          refine RL.y rfl (Y.assign (v := .int .i64 i4) rfl) ?_
          refine RL.store (v := .agg #[.int .i64 x7.kind, .int .i64 x7.level, .int .i64 x7.value, .slice A16 x7.data.length c16, .slice A17 x7.ports.length c17]) (cs' := #[.int .i64 x7.kind, .int .i64 x7.level, .int .i64 x7.value, .slice A16 x7.data.length c16, .slice A17 x7.ports.length c17]) rfl rfl rfl B19 (by kernel_rfl) (by rfl) (by rfl) (by rfl) (fun w22 B23 ho24 => ?_)
          have szw22 := ho24.size
          have T := T.trans (ho24.below (by simp; omega))
          refine RL.nil ?_
          refine then_n ?_
          refine wp_seq ?_
          refine wp_rb rfl ?_
          refine RQ.y rfl (Y.loadN (cs := [.int .i64 x7.kind, .int .i64 x7.level, .int .i64 x7.value, .slice A16 x7.data.length c16, .slice A17 x7.ports.length c17]) rfl (by kernel_rfl) (cells5 (beC (blkCell B23 (i := 0) rfl)) (beC (blkCell B23 (i := 1) rfl)) (beC (blkCell B23 (i := 2) rfl)) (beC (blkCell B23 (i := 3) rfl)) (beC (blkCell B23 (i := 4) rfl)))) ?_
          obtain ⟨y25, e26, hm⟩ := bnd hm
          refine RQ.call rfl (am1 rfl) (by kernel_rfl) (v := .bool y25) (bel (K := fun _ => True) fun w' hb' => (c_m_impl_wellFormed x7 _ e26 _ w' (stArg (R := agentRd) ⟨_, _, _, _, _, _, rfl, ⟨SlAt.now intRd_ok h16 (Nat.le_refl _) (Tt T hb'), r16⟩, ⟨SlAt.now portRd_ok h17 (Nat.le_refl _) (Tt T hb'), r17⟩⟩))) ?_
          refine RQ.y rfl (Y.not (b' := (!y25)) rfl rfl) ?_
          refine RQ.y rfl (Y.move (v := .bool (!y25)) rfl) ?_
          rcases bcases y25 with c27 | c27
          · replace hm := cF c27 hm
            refine RQ.skip (wantN (dj := 23) rfl (vbn rfl c27 rfl) rfl) ?_
            refine RQ.skip (wantN (dj := 23) rfl (vbn rfl c27 rfl) rfl) ?_
            refine RQ.skip (wantN (dj := 23) rfl (vbn rfl c27 rfl) rfl) ?_
            refine RQ.skip (wantN (dj := 23) rfl (vbn rfl c27 rfl) rfl) ?_
            refine RQ.skip (wantN (dj := 23) rfl (vbn rfl c27 rfl) rfl) ?_
            refine RQ.skip (wantN (dj := 23) rfl (vbn rfl c27 rfl) rfl) ?_
            refine RQ.y rfl (Y.pick (b := true) (v := .bool true) (vbn rfl c27 rfl) rfl) ?_
            refine RQ.nil ?_
            intro w28 hb29
            have szw28 := hb29.size
            have T := Tt T hb29
            refine then_n ?_
            refine cond_t rfl rfl ?_
            refine wp_seq ?_
            refine wp_rs rfl ?_
            refine RQ.y rfl (Y.assign (v := .bool false) rfl) ?_
            refine RQ.nil ?_
            refine then_n ?_
            refine wp_ret ?_
            obtain rfl := Option.some.inj hm
            exact (blk_r (then_r (then_r (hit_r (blk_r (then_r (ret1 rfl rfl rfl ⟨rfl, T⟩)))))))
          · replace hm := cT c27 hm
            refine RQ.y (wantT (dj := 23) rfl (vbn rfl c27 rfl)) (Y.fieldAddr (off := 0) rfl (by kernel_rfl)) ?_
            refine RQ.y (wantT (dj := 23) rfl (vbn rfl c27 rfl)) (Y.load (v := .int .i64 x7.kind) rfl (by kernel_rfl) (beC (blkCell B23 (i := 0) rfl))) ?_
            refine RQ.y (wantT (dj := 23) rfl (vbn rfl c27 rfl)) (Y.binI (v := .bool (x7.kind == 1)) rfl rfl rfl) ?_
            refine RQ.y (wantT (dj := 23) rfl (vbn rfl c27 rfl)) (Y.move (v := .int .i64 i4) rfl) ?_
            refine RQ.y (wantT (dj := 23) rfl (vbn rfl c27 rfl)) (Y.binI (v := .bool (i4 == 0)) rfl rfl rfl) ?_
            refine RQ.y (wantT (dj := 23) rfl (vbn rfl c27 rfl)) (Y.beq (c := ((x7.kind == 1) != (i4 == 0))) (by kernel_rfl) rfl rfl (.inr ⟨rfl, rfl⟩)) ?_
            refine RQ.y rfl (Y.pick (b := false) (v := .bool ((x7.kind == 1) != (i4 == 0))) (vbn rfl c27 rfl) rfl) ?_
            refine RQ.nil ?_
            intro w30 hb31
            have szw30 := hb31.size
            have T := Tt T hb31
            refine then_n ?_
            rcases bcases ((x7.kind == 1) != (i4 == 0)) with c32 | c32
            · replace hm := cF c32 hm
              refine cond_f rfl (vb rfl c32) ?_
              refine wp_skip ?_
              refine blk_n (then_n ?_)
              refine wp_rs rfl ?_
              refine RQ.y rfl (Y.binI s15_1 rfl (binI_add (m := i4) (by omega))) ?_
              refine RQ.y rfl (Y.move (v := .int .i64 (i4 + 1)) rfl) ?_
              refine RQ.nil ?_
              exact (then_n ⟨g, _, Nat.lt_succ_self _, rfl, ⟨(i4 + 1), s13_1, s14_1, rfl, (by omega), T, (by rw [← hrec1]; exact hm)⟩⟩)
            · replace hm := cT c32 hm
              refine cond_t rfl (vb rfl c32) ?_
              refine wp_seq ?_
              refine wp_rs rfl ?_
              refine RQ.y rfl (Y.assign (v := .bool false) rfl) ?_
              refine RQ.nil ?_
              refine then_n ?_
              refine wp_ret ?_
              obtain rfl := Option.some.inj hm
              exact (blk_r (then_r (then_r (hit_r (blk_r (then_r (ret1 rfl rfl rfl ⟨rfl, T⟩)))))))
    · replace hm := cT c2 hm
      have pc2 := of_decide_eq_true c2
      refine cond_t rfl (vb rfl c2) ?_
      refine wp_seq ?_
      refine wp_rs rfl ?_
      refine RQ.y rfl (Y.assign (v := .bool false) rfl) ?_
      refine RQ.nil ?_
      refine then_n ?_
      refine wp_ret ?_
      obtain rfl := Option.some.inj hm
      exact (then_r (ret1 rfl rfl rfl ⟨rfl, T⟩))
  · replace hm := cT c1 hm
    have pc1 := of_decide_eq_true c1
    refine RQ.skip (wantN (dj := 8) rfl (vb rfl c1) rfl) ?_
    refine RQ.skip (wantN (dj := 8) rfl (vb rfl c1) rfl) ?_
    refine RQ.skip (wantN (dj := 8) rfl (vb rfl c1) rfl) ?_
    refine RQ.y rfl (Y.pick (b := true) (v := .bool true) (vb rfl c1) rfl) ?_
    refine RQ.nil ?_
    refine then_n ?_
    refine cond_t rfl rfl ?_
    refine wp_seq ?_
    refine wp_rs rfl ?_
    refine RQ.y rfl (Y.assign (v := .bool false) rfl) ?_
    refine RQ.nil ?_
    refine then_n ?_
    refine wp_ret ?_
    obtain rfl := Option.some.inj hm
    exact (then_r (ret1 rfl rfl rfl ⟨rfl, T⟩))
def m_impl_ValidNet (d0 : DNet) : Option Bool :=
  ((m_impl_areAgents d0.agents).bind fun y6 => (bif y6 then ((m_impl_Net_ports d0).bind fun y11 => ((m_slices_ContainsFunc_impl_Port_impl_Port y11 (fun x0 => m_impl_ValidNet_1 x0 d0)).bind fun y18 => some (!y18))) else some false))
set_option maxHeartbeats 2000000 in
theorem c_m_impl_ValidNet (d0 : DNet) (r : Bool) (hm : m_impl_ValidNet d0 = some r) (v0 : Value) (w : World) (hv0 : St netRd w v0 d0) :
    Calls Try.prog 68 #[v0] w fun e w' => e = .returned (.bool r) ∧ Below w.heap.size w w' := by
  obtain ⟨csa0, rfl, ⟨A1, n1, c1, rfl, ⟨h1, r1⟩⟩⟩ := hv0
  have e1 := h1.len; subst e1
  have q1 := len_le r1
  have T := Below.refl w.heap.size w
  unfold m_impl_ValidNet at hm
  refine enter 11 Try.func68 rfl rfl rfl ?_
  intro f hf
  have s0 : f 0 = .agg #[.slice A1 d0.agents.length c1] := hf 0 _ rfl
  refine wp_seq ?_
  refine wp_rl rfl ?_
  refine RL.box rfl s0 (fun w2 B3 hb4 szw2 => ?_)
  replace B3 : Blk w2 w.heap.size 30 #[.slice A1 d0.agents.length c1] := B3
  have GB3 : w.heap.size ≤ w.heap.size := T.size
  have T := Tt T hb4
  refine RL.y rfl (Y.assign (v := .bool false) rfl) ?_
  refine RL.nil ?_
  refine then_n ?_
  refine wp_seq ?_
  refine wp_seq ?_
  refine wp_rb rfl ?_
  refine RQ.y rfl (Y.fieldAddr (off := 0) rfl (by kernel_rfl)) ?_
  refine RQ.y rfl (Y.load (v := .slice A1 d0.agents.length c1) rfl (by kernel_rfl) (beC (blkCell B3 (i := 0) rfl))) ?_
  obtain ⟨y6, e7, hm⟩ := bnd hm
  refine RQ.call rfl (am1 rfl) (by kernel_rfl) (v := .bool y6) (bel (K := fun _ => True) fun w' hb' => (c_m_impl_areAgents d0.agents _ e7 _ w' (slArg agentRd_ok h1 r1 (Tt T hb')))) ?_
  refine RQ.y rfl (Y.not (b' := (!y6)) rfl rfl) ?_
  refine RQ.nil ?_
  intro w8 hb9
  have szw8 := hb9.size
  have B3 := blkT B3 hb9
  have T := Tt T hb9
  refine then_n ?_
  rcases bcases y6 with c10 | c10
  · replace hm := cF c10 hm
    refine cond_t rfl (vbn rfl c10 rfl) ?_
    refine wp_seq ?_
    refine wp_rs rfl ?_
    refine RQ.y rfl (Y.assign (v := .bool false) rfl) ?_
    refine RQ.nil ?_
    refine then_n ?_
    refine wp_ret ?_
    obtain rfl := Option.some.inj hm
    exact (then_r (ret1 rfl rfl rfl ⟨rfl, T⟩))
  · replace hm := cT c10 hm
    refine cond_f rfl (vbn rfl c10 rfl) ?_
    refine wp_skip ?_
    refine then_n ?_
    refine wp_seq ?_
    refine wp_rl rfl ?_
    obtain ⟨y11, e12, hm⟩ := bnd hm
    refine RL.call rfl (am1 rfl) (by kernel_rfl) ((c_m_impl_Net_ports d0 _ e12 _ _ (ptBox (R := netRd) B3 ⟨_, _, _, rfl, ⟨SlAt.now agentRd_ok h1 (Nat.le_refl _) T, r1⟩⟩)).mono ?_)
    rintro _ w16 ⟨⟨v13, rfl, G14⟩, hb17⟩
    refine ⟨_, rfl, ?_⟩
    have szw16 := hb17.size
    have T0w16 := T.size
    have No15_ob5 := OwF.ne G14 B3.lt
    have B3 := blkT B3 hb17
    have T := Tt T hb17
    replace G14 := OwF.mono G14 T0w16
    refine RL.y rfl (Y.makeFunc (vals := #[.pointer (some ⟨w.heap.size, 0, none⟩)]) (am1 rfl)) ?_
    obtain ⟨y18, e19, hm⟩ := bnd hm
    refine RL.call rfl (am2 rfl rfl) (by kernel_rfl) ((c_m_slices_ContainsFunc_impl_Port_impl_Port y11 (fun x0 => m_impl_ValidNet_1 x0 d0) _ e19 _ _ _ _ (OwF.arg fPort G14) (by kernel_rfl) (fun x0 b hx w1 hb1 => Calls.arr (by simp) (c_m_impl_ValidNet_1 x0 d0 _ hx _ w1 (ptBox (R := netRd) (blkT B3 hb1) ⟨_, _, _, rfl, ⟨SlAt.now agentRd_ok h1 (Nat.le_refl _) (Tt T hb1), r1⟩⟩)))).mono ?_)
    rintro _ w20 ⟨rfl, hb21⟩
    refine ⟨_, rfl, ?_⟩
    have szw20 := hb21.size
    have B3 := blkT B3 hb21
    have G14 := OwF.below G14 hb21
    have T := Tt T hb21
    refine RL.y rfl (Y.not (b' := (!y18)) rfl rfl) ?_
    refine RL.y rfl (Y.assign (v := .bool (!y18)) rfl) ?_
    refine RL.nil ?_
    refine then_n ?_
    refine wp_ret ?_
    obtain rfl := Option.some.inj hm
    exact (ret1 rfl rfl rfl ⟨rfl, T⟩)
end
section
open Go.RowKit
set_option linter.unusedVariables false
set_option linter.unusedSimpArgs false
theorem allDef {xs : List Int} : (∀ k, k < xs.length → ∃ x, xs[k]? = some x ∧ defIx x = true) ↔ xs.all defIx = true := by
  rw [List.all_eq_true]
  constructor
  · intro h x hx
    obtain ⟨k, hk, rfl⟩ := List.getElem_of_mem hx
    obtain ⟨y, hy, hd⟩ := h k hk
    rw [List.getElem?_eq_getElem hk] at hy
    injection hy with hy
    rw [hy]; exact hd
  · intro h k hk
    exact ⟨xs[k], List.getElem?_eq_getElem hk, h _ (List.getElem_mem _)⟩
theorem inR_def (x : Int) : inR x 0 23 = defIx x := rfl
theorem content_L1 (x : DAgent) (g : Nat) (hg : x.data.length < g) : m_spec_l11Content_L1 x m_spec_l11Content_A1 g 0 = some (x.data.all defIx) := by
  have h := allI (L := m_spec_l11Content_L1 x m_spec_l11Content_A1) (n := x.data.length) (p := fun k => ∃ y, x.data[k]? = some y ∧ defIx y = true) (no := some false) (K := some true)
    (fun g k hk ⟨y, hy, hd⟩ => by simp [m_spec_l11Content_L1, m_spec_l11Content_B1, hk, getI_nat hy, m_spec_l11Def, inR_def, hd])
    (fun g k hk hn => by
      have hd : defIx x.data[k] = false := by
        cases h : defIx x.data[k] with
        | false => rfl
        | true => exact absurd ⟨_, List.getElem?_eq_getElem hk, h⟩ hn
      simp [m_spec_l11Content_L1, m_spec_l11Content_B1, hk, getI_lt hk, m_spec_l11Def, inR_def, hd])
    (fun g => by simp [m_spec_l11Content_L1, m_spec_l11Content_B1, m_spec_l11Content_A1]) g hg
  rw [h]
  by_cases ha : x.data.all defIx = true
  · rw [if_pos (allDef.2 ha), ha]
  · rw [if_neg (fun hh => ha (allDef.1 hh))]; simp at ha ⊢; exact ha
theorem content_L2 (x : DAgent) (g : Nat) (hg : x.data.length < g) : m_spec_l11Content_L2 x m_spec_l11Content_A2 g 0 = some (x.data.all defIx) := by
  have h := allI (L := m_spec_l11Content_L2 x m_spec_l11Content_A2) (n := x.data.length) (p := fun k => ∃ y, x.data[k]? = some y ∧ defIx y = true) (no := some false) (K := some true)
    (fun g k hk ⟨y, hy, hd⟩ => by simp [m_spec_l11Content_L2, m_spec_l11Content_B2, hk, getI_nat hy, m_spec_l11Def, inR_def, hd])
    (fun g k hk hn => by
      have hd : defIx x.data[k] = false := by
        cases h : defIx x.data[k] with
        | false => rfl
        | true => exact absurd ⟨_, List.getElem?_eq_getElem hk, h⟩ hn
      simp [m_spec_l11Content_L2, m_spec_l11Content_B2, hk, getI_lt hk, m_spec_l11Def, inR_def, hd])
    (fun g => by simp [m_spec_l11Content_L2, m_spec_l11Content_B2, m_spec_l11Content_A2]) g hg
  rw [h]
  by_cases ha : x.data.all defIx = true
  · rw [if_pos (allDef.2 ha), ha]
  · rw [if_neg (fun hh => ha (allDef.1 hh))]; simp at ha ⊢; exact ha
theorem p_content (x : DAgent) : m_spec_l11Content x = some (content x.kind x.value x.data) := by
  have l1 := content_L1 x (x.data.length + 1) (by omega)
  have l2 := content_L2 x (x.data.length + 1) (by omega)
  have i2 : ((x.data.length : Int) = 2) ↔ x.data.length = 2 := by omega
  have i1 : ((x.data.length : Int) = 1) ↔ x.data.length = 1 := by omega
  have i14 : inR (x.data.length : Int) 1 4 = (decide (1 ≤ x.data.length) && decide (x.data.length ≤ 4)) := by
    rw [Bool.eq_iff_iff]; simp [inR]; omega
  have hI : ∀ y, inR y (-2147483648) 2147483647 = int32B y := fun _ => rfl
  have hO : inR x.value 1 6 = operB x.value := rfl
  unfold m_spec_l11Content content
  simp only [hI, hO, l1, l2, m_spec_l11Def, inR_def, Bool.cond_eq_ite, beq_iff_eq, bne_iff_ne, ne_eq, i14, i1, i2]
  by_cases h8 : x.kind = 8
  · by_cases h0 : x.data.length = 1
    · obtain ⟨y, hy⟩ : ∃ y, x.data = [y] := List.length_eq_one_iff.1 h0
      simp only [h8, hy]
      cases ho : operB x.value <;> simp [getI]
    · simp [h8, h0]
  by_cases h6 : x.kind = 6
  · by_cases h0 : x.data.length = 0 <;> simp [h6, h0]
  by_cases h7 : x.kind = 7
  · by_cases h0 : x.data.length = 0 <;> simp [h7, h0]
  by_cases h9 : x.kind = 9
  · by_cases h0 : x.data.length = 0 <;> simp [h9, h0, inR]
  by_cases h12 : x.kind = 12
  · by_cases h0 : x.data.length = 0 <;> simp [h12, h0]
  by_cases h10 : x.kind = 10
  · by_cases hv : x.value = 0 <;> by_cases n1 : 1 ≤ x.data.length <;> by_cases n4 : x.data.length ≤ 4 <;> simp [h10, hv, n1, n4]
  by_cases h11 : x.kind = 11
  · by_cases hv : x.value = 0 <;> by_cases hn : x.data.length = 2 <;> simp [h11, hv, hn]
  by_cases hv : x.value = 0 <;> by_cases h0 : x.data.length = 0 <;> simp [h6, h7, h8, h9, h10, h11, h12, hv, h0]
theorem p_fields (x : DAgent) (hp : x.ports.length ≤ 9223372036854775807) : m_spec_l11Fields x = some (fieldsN x.kind x.ports.length) := by
  unfold m_spec_l11Fields fieldsN
  simp only [Bool.cond_eq_ite, beq_iff_eq]
  by_cases h : x.kind = 9
  · simp [h, ck_ok (n := (x.ports.length : Int) - 1) (by omega)]
  · simp [h]
theorem p_agent (x : DAgent) (hp : x.ports.length ≤ 9223372036854775807) : m_spec_l11Agent x = some (agentOk x) := by
  unfold m_spec_l11Agent agentOk
  simp only [p_fields x hp, Option.bind_some, p_content, Bool.cond_eq_ite, beq_iff_eq, decide_eq_true_eq]
  generalize portsOf x.kind (fieldsN x.kind x.ports.length) = p
  by_cases h1 : p > 0
  · have h1' : 0 < p := h1
    by_cases h2 : (x.ports.length : Int) = p
    · cases h3 : allowed x.kind x.level <;> simp [h1, h1', h2]
    · simp [h1, h1', h2]
  · have h1' : ¬ 0 < p := h1
    simp [h1, h1']
theorem p_ifields (k : Int) (n : Nat) (hn : n ≤ 9223372036854775807) : m_impl_fieldsOf k (n : Int) = some (fieldsN k n) := by
  unfold m_impl_fieldsOf fieldsN
  simp only [Bool.cond_eq_ite, beq_iff_eq]
  by_cases h : k = 9
  · simp [h, ck_ok (n := (n : Int) - 1) (by omega)]
  · simp [h]
theorem p_isDef (n : Int) : m_impl_isDefIndex n = some (defIx n) := by
  unfold m_impl_isDefIndex defIx
  simp only [Bool.cond_eq_ite, decide_eq_true_eq]
  by_cases h : 0 ≤ n <;> simp [h] <;> omega
theorem p_isInt (n : Int) : m_impl_isInt n = some (int32B n) := by
  unfold m_impl_isInt int32B
  simp only [Bool.cond_eq_ite, decide_eq_true_eq]
  by_cases h : -2147483648 ≤ n <;> simp [h]
theorem p_isOper (n : Int) : m_impl_isOperator n = some (operB n) := by
  unfold m_impl_isOperator operB
  simp only [Bool.cond_eq_ite, decide_eq_true_eq]
  by_cases h : 1 ≤ n <;> simp [h]
theorem p_index_int (d : List Int) (p : Int → Option Bool) (q : Int → Bool) (h : ∀ x ∈ d, p x = some (q x)) : ∃ i, m_slices_IndexFunc_int64_int64 d p = some i ∧ decide (i ≥ 0) = d.any q := by
  unfold m_slices_IndexFunc_int64_int64
  by_cases ha : ∃ k, k < d.length ∧ ∃ x, d[k]? = some x ∧ q x = true
  · obtain ⟨m, ⟨hm, x, hx, hq⟩, hl⟩ : ∃ m, (m < d.length ∧ ∃ x, d[m]? = some x ∧ q x = true) ∧ ∀ k, k < m → ∀ y, d[k]? = some y → q y = false := by
      obtain ⟨k0, hk0⟩ := ha
      induction k0 using Nat.strongRecOn with
      | _ k0 ih =>
        by_cases hh : ∃ k, k < k0 ∧ k < d.length ∧ ∃ x, d[k]? = some x ∧ q x = true
        · obtain ⟨k, hk, hk1⟩ := hh; exact ih k hk hk1
        · exact ⟨k0, hk0, fun k hk y hy => by
            cases hq : q y with
            | false => rfl
            | true => exact absurd ⟨k, hk, lt_of_some hy, y, hy, hq⟩ hh⟩
    refine ⟨m, ?_, ?_⟩
    · refine trajI (n := m) (fun g k hk => ?_) (fun g => ?_) _ (by omega)
      · have hkl : k < d.length := by omega
        have hy := List.getElem?_eq_getElem hkl
        simp [m_slices_IndexFunc_int64_int64_L1, m_slices_IndexFunc_int64_int64_B1, hkl, getI_lt hkl, h _ (List.getElem_mem hkl), hl k hk _ hy]
      · have hmem := List.mem_of_getElem? hx
        simp [m_slices_IndexFunc_int64_int64_L1, m_slices_IndexFunc_int64_int64_B1, hm, getI_nat hx, h _ hmem, hq]
    · have : d.any q = true := List.any_eq_true.2 ⟨x, List.mem_of_getElem? hx, hq⟩
      rw [this]; simp
  · refine ⟨-1, ?_, ?_⟩
    · refine trajI (n := d.length) (fun g k hk => ?_) (fun g => ?_) _ (by omega)
      · have hq : q d[k] = false := by
          cases hq : q d[k] with
          | false => rfl
          | true => exact absurd ⟨k, hk, _, List.getElem?_eq_getElem hk, hq⟩ ha
        simp [m_slices_IndexFunc_int64_int64_L1, m_slices_IndexFunc_int64_int64_B1, hk, getI_lt hk, h _ (List.getElem_mem hk), hq]
      · simp [m_slices_IndexFunc_int64_int64_L1, m_slices_IndexFunc_int64_int64_B1, m_slices_IndexFunc_int64_int64_A1]
    · have : d.any q = false := List.any_eq_false.2 fun x hx hq => by
        obtain ⟨k, hk, rfl⟩ := List.getElem_of_mem hx
        exact ha ⟨k, hk, _, List.getElem?_eq_getElem hk, hq⟩
      rw [this]; simp
theorem p_contains_int (d : List Int) (p : Int → Option Bool) (q : Int → Bool) (h : ∀ x ∈ d, p x = some (q x)) : m_slices_ContainsFunc_int64_int64 d p = some (d.any q) := by
  obtain ⟨i, h1, h2⟩ := p_index_int d p q h
  simp -implicitDefEqProofs only [m_slices_ContainsFunc_int64_int64, h1, Option.bind_some, h2]
theorem p_wellFormed (x : DAgent) (hp : x.ports.length ≤ 9223372036854775807) : m_impl_wellFormed x = some (agentOk x) := by
  have hc := p_contains_int x.data (fun x0 => m_impl_wellFormed_1 x0) (fun x0 => !defIx x0) (fun y _ => by simp [m_impl_wellFormed_1, p_isDef])
  have hall : x.data.all defIx = !(x.data.any fun x0 => !defIx x0) := by rw [List.not_any_eq_all_not]; simp
  have e0 : ((x.data.length : Int) == 0) = decide (x.data.length = 0) := by rw [Bool.eq_iff_iff]; simp
  have i2 : ((x.data.length : Int) = 2) ↔ x.data.length = 2 := by omega
  have i1 : ((x.data.length : Int) = 1) ↔ x.data.length = 1 := by omega
  have g1 : ((x.data.length : Int) ≥ 1) ↔ 1 ≤ x.data.length := by omega
  have g4 : ((x.data.length : Int) ≤ 4) ↔ x.data.length ≤ 4 := by omega
  have ip : ((x.ports.length : Int) = 0) ↔ x.ports.length = 0 := by omega
  unfold m_impl_wellFormed agentOk
  simp only [p_ifields _ _ hp, Option.bind_some, hc, p_isInt, p_isOper, p_isDef, content, hall, e0, Bool.cond_eq_ite, beq_iff_eq, bne_iff_ne, ne_eq, decide_eq_true_eq, i1, i2, ip, g1, g4, ge_iff_le]
  generalize hp0 : portsOf x.kind (fieldsN x.kind x.ports.length) = p
  by_cases h0 : x.ports.length = 0
  · by_cases h1 : 0 < p
    · have : ¬ (x.ports.length : Int) = p := by omega
      simp [h0]; intro h2; omega
    · simp [h0, h1]
  by_cases h2 : p = (x.ports.length : Int)
  case neg =>
    have h2' : ¬ (x.ports.length : Int) = p := fun e => h2 e.symm
    simp [h0, h2, h2']
  have hpos : 0 < x.ports.length := by omega
  have v4 : x.value < 4 ↔ x.value ≤ 3 := by omega
  subst h2
  generalize hany : (x.data.any fun x0 => !defIx x0) = anyb
  cases h3 : allowed x.kind x.level
  · simp [h0]
  by_cases k6 : x.kind = 6
  · cases hi : int32B x.value <;> simp [h0, hpos, k6]
  by_cases k7 : x.kind = 7
  · cases hi : operB x.value <;> simp [h0, hpos, k7]
  by_cases k8 : x.kind = 8
  · by_cases hd : x.data.length = 1
    · obtain ⟨y, hy⟩ : ∃ y, x.data = [y] := List.length_eq_one_iff.1 hd
      cases hi : operB x.value <;> simp [h0, hpos, k8, hy, getI]
    · cases hi : operB x.value <;> simp [h0, hpos, k8, hd]
  by_cases k9 : x.kind = 9
  · by_cases v0 : 0 ≤ x.value <;> by_cases v3 : x.value ≤ 3
    all_goals simp [h0, hpos, k9, v0, v3, v4]
  by_cases k10 : x.kind = 10
  · by_cases v0 : x.value = 0 <;> by_cases n1 : 1 ≤ x.data.length <;> by_cases n4 : x.data.length ≤ 4 <;> simp [h0, hpos, k10, v0, n1, n4]
  by_cases k11 : x.kind = 11
  · by_cases v0 : x.value = 0 <;> by_cases n2 : x.data.length = 2 <;> simp [h0, hpos, k11, v0, n2]
  by_cases k12 : x.kind = 12
  · cases hi : defIx x.value <;> simp [h0, hpos, k12]
  by_cases v0 : x.value = 0 <;> simp [h0, hpos, k6, k7, k8, k9, k10, k11, k12, v0]
theorem agentsOk_iff {xs : List DAgent} : agentsOk xs = true ↔ AgentsOk xs := by unfold agentsOk; simp
theorem agents_p {xs : List DAgent} : (∀ k, k < xs.length → ∃ x, xs[k]? = some x ∧ agentOk x = true ∧ decide (x.kind = 1) = decide (k = 0)) ↔ ∀ (i : Nat) (x : DAgent), xs[i]? = some x → agentOk x = true ∧ decide (x.kind = 1) = decide (i = 0) := by
  constructor
  · intro h i x hx
    obtain ⟨y, hy, h1⟩ := h i (lt_of_some hx)
    rw [hx] at hy; injection hy with hy; subst hy; exact h1
  · intro h k hk
    exact ⟨xs[k], List.getElem?_eq_getElem hk, h k _ (List.getElem?_eq_getElem hk)⟩
theorem kind_ne (k : Int) (i : Nat) : ((k == 1) != ((i : Int) == 0)) = !(decide (decide (k = 1) = decide (i = 0))) := by
  have e1 : (k == 1) = decide (k = 1) := by rw [Bool.eq_iff_iff]; simp
  have e2 : ((i : Int) == 0) = decide (i = 0) := by rw [Bool.eq_iff_iff]; simp
  rw [e1, e2]
  cases decide (k = 1) <;> cases decide (i = 0) <;> rfl
open Classical in
theorem p_agents (xs : List DAgent) (hb : ∀ x ∈ xs, x.ports.length ≤ 9223372036854775807) : m_spec_l11Agents xs = some (agentsOk xs) := by
  unfold m_spec_l11Agents
  by_cases hl : 1 ≤ xs.length ∧ xs.length ≤ 600
  · have h0 : inR (xs.length : Int) 1 600 = true := by simp [inR]; omega
    rw [h0, cond_true]
    have h := allI (L := m_spec_l11Agents_L1 xs m_spec_l11Agents_A1) (n := xs.length) (p := fun k => ∃ x, xs[k]? = some x ∧ agentOk x = true ∧ decide (x.kind = 1) = decide (k = 0)) (no := some false) (K := some true)
      (fun g k hk ⟨x, hx, h1, h2⟩ => by
        have hm := hb x (List.mem_of_getElem? hx)
        simp [m_spec_l11Agents_L1, m_spec_l11Agents_B1, hk, getI_nat hx, p_agent x hm, h1, kind_ne, h2])
      (fun g k hk hn => by
        have hx := List.getElem?_eq_getElem hk
        have hm := hb _ (List.getElem_mem hk)
        cases h1 : agentOk xs[k] with
        | false => simp [m_spec_l11Agents_L1, m_spec_l11Agents_B1, hk, getI_lt hk, p_agent _ hm, h1]
        | true =>
          have h2 : ¬ decide (xs[k].kind = 1) = decide (k = 0) := fun h2 => hn ⟨_, hx, h1, h2⟩
          simp -implicitDefEqProofs only [m_spec_l11Agents_L1, m_spec_l11Agents_B1, dlt hk, cond_true, getI_lt hk, Option.bind_some, p_agent _ hm, h1, kind_ne, decide_eq_false h2, Bool.not_false, Bool.not_true, Bool.or_true, Bool.false_or, cond_false])
      (fun g => by simp [m_spec_l11Agents_L1, m_spec_l11Agents_B1, m_spec_l11Agents_A1]) (xs.length + 1) (by omega)
    rw [h]
    by_cases ha : ∀ k, k < xs.length → ∃ x, xs[k]? = some x ∧ agentOk x = true ∧ decide (x.kind = 1) = decide (k = 0)
    · rw [if_pos ha, agentsOk_iff.2 ⟨hl.1, hl.2, agents_p.1 ha⟩]
    · rw [if_neg ha]
      cases hc : agentsOk xs with
      | false => rfl
      | true => exact absurd (agents_p.2 (agentsOk_iff.1 hc).2.2) ha
  · have h0 : inR (xs.length : Int) 1 600 = false := by simp [inR]; omega
    rw [h0, cond_false]
    cases hc : agentsOk xs with
    | false => rfl
    | true => exact absurd ⟨(agentsOk_iff.1 hc).1, (agentsOk_iff.1 hc).2.1⟩ hl
open Classical in
theorem p_areAgents (xs : List DAgent) (hb : ∀ x ∈ xs, x.ports.length ≤ 9223372036854775807) : m_impl_areAgents xs = some (agentsOk xs) := by
  unfold m_impl_areAgents
  by_cases hl : 1 ≤ xs.length ∧ xs.length ≤ 600
  · have h0 : decide ((xs.length : Int) < 1) = false := by simp; omega
    have h0' : decide ((xs.length : Int) > 600) = false := by simp; omega
    rw [h0, h0', cond_false, cond_false]
    have h := allI (L := m_impl_areAgents_L1 xs m_impl_areAgents_A1) (n := xs.length) (p := fun k => ∃ x, xs[k]? = some x ∧ agentOk x = true ∧ decide (x.kind = 1) = decide (k = 0)) (no := some false) (K := some true)
      (fun g k hk ⟨x, hx, h1, h2⟩ => by
        have hm := hb x (List.mem_of_getElem? hx)
        simp [m_impl_areAgents_L1, m_impl_areAgents_B1, hk, getI_nat hx, p_wellFormed x hm, h1, kind_ne, h2])
      (fun g k hk hn => by
        have hx := List.getElem?_eq_getElem hk
        have hm := hb _ (List.getElem_mem hk)
        cases h1 : agentOk xs[k] with
        | false => simp [m_impl_areAgents_L1, m_impl_areAgents_B1, hk, getI_lt hk, p_wellFormed _ hm, h1]
        | true =>
          have h2 : ¬ decide (xs[k].kind = 1) = decide (k = 0) := fun h2 => hn ⟨_, hx, h1, h2⟩
          simp -implicitDefEqProofs only [m_impl_areAgents_L1, m_impl_areAgents_B1, dlt hk, cond_true, getI_lt hk, Option.bind_some, p_wellFormed _ hm, h1, kind_ne, decide_eq_false h2, Bool.not_false, Bool.not_true, Bool.or_true, Bool.false_or, cond_false])
      (fun g => by simp [m_impl_areAgents_L1, m_impl_areAgents_B1, m_impl_areAgents_A1]) (xs.length + 1) (by omega)
    rw [h]
    by_cases ha : ∀ k, k < xs.length → ∃ x, xs[k]? = some x ∧ agentOk x = true ∧ decide (x.kind = 1) = decide (k = 0)
    · rw [if_pos ha, agentsOk_iff.2 ⟨hl.1, hl.2, agents_p.1 ha⟩]
    · rw [if_neg ha]
      cases hc : agentsOk xs with
      | false => rfl
      | true => exact absurd (agents_p.2 (agentsOk_iff.1 hc).2.2) ha
  · have hc : agentsOk xs = false := by
      cases hc : agentsOk xs with
      | false => rfl
      | true => exact absurd ⟨(agentsOk_iff.1 hc).1, (agentsOk_iff.1 hc).2.1⟩ hl
    by_cases h1 : xs.length < 1
    · have h0 : decide ((xs.length : Int) < 1) = true := by simp; omega
      rw [h0, cond_true, hc]
    · have h0 : decide ((xs.length : Int) < 1) = false := by simp; omega
      have h0' : decide ((xs.length : Int) > 600) = true := by simp; omega
      rw [h0, h0', cond_false, cond_true, hc]
/-- No list is longer than what a net of the laws may hold. -/
def Small (xs : List DAgent) : Prop := szAgentS xs ≤ 1048576
theorem Small.len {xs : List DAgent} (h : Small xs) : xs.length ≤ 1048576 := by unfold Small szAgentS at h; omega
theorem sum_mem {α : Type} {f : α → Nat} {xs : List α} {x : α} (h : x ∈ xs) : f x ≤ (xs.map f).sum := by
  induction xs with
  | nil => cases h
  | cons y ys ih =>
    rcases List.mem_cons.1 h with rfl | h
    · simp
    · have := ih h; simp; omega
theorem Small.ports {xs : List DAgent} (h : Small xs) {x : DAgent} (hx : x ∈ xs) : x.ports.length ≤ 1048576 := by
  have := sum_mem (f := szAgent) hx
  have e : szAgent x = x.data.length + x.ports.length := rfl
  unfold Small szAgentS at h; omega
theorem Small.data {xs : List DAgent} (h : Small xs) {x : DAgent} (hx : x ∈ xs) : x.data.length ≤ 1048576 := by
  have := sum_mem (f := szAgent) hx
  have e : szAgent x = x.data.length + x.ports.length := rfl
  unfold Small szAgentS at h; omega
theorem Small.ports' {xs : List DAgent} (h : Small xs) : ∀ x ∈ xs, x.ports.length ≤ 9223372036854775807 := fun x hx => by have := h.ports hx; omega
theorem portsFrom_len : ∀ (i : Nat) (xs : List DAgent), (portsFrom i xs).length ≤ (xs.map szAgent).sum
  | _, [] => by simp [portsFrom]
  | i, x :: xs => by have := portsFrom_len (i + 1) xs; simp [portsFrom, agentPorts, szAgent]; omega
theorem Small.all {xs : List DAgent} (h : Small xs) : (allPorts xs).length ≤ 1048576 := by
  have := portsFrom_len 0 xs
  unfold Small szAgentS at h; unfold allPorts; omega
theorem agentAt_nat {xs : List DAgent} {k : Nat} {x : DAgent} (h : xs[k]? = some x) : agentAt xs (k : Int) = x := by simp [agentAt, List.getD, h]
theorem p_port (xs : List DAgent) (p : DPort) (h : Small xs) : m_spec_l11Port xs p = some (hasPort xs p) := by
  unfold m_spec_l11Port
  have hl := h.len
  rw [ck_ok (by omega), Option.bind_some]
  by_cases ha : 0 ≤ p.agent ∧ p.agent < xs.length
  · obtain ⟨k, hk⟩ := Int.eq_ofNat_of_zero_le ha.1
    have hkl : k < xs.length := by omega
    have h0 : inR p.agent 0 ((xs.length : Int) - 1) = true := by simp [inR]; omega
    have hx := List.getElem?_eq_getElem hkl
    have hp := h.ports (List.getElem_mem hkl)
    rw [h0, cond_true, hk, getI_nat hx, Option.bind_some, ck_ok (by omega), Option.bind_some]
    congr 1
    rw [Bool.eq_iff_iff]
    simp [inR, hasPort, hk, agentAt_nat hx]
    omega
  · have h0 : inR p.agent 0 ((xs.length : Int) - 1) = false := by simp [inR]; omega
    rw [h0, cond_false]
    congr 1
    simp [hasPort]
    omega
theorem p_hasPort (xs : List DAgent) (p : DPort) : m_impl_hasPort xs p = some (hasPort xs p) := by
  unfold m_impl_hasPort
  by_cases h1 : 0 ≤ p.agent
  · by_cases h2 : p.agent < xs.length
    · by_cases h3 : 0 ≤ p.slot
      · obtain ⟨k, hk⟩ := Int.eq_ofNat_of_zero_le h1
        have hkl : k < xs.length := by omega
        have hx := List.getElem?_eq_getElem hkl
        simp [h3, hk, hkl, hasPort, getI_nat hx, agentAt_nat hx]
      · simp [h1, h2, h3, hasPort]
    · simp [h1, h2, hasPort]
  · simp [h1, hasPort]
theorem p_peer {xs : List DAgent} {p : DPort} (h : hasPort xs p = true) : m_impl_Net_peer ⟨xs⟩ p = some (peer xs p) := by
  obtain ⟨i, k, x, rfl, hx, hk, ha⟩ := hasPort_at h
  have hy := List.getElem?_eq_getElem hk
  simp [m_impl_Net_peer, getI_nat hx, getI_nat hy, peer_of hx hy]
theorem port_eq (q p : DPort) : (q.agent == p.agent && q.slot == p.slot) = decide (q = p) := by
  rw [Bool.eq_iff_iff]
  cases q; cases p; simp
theorem badPort_at {xs : List DAgent} {i k : Nat} {x : DAgent} {q : DPort} (hx : xs[i]? = some x) (hq : x.ports[k]? = some q) : badPort xs ⟨i, k⟩ = (decide (q = ⟨i, k⟩) || !hasPort xs q || !decide (peer xs q = ⟨i, k⟩)) := by
  unfold badPort; rw [peer_of hx hq]
open Classical in
theorem p_ok_inner {xs : List DAgent} (hs : Small xs) {i : Nat} {x : DAgent} (hx : xs[i]? = some x) (rec : Int → Option Bool) (g : Nat) (hg : x.ports.length < g) :
    ((∀ k, k < x.ports.length → badPort xs ⟨i, k⟩ = false) ∧ m_spec_l11Ok_L2 ⟨xs⟩ (i : Int) x (m_spec_l11Ok_A2 rec (i : Int)) g 0 = rec ((i : Int) + 1)) ∨ ((¬ ∀ k, k < x.ports.length → badPort xs ⟨i, k⟩ = false) ∧ m_spec_l11Ok_L2 ⟨xs⟩ (i : Int) x (m_spec_l11Ok_A2 rec (i : Int)) g 0 = some false) := by
  have hi := lt_of_some hx
  have hl := hs.len
  refine (allO (L := m_spec_l11Ok_L2 ⟨xs⟩ (i : Int) x (m_spec_l11Ok_A2 rec (i : Int))) (n := x.ports.length) (p := fun k => badPort xs ⟨i, k⟩ = false) (no := some false) (K := rec ((i : Int) + 1)) ?_ ?_ ?_ g hg)
  · intro g k hk hb
    have hq := List.getElem?_eq_getElem hk
    rw [badPort_at hx hq] at hb
    simp only [Bool.or_eq_false_iff, Bool.not_eq_false', decide_eq_false_iff_not, decide_eq_true_eq] at hb
    obtain ⟨⟨h1, h2⟩, h3⟩ := hb
    obtain ⟨i2, k2, x2, he, hx2, hk2, _⟩ := hasPort_at h2
    have hq2 := List.getElem?_eq_getElem hk2
    have h1' : (x.ports[k].agent == (i : Int) && x.ports[k].slot == (k : Int)) = false := by
      have := port_eq x.ports[k] ⟨i, k⟩
      simp only at this
      rw [this]; simpa using h1
    have h3' : (x2.ports[k2].agent == (i : Int) && x2.ports[k2].slot == (k : Int)) = true := by
      have := port_eq x2.ports[k2] ⟨i, k⟩
      simp only at this
      rw [this]
      rw [he, peer_of hx2 hq2] at h3
      simpa using h3
    have ha : x.ports[k].agent = (i2 : Int) := by rw [he]
    have hsl : x.ports[k].slot = (k2 : Int) := by rw [he]
    have e1 : getI xs x.ports[k].agent = some x2 := by rw [ha]; exact getI_nat hx2
    have e2 : getI x2.ports x.ports[k].slot = some x2.ports[k2] := by rw [hsl]; exact getI_nat hq2
    simp -implicitDefEqProofs only [m_spec_l11Ok_L2, m_spec_l11Ok_B2, dlt hk, cond_true, getI_lt hk, Option.bind_some, h1', cond_false, p_port xs _ hs, h2, e1, e2, h3']
  · intro g k hk hb
    have hq := List.getElem?_eq_getElem hk
    have hb : badPort xs ⟨i, k⟩ = true := by simpa using hb
    rw [badPort_at hx hq] at hb
    have hE := port_eq x.ports[k] ⟨i, k⟩
    simp only at hE
    by_cases h1 : x.ports[k] = (⟨i, k⟩ : DPort)
    · have : (x.ports[k].agent == (i : Int) && x.ports[k].slot == (k : Int)) = true := by rw [hE]; simpa using h1
      simp -implicitDefEqProofs only [m_spec_l11Ok_L2, m_spec_l11Ok_B2, dlt hk, cond_true, getI_lt hk, Option.bind_some, this]
    · have h1' : (x.ports[k].agent == (i : Int) && x.ports[k].slot == (k : Int)) = false := by rw [hE]; simpa using h1
      cases h2 : hasPort xs x.ports[k] with
      | false => simp -implicitDefEqProofs only [m_spec_l11Ok_L2, m_spec_l11Ok_B2, dlt hk, cond_true, getI_lt hk, Option.bind_some, h1', cond_false, p_port xs _ hs, h2]
      | true =>
        have h3 : ¬ peer xs x.ports[k] = (⟨i, k⟩ : DPort) := by
          intro h3; rw [h2, h3] at hb; simp [h1] at hb
        obtain ⟨i2, k2, x2, he, hx2, hk2, _⟩ := hasPort_at h2
        have hq2 := List.getElem?_eq_getElem hk2
        have h3' : (x2.ports[k2].agent == (i : Int) && x2.ports[k2].slot == (k : Int)) = false := by
          have := port_eq x2.ports[k2] ⟨i, k⟩
          simp only at this
          rw [this]
          rw [he, peer_of hx2 hq2] at h3
          simpa using h3
        have ha : x.ports[k].agent = (i2 : Int) := by rw [he]
        have hsl : x.ports[k].slot = (k2 : Int) := by rw [he]
        have e1 : getI xs x.ports[k].agent = some x2 := by rw [ha]; exact getI_nat hx2
        have e2 : getI x2.ports x.ports[k].slot = some x2.ports[k2] := by rw [hsl]; exact getI_nat hq2
        simp -implicitDefEqProofs only [m_spec_l11Ok_L2, m_spec_l11Ok_B2, dlt hk, cond_true, getI_lt hk, Option.bind_some, h1', cond_false, p_port xs _ hs, h2, e1, e2, h3']
  · intro g
    simp -implicitDefEqProofs only [m_spec_l11Ok_L2, m_spec_l11Ok_B2, dge, cond_false, m_spec_l11Ok_A2]
    rw [ck_ok (by omega), Option.bind_some]
theorem portsOk_p {xs : List DAgent} : (∀ i, i < xs.length → ∃ x, xs[i]? = some x ∧ ∀ k, k < x.ports.length → badPort xs ⟨i, k⟩ = false) ↔ PortsOk xs := by
  constructor
  · intro h i x hx k hk
    obtain ⟨y, hy, h1⟩ := h i (lt_of_some hx)
    rw [hx] at hy; injection hy with hy; subst hy; exact h1 k hk
  · intro h i hi
    exact ⟨xs[i], List.getElem?_eq_getElem hi, fun k hk => h i _ (List.getElem?_eq_getElem hi) k hk⟩
theorem validNet_iff {x : DNet} : validNet x = true ↔ AgentsOk x.agents ∧ PortsOk x.agents := by unfold validNet; simp
open Classical in
theorem p_ok (d : DNet) (hs : Small d.agents) : m_spec_l11Ok d = some (validNet d) := by
  obtain ⟨xs⟩ := d
  have hs : Small xs := hs
  unfold m_spec_l11Ok
  rw [p_agents xs hs.ports', Option.bind_some]
  cases hag : agentsOk xs with
  | false =>
    rw [cond_false]
    cases hv : validNet ⟨xs⟩ with
    | false => rfl
    | true => rw [agentsOk_iff.2 (validNet_iff.1 hv).1] at hag; cases hag
  | true =>
    rw [cond_true]
    have h := allO (L := m_spec_l11Ok_L1 ⟨xs⟩ m_spec_l11Ok_A1) (n := xs.length) (p := fun i => ∃ x, xs[i]? = some x ∧ ∀ k, k < x.ports.length → badPort xs ⟨i, k⟩ = false) (no := some false) (K := some true)
      (fun g i hi ⟨x, hx, hp⟩ => by
        simp -implicitDefEqProofs only [m_spec_l11Ok_L1, m_spec_l11Ok_B1, dlt hi, cond_true, getI_nat hx, Option.bind_some]
        rcases p_ok_inner hs hx (m_spec_l11Ok_L1 ⟨xs⟩ m_spec_l11Ok_A1 g) _ (Nat.lt_succ_self _) with ⟨_, h⟩ | ⟨hn, _⟩
        · exact h
        · exact absurd hp hn)
      (fun g i hi hn => by
        have hx := List.getElem?_eq_getElem hi
        simp -implicitDefEqProofs only [m_spec_l11Ok_L1, m_spec_l11Ok_B1, dlt hi, cond_true, getI_lt hi, Option.bind_some]
        rcases p_ok_inner hs hx (m_spec_l11Ok_L1 ⟨xs⟩ m_spec_l11Ok_A1 g) _ (Nat.lt_succ_self _) with ⟨hp, _⟩ | ⟨_, h⟩
        · exact absurd ⟨_, hx, hp⟩ hn
        · exact h)
      (fun g => by simp -implicitDefEqProofs only [m_spec_l11Ok_L1, m_spec_l11Ok_B1, dge, cond_false, m_spec_l11Ok_A1]) (xs.length + 1) (Nat.lt_succ_self _)
    rcases h with ⟨ha, h⟩ | ⟨ha, h⟩
    · rw [validNet_iff.2 ⟨agentsOk_iff.1 hag, portsOk_p.1 ha⟩]; exact h
    · cases hv : validNet ⟨xs⟩ with
      | false => exact h
      | true => exact absurd (portsOk_p.2 (validNet_iff.1 hv).2) ha
theorem agentPorts_len (i : Nat) (x : DAgent) : (agentPorts i x).length = x.ports.length := by simp [agentPorts]
theorem p_ports_inner {i : Nat} {x : DAgent} (rec : List DPort → Int → Option (List DPort)) (acc : List DPort) (hb : acc.length + x.ports.length ≤ 4294967296) (hi : (i : Int) < 9223372036854775807) (g : Nat) (hg : x.ports.length < g) :
    m_impl_Net_ports_L2 (i : Int) x (m_impl_Net_ports_A2 rec (i : Int)) g acc 0 = rec (acc ++ agentPorts i x) ((i : Int) + 1) := by
  have h := traj (L := fun g (s : List DPort × Int) => m_impl_Net_ports_L2 (i : Int) x (m_impl_Net_ports_A2 rec (i : Int)) g s.1 s.2) (st := fun k => (acc ++ (List.range k).map (fun (j : Nat) => (⟨i, j⟩ : DPort)), (k : Int))) (n := x.ports.length) (r := rec (acc ++ agentPorts i x) ((i : Int) + 1))
    (fun g k hk => by
      simp -implicitDefEqProofs only [m_impl_Net_ports_L2, m_impl_Net_ports_B2, dlt hk, cond_true]
      rw [mustP_ok (by simp; omega), Option.bind_some]
      rw [List.range_succ, List.map_append, List.append_assoc]
      simp only [List.map_cons, List.map_nil, Int.natCast_add, Int.cast_ofNat_Int])
    (fun g => by
      simp -implicitDefEqProofs only [m_impl_Net_ports_L2, m_impl_Net_ports_B2, dge, cond_false, m_impl_Net_ports_A2]
      rw [ck_ok (by omega), Option.bind_some, agentPorts]) g hg
  simpa using h
theorem p_ports (d : DNet) (hs : Small d.agents) : m_impl_Net_ports d = some (allPorts d.agents) := by
  obtain ⟨xs⟩ := d
  have hs : Small xs := hs
  have hl := hs.len
  have ha := hs.all
  unfold m_impl_Net_ports
  have h := traj (L := fun g (s : List DPort × Int) => m_impl_Net_ports_L1 ⟨xs⟩ m_impl_Net_ports_A1 g s.1 s.2) (st := fun k => (allPorts (xs.take k), (k : Int))) (n := xs.length) (r := some (allPorts xs))
    (fun g k hk => by
      have hx := List.getElem?_eq_getElem hk
      have hlen : (allPorts (xs.take (k + 1))).length ≤ (allPorts xs).length := by
        have : allPorts xs = portsFrom 0 (xs.take (k + 1) ++ xs.drop (k + 1)) := by rw [List.take_append_drop]; rfl
        rw [this, portsFrom_append, List.length_append]
        exact Nat.le_add_right _ _
      rw [allPorts_take hx, List.length_append, agentPorts_len] at hlen
      simp -implicitDefEqProofs only [m_impl_Net_ports_L1, m_impl_Net_ports_B1, dlt hk, cond_true, getI_lt hk, Option.bind_some]
      rw [p_ports_inner (m_impl_Net_ports_L1 ⟨xs⟩ m_impl_Net_ports_A1 g) _ (by omega) (by omega) _ (Nat.lt_succ_self _), allPorts_take hx]
      simp only [Int.natCast_add, Int.cast_ofNat_Int])
    (fun g => by
      simp -implicitDefEqProofs only [m_impl_Net_ports_L1, m_impl_Net_ports_B1, dge, cond_false, m_impl_Net_ports_A1, List.take_length]) (xs.length + 1) (Nat.lt_succ_self _)
  exact h
theorem p_index_port (d : List DPort) (p : DPort → Option Bool) (q : DPort → Bool) (h : ∀ x ∈ d, p x = some (q x)) : ∃ i, m_slices_IndexFunc_impl_Port_impl_Port d p = some i ∧ decide (i ≥ 0) = d.any q := by
  unfold m_slices_IndexFunc_impl_Port_impl_Port
  by_cases ha : ∃ k, k < d.length ∧ ∃ x, d[k]? = some x ∧ q x = true
  · obtain ⟨m, ⟨hm, x, hx, hq⟩, hl⟩ : ∃ m, (m < d.length ∧ ∃ x, d[m]? = some x ∧ q x = true) ∧ ∀ k, k < m → ∀ y, d[k]? = some y → q y = false := by
      obtain ⟨k0, hk0⟩ := ha
      induction k0 using Nat.strongRecOn with
      | _ k0 ih =>
        by_cases hh : ∃ k, k < k0 ∧ k < d.length ∧ ∃ x, d[k]? = some x ∧ q x = true
        · obtain ⟨k, hk, hk1⟩ := hh; exact ih k hk hk1
        · exact ⟨k0, hk0, fun k hk y hy => by
            cases hq : q y with
            | false => rfl
            | true => exact absurd ⟨k, hk, lt_of_some hy, y, hy, hq⟩ hh⟩
    refine ⟨m, ?_, ?_⟩
    · refine trajI (n := m) (fun g k hk => ?_) (fun g => ?_) _ (by omega)
      · have hkl : k < d.length := by omega
        have hy := List.getElem?_eq_getElem hkl
        simp [m_slices_IndexFunc_impl_Port_impl_Port_L1, m_slices_IndexFunc_impl_Port_impl_Port_B1, hkl, getI_lt hkl, h _ (List.getElem_mem hkl), hl k hk _ hy]
      · have hmem := List.mem_of_getElem? hx
        simp [m_slices_IndexFunc_impl_Port_impl_Port_L1, m_slices_IndexFunc_impl_Port_impl_Port_B1, hm, getI_nat hx, h _ hmem, hq]
    · have : d.any q = true := List.any_eq_true.2 ⟨x, List.mem_of_getElem? hx, hq⟩
      rw [this]; simp
  · refine ⟨-1, ?_, ?_⟩
    · refine trajI (n := d.length) (fun g k hk => ?_) (fun g => ?_) _ (by omega)
      · have hq : q d[k] = false := by
          cases hq : q d[k] with
          | false => rfl
          | true => exact absurd ⟨k, hk, _, List.getElem?_eq_getElem hk, hq⟩ ha
        simp [m_slices_IndexFunc_impl_Port_impl_Port_L1, m_slices_IndexFunc_impl_Port_impl_Port_B1, hk, getI_lt hk, h _ (List.getElem_mem hk), hq]
      · simp [m_slices_IndexFunc_impl_Port_impl_Port_L1, m_slices_IndexFunc_impl_Port_impl_Port_B1, m_slices_IndexFunc_impl_Port_impl_Port_A1]
    · have : d.any q = false := List.any_eq_false.2 fun x hx hq => by
        obtain ⟨k, hk, rfl⟩ := List.getElem_of_mem hx
        exact ha ⟨k, hk, _, List.getElem?_eq_getElem hk, hq⟩
      rw [this]; simp
theorem p_contains_port (d : List DPort) (p : DPort → Option Bool) (q : DPort → Bool) (h : ∀ x ∈ d, p x = some (q x)) : m_slices_ContainsFunc_impl_Port_impl_Port d p = some (d.any q) := by
  obtain ⟨i, h1, h2⟩ := p_index_port d p q h
  simp -implicitDefEqProofs only [m_slices_ContainsFunc_impl_Port_impl_Port, h1, Option.bind_some, h2]
theorem p_valid1 {xs : List DAgent} {p : DPort} (h : hasPort xs p = true) : m_impl_ValidNet_1 p ⟨xs⟩ = some (badPort xs p) := by
  unfold m_impl_ValidNet_1 badPort
  rw [p_peer h, Option.bind_some, port_eq]
  by_cases h1 : peer xs p = p
  · simp [h1]
  · cases h2 : hasPort xs (peer xs p) with
    | false => simp [h1, p_hasPort, h2]
    | true => simp [h1, p_hasPort, h2, p_peer h2, port_eq]
theorem p_valid (d : DNet) (hs : Small d.agents) : m_impl_ValidNet d = some (validNet d) := by
  obtain ⟨xs⟩ := d
  have hs : Small xs := hs
  unfold m_impl_ValidNet
  rw [p_areAgents xs hs.ports', Option.bind_some]
  cases hag : agentsOk xs with
  | false =>
    rw [cond_false]
    cases hv : validNet ⟨xs⟩ with
    | false => rfl
    | true => rw [agentsOk_iff.2 (validNet_iff.1 hv).1] at hag; cases hag
  | true =>
    rw [cond_true, p_ports _ hs, Option.bind_some]
    have hc := p_contains_port (allPorts xs) (fun x0 => m_impl_ValidNet_1 x0 ⟨xs⟩) (badPort xs) (fun p hp => by
      obtain ⟨j, x, k, h1, h2, rfl⟩ := mem_portsFrom.1 hp
      have hh := hasPort_of h1 h2
      simp only [Nat.zero_add]
      exact p_valid1 hh)
    rw [hc, Option.bind_some]
    congr 1
    rw [Bool.eq_iff_iff, validNet_iff, Bool.not_eq_true', any_allPorts]
    exact ⟨fun h => ⟨agentsOk_iff.1 hag, h⟩, fun h => h.2⟩
end
section
open Go.RowKit
set_option linter.unusedVariables false
set_option linter.unusedSimpArgs false
theorem portsOf_kind {k f : Int} (h : 0 < portsOf k f) : 1 ≤ k ∧ k ≤ 12 := by
  unfold portsOf at h
  split at h
  · omega
  · split at h
    · omega
    · split at h
      · omega
      · split at h
        · omega
        · split at h <;> omega
structure Good (xs : List DAgent) : Prop where
  one : 1 ≤ xs.length
  len : xs.length ≤ 600
  ok : ∀ (i : Nat) (x : DAgent), xs[i]? = some x → agentOk x = true
  root : ∀ (i : Nat) (x : DAgent), xs[i]? = some x → (x.kind = 1 ↔ i = 0)
  ports : PortsOk xs
theorem good {d : DNet} (h : validNet d = true) : Good d.agents := by
  obtain ⟨⟨h1, h2, h3⟩, h4⟩ := validNet_iff.1 h
  exact ⟨h1, h2, fun i x hx => (h3 i x hx).1, fun i x hx => by have := (h3 i x hx).2; simpa using this, h4⟩
theorem agentOk_pos {x : DAgent} (h : agentOk x = true) : 0 < x.ports.length ∧ 1 ≤ x.kind ∧ x.kind ≤ 12 := by
  unfold agentOk at h
  simp only [Bool.and_eq_true, decide_eq_true_eq] at h
  have := portsOf_kind h.1.1.1
  omega
theorem Good.pos {xs : List DAgent} (G : Good xs) {i : Nat} {x : DAgent} (hx : xs[i]? = some x) : 0 < x.ports.length := (agentOk_pos (G.ok i x hx)).1
def before (p q : DPort) : Bool := decide (p.agent < q.agent) || (p.agent == q.agent && decide (p.slot < q.slot))
end
section
open Go.RowKit
set_option linter.unusedVariables false
set_option linter.unusedSimpArgs false
inductive OT where
  | nil | q (i : Nat) (r : OT) | a (i : Nat) (r : OT) | two (i : Nat) (r1 : OT) (j : Nat) (r2 : OT)
def OT.len : OT → Nat
  | .nil => 0
  | .q _ r => r.len + 1
  | .a _ r => r.len + 1
  | .two _ r1 _ _ => r1.len + 1
section
variable {P : Program} {ops : Array Oper} {S : World → Prop}
def ActAt (P : Program) (ops : Array Oper) (K : (Nat → Value) → World → Prop) (i : Nat) (f : Nat → Value) (w : World) : Prop :=
  match ops[i]? with
  | none => False
  | some o => (wantF f ops o = true ∧ OpX P (fun v w' => K (upo f o.dst v) w') ((execOp (ev f) o).run P w)) ∨ (wantF f ops o = false ∧ K (upo f o.dst undef) w)
def RT (P : Program) (ops : Array Oper) (S : World → Prop) (Q : (Nat → Value) → World → Prop) : OT → (Nat → Value) → World → Prop
  | .nil, f, w => Q f w
  | .q i r, f, w => match ops[i]? with
    | none => False
    | some o => ∃ v, ((wantF f ops o = true ∧ ∀ w, S w → (execOp (ev f) o).run P w = .ok (.value v) w) ∨ (wantF f ops o = false ∧ v = undef)) ∧ RT P ops S Q r (upo f o.dst v) w
  | .a i r, f, w => ActAt P ops (fun f' w' => S w' ∧ RT P ops S Q r f' w') i f w
  | .two i r1 j r2, f, w => ActAt P ops (fun f' w' => S w' ∧ RT P ops S Q r1 f' w') i f w ∧ ActAt P ops (fun f' w' => S w' ∧ RT P ops S Q r2 f' w') j f w
variable {Q : (Nat → Value) → World → Prop} {rest r2 : OT} {f : Nat → Value} {w : World} {i j : Nat} {o o2 : Oper}
theorem RT.y {v : Value} (ho : ops[i]? = some o) (hg : wantF f ops o = true) (hy : Y P S f o v) (h : RT P ops S Q rest (upo f o.dst v) w) : RT P ops S Q (.q i rest) f w := by
  unfold RT; rw [ho]; exact ⟨v, .inl ⟨hg, hy⟩, h⟩
theorem RT.skip (ho : ops[i]? = some o) (hg : wantF f ops o = false) (h : RT P ops S Q rest (upo f o.dst undef) w) : RT P ops S Q (.q i rest) f w := by
  unfold RT; rw [ho]; exact ⟨undef, .inr ⟨hg, rfl⟩, h⟩
theorem ActAt.of {K : (Nat → Value) → World → Prop} (ho : ops[i]? = some o) (h : RL P ops K [o] f w) : ActAt P ops K i f w := by
  unfold ActAt
  rw [ho]
  unfold RL at h
  exact h
end
end
section
open Go.RowKit
set_option linter.unusedVariables false
set_option linter.unusedSimpArgs false
/-- A loop that seeks the first element with q. -/
theorem findI {α ρ : Type} {L : Nat → Int → Option ρ} {d : List α} {q : α → Bool} {hit : Nat → Option ρ} {K : Option ρ} (h : ∀ g (k : Nat) x, d[k]? = some x → L (g + 1) (k : Int) = if q x then hit k else L g ((k : Int) + 1)) (he : ∀ g, L (g + 1) (d.length : Int) = K) (g : Nat) (hg : d.length < g) :
    L g 0 = match d.findIdx? q with | some i => hit i | none => K := by
  cases hf : d.findIdx? q with
  | none =>
    refine trajI (n := d.length) (fun g k hk => ?_) he g hg
    have hx := List.getElem?_eq_getElem hk
    have := List.findIdx?_eq_none_iff.1 hf d[k] (List.getElem_mem hk)
    rw [h g k _ hx, this]; simp
  | some i =>
    obtain ⟨hi, h1, h2⟩ := List.findIdx?_eq_some_iff_getElem.1 hf
    refine trajI (n := i) (fun g k hk => ?_) (fun g => ?_) g (by omega)
    · have hkl : k < d.length := by omega
      have hx := List.getElem?_eq_getElem hkl
      have := h2 k hk
      rw [h g k _ hx]; simp [this]
    · rw [h g i _ (List.getElem?_eq_getElem hi), h1]; simp
end
section
open Go.RowKit Go.Maps
set_option linter.unusedVariables false
set_option linter.unusedSimpArgs false
set_option linter.unusedSectionVars false
/-- A map as data: how often it was written, and what it holds. -/
structure MapM (κ β : Type) where
  n : Nat
  get : κ → Option β
section
variable {κ β : Type}
def MapM.empty : MapM κ β := ⟨0, fun _ => none⟩
def MapM.put [DecidableEq κ] (m : MapM κ β) (x : κ) (v : β) : MapM κ β := ⟨m.n + 1, fun y => if y = x then some v else m.get y⟩
def rdVal (v : Value) : Option (DataW Value × List MemPlace) := some (.held v, [])
/-- A map type: its keys, its elements' zero value. -/
structure MapT (P : Program) (t k : TypeId) (key : κ → Value) (lit : κ → Lit) (good : κ → Prop) (z : Value) : Prop where
  keyed : Keyed P k
  ty : ∃ e, P.underlying t = some (.map k e) ∧ ∀ w, (zeroValue e).run P w = .ok z w
  of : ∀ x, good x → keyOf P k (key x) = some (lit x)
  inj : ∀ x y, lit x = lit y → x = y
def OwM (P : Program) (k : TypeId) (lit : κ → Lit) (enc : β → Value) (w : World) (lo b : Nat) (m : MapM κ β) : Prop :=
  lo ≤ b ∧ ∃ D, w.ownsMap P k rdVal b m.n D ∧ ∀ x zd, D.atKey (lit x) zd = match m.get x with | some v => .held (enc v) | none => zd
variable {P : Program} {t k : TypeId} {key : κ → Value} {lit : κ → Lit} {good : κ → Prop} {z : Value} {enc : β → Value} {w w' : World} {lo b : Nat} {m : MapM κ β}
theorem OwM.lt (h : OwM P k lit enc w lo b m) : b < w.heap.size := by obtain ⟨_, D, h, _⟩ := h; exact h.lt
theorem OwM.keep (h : OwM P k lit enc w lo b m) (hb : w'.heap[b]? = w.heap[b]?) : OwM P k lit enc w' lo b m := by
  obtain ⟨h0, D, ⟨es, clock, h1, F, hs, hD⟩, h2⟩ := h
  exact ⟨h0, D, ⟨es, clock, hb.trans h1, F, hs, hD⟩, h2⟩
theorem OwM.below (h : OwM P k lit enc w lo b m) (hb : Below w.heap.size w w') : OwM P k lit enc w' lo b m := h.keep (hb.block b h.lt)
theorem OwM.only {bs : List Nat} (h : OwM P k lit enc w lo b m) (ho : Only bs w w') (hn : b ∉ bs) : OwM P k lit enc w' lo b m := h.keep (ho.block b hn)
theorem OwM.new : OwM P k lit enc (w.alloc (.map #[] 0)) w.heap.size w.heap.size (MapM.empty : MapM κ β) :=
  ⟨Nat.le_refl _, .map [], World.ownsMap_made w P k rdVal, fun x zd => rfl⟩
theorem OwM.set [DecidableEq κ] {v : β} (h : OwM P k lit enc w lo b m) (T : MapT P t k key lit good z) {x : κ} (hx : good x) (hn : m.n ≤ 4294967296) :
    ∃ w', (Instr.mapUpdate t (.map (some b)) (key x) (enc v)).run P w = .ok () w' ∧ OwM P k lit enc w' lo b (m.put x v) ∧ Only [b] w w' := by
  obtain ⟨h0, D, h1, h2⟩ := h
  obtain ⟨e, ht, hz⟩ := T.ty
  obtain ⟨w', hr, h3, h4⟩ := h1.store T.keyed ht (by unfold maxLen; omega) (T.of x hx) (d := .held (enc v)) (ps := []) rfl
  refine ⟨w', hr, ⟨h0, _, h3, fun y zd => ?_⟩, ?_⟩
  · unfold MapM.put
    by_cases hy : y = x
    · subst hy
      simp only [if_true]
      exact atKey_put_same h1.isMap (T.keyed.key (T.of y hx)) _ _
    · simp only [if_neg hy]
      rw [atKey_put_other (fun e => hy (T.inj _ _ e))]
      exact h2 y zd
  · obtain ⟨es, clock, es', clock', hb, rfl⟩ := h4
    refine ⟨rfl, rfl, rfl, by simp [ChangeMaps.setBlock], fun j hj => ?_⟩
    exact ChangeMaps.heap_setBlock_other hb _ (by simpa using hj)
end
section
variable {κ β : Type} [DecidableEq κ] {P : Program} {t k : TypeId} {key : κ → Value} {lit : κ → Lit} {good : κ → Prop} {enc : β → Value} {w : World} {lo b : Nat} {m : MapM κ β}
variable {C : World → Prop} {f : Nat → Value} {d : Option Tmp} {ty : TypeId} {pos : String} {af : Array Edge} {g : Option (Nat × Bool)} {x y u : Operand} {ops : Array Oper} {rest : List Oper} {Q : (Nat → Value) → World → Prop}
end
end
section
open Go.RowKit
set_option linter.unusedVariables false
set_option linter.unusedSimpArgs false
theorem php : ∀ (n : Nat) (l : List Nat), l.Nodup → (∀ x ∈ l, x < n) → l.length ≤ n
  | 0, l, _, h => by
    cases l with
    | nil => simp
    | cons x l => have := h x (by simp); omega
  | n + 1, l, hn, h => by
    by_cases hm : n ∈ l
    · have h1 := php n (l.erase n) (hn.erase n) (fun x hx => by
        have h2 := (hn.mem_erase_iff).1 hx
        have := h x h2.2
        have := h2.1
        omega)
      have := List.length_erase_of_mem hm
      omega
    · have := php n l hn (fun x hx => by
        have h1 := h x hx
        have : x ≠ n := fun e => hm (by rw [← e]; exact hx)
        omega)
      omega
theorem Good.zero {xs : List DAgent} (G : Good xs) {p : DPort} (h : hasPort xs p = true) : hasPort xs ⟨p.agent, 0⟩ = true := by
  obtain ⟨i, k, x, rfl, hx, hk, _⟩ := hasPort_at h
  exact hasPort_of (k := 0) hx (G.pos hx)
end
section
open Go.RowKit
set_option linter.unusedVariables false
set_option linter.unusedSimpArgs false
structure GL (n : Nat) (l : List Int) : Prop where
  nd : l.Nodup
  inr : ∀ a ∈ l, 0 ≤ a ∧ a < n
theorem GL.len {n : Nat} {l : List Int} (h : GL n l) : l.length ≤ n := by
  have := php n (l.map Int.toNat) (by
    rw [List.nodup_iff_pairwise_ne, List.pairwise_map]
    refine (List.nodup_iff_pairwise_ne.1 h.nd).imp_of_mem ?_
    intro a b ha hb hab e
    have := h.inr a ha; have := h.inr b hb
    exact hab (by omega)) (fun x hx => by
    obtain ⟨a, ha, rfl⟩ := List.mem_map.1 hx
    have := h.inr a ha
    omega)
  simpa using this
theorem GL.add {n : Nat} {l : List Int} (h : GL n l) {a : Int} (h0 : 0 ≤ a) (h1 : a < n) (hn : a ∉ l) : GL n (l ++ [a]) :=
  ⟨List.nodup_append.2 ⟨h.nd, by simp, fun x hx y hy e => by simp at hy; subst hy; subst e; exact hn hx⟩, fun x hx => by
    rcases List.mem_append.1 hx with h2 | h2
    · exact h.inr x h2
    · simp at h2; subst h2; exact ⟨h0, h1⟩⟩
end
section
open Go.RowKit
set_option linter.unusedVariables false
set_option linter.unusedSimpArgs false
/-- The block of a slice's row. -/
def fb (v : Value) : List Nat := v.ownBlock.toList
/-- Two lists of blocks lie apart. -/
def Ap (l m : List Nat) : Prop := ∀ b ∈ l, b ∉ m
section
variable {l m x l' l2 : List Nat} {k g : Nat} {v u v' : Value}
theorem mem_fb {b : Nat} : b ∈ fb v ↔ v.ownBlock = some b := by simp [fb]
theorem Ap.symm (h : Ap l m) : Ap m l := fun b h1 h2 => h b h2 h1
theorem Ap.nil : Ap [] m := fun b h => by simp at h
theorem Ap.new (h1 : ∀ b ∈ l, k ≤ b) (h2 : ∀ b ∈ x, b < k) : Ap l x := fun b h h' => by have := h1 b h; have := h2 b h'; omega
theorem Ap.one (h : Ap l [g]) : g ∉ l := fun hg => h g hg (by simp)
theorem Ap.far (h : ∀ b ∈ l, b < g) : Ap l [g] := fun b hb h' => by simp at h'; subst h'; exact absurd (h b hb) (Nat.lt_irrefl _)
theorem Ap.cons (h1 : Ap [g] x) (h2 : Ap l x) : Ap (g :: l) x := fun b hb h' => by
  rcases List.mem_cons.1 hb with rfl | hb
  · exact h1 b (by simp) h'
  · exact h2 b hb h'
theorem Ap.append (h1 : Ap l x) (h2 : Ap m x) : Ap (l ++ m) x := fun b hb h' => by
  rcases List.mem_append.1 hb with hb | hb
  · exact h1 b hb h'
  · exact h2 b hb h'
theorem Ap.dj (h : Ap (fb v) (fb u)) : Dj v u := fun b h1 h2 => h b (mem_fb.2 h1) (mem_fb.2 h2)
end
/-- Elements one behind the other, with what they own. -/
def Parts {α : Type} (O : Ow α) (w : World) : List Value → List α → List Nat → Prop
  | cells, [], ib => cells = [] ∧ ib = []
  | cells, x :: xs, ib => ∃ cs rest b1 b2, cells = cs ++ rest ∧ O w cs x b1 ∧ ib = b1 ++ b2 ∧ Parts O w rest xs b2
/-- A slice of the call's own: its row from block lo on, its elements' blocks (no two alike, none the row's), all among bs. -/
def OwN {α : Type} (e : TypeId) (O : Ow α) (sz : Nat) (w : World) (lo : Nat) (v : Value) (xs : List α) (bs : List Nat) : Prop :=
  ∃ cells ib, w.ownsRow lo e sz v xs.length cells ∧ Parts O w cells xs ib ∧ ib.Nodup ∧ (∀ b ∈ ib, b ∈ bs) ∧ (∀ b, v.ownBlock = some b → b ∈ bs ∧ b ∉ ib) ∧ (∀ b ∈ bs, lo ≤ b ∧ b < w.heap.size)
section
variable {α : Type} {O : Ow α} {R : Rd α} {sz : Nat} {w w' : World} {lo lo' : Nat} {v : Value} {xs ys : List α} {x : α} {bs : List Nat} {e : TypeId}
theorem Parts.keep (ok : OwOk O sz) : ∀ {xs : List α} {cells : List Value} {ib : List Nat}, (∀ b ∈ ib, w'.heap[b]? = w.heap[b]?) → Parts O w cells xs ib → Parts O w' cells xs ib
  | [], _, _, _, h => h
  | x :: xs, _, _, hb, ⟨cs, rest, b1, b2, e1, hO, e2, hr⟩ => by
    subst e1 e2
    exact ⟨cs, rest, b1, b2, rfl, ok.keep (fun b h => hb b (by simp [h])) hO, rfl, Parts.keep ok (fun b h => hb b (by simp [h])) hr⟩
theorem Parts.append : ∀ {xs ys : List α} {c1 c2 : List Value} {i1 i2 : List Nat}, Parts O w c1 xs i1 → Parts O w c2 ys i2 → Parts O w (c1 ++ c2) (xs ++ ys) (i1 ++ i2)
  | [], _, _, _, _, _, ⟨e1, e2⟩, h2 => by subst e1 e2; exact h2
  | x :: xs, _, _, _, _, _, ⟨cs, rest, b1, b2, e1, hO, e2, hr⟩, h2 => by
    subst e1 e2
    exact ⟨cs, _, b1, _, by rw [List.append_assoc], hO, by rw [List.append_assoc], Parts.append hr h2⟩
theorem Parts.one {cs : List Value} {b : List Nat} (h : O w cs x b) : Parts O w cs [x] b := ⟨cs, [], b, [], by simp, h, by simp, rfl, rfl⟩
theorem Parts.len (ok : OwOk O sz) : ∀ {xs : List α} {cells : List Value} {ib : List Nat}, Parts O w cells xs ib → cells.length = xs.length * sz
  | [], _, _, ⟨e, _⟩ => by rw [e]; simp
  | x :: xs, _, _, ⟨cs, rest, b1, b2, e1, hO, e2, hr⟩ => by
    subst e1
    rw [List.length_append, ok.len hO, Parts.len ok hr, List.length_cons, Nat.add_mul]; omega
theorem Parts.elAt (ok : OwOk O sz) {g : Nat} {cur : Array Value} (hb : Blk w g e cur) : ∀ {xs : List α} {cells : List Value} {ib : List Nat} (o : Nat), (∀ (j : Nat) (u : Value), cells[j]? = some u → cur[o + j]? = some u) → Parts O w cells xs ib → ElAt O sz w g o xs ib
  | [], _, _, o, _, ⟨_, e⟩ => e
  | x :: xs, _, _, o, hc, ⟨cs, rest, b1, b2, e1, hO, e2, hr⟩ => by
    subst e1 e2
    have hl := ok.len hO
    refine ⟨cs, b1, b2, hO, hb.csAt (fun j u hj => hc j u ?_), rfl, Parts.elAt ok hb (o + sz) (fun j u hj => ?_) hr⟩
    · rw [List.getElem?_append_left (lt_of_some hj)]; exact hj
    · have := hc (sz + j) u (by rw [List.getElem?_append_right (by omega), hl, show sz + j - sz = j by omega]; exact hj)
      rwa [show o + (sz + j) = o + sz + j by omega] at this
/-- One element of many. -/
theorem Parts.split (ok : OwOk O sz) : ∀ {xs : List α} {cells : List Value} {ib : List Nat} {k : Nat} {x : α}, Parts O w cells xs ib → xs[k]? = some x →
    ∃ c1 cs c2 i1 b1 i2, cells = c1 ++ cs ++ c2 ∧ c1.length = k * sz ∧ O w cs x b1 ∧ ib = i1 ++ (b1 ++ i2) ∧ ∀ w' cs' x' b1', (∀ b ∈ i1 ++ i2, w'.heap[b]? = w.heap[b]?) → O w' cs' x' b1' → Parts O w' (c1 ++ cs' ++ c2) (xs.set k x') (i1 ++ (b1' ++ i2))
  | [], _, _, _, _, _, h => by simp at h
  | y :: ys, _, _, 0, x, ⟨cs, rest, b1, b2, e1, hO, e2, hr⟩, h => by
    have : y = x := by simpa using h
    subst this
    subst e1 e2
    exact ⟨[], cs, rest, [], b1, b2, by simp, by simp, hO, by simp, fun w' cs' x' b1' hb hO' => ⟨cs', rest, b1', b2, by simp, hO', by simp, Parts.keep ok (fun b h => hb b (by simp [h])) hr⟩⟩
  | y :: ys, _, _, k + 1, x, ⟨cs, rest, b1, b2, e1, hO, e2, hr⟩, h => by
    subst e1 e2
    obtain ⟨c1, cs2, c2, i1, b3, i2, f1, f2, f3, f4, f5⟩ := Parts.split ok hr (by simpa using h)
    subst f1 f4
    refine ⟨cs ++ c1, cs2, c2, b1 ++ i1, b3, i2, by simp, by rw [List.length_append, ok.len hO, f2, Nat.add_mul]; omega, f3, by simp, fun w' cs' x' b1' hb hO' => ?_⟩
    refine ⟨cs, _, b1, _, by simp [List.append_assoc], ok.keep (fun b h => hb b (by simp [h])) hO, by simp [List.append_assoc], f5 w' cs' x' b1' (fun b h => hb b (by simp at h ⊢; rcases h with h | h <;> simp [h])) hO'⟩
theorem OwN.keep (ok : OwOk O sz) (h : OwN e O sz w lo v xs bs) (hk : ∀ b ∈ bs, w'.heap[b]? = w.heap[b]?) (hs : w.heap.size ≤ w'.heap.size) : OwN e O sz w' lo v xs bs := by
  obtain ⟨cells, ib, h1, h2, h3, h4, h5, h6⟩ := h
  refine ⟨cells, ib, ?_, h2.keep ok (fun b hb => hk b (h4 b hb)), h3, h4, h5, fun b hb => by have := h6 b hb; omega⟩
  refine ⟨h1.1, ?_⟩
  rcases h1.2 with h | ⟨g, cap, cur, hv, hg, hh, r⟩
  · exact .inl h
  · exact .inr ⟨g, cap, cur, hv, hg, (hk g (h5 g (by rw [hv]; rfl)).1).trans hh, r⟩
theorem OwN.hi (h : OwN e O sz w lo v xs bs) : ∀ b ∈ bs, b < w.heap.size := by obtain ⟨cells, ib, h1, h2, h3, h4, h5, h6⟩ := h; exact fun b hb => (h6 b hb).2
theorem OwN.lo_ (h : OwN e O sz w lo v xs bs) : ∀ b ∈ bs, lo ≤ b := by obtain ⟨cells, ib, h1, h2, h3, h4, h5, h6⟩ := h; exact fun b hb => (h6 b hb).1
theorem OwN.row (h : OwN e O sz w lo v xs bs) {b : Nat} (hb : v.ownBlock = some b) : b ∈ bs := by obtain ⟨cells, ib, h1, h2, h3, h4, h5, h6⟩ := h; exact (h5 b hb).1
theorem OwN.below (ok : OwOk O sz) (h : OwN e O sz w lo v xs bs) (hb : Below w.heap.size w w') : OwN e O sz w' lo v xs bs := h.keep ok (fun b hin => hb.block b (h.hi b hin)) hb.size
theorem OwN.only {b : Nat} (ok : OwOk O sz) (h : OwN e O sz w lo v xs bs) (ho : Only [b] w w') (hn : b ∉ bs) : OwN e O sz w' lo v xs bs := h.keep ok (fun k hk => ho.block k (by intro hin; simp at hin; subst hin; exact hn hk)) (Nat.le_of_eq ho.size.symm)
theorem OwN.mono (h : OwN e O sz w lo v xs bs) (hl : lo' ≤ lo) : OwN e O sz w lo' v xs bs := by
  obtain ⟨cells, ib, h1, h2, h3, h4, h5, h6⟩ := h
  refine ⟨cells, ib, ?_, h2, h3, h4, h5, fun b hb => by have := h6 b hb; omega⟩
  refine ⟨h1.1, ?_⟩
  rcases h1.2 with h | ⟨g, cap, cur, hv, hg, r⟩
  · exact .inl h
  · exact .inr ⟨g, cap, cur, hv, by omega, r⟩
theorem OwN.nil : OwN e O sz w lo (.slice none 0 0) ([] : List α) [] := ⟨[], [], ⟨by simp, .inl ⟨rfl, rfl⟩⟩, ⟨rfl, rfl⟩, List.nodup_nil, fun b hb => by simp at hb, fun b hb => by simp [Value.ownBlock] at hb, fun b hb => by simp at hb⟩
theorem OwN.own1 (ok : OwOk O sz) (h : OwN e O sz w lo v xs bs) : ∃ A n c l, v = .slice A n c ∧ OwAt O sz w A n xs l ∧ l.Nodup ∧ (∀ b ∈ l, b ∈ bs) ∧ n ≤ c ∧ c ≤ maxLen := by
  obtain ⟨cells, ib, h1, h2, h3, h4, h5, h6⟩ := h
  rcases h1.2 with ⟨rfl, h0⟩ | ⟨g, cap, cur, rfl, hg, hh, k1, k2, k3, k4⟩
  · have : xs = [] := List.eq_nil_of_length_eq_zero h0
    subst this
    exact ⟨none, 0, 0, [], rfl, ⟨rfl, .inl ⟨rfl, rfl⟩⟩, List.nodup_nil, fun b hb => by simp at hb, Nat.le_refl _, Nat.zero_le _⟩
  · obtain ⟨hg1, hg2⟩ := h5 g rfl
    refine ⟨some ⟨g, 0, none⟩, _, cap, g :: ib, rfl, ⟨rfl, .inr ⟨g, 0, ib, rfl, rfl, ?_⟩⟩, List.nodup_cons.2 ⟨hg2, h3⟩, fun b hb => by
      rcases List.mem_cons.1 hb with rfl | hb
      · exact hg1
      · exact h4 b hb, k1, k2⟩
    refine h2.elAt (e := e) ok (cur := cur) hh 0 (fun j u hj => ?_)
    rw [← k4, List.getElem?_take] at hj
    split at hj
    · simpa using hj
    · cases hj
theorem OwN.own (ok : OwOk O sz) (h : OwN e O sz w lo v xs bs) : OwS O sz w v xs lo w.heap.size := by
  obtain ⟨A, n, c, l, e1, h1, h2, h3, r⟩ := h.own1 ok
  exact ⟨A, n, c, l, e1, h1, h2, fun b hb => ⟨h.lo_ b (h3 b hb), h.hi b (h3 b hb)⟩, r⟩
end
section
variable {α : Type} {R : Rd α} {O : Ow α} {enc : α → List Value} {sz : Nat} {w w' : World} {lo lo' : Nat} {v : Value} {xs ys : List α} {e : TypeId}
variable {O' : Ow α} {bs : List Nat} {u : Value}
/-- Another slice of the call's own, while the row of v grows or is written. -/
theorem OwN.dj (h : OwN e O' sz w lo v xs bs) (A : Ap bs (fb u)) : Dj u v := fun b h1 h2 => A b (h.row h2) (mem_fb.2 h1)
end
end
section
open Go.RowKit
set_option linter.unusedVariables false
set_option linter.unusedSimpArgs false
set_option maxRecDepth 100000
def m_spec_l13Book_A1 : Option Bool :=
  some true
def m_spec_l13Book_B1 (d0 : List DNet) (rec1 : Int → Option Bool) (K1 : Option Bool) (i3 : Int) : Option Bool :=
  (bif (decide (i3 < (d0.length : Int))) then ((getI d0 i3).bind fun x6 => ((m_spec_l11Ok x6).bind fun y16 => (bif y16 then (rec1 (i3 + 1)) else some false))) else (K1))
def m_spec_l13Book_L1 (d0 : List DNet) (K1 : Option Bool) : Nat → Int → Option Bool
  | 0, _ => none
  | g + 1, i3 => m_spec_l13Book_B1 d0 (m_spec_l13Book_L1 d0 K1 g) K1 i3
def m_spec_l13Book (d0 : List DNet) : Option Bool :=
  (bif (decide ((d0.length : Int) > 24)) then some false else (m_spec_l13Book_L1 d0 m_spec_l13Book_A1 (d0.length + 1) 0))
set_option maxHeartbeats 2000000 in
theorem c_m_spec_l13Book (d0 : List DNet) (r : Bool) (hm : m_spec_l13Book d0 = some r) (v0 : Value) (w : World) (hv0 : Sl netRd 1 w v0 d0) :
    Calls Try.prog 102 #[v0] w fun e w' => e = .returned (.bool r) ∧ Below w.heap.size w w' := by
  obtain ⟨Aa0, na0, ca0, rfl, ha0, ra0⟩ := hv0
  have ea0 := ha0.len; subst ea0
  have qa0 := len_le ra0
  have T := Below.refl w.heap.size w
  unfold m_spec_l13Book at hm
  refine enter 18 Try.func102 rfl rfl rfl ?_
  intro f hf
  have s0 : f 0 = .slice Aa0 d0.length ca0 := hf 0 _ rfl
  refine wp_seq ?_
  refine wp_rs rfl ?_
  refine RQ.y rfl (Y.assign (v := .bool false) rfl) ?_
  refine RQ.nil ?_
  refine then_n ?_
  refine wp_seq ?_
  refine wp_seq ?_
  refine wp_rs rfl ?_
  refine RQ.y rfl (Y.move (v := .slice Aa0 d0.length ca0) s0) ?_
  refine RQ.y rfl (Y.len (by kernel_rfl) rfl) ?_
  refine RQ.y rfl (Y.binI (v := .bool (decide ((d0.length : Int) > 24))) rfl rfl rfl) ?_
  refine RQ.nil ?_
  refine then_n ?_
  rcases bcases (decide ((d0.length : Int) > 24)) with c1 | c1
  · replace hm := cF c1 hm
    have pc1 := of_decide_eq_false c1
    refine cond_f rfl (vb rfl c1) ?_
    refine wp_skip ?_
    refine then_n ?_
    refine wp_seq ?_
    refine wp_seq ?_
    refine wp_rs rfl ?_
    refine RQ.y rfl (Y.assign (v := .int .i64 0) rfl) ?_
    refine RQ.nil ?_
    refine then_n ?_
    refine wp_block ?_
    obtain ⟨K1, hK1, hm⟩ : ∃ K, K = m_spec_l13Book_A1 ∧ m_spec_l13Book_L1 d0 K (d0.length + 1) 0 = some r := ⟨_, rfl, hm⟩
    refine wp_loopX (fun g f w' => ∃ (i3 : Int), f 0 = .slice Aa0 d0.length ca0 ∧ f 3 = .int .i64 i3 ∧ 0 ≤ i3 ∧ Below w.heap.size w w' ∧ m_spec_l13Book_L1 d0 K1 g i3 = some r) 0 (fun f w' => Below w.heap.size w w' ∧ m_spec_l13Book_A1  = some r) (d0.length + 1) ⟨0, s0, rfl, (by omega), T, hm⟩ ?_ ?_
    · rintro f w2 ⟨T, hm⟩
      unfold m_spec_l13Book_A1 at hm
      refine blk_hit (then_n ?_)
      refine wp_seq ?_
      refine wp_rs rfl ?_
      refine RQ.y rfl (Y.assign (v := .bool true) rfl) ?_
      refine RQ.nil ?_
      refine then_n ?_
      refine wp_ret ?_
      obtain rfl := Option.some.inj hm
      exact (ret1 rfl rfl rfl ⟨rfl, T⟩)
    · rintro g f w4 ⟨i3, s0_1, s3_1, nn3_1, T, hm⟩
      rcases g with _ | g
      · simp only [m_spec_l13Book_L1] at hm; cases hm
      obtain ⟨rec1, hrec1, hm⟩ : ∃ z, z = m_spec_l13Book_L1 d0 K1 g ∧ m_spec_l13Book_B1 d0 z K1 i3 = some r := ⟨_, rfl, hm⟩
      unfold m_spec_l13Book_B1 at hm
      refine wp_seq ?_
      refine wp_seq ?_
      refine wp_rs rfl ?_
      refine RQ.y rfl (Y.move (v := .int .i64 i3) s3_1) ?_
      refine RQ.y rfl (Y.move (v := .slice Aa0 d0.length ca0) s0_1) ?_
      refine RQ.y rfl (Y.len (by kernel_rfl) rfl) ?_
      refine RQ.y rfl (Y.binI (v := .bool (decide (i3 < (d0.length : Int)))) rfl rfl rfl) ?_
      refine RQ.nil ?_
      refine then_n ?_
      rcases bcases (decide (i3 < (d0.length : Int))) with c5 | c5
      · replace hm := cF c5 hm
        have pc5 := of_decide_eq_false c5
        refine cond_f rfl (vb rfl c5) ?_
        refine wp_exit ?_
        exact (then_x (then_x (hit_x ⟨_, rfl, ⟨T, (by rw [hK1] at hm; exact hm)⟩⟩)))
      · replace hm := cT c5 hm
        have pc5 := of_decide_eq_true c5
        refine cond_t rfl (vb rfl c5) ?_
        refine wp_skip ?_
        refine then_n ?_
        refine wp_seq ?_
        refine wp_block ?_
        refine wp_seq ?_
        refine wp_rb rfl ?_
        refine RQ.y rfl (Y.move (v := .slice Aa0 d0.length ca0) s0_1) ?_
        refine RQ.y rfl (Y.move (v := .int .i64 i3) s3_1) ?_
        obtain ⟨x6, hx9, hm⟩ := bnd hm
        obtain ⟨k7, hk10, hl11, hx9⟩ := getI_some hx9
        obtain ⟨b13, o14, rfl, hbb13⟩ := ha0.addr (by omega)
        obtain ⟨cs8, hRcs8, hc12⟩ := ha0.el hx9
        have hScs8 := hRcs8
        obtain ⟨A15, n15, c15, rfl, ⟨h15, r15⟩⟩ := hRcs8
        have e15 := h15.len; subst e15
        have q15 := len_le r15
        refine RQ.y rfl (Y.indexAddr (m := k7) (sz := 1) rfl rfl hk10 hl11 (by kernel_rfl)) ?_
        obtain ⟨y16, e17, hm⟩ := bnd hm
        refine RQ.call rfl (am1 rfl) (by kernel_rfl) (v := .bool y16) (bel (K := fun _ => True) fun w' hb' => (c_m_spec_l11Ok x6 _ e17 _ w' (ptArg netRd_ok hbb13 hScs8 hc12 (Tt T hb')))) ?_
        refine RQ.y rfl (Y.not (b' := (!y16)) rfl rfl) ?_
        refine RQ.nil ?_
        intro w18 hb19
        have szw18 := hb19.size
        have T := Tt T hb19
        refine then_n ?_
        rcases bcases y16 with c20 | c20
        · replace hm := cF c20 hm
          refine cond_t rfl (vbn rfl c20 rfl) ?_
          refine wp_seq ?_
          refine wp_rs rfl ?_
          refine RQ.y rfl (Y.assign (v := .bool false) rfl) ?_
          refine RQ.nil ?_
          refine then_n ?_
          refine wp_ret ?_
          obtain rfl := Option.some.inj hm
          exact (blk_r (then_r (then_r (hit_r (blk_r (then_r (ret1 rfl rfl rfl ⟨rfl, T⟩)))))))
        · replace hm := cT c20 hm
          refine cond_f rfl (vbn rfl c20 rfl) ?_
          refine wp_skip ?_
          refine blk_n (then_n ?_)
          refine wp_rs rfl ?_
          refine RQ.y rfl (Y.move (v := .int .i64 i3) s3_1) ?_
          refine RQ.y rfl (Y.binI rfl rfl (binI_add (m := i3) (by omega))) ?_
          refine RQ.y rfl (Y.assign (v := .int .i64 (i3 + 1)) rfl) ?_
          refine RQ.nil ?_
          exact (then_n ⟨g, _, Nat.lt_succ_self _, rfl, ⟨(i3 + 1), s0_1, rfl, (by omega), T, (by rw [← hrec1]; exact hm)⟩⟩)
  · replace hm := cT c1 hm
    have pc1 := of_decide_eq_true c1
    refine cond_t rfl (vb rfl c1) ?_
    refine wp_seq ?_
    refine wp_rs rfl ?_
    refine RQ.y rfl (Y.assign (v := .bool false) rfl) ?_
    refine RQ.nil ?_
    refine then_n ?_
    refine wp_ret ?_
    obtain rfl := Option.some.inj hm
    exact (then_r (ret1 rfl rfl rfl ⟨rfl, T⟩))
def m_spec_ValidTemplates (d0 : List DNet) : Option Bool :=
  ((m_spec_l13Book d0).bind fun y1 => some y1)
set_option maxHeartbeats 2000000 in
theorem c_m_spec_ValidTemplates (d0 : List DNet) (r : Bool) (hm : m_spec_ValidTemplates d0 = some r) (v0 : Value) (w : World) (hv0 : Sl netRd 1 w v0 d0) :
    Calls Try.prog 53 #[v0] w fun e w' => e = .returned (.bool r) ∧ Below w.heap.size w w' := by
  obtain ⟨Aa0, na0, ca0, rfl, ha0, ra0⟩ := hv0
  have ea0 := ha0.len; subst ea0
  have qa0 := len_le ra0
  have T := Below.refl w.heap.size w
  unfold m_spec_ValidTemplates at hm
  refine enter 5 Try.func53 rfl rfl rfl ?_
  intro f hf
  have s0 : f 0 = .slice Aa0 d0.length ca0 := hf 0 _ rfl
  refine wp_seq ?_
  refine wp_rs rfl ?_
  refine RQ.y rfl (Y.assign (v := .bool false) rfl) ?_
  refine RQ.nil ?_
  refine then_n ?_
  refine wp_seq ?_
  refine wp_rb rfl ?_
  refine RQ.y rfl (Y.move (v := .slice Aa0 d0.length ca0) s0) ?_
  obtain ⟨y1, e2, hm⟩ := bnd hm
  refine RQ.call rfl (am1 rfl) (by kernel_rfl) (v := .bool y1) (bel (K := fun _ => True) fun w' hb' => (c_m_spec_l13Book d0 _ e2 _ w' (slArg netRd_ok ha0 ra0 (Tt T hb')))) ?_
  refine RQ.y rfl (Y.assign (v := .bool y1) rfl) ?_
  refine RQ.nil ?_
  intro w3 hb4
  have szw3 := hb4.size
  have T := Tt T hb4
  refine then_n ?_
  refine wp_ret ?_
  obtain rfl := Option.some.inj hm
  exact (ret1 rfl rfl rfl ⟨rfl, T⟩)
def m_impl_ValidTemplates_1 (d0 : DNet) : Option Bool :=
  ((m_impl_ValidNet d0).bind fun y6 => some (!y6))
set_option maxHeartbeats 2000000 in
theorem c_m_impl_ValidTemplates_1 (d0 : DNet) (r : Bool) (hm : m_impl_ValidTemplates_1 d0 = some r) (v0 : Value) (w : World) (hv0 : St netRd w v0 d0) :
    Calls Try.prog 104 #[v0] w fun e w' => e = .returned (.bool r) ∧ Below w.heap.size w w' := by
  obtain ⟨csa0, rfl, ⟨A1, n1, c1, rfl, ⟨h1, r1⟩⟩⟩ := hv0
  have e1 := h1.len; subst e1
  have q1 := len_le r1
  have T := Below.refl w.heap.size w
  unfold m_impl_ValidTemplates_1 at hm
  refine enter 6 Try.func104 rfl rfl rfl ?_
  intro f hf
  have s0 : f 0 = .agg #[.slice A1 d0.agents.length c1] := hf 0 _ rfl
  refine wp_seq ?_
  refine wp_rl rfl ?_
  refine RL.box rfl s0 (fun w2 B3 hb4 szw2 => ?_)
  replace B3 : Blk w2 w.heap.size 30 #[.slice A1 d0.agents.length c1] := B3
  have GB3 : w.heap.size ≤ w.heap.size := T.size
  have T := Tt T hb4
  refine RL.y rfl (Y.assign (v := .bool false) rfl) ?_
  refine RL.nil ?_
  refine then_n ?_
  refine wp_seq ?_
  refine wp_rb rfl ?_
  refine RQ.y rfl (Y.loadN (cs := [.slice A1 d0.agents.length c1]) rfl (by kernel_rfl) (cells1 (beC (blkCell B3 (i := 0) rfl)))) ?_
  obtain ⟨y6, e7, hm⟩ := bnd hm
  refine RQ.call rfl (am1 rfl) (by kernel_rfl) (v := .bool y6) (bel (K := fun _ => True) fun w' hb' => (c_m_impl_ValidNet d0 _ e7 _ w' (stArg (R := netRd) ⟨_, _, _, rfl, ⟨SlAt.now agentRd_ok h1 (Nat.le_refl _) (Tt T hb'), r1⟩⟩))) ?_
  refine RQ.y rfl (Y.not (b' := (!y6)) rfl rfl) ?_
  refine RQ.y rfl (Y.assign (v := .bool (!y6)) rfl) ?_
  refine RQ.nil ?_
  intro w8 hb9
  have szw8 := hb9.size
  have T := Tt T hb9
  refine then_n ?_
  refine wp_ret ?_
  obtain rfl := Option.some.inj hm
  exact (ret1 rfl rfl rfl ⟨rfl, T⟩)
def m_slices_IndexFunc_impl_Net_impl_Net_A1 : Option Int :=
  some (-1)
def m_slices_IndexFunc_impl_Net_impl_Net_B1 (d0 : List DNet) (d1 : DNet → Option Bool) (rec1 : Int → Option Int) (K1 : Option Int) (i2 : Int) : Option Int :=
  (bif (decide (i2 < (d0.length : Int))) then ((getI d0 i2).bind fun x5 => ((d1 x5).bind fun y15 => (bif y15 then some i2 else (rec1 (i2 + 1))))) else (K1))
def m_slices_IndexFunc_impl_Net_impl_Net_L1 (d0 : List DNet) (d1 : DNet → Option Bool) (K1 : Option Int) : Nat → Int → Option Int
  | 0, _ => none
  | g + 1, i2 => m_slices_IndexFunc_impl_Net_impl_Net_B1 d0 d1 (m_slices_IndexFunc_impl_Net_impl_Net_L1 d0 d1 K1 g) K1 i2
def m_slices_IndexFunc_impl_Net_impl_Net (d0 : List DNet) (d1 : DNet → Option Bool) : Option Int :=
  (m_slices_IndexFunc_impl_Net_impl_Net_L1 d0 d1 m_slices_IndexFunc_impl_Net_impl_Net_A1 (d0.length + 1) 0)
set_option maxHeartbeats 2000000 in
theorem c_m_slices_IndexFunc_impl_Net_impl_Net (d0 : List DNet) (d1 : DNet → Option Bool) (r : Int) (hm : m_slices_IndexFunc_impl_Net_impl_Net d0 d1 = some r) (v0 : Value) (gf1 : FuncId) (caps1 : Array Value) (w : World) (hv0 : Sl netRd 1 w v0 d0) (hgo1 : isGo Try.prog gf1 = true) (hf1 : ∀ (x0 : DNet) (b : Bool), d1 x0 = some b → ∀ w1, Below w.heap.size w w1 → ∀ y0, St netRd w1 y0 x0 → Calls Try.prog gf1 (#[y0] ++ caps1) w1 fun e w2 => e = .returned (.bool b) ∧ Below w1.heap.size w1 w2) :
    Calls Try.prog 152 #[v0, .func (.func gf1) #[] caps1] w fun e w' => e = .returned (.int .i64 r) ∧ Below w.heap.size w w' := by
  obtain ⟨Aa0, na0, ca0, rfl, ha0, ra0⟩ := hv0
  have ea0 := ha0.len; subst ea0
  have qa0 := len_le ra0
  have T := Below.refl w.heap.size w
  unfold m_slices_IndexFunc_impl_Net_impl_Net at hm
  refine enter 19 Try.func152 rfl rfl rfl ?_
  intro f hf
  have s0 : f 0 = .slice Aa0 d0.length ca0 := hf 0 _ rfl
  have s1 : f 1 = .func (.func gf1) #[] caps1 := hf 1 _ rfl
  refine wp_seq ?_
  refine wp_rs rfl ?_
  refine RQ.y rfl (Y.assign (v := .int .i64 0) rfl) ?_
  refine RQ.nil ?_
  refine then_n ?_
  refine wp_seq ?_
  refine wp_seq ?_
  refine wp_rs rfl ?_
  refine RQ.y rfl (Y.move (v := .slice Aa0 d0.length ca0) s0) ?_
  refine RQ.y rfl (Y.len (by kernel_rfl) rfl) ?_
  refine RQ.y rfl (Y.move (v := .int .i64 0) rfl) ?_
  refine RQ.nil ?_
  refine then_n ?_
  refine wp_block ?_
  obtain ⟨K1, hK1, hm⟩ : ∃ K, K = m_slices_IndexFunc_impl_Net_impl_Net_A1 ∧ m_slices_IndexFunc_impl_Net_impl_Net_L1 d0 d1 K (d0.length + 1) 0 = some r := ⟨_, rfl, hm⟩
  refine wp_loopX (fun g f w' => ∃ (i2 : Int), f 0 = .slice Aa0 d0.length ca0 ∧ f 1 = .func (.func gf1) #[] caps1 ∧ f 7 = .int .i64 (d0.length : Int) ∧ f 8 = .int .i64 i2 ∧ 0 ≤ i2 ∧ Below w.heap.size w w' ∧ m_slices_IndexFunc_impl_Net_impl_Net_L1 d0 d1 K1 g i2 = some r) 0 (fun f w' => Below w.heap.size w w' ∧ m_slices_IndexFunc_impl_Net_impl_Net_A1  = some r) (d0.length + 1) ⟨0, s0, s1, rfl, rfl, (by omega), T, hm⟩ ?_ ?_
  · rintro f w1 ⟨T, hm⟩
    unfold m_slices_IndexFunc_impl_Net_impl_Net_A1 at hm
    refine blk_hit (then_n ?_)
    refine wp_seq ?_
    refine wp_rs rfl ?_
    refine RQ.y rfl (Y.assign (v := .int .i64 (-1)) rfl) ?_
    refine RQ.nil ?_
    refine then_n ?_
    refine wp_ret ?_
    obtain rfl := Option.some.inj hm
    exact (ret1 rfl rfl rfl ⟨rfl, T⟩)
  · rintro g f w3 ⟨i2, s0_1, s1_1, s7_1, s8_1, nn8_1, T, hm⟩
    rcases g with _ | g
    · simp only [m_slices_IndexFunc_impl_Net_impl_Net_L1] at hm; cases hm
    obtain ⟨rec1, hrec1, hm⟩ : ∃ z, z = m_slices_IndexFunc_impl_Net_impl_Net_L1 d0 d1 K1 g ∧ m_slices_IndexFunc_impl_Net_impl_Net_B1 d0 d1 z K1 i2 = some r := ⟨_, rfl, hm⟩
    unfold m_slices_IndexFunc_impl_Net_impl_Net_B1 at hm
    refine wp_seq ?_
    refine wp_rs rfl ?_
    refine RQ.y rfl (Y.binI (v := .bool (decide (i2 < (d0.length : Int)))) s8_1 s7_1 rfl) ?_
    refine RQ.nil ?_
    refine then_n ?_
    refine wp_seq ?_
    rcases bcases (decide (i2 < (d0.length : Int))) with c4 | c4
    · replace hm := cF c4 hm
      have pc4 := of_decide_eq_false c4
      refine cond_f rfl (vb rfl c4) ?_
      refine wp_exit ?_
      exact (then_x (then_x (hit_x ⟨_, rfl, ⟨T, (by rw [hK1] at hm; exact hm)⟩⟩)))
    · replace hm := cT c4 hm
      have pc4 := of_decide_eq_true c4
      refine cond_t rfl (vb rfl c4) ?_
      refine wp_skip ?_
      refine then_n ?_
      refine wp_seq ?_
      refine wp_block ?_
      refine wp_seq ?_
      refine wp_rs rfl ?_
      refine RQ.y rfl (Y.move (v := .int .i64 i2) s8_1) ?_
      refine RQ.y rfl (Y.assign (v := .int .i64 i2) rfl) ?_
      refine RQ.nil ?_
      refine then_n ?_
      refine wp_seq ?_
      refine wp_rb rfl ?_
      refine RQ.y rfl (Y.move (v := .func (.func gf1) #[] caps1) s1_1) ?_
      refine RQ.y rfl (Y.move (v := .slice Aa0 d0.length ca0) s0_1) ?_
      refine RQ.y rfl (Y.move (v := .int .i64 i2) rfl) ?_
      obtain ⟨x5, hx8, hm⟩ := bnd hm
      obtain ⟨k6, hk9, hl10, hx8⟩ := getI_some hx8
      obtain ⟨b12, o13, rfl, hbb12⟩ := ha0.addr (by omega)
      obtain ⟨cs7, hRcs7, hc11⟩ := ha0.el hx8
      have hScs7 := hRcs7
      obtain ⟨A14, n14, c14, rfl, ⟨h14, r14⟩⟩ := hRcs7
      have e14 := h14.len; subst e14
      have q14 := len_le r14
      refine RQ.y rfl (Y.indexAddr (m := k6) (sz := 1) rfl rfl hk9 hl10 (by kernel_rfl)) ?_
      refine RQ.y rfl (Y.loadN (cs := [.slice A14 x5.agents.length c14]) rfl (by kernel_rfl) (cells1 (beC (cellT T (hc11 0 _ rfl))))) ?_
      obtain ⟨y15, e16, hm⟩ := bnd hm
      refine RQ.callV rfl rfl (am1 rfl) hgo1 (v := .bool y15) (bel (K := fun _ => True) fun w' hb' => hf1 x5 y15 e16 w' (Tt T hb') _ (stArg (R := netRd) ⟨_, _, _, rfl, ⟨SlAt.now agentRd_ok h14 (Nat.le_refl _) (Tt T hb'), r14⟩⟩)) ?_
      refine RQ.nil ?_
      intro w17 hb18
      have szw17 := hb18.size
      have T := Tt T hb18
      refine then_n ?_
      rcases bcases y15 with c19 | c19
      · replace hm := cF c19 hm
        refine cond_f rfl (vb rfl c19) ?_
        refine wp_skip ?_
        refine blk_n (then_n ?_)
        refine wp_rs rfl ?_
        refine RQ.y rfl (Y.binI s8_1 rfl (binI_add (m := i2) (by omega))) ?_
        refine RQ.y rfl (Y.move (v := .int .i64 (i2 + 1)) rfl) ?_
        refine RQ.nil ?_
        exact (then_n ⟨g, _, Nat.lt_succ_self _, rfl, ⟨(i2 + 1), s0_1, s1_1, s7_1, rfl, (by omega), T, (by rw [← hrec1]; exact hm)⟩⟩)
      · replace hm := cT c19 hm
        refine cond_t rfl (vb rfl c19) ?_
        refine wp_seq ?_
        refine wp_rs rfl ?_
        refine RQ.y rfl (Y.move (v := .int .i64 i2) rfl) ?_
        refine RQ.y rfl (Y.assign (v := .int .i64 i2) rfl) ?_
        refine RQ.nil ?_
        refine then_n ?_
        refine wp_ret ?_
        obtain rfl := Option.some.inj hm
        exact (blk_r (then_r (then_r (hit_r (blk_r (then_r (ret1 rfl rfl rfl ⟨rfl, T⟩)))))))
def m_slices_ContainsFunc_impl_Net_impl_Net (d0 : List DNet) (d1 : DNet → Option Bool) : Option Bool :=
  ((m_slices_IndexFunc_impl_Net_impl_Net d0 d1).bind fun y1 => some (decide (y1 ≥ 0)))
set_option maxHeartbeats 2000000 in
theorem c_m_slices_ContainsFunc_impl_Net_impl_Net (d0 : List DNet) (d1 : DNet → Option Bool) (r : Bool) (hm : m_slices_ContainsFunc_impl_Net_impl_Net d0 d1 = some r) (v0 : Value) (gf1 : FuncId) (caps1 : Array Value) (w : World) (hv0 : Sl netRd 1 w v0 d0) (hgo1 : isGo Try.prog gf1 = true) (hf1 : ∀ (x0 : DNet) (b : Bool), d1 x0 = some b → ∀ w1, Below w.heap.size w w1 → ∀ y0, St netRd w1 y0 x0 → Calls Try.prog gf1 (#[y0] ++ caps1) w1 fun e w2 => e = .returned (.bool b) ∧ Below w1.heap.size w1 w2) :
    Calls Try.prog 103 #[v0, .func (.func gf1) #[] caps1] w fun e w' => e = .returned (.bool r) ∧ Below w.heap.size w w' := by
  obtain ⟨Aa0, na0, ca0, rfl, ha0, ra0⟩ := hv0
  have ea0 := ha0.len; subst ea0
  have qa0 := len_le ra0
  have T := Below.refl w.heap.size w
  unfold m_slices_ContainsFunc_impl_Net_impl_Net at hm
  refine enter 9 Try.func103 rfl rfl rfl ?_
  intro f hf
  have s0 : f 0 = .slice Aa0 d0.length ca0 := hf 0 _ rfl
  have s1 : f 1 = .func (.func gf1) #[] caps1 := hf 1 _ rfl
  refine wp_seq ?_
  refine wp_rs rfl ?_
  refine RQ.y rfl (Y.assign (v := .bool false) rfl) ?_
  refine RQ.nil ?_
  refine then_n ?_
  refine wp_seq ?_
  refine wp_rb rfl ?_
  refine RQ.y rfl (Y.move (v := .slice Aa0 d0.length ca0) s0) ?_
  refine RQ.y rfl (Y.move (v := .func (.func gf1) #[] caps1) s1) ?_
  obtain ⟨y1, e2, hm⟩ := bnd hm
  refine RQ.call rfl (am2 rfl rfl) (by kernel_rfl) (v := .int .i64 y1) (bel (K := fun _ => True) fun w' hb' => (c_m_slices_IndexFunc_impl_Net_impl_Net d0 d1 _ e2 _ _ _ w' (slArg netRd_ok ha0 ra0 (Tt T hb')) hgo1 (fun x0 b hx w1 hb1 y0 hy0 => hf1 x0 b hx w1 (Tt (Tt T hb') hb1) y0 hy0))) ?_
  refine RQ.y rfl (Y.binI (v := .bool (decide (y1 ≥ 0))) rfl rfl rfl) ?_
  refine RQ.y rfl (Y.assign (v := .bool (decide (y1 ≥ 0))) rfl) ?_
  refine RQ.nil ?_
  intro w3 hb4
  have szw3 := hb4.size
  have T := Tt T hb4
  refine then_n ?_
  refine wp_ret ?_
  obtain rfl := Option.some.inj hm
  exact (ret1 rfl rfl rfl ⟨rfl, T⟩)
def m_impl_ValidTemplates (d0 : List DNet) : Option Bool :=
  (bif (decide ((d0.length : Int) ≤ 24)) then ((m_slices_ContainsFunc_impl_Net_impl_Net d0 (fun x0 => m_impl_ValidTemplates_1 x0)).bind fun y4 => some (!y4)) else some false)
set_option maxHeartbeats 2000000 in
theorem c_m_impl_ValidTemplates (d0 : List DNet) (r : Bool) (hm : m_impl_ValidTemplates d0 = some r) (v0 : Value) (w : World) (hv0 : Sl netRd 1 w v0 d0) :
    Calls Try.prog 55 #[v0] w fun e w' => e = .returned (.bool r) ∧ Below w.heap.size w w' := by
  obtain ⟨Aa0, na0, ca0, rfl, ha0, ra0⟩ := hv0
  have ea0 := ha0.len; subst ea0
  have qa0 := len_le ra0
  have T := Below.refl w.heap.size w
  unfold m_impl_ValidTemplates at hm
  refine enter 11 Try.func55 rfl rfl rfl ?_
  intro f hf
  have s0 : f 0 = .slice Aa0 d0.length ca0 := hf 0 _ rfl
  refine wp_seq ?_
  refine wp_rs rfl ?_
  refine RQ.y rfl (Y.assign (v := .bool false) rfl) ?_
  refine RQ.nil ?_
  refine then_n ?_
  refine wp_seq ?_
  refine wp_rb rfl ?_
  refine RQ.y rfl (Y.move (v := .slice Aa0 d0.length ca0) s0) ?_
  refine RQ.y rfl (Y.len (by kernel_rfl) rfl) ?_
  refine RQ.y rfl (Y.binI (v := .bool (decide ((d0.length : Int) ≤ 24))) rfl rfl rfl) ?_
  refine RQ.y rfl (Y.move (v := .bool (decide ((d0.length : Int) ≤ 24))) rfl) ?_
  rcases bcases (decide ((d0.length : Int) ≤ 24)) with c1 | c1
  · replace hm := cF c1 hm
    have pc1 := of_decide_eq_false c1
    refine RQ.skip (wantN (dj := 6) rfl (vb rfl c1) rfl) ?_
    refine RQ.skip (wantN (dj := 6) rfl (vb rfl c1) rfl) ?_
    refine RQ.skip (wantN (dj := 6) rfl (vb rfl c1) rfl) ?_
    refine RQ.y rfl (Y.pick (b := false) (v := .bool false) (vb rfl c1) rfl) ?_
    refine RQ.y rfl (Y.assign (v := .bool false) rfl) ?_
    refine RQ.nil ?_
    intro w2 hb3
    have szw2 := hb3.size
    have T := Tt T hb3
    refine then_n ?_
    refine wp_ret ?_
    obtain rfl := Option.some.inj hm
    exact (ret1 rfl rfl rfl ⟨rfl, T⟩)
  · replace hm := cT c1 hm
    have pc1 := of_decide_eq_true c1
    refine RQ.y (wantT (dj := 6) rfl (vb rfl c1)) (Y.move (v := .slice Aa0 d0.length ca0) s0) ?_
    obtain ⟨y4, e5, hm⟩ := bnd hm
    refine RQ.call (wantT (dj := 6) rfl (vb rfl c1)) (am2 rfl rfl) (by kernel_rfl) (v := .bool y4) (bel (K := fun _ => True) fun w' hb' => (c_m_slices_ContainsFunc_impl_Net_impl_Net d0 (fun x0 => m_impl_ValidTemplates_1 x0) _ e5 _ _ _ w' (slArg netRd_ok ha0 ra0 (Tt T hb')) (by kernel_rfl) (fun x0 b hx w1 hb1 y0 hy0 => Calls.arr (by simp) (c_m_impl_ValidTemplates_1 x0 _ hx _  w1 hy0 )))) ?_
    refine RQ.y (wantT (dj := 6) rfl (vb rfl c1)) (Y.not (b' := (!y4)) rfl rfl) ?_
    refine RQ.y rfl (Y.pick (b := true) (v := .bool (!y4)) (vb rfl c1) rfl) ?_
    refine RQ.y rfl (Y.assign (v := .bool (!y4)) rfl) ?_
    refine RQ.nil ?_
    intro w6 hb7
    have szw6 := hb7.size
    have T := Tt T hb7
    refine then_n ?_
    refine wp_ret ?_
    obtain rfl := Option.some.inj hm
    exact (ret1 rfl rfl rfl ⟨rfl, T⟩)
end
section
open Go.RowKit
set_option linter.unusedVariables false
set_option linter.unusedSimpArgs false
def SmallS (b : List DNet) : Prop := ∀ d ∈ b, szNet d ≤ 1048576
theorem smallS {b : List DNet} (h : szNetS b ≤ 1048576) : SmallS b := fun d hd => by
  have : szNet d ≤ (b.map szNet).sum := by
    clear h
    induction b with
    | nil => cases hd
    | cons y ys ih =>
      rcases List.mem_cons.1 hd with rfl | hd
      · simp
      · have := ih hd; simp; omega
  unfold szNetS at h
  omega
noncomputable def validBook (b : List DNet) : Bool := decide (b.length ≤ 24) && b.all validNet
theorem book_loop {L : Nat → Int → Option Bool} {b : List DNet} (h : ∀ g (k : Nat) d, b[k]? = some d → L (g + 1) (k : Int) = bif validNet d then L g ((k : Int) + 1) else some false) (he : ∀ g, L (g + 1) (b.length : Int) = some true) (g : Nat) (hg : b.length < g) : L g 0 = some (b.all validNet) := by
  have key := allO (L := L) (n := b.length) (p := fun k => ∃ d, b[k]? = some d ∧ validNet d = true) (no := some false) (K := some true)
    (fun g k hk ⟨d, hd, hv⟩ => by rw [h g k d hd, hv, cond_true])
    (fun g k hk hn => by
      have hd := List.getElem?_eq_getElem hk
      cases hv : validNet b[k] with
      | true => exact absurd ⟨_, hd, hv⟩ hn
      | false => rw [h g k _ hd, hv, cond_false]) he g hg
  rcases key with ⟨h1, h2⟩ | ⟨h1, h2⟩
  · rw [h2]; congr 1; symm
    rw [List.all_eq_true]
    intro d hd
    obtain ⟨k, hk, rfl⟩ := List.getElem_of_mem hd
    obtain ⟨d, hd, hv⟩ := h1 k hk
    rw [List.getElem?_eq_getElem hk] at hd
    injection hd with hd
    rw [hd]; exact hv
  · rw [h2]; congr 1; symm
    cases ha : b.all validNet with
    | false => rfl
    | true =>
      rw [List.all_eq_true] at ha
      exact absurd (fun k hk => ⟨_, List.getElem?_eq_getElem hk, ha _ (List.getElem_mem hk)⟩) h1
theorem p_sBook (b : List DNet) (hs : SmallS b) : m_spec_l13Book b = some (validBook b) := by
  unfold m_spec_l13Book validBook
  by_cases hl : b.length ≤ 24
  · rw [show decide ((b.length : Int) > 24) = false by simp; omega, cond_false, decide_eq_true hl, Bool.true_and]
    exact book_loop (fun g k d hd => by
      have hk := lt_of_some hd
      have hsd : Small d.agents := hs d (List.mem_of_getElem? hd)
      simp -implicitDefEqProofs only [m_spec_l13Book_L1, m_spec_l13Book_B1, dlt hk, cond_true, getI_nat hd, Option.bind_some, p_ok _ hsd])
      (fun g => by simp -implicitDefEqProofs only [m_spec_l13Book_L1, m_spec_l13Book_B1, dge, cond_false, m_spec_l13Book_A1]) (b.length + 1) (Nat.lt_succ_self _)
  · rw [show decide ((b.length : Int) > 24) = true by simp; omega, cond_true, decide_eq_false hl, Bool.false_and]
theorem p_sValidTemplates (b : List DNet) (hs : SmallS b) : m_spec_ValidTemplates b = some (validBook b) := by
  unfold m_spec_ValidTemplates
  rw [p_sBook b hs, Option.bind_some]
theorem p_iValidTemplates (b : List DNet) (hs : SmallS b) : m_impl_ValidTemplates b = some (validBook b) := by
  unfold m_impl_ValidTemplates validBook
  by_cases hl : b.length ≤ 24
  · rw [show decide ((b.length : Int) ≤ 24) = true by simp; omega, cond_true, decide_eq_true hl, Bool.true_and]
    unfold m_slices_ContainsFunc_impl_Net_impl_Net m_slices_IndexFunc_impl_Net_impl_Net
    have key := findI (L := m_slices_IndexFunc_impl_Net_impl_Net_L1 b (fun x0 => m_impl_ValidTemplates_1 x0) m_slices_IndexFunc_impl_Net_impl_Net_A1) (d := b) (q := fun d => !validNet d) (hit := fun i => some (i : Int)) (K := some (-1))
      (fun g k d hd => by
        have hk := lt_of_some hd
        have hsd : Small d.agents := hs d (List.mem_of_getElem? hd)
        simp -implicitDefEqProofs only [m_slices_IndexFunc_impl_Net_impl_Net_L1, m_slices_IndexFunc_impl_Net_impl_Net_B1, dlt hk, cond_true, getI_nat hd, Option.bind_some, m_impl_ValidTemplates_1, p_valid _ hsd]
        cases validNet d <;> rfl)
      (fun g => by simp -implicitDefEqProofs only [m_slices_IndexFunc_impl_Net_impl_Net_L1, m_slices_IndexFunc_impl_Net_impl_Net_B1, dge, cond_false, m_slices_IndexFunc_impl_Net_impl_Net_A1]) (b.length + 1) (Nat.lt_succ_self _)
    rw [key]
    cases hf : b.findIdx? (fun d => !validNet d) with
    | none =>
      have ha : b.all validNet = true := by
        rw [List.all_eq_true]; intro d hd
        have := List.findIdx?_eq_none_iff.1 hf d hd
        simpa using this
      rw [ha]; rfl
    | some i =>
      obtain ⟨hi, h1, _⟩ := List.findIdx?_eq_some_iff_getElem.1 hf
      have ha : b.all validNet = false := by
        rw [List.all_eq_false]; exact ⟨_, List.getElem_mem hi, by simpa using h1⟩
      rw [ha]
      simp only [Option.bind_some]
      rw [show decide ((i : Int) ≥ 0) = true by simp]; rfl
  · rw [show decide ((b.length : Int) ≤ 24) = false by simp; omega, cond_false, decide_eq_false hl, Bool.false_and]
end
section
open Go.RowKit
set_option linter.unusedVariables false
theorem specValidTemplates_v (u : Value) (b : List DNet) (w : World) {B : Nat} (h : RdS netRd 1 w B u b) (hB : B ≤ w.heap.size) (hs : szNetS b ≤ 1048576) :
    Calls Try.prog 53 #[u] w fun e w' => e = .returned (.bool (validBook b)) ∧ Below w.heap.size w w' :=
  c_m_spec_ValidTemplates b _ (p_sValidTemplates b (smallS hs)) u w (h.more netRd_ok hB)
theorem implValidTemplates_v (u : Value) (b : List DNet) (w : World) {B : Nat} (h : RdS netRd 1 w B u b) (hB : B ≤ w.heap.size) (hs : szNetS b ≤ 1048576) :
    Calls Try.prog 55 #[u] w fun e w' => e = .returned (.bool (validBook b)) ∧ Below w.heap.size w w' :=
  c_m_impl_ValidTemplates b _ (p_iValidTemplates b (smallS hs)) u w (h.more netRd_ok hB)
end
section
open Go.RowKit
set_option linter.unusedVariables false
set_option linter.unusedSimpArgs false
theorem szInt64S_v (v : Value) (xs : List Int) (left : Int) (w : World) {B : Nat} (h : RdS intRd 1 w B v xs) (hB : B ≤ w.heap.size) (h0 : 0 ≤ left) (h1 : left ≤ 1048576) :
    Calls Try.prog 157 #[v, .int .i64 left] w fun e w' => e = .returned (.int .i64 (szL left xs.length)) ∧ Below w.heap.size w w' := by
  obtain ⟨A, n, c, rfl, h, hnc, hcm⟩ := h
  have hr := Below.refl w.heap.size w
  have hl := h.len
  rw [← hl]
  unfold maxLen at hcm
  clear h hl
  by_cases hl : left - n < 0
  · have He := Lib.hid (szL_neg hl)
    go_enter Try.func157, Try.ntmps157
    go_wp2
    go_ret
    exact ⟨by rw [He.out]; rfl, hr⟩
  · have He := Lib.hid (szL_pos hl)
    go_enter Try.func157, Try.ntmps157
    go_wp2
    go_ret
    exact ⟨by rw [He.out]; rfl, hr⟩
theorem szPortS_v (v : Value) (xs : List DPort) (left : Int) (w : World) {B : Nat} (h : RdS portRd 2 w B v xs) (hB : B ≤ w.heap.size) (h0 : 0 ≤ left) (h1 : left ≤ 1048576) :
    Calls Try.prog 158 #[v, .int .i64 left] w fun e w' => e = .returned (.int .i64 (szL left xs.length)) ∧ Below w.heap.size w w' := by
  obtain ⟨A, n, c, rfl, h, hnc, hcm⟩ := h
  have hr := Below.refl w.heap.size w
  have hl := h.len
  rw [← hl]
  unfold maxLen at hcm
  clear h hl
  by_cases hl : left - n < 0
  · have He := Lib.hid (szL_neg hl)
    go_enter Try.func158, Try.ntmps158
    go_wp2
    go_ret
    exact ⟨by rw [He.out]; rfl, hr⟩
  · have He := Lib.hid (szL_pos hl)
    go_enter Try.func158, Try.ntmps158
    go_wp2
    go_ret
    exact ⟨by rw [He.out]; rfl, hr⟩
set_option maxHeartbeats 1000000 in
theorem szAgent_v (v : Value) (x : DAgent) (left : Int) (w : World) {B : Nat} (h : RdT agentRd w B v x) (hB : B ≤ w.heap.size) (h0 : 0 ≤ left) (h1 : left ≤ 1048576) :
    Calls Try.prog 108 #[v, .int .i64 left] w fun e w' => e = .returned (.int .i64 (szL left (szAgent x))) ∧ Below w.heap.size w w' := by
  obtain ⟨cs, rfl, A1, n1, c1, A2, n2, c2, rfl, ⟨g1, r1⟩, ⟨g2, r2⟩⟩ := h
  have hb : ∀ o1, Below w.heap.size w (w.alloc o1) := fun o1 => (Below.refl _ _).alloc (Nat.le_refl _) _
  obtain ⟨s0, es0⟩ : ∃ s : Nat, s = x.data.length := ⟨_, rfl⟩
  obtain ⟨s1, es1⟩ : ∃ s : Nat, s = x.ports.length := ⟨_, rfl⟩
  have Hs : Hid (szAgent x = s0 + s1) := by show _ = _; rw [es0, es1]; rfl
  have Es0 := Lib.hid es0
  have Es1 := Lib.hid es1
  clear es0 es1
  by_cases d0 : left - (s0 : Int) < 0
  · have He : Hid (szL left (szAgent x) = -1) := by show _ = _; rw [Hs.out, szL_neg (by omega)]
    go_enter Try.func108, Try.ntmps108
    go_wp2_with fail
    refine (szInt64S_v _ x.data (left) _ (B := B) ⟨A1, n1, c1, rfl, g1.below intRd_ok ((hb _).mono hB), r1⟩ (Nat.le_trans hB (hb _).size) (by omega) (by omega)).mono ?_
    rw [← Es0.out, szL_neg (by omega)]
    rintro e w1 ⟨rfl, q1⟩
    have T := (hb _).trans (q1.mono (hb _).size)
    have B1 := (Blk.new w _ _).below q1 (by simp)
    have z1 : w.heap.size + 1 ≤ w1.heap.size := by have := q1.size; simpa using this
    clear q1
    go_wp2_with fail
    go_ret
    exact ⟨by rw [He.out]; rfl, T⟩
  · skip
    by_cases d1 : left - s0 - (s1 : Int) < 0
    · have He : Hid (szL left (szAgent x) = -1) := by show _ = _; rw [Hs.out, szL_neg (by omega)]
      go_enter Try.func108, Try.ntmps108
      go_wp2_with fail
      refine (szInt64S_v _ x.data (left) _ (B := B) ⟨A1, n1, c1, rfl, g1.below intRd_ok ((hb _).mono hB), r1⟩ (Nat.le_trans hB (hb _).size) (by omega) (by omega)).mono ?_
      rw [← Es0.out, szL_pos (by omega)]
      rintro e w1 ⟨rfl, q1⟩
      have T := (hb _).trans (q1.mono (hb _).size)
      have B1 := (Blk.new w _ _).below q1 (by simp)
      have z1 : w.heap.size + 1 ≤ w1.heap.size := by have := q1.size; simpa using this
      clear q1
      have cB := B1.cell
      go_wp2_with fail
      clear cB
      refine (szPortS_v _ x.ports (left - s0) _ (B := B) ⟨A2, n2, c2, rfl, g2.below portRd_ok ((T).mono hB), r2⟩ (Nat.le_trans hB (T).size) (by omega) (by omega)).mono ?_
      rw [← Es1.out, szL_neg (by omega)]
      rintro e w2 ⟨rfl, q2⟩
      have T := T.trans (q2.mono T.size)
      have B1 := B1.below q2 (by omega)
      have z2 := Nat.le_trans z1 q2.size
      clear q2
      go_wp2_with fail
      go_ret
      exact ⟨by rw [He.out]; rfl, T⟩
    · skip
      have He : Hid (szL left (szAgent x) = left - s0 - s1) := by show _ = _; rw [Hs.out, szL_pos (by omega)]; try omega
      go_enter Try.func108, Try.ntmps108
      go_wp2_with fail
      refine (szInt64S_v _ x.data (left) _ (B := B) ⟨A1, n1, c1, rfl, g1.below intRd_ok ((hb _).mono hB), r1⟩ (Nat.le_trans hB (hb _).size) (by omega) (by omega)).mono ?_
      rw [← Es0.out, szL_pos (by omega)]
      rintro e w1 ⟨rfl, q1⟩
      have T := (hb _).trans (q1.mono (hb _).size)
      have B1 := (Blk.new w _ _).below q1 (by simp)
      have z1 : w.heap.size + 1 ≤ w1.heap.size := by have := q1.size; simpa using this
      clear q1
      have cB := B1.cell
      go_wp2_with fail
      clear cB
      refine (szPortS_v _ x.ports (left - s0) _ (B := B) ⟨A2, n2, c2, rfl, g2.below portRd_ok ((T).mono hB), r2⟩ (Nat.le_trans hB (T).size) (by omega) (by omega)).mono ?_
      rw [← Es1.out, szL_pos (by omega)]
      rintro e w2 ⟨rfl, q2⟩
      have T := T.trans (q2.mono T.size)
      have B1 := B1.below q2 (by omega)
      have z2 := Nat.le_trans z1 q2.size
      clear q2
      go_wp2_with fail
      go_ret
      exact ⟨by rw [He.out]; rfl, T⟩
theorem szAgentS_take {xs : List DAgent} {k : Nat} {x : DAgent} (h : xs[k]? = some x) : ((xs.take (k + 1)).map szAgent).sum = ((xs.take k).map szAgent).sum + szAgent x := by
  rw [take_succ_some h]; simp
theorem szAgentS_le (xs : List DAgent) (k : Nat) : ((xs.take k).map szAgent).sum ≤ (xs.map szAgent).sum := by
  have h : ((xs.take k ++ xs.drop k).map szAgent).sum = (xs.map szAgent).sum := by rw [List.take_append_drop]
  rw [List.map_append, List.sum_append] at h
  omega
set_option maxHeartbeats 1000000 in
theorem szAgentS_v (v : Value) (xs : List DAgent) (left : Int) (w : World) {B : Nat} (h : RdS agentRd 5 w B v xs) (hB : B ≤ w.heap.size) (h0 : 0 ≤ left) (h1 : left ≤ 1048576) :
    Calls Try.prog 59 #[v, .int .i64 left] w fun e w' => e = .returned (.int .i64 (szL left (szAgentS xs))) ∧ Below w.heap.size w w' := by
  obtain ⟨A, n, c, rfl, hx, hnc, hcm⟩ := h
  have hr := Below.refl w.heap.size w
  unfold maxLen at hcm
  have lx := Lib.hid hx.len
  by_cases hl : left - n < 0
  · have He : Hid (szL left (szAgentS xs) = -1) := szL_neg (by unfold szAgentS; rw [← lx.out]; omega)
    go_enter Try.func59, Try.ntmps59
    go_wp2
    go_ret
    exact ⟨by rw [He.out]; rfl, hr⟩
  · go_enter Try.func59, Try.ntmps59
    go_wp2
    go_loopw [1, 5] (fun s i wr => ∃ (k : Nat) (l : Int), k ≤ n ∧ i = .int .i64 k ∧ s = .int .i64 l ∧ 0 ≤ l ∧ l ≤ 1048576 ∧ Hid (l = left - n - (((xs.take k).map szAgent).sum : Nat)) ∧ Below w.heap.size w wr) (fun _ i _ => n - (intOf i).toNat)
    case atStart => exact ⟨0, left - n, by omega, rfl, rfl, by omega, by omega, by simp [Hid], hr⟩
    case round =>
      obtain ⟨k, s, hk, rfl, rfl, hs0, hs1, hs, hq⟩ := hrel
      by_cases hlt : k < n
      · obtain ⟨b, off, x, A1, n1, c1, A2, n2, c2, rfl, hb, hxk, hc0, hc1, hc2, hc3, hc4, ⟨g1, r1⟩, ⟨g2, r2⟩⟩ := (hx.below agentRd_ok (hq.mono hB)).agent hlt
        have Hxk := Lib.hid hxk
        clear hxk
        by_cases hd : s - (szAgent x : Int) < 0
        · have f := szL_neg hd
          have He : Hid (szL left (szAgentS xs) = -1) := szL_neg (by
            have e1 := szAgentS_le xs (k + 1)
            rw [szAgentS_take Hxk.out] at e1
            have e2 := hs.out
            have e3 := lx.out
            unfold szAgentS
            omega)
          go_wp2_with fail
          refine (szAgent_v _ x s _ (B := B) ⟨_, rfl, A1, n1, c1, A2, n2, c2, rfl, ⟨g1, r1⟩, ⟨g2, r2⟩⟩ (Nat.le_trans hB hq.size) hs0 hs1).mono ?_
          rintro e w1 ⟨rfl, q1⟩
          go_wp2_with fail
          go_ret
          exact ⟨by rw [He.out]; rfl, hq.trans (q1.mono hq.size)⟩
        · have f := szL_pos hd
          have Hn : Hid (s - (szAgent x : Int) = left - n - (((xs.take (k + 1)).map szAgent).sum : Nat)) := by
            have e1 := szAgentS_take Hxk.out
            have e2 := hs.out
            show _ = _
            rw [e1]
            omega
          go_wp2_with fail
          refine (szAgent_v _ x s _ (B := B) ⟨_, rfl, A1, n1, c1, A2, n2, c2, rfl, ⟨g1, r1⟩, ⟨g2, r2⟩⟩ (Nat.le_trans hB hq.size) hs0 hs1).mono ?_
          rintro e w1 ⟨rfl, q1⟩
          go_wp2_with fail
          go_roundw
          case rel => exact ⟨k + 1, s - (szAgent x : Int), by omega, by go_num, rfl, by omega, by omega, Hn.out, hq.trans (q1.mono hq.size)⟩
          case measure => simp [intOf]; omega
      · have He : Hid (szL left (szAgentS xs) = s) := by
          have e1 : xs.take k = xs := List.take_of_length_le (by have := lx.out; omega)
          have e2 := hs.out
          rw [e1] at e2
          have e3 := lx.out
          show _ = _
          rw [szL_pos (by unfold szAgentS; omega)]
          unfold szAgentS
          omega
        go_wp2_with fail
        go_ret
        exact ⟨by rw [He.out]; rfl, hq⟩
set_option maxHeartbeats 1000000 in
theorem szNet_v (v : Value) (x : DNet) (left : Int) (w : World) {B : Nat} (h : RdT netRd w B v x) (hB : B ≤ w.heap.size) (h0 : 0 ≤ left) (h1 : left ≤ 1048576) :
    Calls Try.prog 15 #[v, .int .i64 left] w fun e w' => e = .returned (.int .i64 (szL left (szNet x))) ∧ Below w.heap.size w w' := by
  obtain ⟨cs, rfl, A1, n1, c1, rfl, ⟨g1, r1⟩⟩ := h
  have hb : ∀ o1, Below w.heap.size w (w.alloc o1) := fun o1 => (Below.refl _ _).alloc (Nat.le_refl _) _
  obtain ⟨s0, es0⟩ : ∃ s : Nat, s = szAgentS x.agents := ⟨_, rfl⟩
  have Hs : Hid (szNet x = s0) := by show _ = _; rw [es0]; rfl
  have Es0 := Lib.hid es0
  clear es0
  by_cases d0 : left - (s0 : Int) < 0
  · have He : Hid (szL left (szNet x) = -1) := by show _ = _; rw [Hs.out, szL_neg (by omega)]
    go_enter Try.func15, Try.ntmps15
    go_wp2_with fail
    refine (szAgentS_v _ x.agents (left) _ (B := B) ⟨A1, n1, c1, rfl, g1.below agentRd_ok ((hb _).mono hB), r1⟩ (Nat.le_trans hB (hb _).size) (by omega) (by omega)).mono ?_
    rw [← Es0.out, szL_neg (by omega)]
    rintro e w1 ⟨rfl, q1⟩
    have T := (hb _).trans (q1.mono (hb _).size)
    have B1 := (Blk.new w _ _).below q1 (by simp)
    have z1 : w.heap.size + 1 ≤ w1.heap.size := by have := q1.size; simpa using this
    clear q1
    go_wp2_with fail
    go_ret
    exact ⟨by rw [He.out]; rfl, T⟩
  · skip
    have He : Hid (szL left (szNet x) = left - s0) := by show _ = _; rw [Hs.out, szL_pos (by omega)]; try omega
    go_enter Try.func15, Try.ntmps15
    go_wp2_with fail
    refine (szAgentS_v _ x.agents (left) _ (B := B) ⟨A1, n1, c1, rfl, g1.below agentRd_ok ((hb _).mono hB), r1⟩ (Nat.le_trans hB (hb _).size) (by omega) (by omega)).mono ?_
    rw [← Es0.out, szL_pos (by omega)]
    rintro e w1 ⟨rfl, q1⟩
    have T := (hb _).trans (q1.mono (hb _).size)
    have B1 := (Blk.new w _ _).below q1 (by simp)
    have z1 : w.heap.size + 1 ≤ w1.heap.size := by have := q1.size; simpa using this
    clear q1
    go_wp2_with fail
    go_ret
    exact ⟨by rw [He.out]; rfl, T⟩
theorem szNetS_take {xs : List DNet} {k : Nat} {x : DNet} (h : xs[k]? = some x) : ((xs.take (k + 1)).map szNet).sum = ((xs.take k).map szNet).sum + szNet x := by
  rw [take_succ_some h]; simp
theorem szNetS_le (xs : List DNet) (k : Nat) : ((xs.take k).map szNet).sum ≤ (xs.map szNet).sum := by
  have h : ((xs.take k ++ xs.drop k).map szNet).sum = (xs.map szNet).sum := by rw [List.take_append_drop]
  rw [List.map_append, List.sum_append] at h
  omega
set_option maxHeartbeats 1000000 in
theorem szNetS_v (v : Value) (xs : List DNet) (left : Int) (w : World) {B : Nat} (h : RdS netRd 1 w B v xs) (hB : B ≤ w.heap.size) (h0 : 0 ≤ left) (h1 : left ≤ 1048576) :
    Calls Try.prog 52 #[v, .int .i64 left] w fun e w' => e = .returned (.int .i64 (szL left (szNetS xs))) ∧ Below w.heap.size w w' := by
  obtain ⟨A, n, c, rfl, hx, hnc, hcm⟩ := h
  have hr := Below.refl w.heap.size w
  unfold maxLen at hcm
  have lx := Lib.hid hx.len
  by_cases hl : left - n < 0
  · have He : Hid (szL left (szNetS xs) = -1) := szL_neg (by unfold szNetS; rw [← lx.out]; omega)
    go_enter Try.func52, Try.ntmps52
    go_wp2
    go_ret
    exact ⟨by rw [He.out]; rfl, hr⟩
  · go_enter Try.func52, Try.ntmps52
    go_wp2
    go_loopw [1, 5] (fun s i wr => ∃ (k : Nat) (l : Int), k ≤ n ∧ i = .int .i64 k ∧ s = .int .i64 l ∧ 0 ≤ l ∧ l ≤ 1048576 ∧ Hid (l = left - n - (((xs.take k).map szNet).sum : Nat)) ∧ Below w.heap.size w wr) (fun _ i _ => n - (intOf i).toNat)
    case atStart => exact ⟨0, left - n, by omega, rfl, rfl, by omega, by omega, by simp [Hid], hr⟩
    case round =>
      obtain ⟨k, s, hk, rfl, rfl, hs0, hs1, hs, hq⟩ := hrel
      by_cases hlt : k < n
      · obtain ⟨b, off, x, A1, n1, c1, rfl, hb, hxk, hc0, ⟨g1, r1⟩⟩ := (hx.below netRd_ok (hq.mono hB)).net hlt
        have Hxk := Lib.hid hxk
        clear hxk
        by_cases hd : s - (szNet x : Int) < 0
        · have f := szL_neg hd
          have He : Hid (szL left (szNetS xs) = -1) := szL_neg (by
            have e1 := szNetS_le xs (k + 1)
            rw [szNetS_take Hxk.out] at e1
            have e2 := hs.out
            have e3 := lx.out
            unfold szNetS
            omega)
          go_wp2_with fail
          refine (szNet_v _ x s _ (B := B) ⟨_, rfl, A1, n1, c1, rfl, ⟨g1, r1⟩⟩ (Nat.le_trans hB hq.size) hs0 hs1).mono ?_
          rintro e w1 ⟨rfl, q1⟩
          go_wp2_with fail
          go_ret
          exact ⟨by rw [He.out]; rfl, hq.trans (q1.mono hq.size)⟩
        · have f := szL_pos hd
          have Hn : Hid (s - (szNet x : Int) = left - n - (((xs.take (k + 1)).map szNet).sum : Nat)) := by
            have e1 := szNetS_take Hxk.out
            have e2 := hs.out
            show _ = _
            rw [e1]
            omega
          go_wp2_with fail
          refine (szNet_v _ x s _ (B := B) ⟨_, rfl, A1, n1, c1, rfl, ⟨g1, r1⟩⟩ (Nat.le_trans hB hq.size) hs0 hs1).mono ?_
          rintro e w1 ⟨rfl, q1⟩
          go_wp2_with fail
          go_roundw
          case rel => exact ⟨k + 1, s - (szNet x : Int), by omega, by go_num, rfl, by omega, by omega, Hn.out, hq.trans (q1.mono hq.size)⟩
          case measure => simp [intOf]; omega
      · have He : Hid (szL left (szNetS xs) = s) := by
          have e1 : xs.take k = xs := List.take_of_length_le (by have := lx.out; omega)
          have e2 := hs.out
          rw [e1] at e2
          have e3 := lx.out
          show _ = _
          rw [szL_pos (by unfold szNetS; omega)]
          unfold szNetS
          omega
        go_wp2_with fail
        go_ret
        exact ⟨by rw [He.out]; rfl, hq⟩
end
section
open Go.RowKit
set_option linter.unusedVariables false
set_option linter.unusedSimpArgs false
theorem toPort_v (v : Value) (x : DPort) (w : World) {B : Nat} (h : RdT portRd w B v x) :
    Calls Try.prog 179 #[v] w fun e w' => e = .returned (.agg #[.int .i64 x.agent, .int .i64 x.slot]) ∧ Below w.heap.size w w' := by
  obtain ⟨cs, rfl, rfl⟩ := h
  go_enter Try.func179, Try.ntmps179
  go_wp2_with fail
  exact bodyPost_ret (v := .agg #[.int .i64 x.agent, .int .i64 x.slot]) (by simp [results, Try.results179, go_sem]) rfl ⟨rfl, (((Below.refl _ _).alloc (Nat.le_refl _) _).alloc (by simp) _).alloc (by simp; omega) _⟩
theorem info_PortS : (Try.prog.info? 53).map (fun i => (i.zero, i.size, i.bytes)) = some (some (.agg #[.int .i64 0, .int .i64 0]), 2, 16) := by kernel_rfl
set_option maxHeartbeats 1000000 in
theorem toPortS_v (v : Value) (xs : List DPort) (w : World) {B : Nat} (h : RdS portRd 2 w B v xs) (hB : B ≤ w.heap.size) (hs : xs.length ≤ 1048576) :
    Calls Try.prog 161 #[v] w fun e w' => Ret1 (fun v' => OwS portOw 2 w' v' xs w.heap.size w'.heap.size) e ∧ Below w.heap.size w w' := by
  obtain ⟨A, n, c, rfl, hx, hnc, hcm⟩ := h
  have lx := Lib.hid hx.len
  have hlen := hs
  have hn : n ≤ 1048576 := by have := lx.out; omega
  have hmk := run_make_sz 87 53 Try.underlying87 info_PortS n (by omega) (by omega)
  go_enter Try.func161, Try.ntmps161
  go_wp2
  clear hmk
  go_loopw [4] (fun i wr => ∃ k : Nat, k ≤ n ∧ i = .int .i64 k ∧ Below w.heap.size w wr ∧ w.heap.size + 1 ≤ wr.heap.size ∧ (∃ arr, Blk wr w.heap.size 53 arr ∧ Hid (arr.size = n * 2)) ∧ ∃ bs, ElAt portOw 2 wr w.heap.size 0 (xs.take k) bs ∧ bs.Nodup ∧ ∀ b ∈ bs, w.heap.size + 1 ≤ b ∧ b < wr.heap.size) (fun i _ => n - (intOf i).toNat)
  case atStart => exact ⟨0, by omega, rfl, (Below.refl _ _).alloc (Nat.le_refl _) _, by simp, ⟨_, Blk.new _ _ _, by simp [Hid, madeCells_size]⟩, [], rfl, List.nodup_nil, fun b hb => by simp at hb⟩
  case round =>
    obtain ⟨k, hk, rfl, hb, hzz, ⟨arr, BA, hasz⟩, bs, hel, hnd, hin⟩ := hrel
    by_cases hlt : k < n
    · obtain ⟨b, off, x, rfl, hlb, hxk, hc0, hc1⟩ := (hx.below portRd_ok (hb.mono hB)).port hlt
      have Hxk := Lib.hid hxk
      clear hxk
      go_wp2_with fail
      refine (toPort_v _ x _ (B := 0) ⟨_, rfl, rfl⟩).mono ?_
      rintro e w1 ⟨rfl, q1⟩
      obtain ⟨bl, HO, nd1, in1⟩ : ∃ bl, portOw w1 [.int .i64 x.agent, .int .i64 x.slot] x bl ∧ bl.Nodup ∧ ∀ b ∈ bl, wr.heap.size ≤ b ∧ b < w1.heap.size := ⟨[], ⟨rfl, rfl⟩, List.nodup_nil, fun b hb => by simp at hb⟩
      have BA := BA.below q1 (by omega)
      obtain ⟨z0, hz0⟩ := BA.some_ (i := k * 2) (by rw [hasz.out]; omega)
      obtain ⟨z1, hz1⟩ := BA.some_ (i := k * 2 + 1) (by rw [hasz.out]; omega)
      have fz := BA.frozen
      have zz := q1.size
      have Hel := Lib.hid (hel.keep portOw_ok (q1.block _ (by omega)) (fun k hk => q1.block k (hin k hk).2))
      clear hel
      have TB : ∀ y0 y1, Below w.heap.size w ((w1.setCell ⟨w.heap.size, k * 2, none⟩ y0).setCell ⟨w.heap.size, k * 2 + 1, none⟩ y1) := fun y0 y1 => (((hb.trans (q1.mono hb.size)).setCell (p := ⟨w.heap.size, k * 2, none⟩) (Nat.le_refl _) _).setCell (p := ⟨w.heap.size, k * 2 + 1, none⟩) (Nat.le_refl _) _)
      go_wp2_with fail
      go_roundw
      case rel =>
        refine ⟨k + 1, by omega, by go_num, TB _ _, by simp [World.setCell]; omega, ⟨_, ((BA.set_ (k * 2) _).set_ (k * 2 + 1) _), by simpa [Hid] using hasz⟩, bs ++ bl, ?_⟩
        rw [take_succ_some Hxk.out]
        have hlk : (xs.take k).length = k := by have := lx.out; simp; omega
        have h1 := ElAt.setRun portOw_ok (vs := [.int .i64 x.agent, .int .i64 x.slot]) (p := k * 2) Hel.out (fun hh => by have := hin _ hh; omega) (Or.inr (by rw [hlk]; omega))
        have hnn := nodup_two hnd nd1 hin in1 hzz zz
        refine ⟨ElAt.append h1 (ElAt.one (portOw_ok.keep (w' := setRun w1 w.heap.size (k * 2) [.int .i64 x.agent, .int .i64 x.slot]) (fun b hb => setRun_block (fun e => by have := in1 b hb; omega)) HO) ?_), hnn.1, fun b hb => by have := hnn.2 b hb; simp only [World.size_setCell]; exact this⟩
        rw [hlk, Nat.zero_add]
        exact setRun_csAt (vs := [.int .i64 x.agent, .int .i64 x.slot]) (fun j hj => by
          have hj : j < 2 := by simpa using hj
          match j, hj with
          | 0, _ => exact ⟨z0, hz0⟩
          | 1, _ => exact ⟨z1, hz1⟩) (fun j hj => fz _)
      case measure => simp [intOf]; omega
    · have hkn : k = n := by omega
      have e : xs.take k = xs := List.take_of_length_le (by have := lx.out; omega)
      rw [e] at hel
      have Hkn := Lib.hid hkn
      clear hkn e
      go_wp2
      go_ret
      exact ⟨⟨_, rfl, some ⟨w.heap.size, 0, none⟩, n, n, w.heap.size :: bs, rfl, ⟨lx.out, .inr ⟨_, _, bs, rfl, rfl, hel⟩⟩, List.nodup_cons.2 ⟨fun hh => by have := hin _ hh; omega, hnd⟩, fun b hb => by
        rcases List.mem_cons.1 hb with rfl | hb
        · omega
        · have := hin b hb; omega, Nat.le_refl _, by unfold maxLen; omega⟩, hb⟩
end
section
open Go.RowKit
set_option linter.unusedVariables false
set_option linter.unusedSimpArgs false
set_option maxHeartbeats 1000000 in
theorem toAgent_v (v : Value) (x : DAgent) (w : World) {B : Nat} (h : RdT agentRd w B v x) (hB : B ≤ w.heap.size) (hs : szAgent x ≤ 1048576) :
    Calls Try.prog 110 #[v] w fun e w' => Ret1 (fun v' => OwT agentOw w' v' x w.heap.size w'.heap.size) e ∧ Below w.heap.size w w' := by
  obtain ⟨cs, rfl, A1, n1, c1, A2, n2, c2, rfl, ⟨h1, r1⟩, ⟨h2, r2⟩⟩ := h
  unfold szAgent at hs
  have hb : ∀ o1 o2 o3, Below w.heap.size w (((w.alloc o1).alloc o2).alloc o3) := fun o1 o2 o3 => (((Below.refl _ _).alloc (Nat.le_refl _) _).alloc (by simp) _).alloc (by simp; omega) _
  go_enter Try.func110, Try.ntmps110
  go_wp2_with fail
  refine (toInt64S_v _ x.data _ (B := B) ⟨A1, n1, c1, rfl, h1.below intRd_ok ((hb _ _ _).mono hB), r1⟩ (Nat.le_trans hB (hb _ _ _).size) (by first | omega | (unfold lenOk; omega))).mono ?_
  rintro e w1 ⟨⟨v1, rfl, O1⟩, q1⟩
  have z1 : w.heap.size + 1 + 1 + 1 ≤ w1.heap.size := by have := q1.size; simpa using this
  have O1 := O1.wide (lo' := w.heap.size + 1 + 1 + 1) (hi' := w1.heap.size) (by simp) (Nat.le_refl _)
  obtain ⟨A1', m1, d1, bs1, rfl, ow1, nd1, in1, rr1⟩ := O1
  have T1 := (hb _ _ _).trans (q1.mono (hb _ _ _).size)
  have BB := blk3_0.below q1 (by simp <;> omega)
  have BR := blk3_1.below q1 (by simp <;> omega)
  have BO := blk3_2.below q1 (by simp <;> omega)
  clear q1
  have cB := BB.cell
  have cO := BO.cell
  have fO := BO.frozen
  go_wp2_with fail
  clear cB cO fO
  have T1 := T1.setCell (p := ⟨w.heap.size + 1 + 1, 3, none⟩) (by simp; omega) (.slice A1' m1 d1)
  have BB := BB.far (p := ⟨w.heap.size + 1 + 1, 3, none⟩) (by simp; omega) (.slice A1' m1 d1)
  have BR := BR.far (p := ⟨w.heap.size + 1 + 1, 3, none⟩) (by simp) (.slice A1' m1 d1)
  have BO := BO.set_ 3 (.slice A1' m1 d1)
  have ow1 := ow1.keep intOw_ok (w' := World.setCell w1 ⟨w.heap.size + 1 + 1, 3, none⟩ (.slice A1' m1 d1)) (fun k hk => Below.heap_setCell _ _ _ _ (by have := in1 k hk; simp; omega))
  refine (toPortS_v _ x.ports _ (B := B) ⟨A2, n2, c2, rfl, h2.below portRd_ok (T1.mono hB), r2⟩ (Nat.le_trans hB T1.size) (by first | omega | (unfold lenOk; omega))).mono ?_
  rintro e w2 ⟨⟨v2, rfl, O2⟩, q2⟩
  have z2 : w1.heap.size ≤ w2.heap.size := by have := q2.size; simpa using this
  have O2 := O2.wide (lo' := w1.heap.size) (hi' := w2.heap.size) (by simp) (Nat.le_refl _)
  obtain ⟨A2', m2, d2, bs2, rfl, ow2, nd2, in2, rr2⟩ := O2
  have T1 := T1.trans (q2.mono T1.size)
  have BB := BB.below q2 (by simp <;> omega)
  have BR := BR.below q2 (by simp <;> omega)
  have BO := BO.below q2 (by simp <;> omega)
  have ow1 := ow1.keep intOw_ok (w' := w2) (fun k hk => q2.block k (by have := in1 k hk; simp <;> omega))
  clear q2
  have cB := BB.cell
  have cO := BO.cell
  have fO := BO.frozen
  have cR := BR.cell
  have fR := BR.frozen
  go_wp2_with fail
  have hfin : ∀ w', OnlyIn (w.heap.size + 1) (w.heap.size + 1 + 1 + 1) w2 w' → (Ret1 (fun v' => OwT agentOw w' v' x w.heap.size w'.heap.size) (.returned (.agg #[.int .i64 x.kind, .int .i64 x.level, .int .i64 x.value, (.slice A1' m1 d1), (.slice A2' m2 d2)])) ∧ Below w.heap.size w w') := fun w' ho => by
    refine ⟨⟨_, rfl, [.int .i64 x.kind, .int .i64 x.level, .int .i64 x.value, (.slice A1' m1 d1), (.slice A2' m2 d2)], bs1 ++ bs2, rfl, ⟨A1', m1, d1, A2', m2, d2, bs1, bs2, rfl, ⟨ow1.keep intOw_ok (fun k hk => ho.block k (.inr (by have := in1 k hk; omega))), rr1⟩, ⟨ow2.keep portOw_ok (fun k hk => ho.block k (.inr (by have := in2 k hk; omega))), rr2⟩, rfl⟩, ?_⟩, T1.trans (ho.below.mono (by omega))⟩
    have h1 : bs1.Nodup ∧ ∀ b ∈ bs1, w.heap.size ≤ b ∧ b < w1.heap.size := ⟨nd1, fun b hb => by have := in1 b hb; omega⟩
    have h2 := nodup_two (lo := w.heap.size) (mid := w1.heap.size) (hi := w2.heap.size) h1.1 nd2 (fun b hb => by have := h1.2 b hb; omega) in2 (by omega) (by omega)
    exact ⟨h2.1, fun b hb => by have := h2.2 b hb; have := ho.size; omega⟩
  refine bodyPost_ret (v := .agg #[.int .i64 x.kind, .int .i64 x.level, .int .i64 x.value, (.slice A1' m1 d1), (.slice A2' m2 d2)]) (by simp [results, Try.results110, go_sem, cR]) rfl (hfin _ ?_)
  repeat (first | (with_reducible exact OnlyIn.refl _ _ _) | (with_reducible refine OnlyIn.setCell ?_ ⟨by simp, by simp⟩ _))
theorem szAgentS_el {xs : List DAgent} {k : Nat} {x : DAgent} (h : xs[k]? = some x) : szAgent x ≤ szAgentS xs := by
  have h1 := szAgentS_take h
  have h2 := szAgentS_le xs (k + 1)
  unfold szAgentS
  omega
theorem info_AgentS : (Try.prog.info? 89).map (fun i => (i.zero, i.size, i.bytes)) = some (some (.agg #[.int .i64 0, .int .i64 0, .int .i64 0, .slice none 0 0, .slice none 0 0]), 5, 72) := by kernel_rfl
set_option maxHeartbeats 1000000 in
theorem toAgentS_v (v : Value) (xs : List DAgent) (w : World) {B : Nat} (h : RdS agentRd 5 w B v xs) (hB : B ≤ w.heap.size) (hs : szAgentS xs ≤ 1048576) :
    Calls Try.prog 62 #[v] w fun e w' => Ret1 (fun v' => OwS agentOw 5 w' v' xs w.heap.size w'.heap.size) e ∧ Below w.heap.size w w' := by
  obtain ⟨A, n, c, rfl, hx, hnc, hcm⟩ := h
  have lx := Lib.hid hx.len
  have hlen : xs.length ≤ 1048576 := by unfold szAgentS at hs; omega
  have hn : n ≤ 1048576 := by have := lx.out; omega
  have hmk := run_make_sz 28 89 Try.underlying28 info_AgentS n (by omega) (by omega)
  go_enter Try.func62, Try.ntmps62
  go_wp2
  clear hmk
  go_loopw [4] (fun i wr => ∃ k : Nat, k ≤ n ∧ i = .int .i64 k ∧ Below w.heap.size w wr ∧ w.heap.size + 1 ≤ wr.heap.size ∧ (∃ arr, Blk wr w.heap.size 89 arr ∧ Hid (arr.size = n * 5)) ∧ ∃ bs, ElAt agentOw 5 wr w.heap.size 0 (xs.take k) bs ∧ bs.Nodup ∧ ∀ b ∈ bs, w.heap.size + 1 ≤ b ∧ b < wr.heap.size) (fun i _ => n - (intOf i).toNat)
  case atStart => exact ⟨0, by omega, rfl, (Below.refl _ _).alloc (Nat.le_refl _) _, by simp, ⟨_, Blk.new _ _ _, by simp [Hid, madeCells_size]⟩, [], rfl, List.nodup_nil, fun b hb => by simp at hb⟩
  case round =>
    obtain ⟨k, hk, rfl, hb, hzz, ⟨arr, BA, hasz⟩, bs, hel, hnd, hin⟩ := hrel
    by_cases hlt : k < n
    · obtain ⟨b, off, x, A1, n1, c1, A2, n2, c2, rfl, hlb, hxk, hc0, hc1, hc2, hc3, hc4, ⟨h1, r1⟩, ⟨h2, r2⟩⟩ := (hx.below agentRd_ok (hb.mono hB)).agent hlt
      have Hxk := Lib.hid hxk
      clear hxk
      go_wp2_with fail
      refine (toAgent_v _ x _ (B := B) ⟨_, rfl, A1, n1, c1, A2, n2, c2, rfl, ⟨h1, r1⟩, ⟨h2, r2⟩⟩ (Nat.le_trans hB hb.size) (by have := szAgentS_el Hxk.out; omega)).mono ?_
      rintro e w1 ⟨⟨v1, rfl, O1⟩, q1⟩
      obtain ⟨cs1, bl, rfl, HO, nd1, in1⟩ := O1
      have HO' := HO
      obtain ⟨A1', m1, d1, A2', m2, d2, b1, b2, rfl, _⟩ := HO'
      have BA := BA.below q1 (by omega)
      obtain ⟨z0, hz0⟩ := BA.some_ (i := k * 5) (by rw [hasz.out]; omega)
      obtain ⟨z1, hz1⟩ := BA.some_ (i := k * 5 + 1) (by rw [hasz.out]; omega)
      obtain ⟨z2, hz2⟩ := BA.some_ (i := k * 5 + 2) (by rw [hasz.out]; omega)
      obtain ⟨z3, hz3⟩ := BA.some_ (i := k * 5 + 3) (by rw [hasz.out]; omega)
      obtain ⟨z4, hz4⟩ := BA.some_ (i := k * 5 + 4) (by rw [hasz.out]; omega)
      have fz := BA.frozen
      have zz := q1.size
      have Hel := Lib.hid (hel.keep agentOw_ok (q1.block _ (by omega)) (fun k hk => q1.block k (hin k hk).2))
      clear hel
      have TB : ∀ y0 y1 y2 y3 y4, Below w.heap.size w (((((w1.setCell ⟨w.heap.size, k * 5, none⟩ y0).setCell ⟨w.heap.size, k * 5 + 1, none⟩ y1).setCell ⟨w.heap.size, k * 5 + 2, none⟩ y2).setCell ⟨w.heap.size, k * 5 + 3, none⟩ y3).setCell ⟨w.heap.size, k * 5 + 4, none⟩ y4) := fun y0 y1 y2 y3 y4 => ((((((hb.trans (q1.mono hb.size)).setCell (p := ⟨w.heap.size, k * 5, none⟩) (Nat.le_refl _) _).setCell (p := ⟨w.heap.size, k * 5 + 1, none⟩) (Nat.le_refl _) _).setCell (p := ⟨w.heap.size, k * 5 + 2, none⟩) (Nat.le_refl _) _).setCell (p := ⟨w.heap.size, k * 5 + 3, none⟩) (Nat.le_refl _) _).setCell (p := ⟨w.heap.size, k * 5 + 4, none⟩) (Nat.le_refl _) _)
      go_wp2_with fail
      go_roundw
      case rel =>
        refine ⟨k + 1, by omega, by go_num, TB _ _ _ _ _, by simp [World.setCell]; omega, ⟨_, (((((BA.set_ (k * 5) _).set_ (k * 5 + 1) _).set_ (k * 5 + 2) _).set_ (k * 5 + 3) _).set_ (k * 5 + 4) _), by simpa [Hid] using hasz⟩, bs ++ bl, ?_⟩
        rw [take_succ_some Hxk.out]
        have hlk : (xs.take k).length = k := by have := lx.out; simp; omega
        have h1 := ElAt.setRun agentOw_ok (vs := [.int .i64 x.kind, .int .i64 x.level, .int .i64 x.value, .slice A1' m1 d1, .slice A2' m2 d2]) (p := k * 5) Hel.out (fun hh => by have := hin _ hh; omega) (Or.inr (by rw [hlk]; omega))
        have hnn := nodup_two hnd nd1 hin in1 hzz zz
        refine ⟨ElAt.append h1 (ElAt.one (agentOw_ok.keep (w' := setRun w1 w.heap.size (k * 5) [.int .i64 x.kind, .int .i64 x.level, .int .i64 x.value, .slice A1' m1 d1, .slice A2' m2 d2]) (fun b hb => setRun_block (fun e => by have := in1 b hb; omega)) HO) ?_), hnn.1, fun b hb => by have := hnn.2 b hb; simp only [World.size_setCell]; exact this⟩
        rw [hlk, Nat.zero_add]
        exact setRun_csAt (vs := [.int .i64 x.kind, .int .i64 x.level, .int .i64 x.value, .slice A1' m1 d1, .slice A2' m2 d2]) (fun j hj => by
          have hj : j < 5 := by simpa using hj
          match j, hj with
          | 0, _ => exact ⟨z0, hz0⟩
          | 1, _ => exact ⟨z1, hz1⟩
          | 2, _ => exact ⟨z2, hz2⟩
          | 3, _ => exact ⟨z3, hz3⟩
          | 4, _ => exact ⟨z4, hz4⟩) (fun j hj => fz _)
      case measure => simp [intOf]; omega
    · have hkn : k = n := by omega
      have e : xs.take k = xs := List.take_of_length_le (by have := lx.out; omega)
      rw [e] at hel
      have Hkn := Lib.hid hkn
      clear hkn e
      go_wp2
      go_ret
      exact ⟨⟨_, rfl, some ⟨w.heap.size, 0, none⟩, n, n, w.heap.size :: bs, rfl, ⟨lx.out, .inr ⟨_, _, bs, rfl, rfl, hel⟩⟩, List.nodup_cons.2 ⟨fun hh => by have := hin _ hh; omega, hnd⟩, fun b hb => by
        rcases List.mem_cons.1 hb with rfl | hb
        · omega
        · have := hin b hb; omega, Nat.le_refl _, by unfold maxLen; omega⟩, hb⟩
set_option maxHeartbeats 1000000 in
theorem toNet_v (v : Value) (x : DNet) (w : World) {B : Nat} (h : RdT netRd w B v x) (hB : B ≤ w.heap.size) (hs : szNet x ≤ 1048576) :
    Calls Try.prog 17 #[v] w fun e w' => Ret1 (fun v' => OwT netOw w' v' x w.heap.size w'.heap.size) e ∧ Below w.heap.size w w' := by
  obtain ⟨cs, rfl, A1, n1, c1, rfl, ⟨h1, r1⟩⟩ := h
  unfold szNet at hs
  have hb : ∀ o1 o2 o3, Below w.heap.size w (((w.alloc o1).alloc o2).alloc o3) := fun o1 o2 o3 => (((Below.refl _ _).alloc (Nat.le_refl _) _).alloc (by simp) _).alloc (by simp; omega) _
  go_enter Try.func17, Try.ntmps17
  go_wp2_with fail
  refine (toAgentS_v _ x.agents _ (B := B) ⟨A1, n1, c1, rfl, h1.below agentRd_ok ((hb _ _ _).mono hB), r1⟩ (Nat.le_trans hB (hb _ _ _).size) (by first | omega | (unfold lenOk; omega))).mono ?_
  rintro e w1 ⟨⟨v1, rfl, O1⟩, q1⟩
  have z1 : w.heap.size + 1 + 1 + 1 ≤ w1.heap.size := by have := q1.size; simpa using this
  have O1 := O1.wide (lo' := w.heap.size + 1 + 1 + 1) (hi' := w1.heap.size) (by simp) (Nat.le_refl _)
  obtain ⟨A1', m1, d1, bs1, rfl, ow1, nd1, in1, rr1⟩ := O1
  have T1 := (hb _ _ _).trans (q1.mono (hb _ _ _).size)
  have BB := blk3_0.below q1 (by simp <;> omega)
  have BR := blk3_1.below q1 (by simp <;> omega)
  have BO := blk3_2.below q1 (by simp <;> omega)
  clear q1
  have cB := BB.cell
  have cO := BO.cell
  have fO := BO.frozen
  have cR := BR.cell
  have fR := BR.frozen
  go_wp2_with fail
  have hfin : ∀ w', OnlyIn (w.heap.size + 1) (w.heap.size + 1 + 1 + 1) w1 w' → (Ret1 (fun v' => OwT netOw w' v' x w.heap.size w'.heap.size) (.returned (.agg #[(.slice A1' m1 d1)])) ∧ Below w.heap.size w w') := fun w' ho => by
    refine ⟨⟨_, rfl, [(.slice A1' m1 d1)], bs1, rfl, ⟨A1', m1, d1, bs1, rfl, ⟨ow1.keep agentOw_ok (fun k hk => ho.block k (.inr (by have := in1 k hk; omega))), rr1⟩, rfl⟩, ?_⟩, T1.trans (ho.below.mono (by omega))⟩
    have h1 : bs1.Nodup ∧ ∀ b ∈ bs1, w.heap.size ≤ b ∧ b < w1.heap.size := ⟨nd1, fun b hb => by have := in1 b hb; omega⟩
    exact ⟨h1.1, fun b hb => by have := h1.2 b hb; have := ho.size; omega⟩
  refine bodyPost_ret (v := .agg #[(.slice A1' m1 d1)]) (by simp [results, Try.results17, go_sem, cR]) rfl (hfin _ ?_)
  repeat (first | (with_reducible exact OnlyIn.refl _ _ _) | (with_reducible refine OnlyIn.setCell ?_ ⟨by simp, by simp⟩ _))
theorem szNetS_el {xs : List DNet} {k : Nat} {x : DNet} (h : xs[k]? = some x) : szNet x ≤ szNetS xs := by
  have h1 := szNetS_take h
  have h2 := szNetS_le xs (k + 1)
  unfold szNetS
  omega
theorem info_NetS : (Try.prog.info? 30).map (fun i => (i.zero, i.size, i.bytes)) = some (some (.agg #[.slice none 0 0]), 1, 24) := by kernel_rfl
set_option maxHeartbeats 1000000 in
theorem toNetS_v (v : Value) (xs : List DNet) (w : World) {B : Nat} (h : RdS netRd 1 w B v xs) (hB : B ≤ w.heap.size) (hs : szNetS xs ≤ 1048576) :
    Calls Try.prog 54 #[v] w fun e w' => Ret1 (fun v' => OwS netOw 1 w' v' xs w.heap.size w'.heap.size) e ∧ Below w.heap.size w w' := by
  obtain ⟨A, n, c, rfl, hx, hnc, hcm⟩ := h
  have lx := Lib.hid hx.len
  have hlen : xs.length ≤ 1048576 := by unfold szNetS at hs; omega
  have hn : n ≤ 1048576 := by have := lx.out; omega
  have hmk := run_make_sz 73 30 Try.underlying73 info_NetS n (by omega) (by omega)
  go_enter Try.func54, Try.ntmps54
  go_wp2
  clear hmk
  go_loopw [4] (fun i wr => ∃ k : Nat, k ≤ n ∧ i = .int .i64 k ∧ Below w.heap.size w wr ∧ w.heap.size + 1 ≤ wr.heap.size ∧ (∃ arr, Blk wr w.heap.size 30 arr ∧ Hid (arr.size = n * 1)) ∧ ∃ bs, ElAt netOw 1 wr w.heap.size 0 (xs.take k) bs ∧ bs.Nodup ∧ ∀ b ∈ bs, w.heap.size + 1 ≤ b ∧ b < wr.heap.size) (fun i _ => n - (intOf i).toNat)
  case atStart => exact ⟨0, by omega, rfl, (Below.refl _ _).alloc (Nat.le_refl _) _, by simp, ⟨_, Blk.new _ _ _, by simp [Hid, madeCells_size]⟩, [], rfl, List.nodup_nil, fun b hb => by simp at hb⟩
  case round =>
    obtain ⟨k, hk, rfl, hb, hzz, ⟨arr, BA, hasz⟩, bs, hel, hnd, hin⟩ := hrel
    by_cases hlt : k < n
    · obtain ⟨b, off, x, A1, n1, c1, rfl, hlb, hxk, hc0, ⟨h1, r1⟩⟩ := (hx.below netRd_ok (hb.mono hB)).net hlt
      have Hxk := Lib.hid hxk
      clear hxk
      go_wp2_with fail
      refine (toNet_v _ x _ (B := B) ⟨_, rfl, A1, n1, c1, rfl, ⟨h1, r1⟩⟩ (Nat.le_trans hB hb.size) (by have := szNetS_el Hxk.out; omega)).mono ?_
      rintro e w1 ⟨⟨v1, rfl, O1⟩, q1⟩
      obtain ⟨cs1, bl, rfl, HO, nd1, in1⟩ := O1
      have HO' := HO
      obtain ⟨A1', m1, d1, b1, rfl, _⟩ := HO'
      have BA := BA.below q1 (by omega)
      obtain ⟨z0, hz0⟩ := BA.some_ (i := k) (by rw [hasz.out]; omega)
      have fz := BA.frozen
      have zz := q1.size
      have Hel := Lib.hid (hel.keep netOw_ok (q1.block _ (by omega)) (fun k hk => q1.block k (hin k hk).2))
      clear hel
      have TB : ∀ y0, Below w.heap.size w (w1.setCell ⟨w.heap.size, k, none⟩ y0) := fun y0 => ((hb.trans (q1.mono hb.size)).setCell (p := ⟨w.heap.size, k, none⟩) (Nat.le_refl _) _)
      go_wp2_with fail
      go_roundw
      case rel =>
        refine ⟨k + 1, by omega, by go_num, TB _, by simp [World.setCell]; omega, ⟨_, (BA.set_ k _), by simpa [Hid] using hasz⟩, bs ++ bl, ?_⟩
        rw [take_succ_some Hxk.out]
        have hlk : (xs.take k).length = k := by have := lx.out; simp; omega
        have h1 := ElAt.setRun netOw_ok (vs := [.slice A1' m1 d1]) (p := k) Hel.out (fun hh => by have := hin _ hh; omega) (Or.inr (by rw [hlk]; omega))
        have hnn := nodup_two hnd nd1 hin in1 hzz zz
        refine ⟨ElAt.append h1 (ElAt.one (netOw_ok.keep (w' := setRun w1 w.heap.size k [.slice A1' m1 d1]) (fun b hb => setRun_block (fun e => by have := in1 b hb; omega)) HO) ?_), hnn.1, fun b hb => by have := hnn.2 b hb; simp only [World.size_setCell]; exact this⟩
        rw [hlk, Nat.zero_add, Nat.mul_one]
        exact setRun_csAt (vs := [.slice A1' m1 d1]) (fun j hj => by
          have hj : j < 1 := by simpa using hj
          match j, hj with
          | 0, _ => exact ⟨z0, hz0⟩) (fun j hj => fz _)
      case measure => simp [intOf]; omega
    · have hkn : k = n := by omega
      have e : xs.take k = xs := List.take_of_length_le (by have := lx.out; omega)
      rw [e] at hel
      have Hkn := Lib.hid hkn
      clear hkn e
      go_wp2
      go_ret
      exact ⟨⟨_, rfl, some ⟨w.heap.size, 0, none⟩, n, n, w.heap.size :: bs, rfl, ⟨lx.out, .inr ⟨_, _, bs, rfl, rfl, hel⟩⟩, List.nodup_cons.2 ⟨fun hh => by have := hin _ hh; omega, hnd⟩, fun b hb => by
        rcases List.mem_cons.1 hb with rfl | hb
        · omega
        · have := hin b hb; omega, Nat.le_refl _, by unfold maxLen; omega⟩, hb⟩
end
section
open Go.RowKit
set_option linter.unusedVariables false
set_option linter.unusedSimpArgs false
set_option maxHeartbeats 1000000 in
theorem eqPort_v (v u : Value) (x y : DPort) (w : World) {B B' : Nat} (h : RdT portRd w B v x) (h' : RdT portRd w B' u y) (hB : B ≤ w.heap.size) (hB' : B' ≤ w.heap.size) :
    Calls Try.prog 93 #[v, u] w fun e w' => e = .returned (.bool (decide (x = y))) ∧ Below w.heap.size w w' := by
  obtain ⟨cs, rfl, rfl⟩ := h
  obtain ⟨cs, rfl, rfl⟩ := h'
  have hb : ∀ o1 o2, Below w.heap.size w ((w.alloc o1).alloc o2) := fun o1 o2 => ((Below.refl _ _).alloc (Nat.le_refl _) _).alloc (by simp) _
  by_cases e0 : x.agent = y.agent
  · have f0 : (x.agent != y.agent) = false := by simp [e0]
    by_cases e1 : x.slot = y.slot
    · have f1 : (x.slot != y.slot) = false := by simp [e1]
      have He : Hid (decide (x = y) = true) := decide_eq_true (by cases x; cases y; simp_all)
      clear e0 e1
      go_enter Try.func93, Try.ntmps93
      go_wp2_with fail
      go_ret
      exact ⟨by rw [He.out]; rfl, hb _ _⟩
    · have f1 : (x.slot != y.slot) = true := by simp [e1]
      have He : Hid (decide (x = y) = false) := decide_eq_false (by intro exy; exact e1 (by rw [exy]))
      clear e0 e1
      go_enter Try.func93, Try.ntmps93
      go_wp2_with fail
      go_ret
      exact ⟨by rw [He.out]; rfl, hb _ _⟩
  · have f0 : (x.agent != y.agent) = true := by simp [e0]
    have He : Hid (decide (x = y) = false) := decide_eq_false (by intro exy; exact e0 (by rw [exy]))
    clear e0
    go_enter Try.func93, Try.ntmps93
    go_wp2_with fail
    go_ret
    exact ⟨by rw [He.out]; rfl, hb _ _⟩
set_option maxHeartbeats 1000000 in
theorem eqPortS_v (v u : Value) (xs ys : List DPort) (w : World) {B B' : Nat} (h : RdS portRd 2 w B v xs) (h' : RdS portRd 2 w B' u ys) (hB : B ≤ w.heap.size) (hB' : B' ≤ w.heap.size) :
    Calls Try.prog 164 #[v, u] w fun e w' => e = .returned (.bool (eqL xs ys)) ∧ Below w.heap.size w w' := by
  obtain ⟨A, n, c, rfl, hx, hnc, hcm⟩ := h
  obtain ⟨C, m, d, rfl, hy, hmd, hdm⟩ := h'
  unfold maxLen at hcm hdm
  have lx := Lib.hid hx.len
  have ly := Lib.hid hy.len
  have hr := Below.refl w.heap.size w
  by_cases hnm : n = m
  · subst hnm
    go_enter Try.func164, Try.ntmps164
    go_wp2
    go_loopw [5] (fun i wr => ∃ k : Nat, k ≤ n ∧ i = .int .i64 k ∧ Hid (xs.take k = ys.take k) ∧ Below w.heap.size w wr) (fun i _ => n - (intOf i).toNat)
    case atStart => exact ⟨0, by omega, rfl, rfl, hr⟩
    case round =>
      obtain ⟨k, hk, rfl, ht, hq⟩ := hrel
      by_cases hlt : k < n
      · have hx' := hx.below portRd_ok (hq.mono hB)
        have hy' := hy.below portRd_ok (hq.mono hB')
        obtain ⟨b, off, x, rfl, hb, hxk, hc0, hc1⟩ := hx'.port hlt
        obtain ⟨b', off', y, rfl, hb', hyk, hc0', hc1'⟩ := hy'.port hlt
        have Hxk := Lib.hid hxk
        have Hyk := Lib.hid hyk
        clear hxk hyk hx' hy'
        have hzB : B ≤ wr.drew.heap.size := Nat.le_trans hB hq.size
        have hzB' : B' ≤ wr.drew.heap.size := Nat.le_trans hB' hq.size
        by_cases hxy : x = y
        · have hf : decide (x = y) = true := decide_eq_true hxy
          have Hxy := Lib.hid hxy
          clear hxy
          go_wp2_with fail
          go_region_with (go_at_call 93; refine (eqPort_v _ _ x y _ (B := 0) (B' := 0) ⟨_, rfl, rfl⟩ ⟨_, rfl, rfl⟩ (Nat.zero_le _) (Nat.zero_le _)).mono ?_; rintro e w1 ⟨rfl, hq1⟩)
          all_goals
            go_wp2_with fail
            go_roundw
            case rel => exact ⟨k + 1, by omega, by go_num, eqL_step Hxk.out Hyk.out ht.out Hxy.out, hq.drew.trans (hq1.mono hq.size)⟩
            case measure => simp [intOf]; omega
        · have hf : decide (x = y) = false := decide_eq_false hxy
          have Hno := Lib.hid (eqL_no Hxk.out Hyk.out hxy)
          clear hxy
          go_wp2_with fail
          go_region_with (go_at_call 93; refine (eqPort_v _ _ x y _ (B := 0) (B' := 0) ⟨_, rfl, rfl⟩ ⟨_, rfl, rfl⟩ (Nat.zero_le _) (Nat.zero_le _)).mono ?_; rintro e w1 ⟨rfl, hq1⟩)
          all_goals
            go_wp2_with fail
            go_ret
            exact ⟨by rw [Hno.out]; rfl, hq.drew.trans (hq1.mono hq.size)⟩
      · have Hyes := Lib.hid (eqL_yes (k := k) ht.out (by have := lx.out; omega) (by have := ly.out; omega))
        go_wp2
        go_ret
        exact ⟨by rw [Hyes.out]; rfl, hq⟩
  · have Hno := Lib.hid (eqL_len (xs := xs) (ys := ys) (by have := lx.out; have := ly.out; omega))
    have hf : ((n : Int) != (m : Int)) = true := by simp; omega
    go_enter Try.func164, Try.ntmps164
    go_wp2
    go_ret
    exact ⟨by rw [Hno.out]; rfl, hr⟩
end
section
open Go.RowKit
set_option linter.unusedVariables false
set_option linter.unusedSimpArgs false
set_option maxHeartbeats 1000000 in
theorem eqAgent_v (v u : Value) (x y : DAgent) (w : World) {B B' : Nat} (h : RdT agentRd w B v x) (h' : RdT agentRd w B' u y) (hB : B ≤ w.heap.size) (hB' : B' ≤ w.heap.size) :
    Calls Try.prog 112 #[v, u] w fun e w' => e = .returned (.bool (decide (x = y))) ∧ Below w.heap.size w w' := by
  obtain ⟨cs, rfl, A1, n1, c1, A2, n2, c2, rfl, ⟨h1, r1⟩, ⟨h2, r2⟩⟩ := h
  obtain ⟨cs, rfl, A1', n1', c1', A2', n2', c2', rfl, ⟨h1', r1'⟩, ⟨h2', r2'⟩⟩ := h'
  have hb : ∀ o1 o2, Below w.heap.size w ((w.alloc o1).alloc o2) := fun o1 o2 => ((Below.refl _ _).alloc (Nat.le_refl _) _).alloc (by simp) _
  by_cases e0 : x.kind = y.kind
  · have f0 : (x.kind != y.kind) = false := by simp [e0]
    by_cases e1 : x.level = y.level
    · have f1 : (x.level != y.level) = false := by simp [e1]
      by_cases e2 : x.value = y.value
      · have f2 : (x.value != y.value) = false := by simp [e2]
        by_cases e3 : x.data = y.data
        · have f3 : eqL x.data y.data = true := decide_eq_true e3
          by_cases e4 : x.ports = y.ports
          · have f4 : eqL x.ports y.ports = true := decide_eq_true e4
            have He : Hid (decide (x = y) = true) := decide_eq_true (by cases x; cases y; simp_all)
            clear e0 e1 e2 e3 e4
            go_enter Try.func112, Try.ntmps112
            go_wp2_with fail
            refine (eqInt64S_v _ _ x.data y.data _ (B := B) (B' := B') ⟨A1, n1, c1, rfl, h1.below intRd_ok ((hb _ _).mono hB), r1⟩ ⟨A1', n1', c1', rfl, h1'.below intRd_ok ((hb _ _).mono hB'), r1'⟩ (Nat.le_trans hB (hb _ _).size) (Nat.le_trans hB' (hb _ _).size)).mono ?_
            rintro e w1 ⟨rfl, q1⟩
            have T := (hb _ _).trans (q1.mono (hb _ _).size)
            have B1 := blk2_0.below q1 (by simp <;> omega)
            have B2 := blk2_1.below q1 (by simp <;> omega)
            have z1 : w.heap.size + 1 + 1 ≤ w1.heap.size := by have := q1.size; simpa using this
            clear q1
            have g1 := B1.cell
            have g2 := B2.cell
            go_wp2_with fail
            clear g1 g2
            refine (eqPortS_v _ _ x.ports y.ports _ (B := B) (B' := B') ⟨A2, n2, c2, rfl, h2.below portRd_ok ((T).mono hB), r2⟩ ⟨A2', n2', c2', rfl, h2'.below portRd_ok ((T).mono hB'), r2'⟩ (Nat.le_trans hB (T).size) (Nat.le_trans hB' (T).size)).mono ?_
            rintro e w2 ⟨rfl, q2⟩
            have T := T.trans (q2.mono T.size)
            have B1 := B1.below q2 (by omega)
            have B2 := B2.below q2 (by omega)
            have z2 := Nat.le_trans z1 q2.size
            clear q2
            go_wp2_with fail
            go_ret
            exact ⟨by rw [He.out]; rfl, T⟩
          · have f4 : eqL x.ports y.ports = false := decide_eq_false e4
            have He : Hid (decide (x = y) = false) := decide_eq_false (by intro exy; exact e4 (by rw [exy]))
            clear e0 e1 e2 e3 e4
            go_enter Try.func112, Try.ntmps112
            go_wp2_with fail
            refine (eqInt64S_v _ _ x.data y.data _ (B := B) (B' := B') ⟨A1, n1, c1, rfl, h1.below intRd_ok ((hb _ _).mono hB), r1⟩ ⟨A1', n1', c1', rfl, h1'.below intRd_ok ((hb _ _).mono hB'), r1'⟩ (Nat.le_trans hB (hb _ _).size) (Nat.le_trans hB' (hb _ _).size)).mono ?_
            rintro e w1 ⟨rfl, q1⟩
            have T := (hb _ _).trans (q1.mono (hb _ _).size)
            have B1 := blk2_0.below q1 (by simp <;> omega)
            have B2 := blk2_1.below q1 (by simp <;> omega)
            have z1 : w.heap.size + 1 + 1 ≤ w1.heap.size := by have := q1.size; simpa using this
            clear q1
            have g1 := B1.cell
            have g2 := B2.cell
            go_wp2_with fail
            clear g1 g2
            refine (eqPortS_v _ _ x.ports y.ports _ (B := B) (B' := B') ⟨A2, n2, c2, rfl, h2.below portRd_ok ((T).mono hB), r2⟩ ⟨A2', n2', c2', rfl, h2'.below portRd_ok ((T).mono hB'), r2'⟩ (Nat.le_trans hB (T).size) (Nat.le_trans hB' (T).size)).mono ?_
            rintro e w2 ⟨rfl, q2⟩
            have T := T.trans (q2.mono T.size)
            have B1 := B1.below q2 (by omega)
            have B2 := B2.below q2 (by omega)
            have z2 := Nat.le_trans z1 q2.size
            clear q2
            go_wp2_with fail
            go_ret
            exact ⟨by rw [He.out]; rfl, T⟩
        · have f3 : eqL x.data y.data = false := decide_eq_false e3
          have He : Hid (decide (x = y) = false) := decide_eq_false (by intro exy; exact e3 (by rw [exy]))
          clear e0 e1 e2 e3
          go_enter Try.func112, Try.ntmps112
          go_wp2_with fail
          refine (eqInt64S_v _ _ x.data y.data _ (B := B) (B' := B') ⟨A1, n1, c1, rfl, h1.below intRd_ok ((hb _ _).mono hB), r1⟩ ⟨A1', n1', c1', rfl, h1'.below intRd_ok ((hb _ _).mono hB'), r1'⟩ (Nat.le_trans hB (hb _ _).size) (Nat.le_trans hB' (hb _ _).size)).mono ?_
          rintro e w1 ⟨rfl, q1⟩
          have T := (hb _ _).trans (q1.mono (hb _ _).size)
          have B1 := blk2_0.below q1 (by simp <;> omega)
          have B2 := blk2_1.below q1 (by simp <;> omega)
          have z1 : w.heap.size + 1 + 1 ≤ w1.heap.size := by have := q1.size; simpa using this
          clear q1
          go_wp2_with fail
          go_ret
          exact ⟨by rw [He.out]; rfl, T⟩
      · have f2 : (x.value != y.value) = true := by simp [e2]
        have He : Hid (decide (x = y) = false) := decide_eq_false (by intro exy; exact e2 (by rw [exy]))
        clear e0 e1 e2
        go_enter Try.func112, Try.ntmps112
        go_wp2_with fail
        go_ret
        exact ⟨by rw [He.out]; rfl, hb _ _⟩
    · have f1 : (x.level != y.level) = true := by simp [e1]
      have He : Hid (decide (x = y) = false) := decide_eq_false (by intro exy; exact e1 (by rw [exy]))
      clear e0 e1
      go_enter Try.func112, Try.ntmps112
      go_wp2_with fail
      go_ret
      exact ⟨by rw [He.out]; rfl, hb _ _⟩
  · have f0 : (x.kind != y.kind) = true := by simp [e0]
    have He : Hid (decide (x = y) = false) := decide_eq_false (by intro exy; exact e0 (by rw [exy]))
    clear e0
    go_enter Try.func112, Try.ntmps112
    go_wp2_with fail
    go_ret
    exact ⟨by rw [He.out]; rfl, hb _ _⟩
set_option maxHeartbeats 1000000 in
theorem eqAgentS_v (v u : Value) (xs ys : List DAgent) (w : World) {B B' : Nat} (h : RdS agentRd 5 w B v xs) (h' : RdS agentRd 5 w B' u ys) (hB : B ≤ w.heap.size) (hB' : B' ≤ w.heap.size) :
    Calls Try.prog 65 #[v, u] w fun e w' => e = .returned (.bool (eqL xs ys)) ∧ Below w.heap.size w w' := by
  obtain ⟨A, n, c, rfl, hx, hnc, hcm⟩ := h
  obtain ⟨C, m, d, rfl, hy, hmd, hdm⟩ := h'
  unfold maxLen at hcm hdm
  have lx := Lib.hid hx.len
  have ly := Lib.hid hy.len
  have hr := Below.refl w.heap.size w
  by_cases hnm : n = m
  · subst hnm
    go_enter Try.func65, Try.ntmps65
    go_wp2
    go_loopw [5] (fun i wr => ∃ k : Nat, k ≤ n ∧ i = .int .i64 k ∧ Hid (xs.take k = ys.take k) ∧ Below w.heap.size w wr) (fun i _ => n - (intOf i).toNat)
    case atStart => exact ⟨0, by omega, rfl, rfl, hr⟩
    case round =>
      obtain ⟨k, hk, rfl, ht, hq⟩ := hrel
      by_cases hlt : k < n
      · have hx' := hx.below agentRd_ok (hq.mono hB)
        have hy' := hy.below agentRd_ok (hq.mono hB')
        obtain ⟨b, off, x, A1, n1, c1, A2, n2, c2, rfl, hb, hxk, hc0, hc1, hc2, hc3, hc4, ⟨h1, r1⟩, ⟨h2, r2⟩⟩ := hx'.agent hlt
        obtain ⟨b', off', y, A1', n1', c1', A2', n2', c2', rfl, hb', hyk, hc0', hc1', hc2', hc3', hc4', ⟨h1', r1'⟩, ⟨h2', r2'⟩⟩ := hy'.agent hlt
        have Hxk := Lib.hid hxk
        have Hyk := Lib.hid hyk
        clear hxk hyk hx' hy'
        have hzB : B ≤ wr.drew.heap.size := Nat.le_trans hB hq.size
        have hzB' : B' ≤ wr.drew.heap.size := Nat.le_trans hB' hq.size
        by_cases hxy : x = y
        · have hf : decide (x = y) = true := decide_eq_true hxy
          have Hxy := Lib.hid hxy
          clear hxy
          go_wp2_with fail
          go_region_with (go_at_call 112; refine (eqAgent_v _ _ x y _ (B := B) (B' := B') ⟨_, rfl, A1, n1, c1, A2, n2, c2, rfl, ⟨h1.drew intRd_ok, r1⟩, ⟨h2.drew portRd_ok, r2⟩⟩ ⟨_, rfl, A1', n1', c1', A2', n2', c2', rfl, ⟨h1'.drew intRd_ok, r1'⟩, ⟨h2'.drew portRd_ok, r2'⟩⟩ hzB hzB').mono ?_; rintro e w1 ⟨rfl, hq1⟩)
          all_goals
            go_wp2_with fail
            go_roundw
            case rel => exact ⟨k + 1, by omega, by go_num, eqL_step Hxk.out Hyk.out ht.out Hxy.out, hq.drew.trans (hq1.mono hq.size)⟩
            case measure => simp [intOf]; omega
        · have hf : decide (x = y) = false := decide_eq_false hxy
          have Hno := Lib.hid (eqL_no Hxk.out Hyk.out hxy)
          clear hxy
          go_wp2_with fail
          go_region_with (go_at_call 112; refine (eqAgent_v _ _ x y _ (B := B) (B' := B') ⟨_, rfl, A1, n1, c1, A2, n2, c2, rfl, ⟨h1.drew intRd_ok, r1⟩, ⟨h2.drew portRd_ok, r2⟩⟩ ⟨_, rfl, A1', n1', c1', A2', n2', c2', rfl, ⟨h1'.drew intRd_ok, r1'⟩, ⟨h2'.drew portRd_ok, r2'⟩⟩ hzB hzB').mono ?_; rintro e w1 ⟨rfl, hq1⟩)
          all_goals
            go_wp2_with fail
            go_ret
            exact ⟨by rw [Hno.out]; rfl, hq.drew.trans (hq1.mono hq.size)⟩
      · have Hyes := Lib.hid (eqL_yes (k := k) ht.out (by have := lx.out; omega) (by have := ly.out; omega))
        go_wp2
        go_ret
        exact ⟨by rw [Hyes.out]; rfl, hq⟩
  · have Hno := Lib.hid (eqL_len (xs := xs) (ys := ys) (by have := lx.out; have := ly.out; omega))
    have hf : ((n : Int) != (m : Int)) = true := by simp; omega
    go_enter Try.func65, Try.ntmps65
    go_wp2
    go_ret
    exact ⟨by rw [Hno.out]; rfl, hr⟩
set_option maxHeartbeats 1000000 in
theorem eqNet_v (v u : Value) (x y : DNet) (w : World) {B B' : Nat} (h : RdT netRd w B v x) (h' : RdT netRd w B' u y) (hB : B ≤ w.heap.size) (hB' : B' ≤ w.heap.size) :
    Calls Try.prog 19 #[v, u] w fun e w' => e = .returned (.bool (decide (x = y))) ∧ Below w.heap.size w w' := by
  obtain ⟨cs, rfl, A1, n1, c1, rfl, ⟨h1, r1⟩⟩ := h
  obtain ⟨cs, rfl, A1', n1', c1', rfl, ⟨h1', r1'⟩⟩ := h'
  have hb : ∀ o1 o2, Below w.heap.size w ((w.alloc o1).alloc o2) := fun o1 o2 => ((Below.refl _ _).alloc (Nat.le_refl _) _).alloc (by simp) _
  by_cases e0 : x.agents = y.agents
  · have f0 : eqL x.agents y.agents = true := decide_eq_true e0
    have He : Hid (decide (x = y) = true) := decide_eq_true (by cases x; cases y; simp_all)
    clear e0
    go_enter Try.func19, Try.ntmps19
    go_wp2_with fail
    refine (eqAgentS_v _ _ x.agents y.agents _ (B := B) (B' := B') ⟨A1, n1, c1, rfl, h1.below agentRd_ok ((hb _ _).mono hB), r1⟩ ⟨A1', n1', c1', rfl, h1'.below agentRd_ok ((hb _ _).mono hB'), r1'⟩ (Nat.le_trans hB (hb _ _).size) (Nat.le_trans hB' (hb _ _).size)).mono ?_
    rintro e w1 ⟨rfl, q1⟩
    have T := (hb _ _).trans (q1.mono (hb _ _).size)
    have B1 := blk2_0.below q1 (by simp <;> omega)
    have B2 := blk2_1.below q1 (by simp <;> omega)
    have z1 : w.heap.size + 1 + 1 ≤ w1.heap.size := by have := q1.size; simpa using this
    clear q1
    go_wp2_with fail
    go_ret
    exact ⟨by rw [He.out]; rfl, T⟩
  · have f0 : eqL x.agents y.agents = false := decide_eq_false e0
    have He : Hid (decide (x = y) = false) := decide_eq_false (by intro exy; exact e0 (by rw [exy]))
    clear e0
    go_enter Try.func19, Try.ntmps19
    go_wp2_with fail
    refine (eqAgentS_v _ _ x.agents y.agents _ (B := B) (B' := B') ⟨A1, n1, c1, rfl, h1.below agentRd_ok ((hb _ _).mono hB), r1⟩ ⟨A1', n1', c1', rfl, h1'.below agentRd_ok ((hb _ _).mono hB'), r1'⟩ (Nat.le_trans hB (hb _ _).size) (Nat.le_trans hB' (hb _ _).size)).mono ?_
    rintro e w1 ⟨rfl, q1⟩
    have T := (hb _ _).trans (q1.mono (hb _ _).size)
    have B1 := blk2_0.below q1 (by simp <;> omega)
    have B2 := blk2_1.below q1 (by simp <;> omega)
    have z1 : w.heap.size + 1 + 1 ≤ w1.heap.size := by have := q1.size; simpa using this
    clear q1
    go_wp2_with fail
    go_ret
    exact ⟨by rw [He.out]; rfl, T⟩
set_option maxHeartbeats 1000000 in
theorem eqNetS_v (v u : Value) (xs ys : List DNet) (w : World) {B B' : Nat} (h : RdS netRd 1 w B v xs) (h' : RdS netRd 1 w B' u ys) (hB : B ≤ w.heap.size) (hB' : B' ≤ w.heap.size) :
    Calls Try.prog 56 #[v, u] w fun e w' => e = .returned (.bool (eqL xs ys)) ∧ Below w.heap.size w w' := by
  obtain ⟨A, n, c, rfl, hx, hnc, hcm⟩ := h
  obtain ⟨C, m, d, rfl, hy, hmd, hdm⟩ := h'
  unfold maxLen at hcm hdm
  have lx := Lib.hid hx.len
  have ly := Lib.hid hy.len
  have hr := Below.refl w.heap.size w
  by_cases hnm : n = m
  · subst hnm
    go_enter Try.func56, Try.ntmps56
    go_wp2
    go_loopw [5] (fun i wr => ∃ k : Nat, k ≤ n ∧ i = .int .i64 k ∧ Hid (xs.take k = ys.take k) ∧ Below w.heap.size w wr) (fun i _ => n - (intOf i).toNat)
    case atStart => exact ⟨0, by omega, rfl, rfl, hr⟩
    case round =>
      obtain ⟨k, hk, rfl, ht, hq⟩ := hrel
      by_cases hlt : k < n
      · have hx' := hx.below netRd_ok (hq.mono hB)
        have hy' := hy.below netRd_ok (hq.mono hB')
        obtain ⟨b, off, x, A1, n1, c1, rfl, hb, hxk, hc0, ⟨h1, r1⟩⟩ := hx'.net hlt
        obtain ⟨b', off', y, A1', n1', c1', rfl, hb', hyk, hc0', ⟨h1', r1'⟩⟩ := hy'.net hlt
        have Hxk := Lib.hid hxk
        have Hyk := Lib.hid hyk
        clear hxk hyk hx' hy'
        have hzB : B ≤ wr.drew.heap.size := Nat.le_trans hB hq.size
        have hzB' : B' ≤ wr.drew.heap.size := Nat.le_trans hB' hq.size
        by_cases hxy : x = y
        · have hf : decide (x = y) = true := decide_eq_true hxy
          have Hxy := Lib.hid hxy
          clear hxy
          go_wp2_with fail
          go_region_with (go_at_call 19; refine (eqNet_v _ _ x y _ (B := B) (B' := B') ⟨_, rfl, A1, n1, c1, rfl, ⟨h1.drew agentRd_ok, r1⟩⟩ ⟨_, rfl, A1', n1', c1', rfl, ⟨h1'.drew agentRd_ok, r1'⟩⟩ hzB hzB').mono ?_; rintro e w1 ⟨rfl, hq1⟩)
          all_goals
            go_wp2_with fail
            go_roundw
            case rel => exact ⟨k + 1, by omega, by go_num, eqL_step Hxk.out Hyk.out ht.out Hxy.out, hq.drew.trans (hq1.mono hq.size)⟩
            case measure => simp [intOf]; omega
        · have hf : decide (x = y) = false := decide_eq_false hxy
          have Hno := Lib.hid (eqL_no Hxk.out Hyk.out hxy)
          clear hxy
          go_wp2_with fail
          go_region_with (go_at_call 19; refine (eqNet_v _ _ x y _ (B := B) (B' := B') ⟨_, rfl, A1, n1, c1, rfl, ⟨h1.drew agentRd_ok, r1⟩⟩ ⟨_, rfl, A1', n1', c1', rfl, ⟨h1'.drew agentRd_ok, r1'⟩⟩ hzB hzB').mono ?_; rintro e w1 ⟨rfl, hq1⟩)
          all_goals
            go_wp2_with fail
            go_ret
            exact ⟨by rw [Hno.out]; rfl, hq.drew.trans (hq1.mono hq.size)⟩
      · have Hyes := Lib.hid (eqL_yes (k := k) ht.out (by have := lx.out; omega) (by have := ly.out; omega))
        go_wp2
        go_ret
        exact ⟨by rw [Hyes.out]; rfl, hq⟩
  · have Hno := Lib.hid (eqL_len (xs := xs) (ys := ys) (by have := lx.out; have := ly.out; omega))
    have hf : ((n : Int) != (m : Int)) = true := by simp; omega
    go_enter Try.func56, Try.ntmps56
    go_wp2
    go_ret
    exact ⟨by rw [Hno.out]; rfl, hr⟩
end
section
open Go.RowKit
set_option linter.unusedVariables false
set_option linter.unusedSimpArgs false
set_option maxRecDepth 100000
set_option maxHeartbeats 8000000 in
theorem walk_ValidTemplates (w : World) (v0 : Value) (b : List DNet) (R0 : RdS netRd 1 w w.heap.size v0 b) :
    Calls Try.prog 13 #[v0] w fun e w' => e = .returned (.bool true) ∧ Below w.heap.size w w' := by
  obtain ⟨a0A, a0n, a0c, rfl⟩ : ∃ A n c, v0 = .slice A n c := by obtain ⟨A, n, c, e, _⟩ := R0; exact ⟨A, n, c, e⟩
  have la0 : a0n = b.length := by obtain ⟨A, n, c, e, h, _⟩ := R0; injection e with _ e2 _; rw [e2]; exact h.len
  subst la0
  by_cases d0 : (szNetS b : Int) ≤ 1048576
  case neg =>
    have T := Below.refl w.heap.size w
    go_enter Try.func13, Try.ntmps13
    go_wp2_with fail
    refine (szNetS_v _ b (1048576) _ (R0.below netRd_ok T) T.size (by omega) (by omega)).mono ?_
    rw [szL_neg (by omega)]
    rintro e w1 ⟨rfl, b1⟩
    have z1 := b1.size
    have T := T.trans (b1.mono (by omega))
    go_wp2_with fail
    go_ret
    exact ⟨rfl, T⟩
  have s0 : szNetS b ≤ 1048576 := by omega
  have qa0 : eqL b b = true := decide_eq_true rfl
  have T := Below.refl w.heap.size w
  go_enter Try.func13, Try.ntmps13
  go_wp2_with fail
  refine (szNetS_v _ b (1048576) _ (R0.below netRd_ok T) T.size (by omega) (by omega)).mono ?_
  rw [szL_pos (by omega)]
  rintro e w1 ⟨rfl, b1⟩
  have z1 := b1.size
  have T := T.trans (b1.mono (by omega))
  go_wp2_with fail
  refine (toNetS_v _ b _ (R0.below netRd_ok T) T.size s0).mono ?_
  rintro e w2 ⟨⟨t1, rfl, p2⟩, b2⟩
  have z2 := b2.size
  have T := T.trans (b2.mono (by omega))
  go_wp2_with fail
  refine (specValidTemplates_v _ b _ (p2.reads (netOw_reads (w2).heap.size) (by omega)) (Nat.le_refl _) s0).mono ?_
  rintro e w3 ⟨rfl, b3⟩
  have z3 := b3.size
  have p2 := p2.below netOw_ok b3 (by omega)
  have T := T.trans (b3.mono (by omega))
  clear p2
  go_wp2_with fail
  refine (toNetS_v _ b _ (R0.below netRd_ok T) T.size s0).mono ?_
  rintro e w4 ⟨⟨t4, rfl, p5⟩, b4⟩
  have z4 := b4.size
  have T := T.trans (b4.mono (by omega))
  go_wp2_with fail
  refine (implValidTemplates_v _ b _ (p5.reads (netOw_reads (w4).heap.size) (by omega)) (Nat.le_refl _) s0).mono ?_
  rintro e w5 ⟨rfl, b5⟩
  have z5 := b5.size
  have p5 := p5.below netOw_ok b5 (by omega)
  have T := T.trans (b5.mono (by omega))
  go_wp2_with fail
  refine (toNetS_v _ b _ (R0.below netRd_ok T) T.size s0).mono ?_
  rintro e w6 ⟨⟨t7, rfl, p8⟩, b6⟩
  have z6 := b6.size
  have p5 := p5.below netOw_ok b6 (by omega)
  have T := T.trans (b6.mono (by omega))
  go_wp2_with fail
  refine (eqNetS_v _ _ _ _ _ (p5.reads (netOw_reads (w6).heap.size) (by omega)) (p8.reads (netOw_reads (w6).heap.size) (by omega)) (Nat.le_refl _) (Nat.le_refl _)).mono ?_
  rintro e w7 ⟨rfl, b7⟩
  have z7 := b7.size
  have p5 := p5.below netOw_ok b7 (by omega)
  have p8 := p8.below netOw_ok b7 (by omega)
  have T := T.trans (b7.mono (by omega))
  go_wp2_with fail
  go_ret
  exact ⟨rfl, T⟩
end
end Go.Proofs.Ytampijkiidjcmaa
