/- Models and contracts of functions, printed by wg.py. -/
import Derived.Test.YtampijkiidjcmaaWB
import Derived.Test.YtampijkiidjcmaaRows
namespace Go.Proofs.Ytampijkiidjcmaa
open Go.RowKit
set_option linter.unusedVariables false
set_option linter.unusedSimpArgs false
set_option maxRecDepth 100000

def m_slices_IndexFunc_impl_Port_impl_Port_A1 : Option Int :=
  some (-1)
def m_slices_IndexFunc_impl_Port_impl_Port_B1 (d0 : List DPort) (d1 : DPort → Option Bool) (rec1 : Int → Option Int) (K1 : Option Int) (i2 : Int) : Option Int :=
  (bif (decide (i2 < (d0.length : Int))) then ((getI d0 i2).bind fun x5 => ((d1 x5).bind fun y14 => (bif y14 then some i2 else (rec1 (i2 + 1))))) else (K1))
def m_slices_IndexFunc_impl_Port_impl_Port_L1 (d0 : List DPort) (d1 : DPort → Option Bool) (K1 : Option Int) : Nat → Int → Option Int
  | 0, _ => none
  | g + 1, i2 => m_slices_IndexFunc_impl_Port_impl_Port_B1 d0 d1 (m_slices_IndexFunc_impl_Port_impl_Port_L1 d0 d1 K1 g) K1 i2
def m_slices_IndexFunc_impl_Port_impl_Port (d0 : List DPort) (d1 : DPort → Option Bool) : Option Int :=
  (m_slices_IndexFunc_impl_Port_impl_Port_L1 d0 d1 m_slices_IndexFunc_impl_Port_impl_Port_A1 (d0.length + 1) 0)
set_option maxHeartbeats 2000000 in
theorem c_m_slices_IndexFunc_impl_Port_impl_Port (d0 : List DPort) (d1 : DPort → Option Bool) (r : Int) (hm : m_slices_IndexFunc_impl_Port_impl_Port d0 d1 = some r) (v0 : Value) (gf1 : FuncId) (caps1 : Array Value) (w : World) (hv0 : Sl portRd 2 w v0 d0) (hgo1 : isGo Try.prog gf1 = true) (hf1 : ∀ (x0 : DPort) (b : Bool), d1 x0 = some b → ∀ w1, Below w.heap.size w w1 → Calls Try.prog gf1 (#[.agg #[.int .i64 x0.agent, .int .i64 x0.slot]] ++ caps1) w1 fun e w2 => e = .returned (.bool b) ∧ Below w1.heap.size w1 w2) :
    Calls Try.prog 167 #[v0, .func (.func gf1) #[] caps1] w fun e w' => e = .returned (.int .i64 r) ∧ Below w.heap.size w w' := by
  obtain ⟨Aa0, na0, ca0, rfl, ha0, ra0⟩ := hv0
  have ea0 := ha0.len; subst ea0
  have qa0 := len_le ra0
  have T := Below.refl w.heap.size w
  unfold m_slices_IndexFunc_impl_Port_impl_Port at hm
  refine enter 19 Try.func167 rfl rfl rfl ?_
  intro f hf
  have s0 : f 0 = .slice Aa0 d0.length ca0 := hf 0 _ rfl
  have s1 : f 1 = .func (.func gf1) #[] caps1 := hf 1 _ rfl
  refine wp_seq ?_
  refine wp_rs rfl ?_
  refine RQ.y rfl (Y.assign (v := .int .i64 0) rfl) ?_
  refine RQ.nil ?_
  refine then_n ?_
  refine wp_seq ?_
  refine wp_seq ?_
  refine wp_rs rfl ?_
  refine RQ.y rfl (Y.move (v := .slice Aa0 d0.length ca0) s0) ?_
  refine RQ.y rfl (Y.len (by kernel_rfl) rfl) ?_
  refine RQ.y rfl (Y.move (v := .int .i64 0) rfl) ?_
  refine RQ.nil ?_
  refine then_n ?_
  refine wp_block ?_
  obtain ⟨K1, hK1, hm⟩ : ∃ K, K = m_slices_IndexFunc_impl_Port_impl_Port_A1 ∧ m_slices_IndexFunc_impl_Port_impl_Port_L1 d0 d1 K (d0.length + 1) 0 = some r := ⟨_, rfl, hm⟩
  refine wp_loopX (fun g f w' => ∃ (i2 : Int), f 0 = .slice Aa0 d0.length ca0 ∧ f 1 = .func (.func gf1) #[] caps1 ∧ f 7 = .int .i64 (d0.length : Int) ∧ f 8 = .int .i64 i2 ∧ 0 ≤ i2 ∧ Below w.heap.size w w' ∧ m_slices_IndexFunc_impl_Port_impl_Port_L1 d0 d1 K1 g i2 = some r) 0 (fun f w' => Below w.heap.size w w' ∧ m_slices_IndexFunc_impl_Port_impl_Port_A1  = some r) (d0.length + 1) ⟨0, s0, s1, rfl, rfl, (by omega), T, hm⟩ ?_ ?_
  · rintro f w1 ⟨T, hm⟩
    unfold m_slices_IndexFunc_impl_Port_impl_Port_A1 at hm
    refine blk_hit (then_n ?_)
    refine wp_seq ?_
    refine wp_rs rfl ?_
    refine RQ.y rfl (Y.assign (v := .int .i64 (-1)) rfl) ?_
    refine RQ.nil ?_
    refine then_n ?_
    refine wp_ret ?_
    obtain rfl := Option.some.inj hm
    exact (ret1 rfl rfl rfl ⟨rfl, T⟩)
  · rintro g f w3 ⟨i2, s0_1, s1_1, s7_1, s8_1, nn8_1, T, hm⟩
    rcases g with _ | g
    · simp only [m_slices_IndexFunc_impl_Port_impl_Port_L1] at hm; cases hm
    obtain ⟨rec1, hrec1, hm⟩ : ∃ z, z = m_slices_IndexFunc_impl_Port_impl_Port_L1 d0 d1 K1 g ∧ m_slices_IndexFunc_impl_Port_impl_Port_B1 d0 d1 z K1 i2 = some r := ⟨_, rfl, hm⟩
    unfold m_slices_IndexFunc_impl_Port_impl_Port_B1 at hm
    refine wp_seq ?_
    refine wp_rs rfl ?_
    refine RQ.y rfl (Y.binI (v := .bool (decide (i2 < (d0.length : Int)))) s8_1 s7_1 rfl) ?_
    refine RQ.nil ?_
    refine then_n ?_
    refine wp_seq ?_
    rcases bcases (decide (i2 < (d0.length : Int))) with c4 | c4
    · replace hm := cF c4 hm
      have pc4 := of_decide_eq_false c4
      refine cond_f rfl (vb rfl c4) ?_
      refine wp_exit ?_
      exact (then_x (then_x (hit_x ⟨_, rfl, ⟨T, (by rw [hK1] at hm; exact hm)⟩⟩)))
    · replace hm := cT c4 hm
      have pc4 := of_decide_eq_true c4
      refine cond_t rfl (vb rfl c4) ?_
      refine wp_skip ?_
      refine then_n ?_
      refine wp_seq ?_
      refine wp_block ?_
      refine wp_seq ?_
      refine wp_rs rfl ?_
      refine RQ.y rfl (Y.move (v := .int .i64 i2) s8_1) ?_
      refine RQ.y rfl (Y.assign (v := .int .i64 i2) rfl) ?_
      refine RQ.nil ?_
      refine then_n ?_
      refine wp_seq ?_
      refine wp_rb rfl ?_
      refine RQ.y rfl (Y.move (v := .func (.func gf1) #[] caps1) s1_1) ?_
      refine RQ.y rfl (Y.move (v := .slice Aa0 d0.length ca0) s0_1) ?_
      refine RQ.y rfl (Y.move (v := .int .i64 i2) rfl) ?_
      obtain ⟨x5, hx8, hm⟩ := bnd hm
      obtain ⟨k6, hk9, hl10, hx8⟩ := getI_some hx8
      obtain ⟨b12, o13, rfl, hbb12⟩ := ha0.addr (by omega)
      obtain ⟨cs7, hRcs7, hc11⟩ := ha0.el hx8
      have hScs7 := hRcs7
      obtain rfl := hRcs7
      refine RQ.y rfl (Y.indexAddr (m := k6) (sz := 2) rfl rfl hk9 hl10 (by kernel_rfl)) ?_
      refine RQ.y rfl (Y.loadN (cs := [.int .i64 x5.agent, .int .i64 x5.slot]) rfl (by kernel_rfl) (cells2 (beC (cellT T (hc11 0 _ rfl))) (beC (cellT T (hc11 1 _ rfl))))) ?_
      obtain ⟨y14, e15, hm⟩ := bnd hm
      refine RQ.callV rfl rfl (am1 rfl) hgo1 (v := .bool y14) (bel (K := fun _ => True) fun w' hb' => hf1 x5 y14 e15 w' (Tt T hb')) ?_
      refine RQ.nil ?_
      intro w16 hb17
      have szw16 := hb17.size
      have T := Tt T hb17
      refine then_n ?_
      rcases bcases y14 with c18 | c18
      · replace hm := cF c18 hm
        refine cond_f rfl (vb rfl c18) ?_
        refine wp_skip ?_
        refine blk_n (then_n ?_)
        refine wp_rs rfl ?_
        refine RQ.y rfl (Y.binI s8_1 rfl (binI_add (m := i2) (by omega))) ?_
        refine RQ.y rfl (Y.move (v := .int .i64 (i2 + 1)) rfl) ?_
        refine RQ.nil ?_
        exact (then_n ⟨g, _, Nat.lt_succ_self _, rfl, ⟨(i2 + 1), s0_1, s1_1, s7_1, rfl, (by omega), T, (by rw [← hrec1]; exact hm)⟩⟩)
      · replace hm := cT c18 hm
        refine cond_t rfl (vb rfl c18) ?_
        refine wp_seq ?_
        refine wp_rs rfl ?_
        refine RQ.y rfl (Y.move (v := .int .i64 i2) rfl) ?_
        refine RQ.y rfl (Y.assign (v := .int .i64 i2) rfl) ?_
        refine RQ.nil ?_
        refine then_n ?_
        refine wp_ret ?_
        obtain rfl := Option.some.inj hm
        exact (blk_r (then_r (then_r (hit_r (blk_r (then_r (ret1 rfl rfl rfl ⟨rfl, T⟩)))))))

def m_slices_ContainsFunc_impl_Port_impl_Port (d0 : List DPort) (d1 : DPort → Option Bool) : Option Bool :=
  ((m_slices_IndexFunc_impl_Port_impl_Port d0 d1).bind fun y1 => some (decide (y1 ≥ 0)))
set_option maxHeartbeats 2000000 in
theorem c_m_slices_ContainsFunc_impl_Port_impl_Port (d0 : List DPort) (d1 : DPort → Option Bool) (r : Bool) (hm : m_slices_ContainsFunc_impl_Port_impl_Port d0 d1 = some r) (v0 : Value) (gf1 : FuncId) (caps1 : Array Value) (w : World) (hv0 : Sl portRd 2 w v0 d0) (hgo1 : isGo Try.prog gf1 = true) (hf1 : ∀ (x0 : DPort) (b : Bool), d1 x0 = some b → ∀ w1, Below w.heap.size w w1 → Calls Try.prog gf1 (#[.agg #[.int .i64 x0.agent, .int .i64 x0.slot]] ++ caps1) w1 fun e w2 => e = .returned (.bool b) ∧ Below w1.heap.size w1 w2) :
    Calls Try.prog 116 #[v0, .func (.func gf1) #[] caps1] w fun e w' => e = .returned (.bool r) ∧ Below w.heap.size w w' := by
  obtain ⟨Aa0, na0, ca0, rfl, ha0, ra0⟩ := hv0
  have ea0 := ha0.len; subst ea0
  have qa0 := len_le ra0
  have T := Below.refl w.heap.size w
  unfold m_slices_ContainsFunc_impl_Port_impl_Port at hm
  refine enter 9 Try.func116 rfl rfl rfl ?_
  intro f hf
  have s0 : f 0 = .slice Aa0 d0.length ca0 := hf 0 _ rfl
  have s1 : f 1 = .func (.func gf1) #[] caps1 := hf 1 _ rfl
  refine wp_seq ?_
  refine wp_rs rfl ?_
  refine RQ.y rfl (Y.assign (v := .bool false) rfl) ?_
  refine RQ.nil ?_
  refine then_n ?_
  refine wp_seq ?_
  refine wp_rb rfl ?_
  refine RQ.y rfl (Y.move (v := .slice Aa0 d0.length ca0) s0) ?_
  refine RQ.y rfl (Y.move (v := .func (.func gf1) #[] caps1) s1) ?_
  obtain ⟨y1, e2, hm⟩ := bnd hm
  refine RQ.call rfl (am2 rfl rfl) (by kernel_rfl) (v := .int .i64 y1) (bel (K := fun _ => True) fun w' hb' => (c_m_slices_IndexFunc_impl_Port_impl_Port d0 d1 _ e2 _ _ _ w' (slArg portRd_ok ha0 ra0 (Tt T hb')) hgo1 (fun x0 b hx w1 hb1 => hf1 x0 b hx w1 (Tt (Tt T hb') hb1)))) ?_
  refine RQ.y rfl (Y.binI (v := .bool (decide (y1 ≥ 0))) rfl rfl rfl) ?_
  refine RQ.y rfl (Y.assign (v := .bool (decide (y1 ≥ 0))) rfl) ?_
  refine RQ.nil ?_
  intro w3 hb4
  have szw3 := hb4.size
  have T := Tt T hb4
  refine then_n ?_
  refine wp_ret ?_
  obtain rfl := Option.some.inj hm
  exact (ret1 rfl rfl rfl ⟨rfl, T⟩)

def m_slices_IndexFunc_int64_int64_A1 : Option Int :=
  some (-1)
def m_slices_IndexFunc_int64_int64_B1 (d0 : List Int) (d1 : Int → Option Bool) (rec1 : Int → Option Int) (K1 : Option Int) (i2 : Int) : Option Int :=
  (bif (decide (i2 < (d0.length : Int))) then ((getI d0 i2).bind fun x5 => ((d1 x5).bind fun y14 => (bif y14 then some i2 else (rec1 (i2 + 1))))) else (K1))
def m_slices_IndexFunc_int64_int64_L1 (d0 : List Int) (d1 : Int → Option Bool) (K1 : Option Int) : Nat → Int → Option Int
  | 0, _ => none
  | g + 1, i2 => m_slices_IndexFunc_int64_int64_B1 d0 d1 (m_slices_IndexFunc_int64_int64_L1 d0 d1 K1 g) K1 i2
def m_slices_IndexFunc_int64_int64 (d0 : List Int) (d1 : Int → Option Bool) : Option Int :=
  (m_slices_IndexFunc_int64_int64_L1 d0 d1 m_slices_IndexFunc_int64_int64_A1 (d0.length + 1) 0)
set_option maxHeartbeats 2000000 in
theorem c_m_slices_IndexFunc_int64_int64 (d0 : List Int) (d1 : Int → Option Bool) (r : Int) (hm : m_slices_IndexFunc_int64_int64 d0 d1 = some r) (v0 : Value) (gf1 : FuncId) (caps1 : Array Value) (w : World) (hv0 : Sl intRd 1 w v0 d0) (hgo1 : isGo Try.prog gf1 = true) (hf1 : ∀ (x0 : Int) (b : Bool), d1 x0 = some b → ∀ w1, Below w.heap.size w w1 → Calls Try.prog gf1 (#[.int .i64 x0] ++ caps1) w1 fun e w2 => e = .returned (.bool b) ∧ Below w1.heap.size w1 w2) :
    Calls Try.prog 195 #[v0, .func (.func gf1) #[] caps1] w fun e w' => e = .returned (.int .i64 r) ∧ Below w.heap.size w w' := by
  obtain ⟨Aa0, na0, ca0, rfl, ha0, ra0⟩ := hv0
  have ea0 := ha0.len; subst ea0
  have qa0 := len_le ra0
  have T := Below.refl w.heap.size w
  unfold m_slices_IndexFunc_int64_int64 at hm
  refine enter 19 Try.func195 rfl rfl rfl ?_
  intro f hf
  have s0 : f 0 = .slice Aa0 d0.length ca0 := hf 0 _ rfl
  have s1 : f 1 = .func (.func gf1) #[] caps1 := hf 1 _ rfl
  refine wp_seq ?_
  refine wp_rs rfl ?_
  refine RQ.y rfl (Y.assign (v := .int .i64 0) rfl) ?_
  refine RQ.nil ?_
  refine then_n ?_
  refine wp_seq ?_
  refine wp_seq ?_
  refine wp_rs rfl ?_
  refine RQ.y rfl (Y.move (v := .slice Aa0 d0.length ca0) s0) ?_
  refine RQ.y rfl (Y.len (by kernel_rfl) rfl) ?_
  refine RQ.y rfl (Y.move (v := .int .i64 0) rfl) ?_
  refine RQ.nil ?_
  refine then_n ?_
  refine wp_block ?_
  obtain ⟨K1, hK1, hm⟩ : ∃ K, K = m_slices_IndexFunc_int64_int64_A1 ∧ m_slices_IndexFunc_int64_int64_L1 d0 d1 K (d0.length + 1) 0 = some r := ⟨_, rfl, hm⟩
  refine wp_loopX (fun g f w' => ∃ (i2 : Int), f 0 = .slice Aa0 d0.length ca0 ∧ f 1 = .func (.func gf1) #[] caps1 ∧ f 7 = .int .i64 (d0.length : Int) ∧ f 8 = .int .i64 i2 ∧ 0 ≤ i2 ∧ Below w.heap.size w w' ∧ m_slices_IndexFunc_int64_int64_L1 d0 d1 K1 g i2 = some r) 0 (fun f w' => Below w.heap.size w w' ∧ m_slices_IndexFunc_int64_int64_A1  = some r) (d0.length + 1) ⟨0, s0, s1, rfl, rfl, (by omega), T, hm⟩ ?_ ?_
  · rintro f w1 ⟨T, hm⟩
    unfold m_slices_IndexFunc_int64_int64_A1 at hm
    refine blk_hit (then_n ?_)
    refine wp_seq ?_
    refine wp_rs rfl ?_
    refine RQ.y rfl (Y.assign (v := .int .i64 (-1)) rfl) ?_
    refine RQ.nil ?_
    refine then_n ?_
    refine wp_ret ?_
    obtain rfl := Option.some.inj hm
    exact (ret1 rfl rfl rfl ⟨rfl, T⟩)
  · rintro g f w3 ⟨i2, s0_1, s1_1, s7_1, s8_1, nn8_1, T, hm⟩
    rcases g with _ | g
    · simp only [m_slices_IndexFunc_int64_int64_L1] at hm; cases hm
    obtain ⟨rec1, hrec1, hm⟩ : ∃ z, z = m_slices_IndexFunc_int64_int64_L1 d0 d1 K1 g ∧ m_slices_IndexFunc_int64_int64_B1 d0 d1 z K1 i2 = some r := ⟨_, rfl, hm⟩
    unfold m_slices_IndexFunc_int64_int64_B1 at hm
    refine wp_seq ?_
    refine wp_rs rfl ?_
    refine RQ.y rfl (Y.binI (v := .bool (decide (i2 < (d0.length : Int)))) s8_1 s7_1 rfl) ?_
    refine RQ.nil ?_
    refine then_n ?_
    refine wp_seq ?_
    rcases bcases (decide (i2 < (d0.length : Int))) with c4 | c4
    · replace hm := cF c4 hm
      have pc4 := of_decide_eq_false c4
      refine cond_f rfl (vb rfl c4) ?_
      refine wp_exit ?_
      exact (then_x (then_x (hit_x ⟨_, rfl, ⟨T, (by rw [hK1] at hm; exact hm)⟩⟩)))
    · replace hm := cT c4 hm
      have pc4 := of_decide_eq_true c4
      refine cond_t rfl (vb rfl c4) ?_
      refine wp_skip ?_
      refine then_n ?_
      refine wp_seq ?_
      refine wp_block ?_
      refine wp_seq ?_
      refine wp_rs rfl ?_
      refine RQ.y rfl (Y.move (v := .int .i64 i2) s8_1) ?_
      refine RQ.y rfl (Y.assign (v := .int .i64 i2) rfl) ?_
      refine RQ.nil ?_
      refine then_n ?_
      refine wp_seq ?_
      refine wp_rb rfl ?_
      refine RQ.y rfl (Y.move (v := .func (.func gf1) #[] caps1) s1_1) ?_
      refine RQ.y rfl (Y.move (v := .slice Aa0 d0.length ca0) s0_1) ?_
      refine RQ.y rfl (Y.move (v := .int .i64 i2) rfl) ?_
      obtain ⟨x5, hx8, hm⟩ := bnd hm
      obtain ⟨k6, hk9, hl10, hx8⟩ := getI_some hx8
      obtain ⟨b12, o13, rfl, hbb12⟩ := ha0.addr (by omega)
      obtain ⟨cs7, hRcs7, hc11⟩ := ha0.el hx8
      have hScs7 := hRcs7
      obtain rfl := hRcs7
      refine RQ.y rfl (Y.indexAddr (m := k6) (sz := 1) rfl rfl hk9 hl10 (by kernel_rfl)) ?_
      refine RQ.y rfl (Y.load (v := .int .i64 x5) rfl (by kernel_rfl) (beC (cellT T (hc11 0 _ rfl)))) ?_
      obtain ⟨y14, e15, hm⟩ := bnd hm
      refine RQ.callV rfl rfl (am1 rfl) hgo1 (v := .bool y14) (bel (K := fun _ => True) fun w' hb' => hf1 x5 y14 e15 w' (Tt T hb')) ?_
      refine RQ.nil ?_
      intro w16 hb17
      have szw16 := hb17.size
      have T := Tt T hb17
      refine then_n ?_
      rcases bcases y14 with c18 | c18
      · replace hm := cF c18 hm
        refine cond_f rfl (vb rfl c18) ?_
        refine wp_skip ?_
        refine blk_n (then_n ?_)
        refine wp_rs rfl ?_
        refine RQ.y rfl (Y.binI s8_1 rfl (binI_add (m := i2) (by omega))) ?_
        refine RQ.y rfl (Y.move (v := .int .i64 (i2 + 1)) rfl) ?_
        refine RQ.nil ?_
        exact (then_n ⟨g, _, Nat.lt_succ_self _, rfl, ⟨(i2 + 1), s0_1, s1_1, s7_1, rfl, (by omega), T, (by rw [← hrec1]; exact hm)⟩⟩)
      · replace hm := cT c18 hm
        refine cond_t rfl (vb rfl c18) ?_
        refine wp_seq ?_
        refine wp_rs rfl ?_
        refine RQ.y rfl (Y.move (v := .int .i64 i2) rfl) ?_
        refine RQ.y rfl (Y.assign (v := .int .i64 i2) rfl) ?_
        refine RQ.nil ?_
        refine then_n ?_
        refine wp_ret ?_
        obtain rfl := Option.some.inj hm
        exact (blk_r (then_r (then_r (hit_r (blk_r (then_r (ret1 rfl rfl rfl ⟨rfl, T⟩)))))))

def m_slices_ContainsFunc_int64_int64 (d0 : List Int) (d1 : Int → Option Bool) : Option Bool :=
  ((m_slices_IndexFunc_int64_int64 d0 d1).bind fun y1 => some (decide (y1 ≥ 0)))
set_option maxHeartbeats 2000000 in
theorem c_m_slices_ContainsFunc_int64_int64 (d0 : List Int) (d1 : Int → Option Bool) (r : Bool) (hm : m_slices_ContainsFunc_int64_int64 d0 d1 = some r) (v0 : Value) (gf1 : FuncId) (caps1 : Array Value) (w : World) (hv0 : Sl intRd 1 w v0 d0) (hgo1 : isGo Try.prog gf1 = true) (hf1 : ∀ (x0 : Int) (b : Bool), d1 x0 = some b → ∀ w1, Below w.heap.size w w1 → Calls Try.prog gf1 (#[.int .i64 x0] ++ caps1) w1 fun e w2 => e = .returned (.bool b) ∧ Below w1.heap.size w1 w2) :
    Calls Try.prog 186 #[v0, .func (.func gf1) #[] caps1] w fun e w' => e = .returned (.bool r) ∧ Below w.heap.size w w' := by
  obtain ⟨Aa0, na0, ca0, rfl, ha0, ra0⟩ := hv0
  have ea0 := ha0.len; subst ea0
  have qa0 := len_le ra0
  have T := Below.refl w.heap.size w
  unfold m_slices_ContainsFunc_int64_int64 at hm
  refine enter 9 Try.func186 rfl rfl rfl ?_
  intro f hf
  have s0 : f 0 = .slice Aa0 d0.length ca0 := hf 0 _ rfl
  have s1 : f 1 = .func (.func gf1) #[] caps1 := hf 1 _ rfl
  refine wp_seq ?_
  refine wp_rs rfl ?_
  refine RQ.y rfl (Y.assign (v := .bool false) rfl) ?_
  refine RQ.nil ?_
  refine then_n ?_
  refine wp_seq ?_
  refine wp_rb rfl ?_
  refine RQ.y rfl (Y.move (v := .slice Aa0 d0.length ca0) s0) ?_
  refine RQ.y rfl (Y.move (v := .func (.func gf1) #[] caps1) s1) ?_
  obtain ⟨y1, e2, hm⟩ := bnd hm
  refine RQ.call rfl (am2 rfl rfl) (by kernel_rfl) (v := .int .i64 y1) (bel (K := fun _ => True) fun w' hb' => (c_m_slices_IndexFunc_int64_int64 d0 d1 _ e2 _ _ _ w' (slArg intRd_ok ha0 ra0 (Tt T hb')) hgo1 (fun x0 b hx w1 hb1 => hf1 x0 b hx w1 (Tt (Tt T hb') hb1)))) ?_
  refine RQ.y rfl (Y.binI (v := .bool (decide (y1 ≥ 0))) rfl rfl rfl) ?_
  refine RQ.y rfl (Y.assign (v := .bool (decide (y1 ≥ 0))) rfl) ?_
  refine RQ.nil ?_
  intro w3 hb4
  have szw3 := hb4.size
  have T := Tt T hb4
  refine then_n ?_
  refine wp_ret ?_
  obtain rfl := Option.some.inj hm
  exact (ret1 rfl rfl rfl ⟨rfl, T⟩)

def m_impl_ValidNet_1 (d0 : DPort) (d1 : DNet) : Option Bool :=
  ((m_impl_Net_peer d1 d0).bind fun y6 => (bif (y6.agent == d0.agent && y6.slot == d0.slot) then some true else ((m_impl_hasPort d1.agents y6).bind fun y18 => (bif y18 then ((m_impl_Net_peer d1 y6).bind fun y23 => some (!(y23.agent == d0.agent && y23.slot == d0.slot))) else some true))))
set_option maxHeartbeats 2000000 in
theorem c_m_impl_ValidNet_1 (d0 : DPort) (d1 : DNet) (r : Bool) (hm : m_impl_ValidNet_1 d0 d1 = some r) (v1 : Value) (w : World) (hv1 : Pt netRd w v1 d1) :
    Calls Try.prog 118 #[.agg #[.int .i64 d0.agent, .int .i64 d0.slot], v1] w fun e w' => e = .returned (.bool r) ∧ Below w.heap.size w w' := by
  obtain ⟨ba1, oa1, csa1, rfl, hba1, hRa1, hca1⟩ := hv1
  have hSa1 := hRa1
  obtain ⟨A1, n1, c1, rfl, ⟨h1, r1⟩⟩ := hRa1
  have e1 := h1.len; subst e1
  have q1 := len_le r1
  have T := Below.refl w.heap.size w
  unfold m_impl_ValidNet_1 at hm
  refine enter 23 Try.func118 rfl rfl rfl ?_
  intro f hf
  have s0 : f 0 = .agg #[.int .i64 d0.agent, .int .i64 d0.slot] := hf 0 _ rfl
  have s1 : f 1 = .pointer (some ⟨ba1, oa1, none⟩) := hf 1 _ rfl
  refine wp_seq ?_
  refine wp_rl rfl ?_
  refine RL.box rfl s0 (fun w2 B3 hb4 szw2 => ?_)
  replace B3 : Blk w2 w.heap.size 53 #[.int .i64 d0.agent, .int .i64 d0.slot] := B3
  have GB3 : w.heap.size ≤ w.heap.size := T.size
  have T := Tt T hb4
  refine RL.y rfl (Y.assign (v := .bool false) rfl) ?_
  refine RL.nil ?_
  refine then_n ?_
  refine wp_seq ?_
  refine wp_rl rfl ?_
  refine RL.y rfl (Y.loadN (cs := [.int .i64 d0.agent, .int .i64 d0.slot]) rfl (by kernel_rfl) (cells2 (eqC (blkCell B3 (i := 0) rfl)) (eqC (blkCell B3 (i := 1) rfl)))) ?_
  obtain ⟨y6, e7, hm⟩ := bnd hm
  refine RL.call rfl (am2 s1 rfl) (by kernel_rfl) ((c_m_impl_Net_peer d1 d0 _ e7 _ _ (ptArg netRd_ok hba1 hSa1 hca1 T)).mono ?_)
  rintro _ w8 ⟨rfl, hb9⟩
  refine ⟨_, rfl, ?_⟩
  have szw8 := hb9.size
  have B3 := blkT B3 hb9
  have T := Tt T hb9
  refine RL.alloc (z := .agg #[.int .i64 0, .int .i64 0]) rfl (by kernel_rfl) (fun w10 B11 hb12 szw10 => ?_)
  replace B11 : Blk w10 w8.heap.size 53 #[.int .i64 0, .int .i64 0] := B11
  have GB11 : w.heap.size ≤ w8.heap.size := T.size
  have Eob13_ob5 := Nat.ne_of_lt B3.lt
  have B3 := blkT B3 hb12
  have T := Tt T hb12
  refine RL.store (v := .agg #[.int .i64 y6.agent, .int .i64 y6.slot]) (cs' := #[.int .i64 y6.agent, .int .i64 y6.slot]) rfl rfl rfl B11 (by kernel_rfl) (by rfl) (by rfl) (by rfl) (fun w14 B15 ho16 => ?_)
  have szw14 := ho16.size
  have B3 := B3.only_ ho16 (by intro hin; simp at hin; exact Eob13_ob5 hin)
  have T := T.trans (ho16.below (by simp; omega))
  refine RL.nil ?_
  refine then_n ?_
  refine wp_seq ?_
  refine wp_rbd (by kernel_rfl) (by kernel_rfl) ?_
  refine RQ.y rfl (Y.loadN (cs := [.int .i64 y6.agent, .int .i64 y6.slot]) rfl (by kernel_rfl) (cells2 (beC (blkCell B15 (i := 0) rfl)) (beC (blkCell B15 (i := 1) rfl)))) ?_
  refine RQ.y rfl (Y.loadN (cs := [.int .i64 d0.agent, .int .i64 d0.slot]) rfl (by kernel_rfl) (cells2 (beC (blkCell B3 (i := 0) rfl)) (beC (blkCell B3 (i := 1) rfl)))) ?_
  refine RQ.y rfl (Y.eqS (b := (y6.agent == d0.agent && y6.slot == d0.slot)) rfl rfl (eqPort_run _ _ _ _) (eqGuardPort_run _ _ _ _ _)) ?_
  refine RQ.y rfl (Y.move (v := .bool (y6.agent == d0.agent && y6.slot == d0.slot)) rfl) ?_
  rcases bcases (y6.agent == d0.agent && y6.slot == d0.slot) with c17 | c17
  · replace hm := cF c17 hm
    refine RQ.y (wantT (dj := 10) rfl (vb rfl c17)) (Y.fieldAddr (off := 0) s1 (by kernel_rfl)) ?_
    refine RQ.y (wantT (dj := 10) rfl (vb rfl c17)) (Y.load (v := .slice A1 d1.agents.length c1) rfl (by kernel_rfl) (beC (cellT T (hca1 0 _ rfl)))) ?_
    refine RQ.y (wantT (dj := 10) rfl (vb rfl c17)) (Y.loadN (cs := [.int .i64 y6.agent, .int .i64 y6.slot]) rfl (by kernel_rfl) (cells2 (beC (blkCell B15 (i := 0) rfl)) (beC (blkCell B15 (i := 1) rfl)))) ?_
    obtain ⟨y18, e19, hm⟩ := bnd hm
    refine RQ.call (wantT (dj := 10) rfl (vb rfl c17)) (am2 rfl rfl) (by kernel_rfl) (v := .bool y18) (bel (K := fun _ => True) fun w' hb' => (c_m_impl_hasPort d1.agents y6 _ e19 _ w' (slArg agentRd_ok h1 r1 (Tt T hb')))) ?_
    refine RQ.y (wantT (dj := 10) rfl (vb rfl c17)) (Y.not (b' := (!y18)) rfl rfl) ?_
    refine RQ.y rfl (Y.pick (b := false) (v := .bool (!y18)) (vb rfl c17) rfl) ?_
    refine RQ.y rfl (Y.move (v := .bool (!y18)) rfl) ?_
    rcases bcases y18 with c20 | c20
    · replace hm := cF c20 hm
      refine RQ.skip (wantN (dj := 17) rfl (vbn rfl c20 rfl) rfl) ?_
      refine RQ.skip (wantN (dj := 17) rfl (vbn rfl c20 rfl) rfl) ?_
      refine RQ.skip (wantN (dj := 17) rfl (vbn rfl c20 rfl) rfl) ?_
      refine RQ.skip (wantN (dj := 17) rfl (vbn rfl c20 rfl) rfl) ?_
      refine RQ.y rfl (Y.pick (b := true) (v := .bool true) (vbn rfl c20 rfl) rfl) ?_
      refine RQ.y rfl (Y.assign (v := .bool true) rfl) ?_
      refine RQ.nil ?_
      intro w21 hb22
      have szw21 := hb22.size
      have T := Tt T hb22
      refine then_n ?_
      refine wp_ret ?_
      obtain rfl := Option.some.inj hm
      exact (ret1 rfl rfl rfl ⟨rfl, T⟩)
    · replace hm := cT c20 hm
      refine RQ.y (wantT (dj := 17) rfl (vbn rfl c20 rfl)) (Y.loadN (cs := [.int .i64 y6.agent, .int .i64 y6.slot]) rfl (by kernel_rfl) (cells2 (beC (blkCell B15 (i := 0) rfl)) (beC (blkCell B15 (i := 1) rfl)))) ?_
      obtain ⟨y23, e24, hm⟩ := bnd hm
      refine RQ.call (wantT (dj := 17) rfl (vbn rfl c20 rfl)) (am2 s1 rfl) (by kernel_rfl) (v := .agg #[.int .i64 y23.agent, .int .i64 y23.slot]) (bel (K := fun _ => True) fun w' hb' => (c_m_impl_Net_peer d1 y6 _ e24 _ w' (ptArg netRd_ok hba1 hSa1 hca1 (Tt T hb')))) ?_
      refine RQ.y (wantT (dj := 17) rfl (vbn rfl c20 rfl)) (Y.loadN (cs := [.int .i64 d0.agent, .int .i64 d0.slot]) rfl (by kernel_rfl) (cells2 (beC (blkCell B3 (i := 0) rfl)) (beC (blkCell B3 (i := 1) rfl)))) ?_
      refine RQ.y (wantT (dj := 17) rfl (vbn rfl c20 rfl)) (Y.neS (b := (y23.agent == d0.agent && y23.slot == d0.slot)) rfl rfl (eqPort_run _ _ _ _) (eqGuardPort_run _ _ _ _ _)) ?_
      refine RQ.y rfl (Y.pick (b := false) (v := .bool (!(y23.agent == d0.agent && y23.slot == d0.slot))) (vbn rfl c20 rfl) rfl) ?_
      refine RQ.y rfl (Y.assign (v := .bool (!(y23.agent == d0.agent && y23.slot == d0.slot))) rfl) ?_
      refine RQ.nil ?_
      intro w25 hb26
      have szw25 := hb26.size
      have T := Tt T hb26
      refine then_n ?_
      refine wp_ret ?_
      obtain rfl := Option.some.inj hm
      exact (ret1 rfl rfl rfl ⟨rfl, T⟩)
  · replace hm := cT c17 hm
    refine RQ.skip (wantN (dj := 10) rfl (vb rfl c17) rfl) ?_
    refine RQ.skip (wantN (dj := 10) rfl (vb rfl c17) rfl) ?_
    refine RQ.skip (wantN (dj := 10) rfl (vb rfl c17) rfl) ?_
    refine RQ.skip (wantN (dj := 10) rfl (vb rfl c17) rfl) ?_
    refine RQ.skip (wantN (dj := 10) rfl (vb rfl c17) rfl) ?_
    refine RQ.y rfl (Y.pick (b := true) (v := .bool true) (vb rfl c17) rfl) ?_
    refine RQ.y rfl (Y.move (v := .bool true) rfl) ?_
    refine RQ.skip (wantN (dj := 17) rfl rfl rfl) ?_
    refine RQ.skip (wantN (dj := 17) rfl rfl rfl) ?_
    refine RQ.skip (wantN (dj := 17) rfl rfl rfl) ?_
    refine RQ.skip (wantN (dj := 17) rfl rfl rfl) ?_
    refine RQ.y rfl (Y.pick (b := true) (v := .bool true) rfl rfl) ?_
    refine RQ.y rfl (Y.assign (v := .bool true) rfl) ?_
    refine RQ.nil ?_
    intro w27 hb28
    have szw27 := hb28.size
    have T := Tt T hb28
    refine then_n ?_
    refine wp_ret ?_
    obtain rfl := Option.some.inj hm
    exact (ret1 rfl rfl rfl ⟨rfl, T⟩)

def m_impl_wellFormed (d0 : DAgent) : Option Bool :=
  (bif ((d0.ports.length : Int) == 0) then some false else ((m_impl_fieldsOf d0.kind (d0.ports.length : Int)).bind fun y8 => (bif ((portsOf d0.kind y8) != (d0.ports.length : Int)) then some false else (bif (allowed d0.kind d0.level) then ((m_slices_ContainsFunc_int64_int64 d0.data (fun x0 => m_impl_wellFormed_1 x0)).bind fun y16 => (bif (d0.kind == 6) then ((m_impl_isInt d0.value).bind fun y69 => (bif y69 then some ((d0.data.length : Int) == 0) else some false)) else (bif (d0.kind == 7) then ((m_impl_isOperator d0.value).bind fun y64 => (bif y64 then some ((d0.data.length : Int) == 0) else some false)) else (bif (d0.kind == 8) then ((m_impl_isOperator d0.value).bind fun y43 => (bif y43 then (bif ((d0.data.length : Int) == 1) then ((getI d0.data 0).bind fun x51 => ((m_impl_isInt x51).bind fun y60 => some y60)) else some false) else some false)) else (bif (d0.kind == 9) then (bif (decide (d0.value ≥ 0)) then (bif (decide (d0.value < 4)) then some ((d0.data.length : Int) == 0) else some false) else some false) else (bif (d0.kind == 10) then (bif (decide ((d0.data.length : Int) ≥ 1)) then (bif (decide ((d0.data.length : Int) ≤ 4)) then (bif (d0.value == 0) then some (!y16) else some false) else (bif (d0.value == 0) then some false else some false)) else (bif (d0.value == 0) then some false else some false)) else (bif (d0.kind == 11) then (bif ((d0.data.length : Int) == 2) then (bif (d0.value == 0) then some (!y16) else some false) else (bif (d0.value == 0) then some false else some false)) else (bif (d0.kind == 12) then ((m_impl_isDefIndex d0.value).bind fun y28 => (bif y28 then some ((d0.data.length : Int) == 0) else some false)) else (bif (d0.value == 0) then some ((d0.data.length : Int) == 0) else some false))))))))) else some false))))
set_option maxHeartbeats 2000000 in
theorem c_m_impl_wellFormed (d0 : DAgent) (r : Bool) (hm : m_impl_wellFormed d0 = some r) (v0 : Value) (w : World) (hv0 : St agentRd w v0 d0) :
    Calls Try.prog 166 #[v0] w fun e w' => e = .returned (.bool r) ∧ Below w.heap.size w w' := by
  obtain ⟨csa0, rfl, ⟨A1, n1, c1, A2, n2, c2, rfl, ⟨h1, r1⟩, ⟨h2, r2⟩⟩⟩ := hv0
  have e1 := h1.len; subst e1
  have q1 := len_le r1
  have e2 := h2.len; subst e2
  have q2 := len_le r2
  have T := Below.refl w.heap.size w
  unfold m_impl_wellFormed at hm
  refine enter 117 Try.func166 rfl rfl rfl ?_
  intro f hf
  have s0 : f 0 = .agg #[.int .i64 d0.kind, .int .i64 d0.level, .int .i64 d0.value, .slice A1 d0.data.length c1, .slice A2 d0.ports.length c2] := hf 0 _ rfl
  refine wp_seq ?_
  refine wp_rl rfl ?_
  refine RL.box rfl s0 (fun w3 B4 hb5 szw3 => ?_)
  replace B4 : Blk w3 w.heap.size 89 #[.int .i64 d0.kind, .int .i64 d0.level, .int .i64 d0.value, .slice A1 d0.data.length c1, .slice A2 d0.ports.length c2] := B4
  have GB4 : w.heap.size ≤ w.heap.size := T.size
  have T := Tt T hb5
  refine RL.y rfl (Y.assign (v := .bool false) rfl) ?_
  refine RL.nil ?_
  refine then_n ?_
  refine wp_seq ?_
  refine wp_seq ?_
  refine wp_rbd (by kernel_rfl) (by kernel_rfl) ?_
  refine RQ.y rfl (Y.fieldAddr (off := 4) rfl (by kernel_rfl)) ?_
  refine RQ.y rfl (Y.load (v := .slice A2 d0.ports.length c2) rfl (by kernel_rfl) (beC (blkCell B4 (i := 4) rfl))) ?_
  refine RQ.y rfl (Y.len (by kernel_rfl) rfl) ?_
  refine RQ.y rfl (Y.binI (v := .bool ((d0.ports.length : Int) == 0)) rfl rfl rfl) ?_
  refine RQ.y rfl (Y.move (v := .bool ((d0.ports.length : Int) == 0)) rfl) ?_
  rcases bcases ((d0.ports.length : Int) == 0) with c7 | c7
  · replace hm := cF c7 hm
    refine RQ.y (wantT (dj := 10) rfl (vb rfl c7)) (Y.fieldAddr (off := 0) rfl (by kernel_rfl)) ?_
    refine RQ.y (wantT (dj := 10) rfl (vb rfl c7)) (Y.load (v := .int .i64 d0.kind) rfl (by kernel_rfl) (beC (blkCell B4 (i := 0) rfl))) ?_
    refine RQ.y (wantT (dj := 10) rfl (vb rfl c7)) (Y.fieldAddr (off := 0) rfl (by kernel_rfl)) ?_
    refine RQ.y (wantT (dj := 10) rfl (vb rfl c7)) (Y.load (v := .int .i64 d0.kind) rfl (by kernel_rfl) (beC (blkCell B4 (i := 0) rfl))) ?_
    refine RQ.y (wantT (dj := 10) rfl (vb rfl c7)) (Y.fieldAddr (off := 4) rfl (by kernel_rfl)) ?_
    refine RQ.y (wantT (dj := 10) rfl (vb rfl c7)) (Y.load (v := .slice A2 d0.ports.length c2) rfl (by kernel_rfl) (beC (blkCell B4 (i := 4) rfl))) ?_
    refine RQ.y (wantT (dj := 10) rfl (vb rfl c7)) (Y.len (by kernel_rfl) rfl) ?_
    obtain ⟨y8, e9, hm⟩ := bnd hm
    refine RQ.call (wantT (dj := 10) rfl (vb rfl c7)) (am2 rfl rfl) (by kernel_rfl) (v := .int .i64 y8) (bel (K := fun _ => True) fun w' hb' => (c_m_impl_fieldsOf d0.kind (d0.ports.length : Int) _ e9  w' )) ?_
    refine RQ.call (wantT (dj := 10) rfl (vb rfl c7)) (am2 rfl rfl) (by kernel_rfl) (v := .int .i64 (portsOf d0.kind y8)) (bel (K := fun _ => True) fun w' hb' => (callB (impl_PortsOf d0.kind y8 w'))) ?_
    refine RQ.y (wantT (dj := 10) rfl (vb rfl c7)) (Y.fieldAddr (off := 4) rfl (by kernel_rfl)) ?_
    refine RQ.y (wantT (dj := 10) rfl (vb rfl c7)) (Y.load (v := .slice A2 d0.ports.length c2) rfl (by kernel_rfl) (beC (blkCell B4 (i := 4) rfl))) ?_
    refine RQ.y (wantT (dj := 10) rfl (vb rfl c7)) (Y.len (by kernel_rfl) rfl) ?_
    refine RQ.y (wantT (dj := 10) rfl (vb rfl c7)) (Y.binI (v := .bool ((portsOf d0.kind y8) != (d0.ports.length : Int))) rfl rfl rfl) ?_
    refine RQ.y rfl (Y.pick (b := false) (v := .bool ((portsOf d0.kind y8) != (d0.ports.length : Int))) (vb rfl c7) rfl) ?_
    refine RQ.y rfl (Y.move (v := .bool ((portsOf d0.kind y8) != (d0.ports.length : Int))) rfl) ?_
    rcases bcases ((portsOf d0.kind y8) != (d0.ports.length : Int)) with c10 | c10
    · replace hm := cF c10 hm
      refine RQ.y (wantT (dj := 25) rfl (vb rfl c10)) (Y.fieldAddr (off := 0) rfl (by kernel_rfl)) ?_
      refine RQ.y (wantT (dj := 25) rfl (vb rfl c10)) (Y.load (v := .int .i64 d0.kind) rfl (by kernel_rfl) (beC (blkCell B4 (i := 0) rfl))) ?_
      refine RQ.y (wantT (dj := 25) rfl (vb rfl c10)) (Y.fieldAddr (off := 1) rfl (by kernel_rfl)) ?_
      refine RQ.y (wantT (dj := 25) rfl (vb rfl c10)) (Y.load (v := .int .i64 d0.level) rfl (by kernel_rfl) (beC (blkCell B4 (i := 1) rfl))) ?_
      refine RQ.call (wantT (dj := 25) rfl (vb rfl c10)) (am2 rfl rfl) (by kernel_rfl) (v := .bool (allowed d0.kind d0.level)) (bel (K := fun _ => True) fun w' hb' => (callB (impl_isAllowed d0.kind d0.level w'))) ?_
      refine RQ.y (wantT (dj := 25) rfl (vb rfl c10)) (Y.not (b' := (!(allowed d0.kind d0.level))) rfl rfl) ?_
      refine RQ.y rfl (Y.pick (b := false) (v := .bool (!(allowed d0.kind d0.level))) (vb rfl c10) rfl) ?_
      refine RQ.nil ?_
      intro w11 hb12
      have szw11 := hb12.size
      have B4 := blkT B4 hb12
      have T := Tt T hb12
      refine then_n ?_
      rcases bcases (allowed d0.kind d0.level) with c13 | c13
      · replace hm := cF c13 hm
        refine cond_t rfl (vbn rfl c13 rfl) ?_
        refine wp_seq ?_
        refine wp_rs rfl ?_
        refine RQ.y rfl (Y.assign (v := .bool false) rfl) ?_
        refine RQ.nil ?_
        refine then_n ?_
        refine wp_ret ?_
        obtain rfl := Option.some.inj hm
        exact (then_r (ret1 rfl rfl rfl ⟨rfl, T⟩))
      · replace hm := cT c13 hm
        refine cond_f rfl (vbn rfl c13 rfl) ?_
        refine wp_skip ?_
        refine then_n ?_
        refine wp_seq ?_
        refine wp_rbd (by kernel_rfl) (by kernel_rfl) ?_
        refine RQ.y rfl (Y.fieldAddr (off := 2) rfl (by kernel_rfl)) ?_
        refine RQ.y rfl (Y.load (v := .int .i64 d0.value) rfl (by kernel_rfl) (beC (blkCell B4 (i := 2) rfl))) ?_
        refine RQ.y rfl (Y.binI (v := .bool (d0.value == 0)) rfl rfl rfl) ?_
        refine RQ.y rfl (Y.fieldAddr (off := 3) rfl (by kernel_rfl)) ?_
        refine RQ.y rfl (Y.load (v := .slice A1 d0.data.length c1) rfl (by kernel_rfl) (beC (blkCell B4 (i := 3) rfl))) ?_
        refine RQ.y rfl (Y.len (by kernel_rfl) rfl) ?_
        refine RQ.y rfl (Y.binI (v := .bool ((d0.data.length : Int) == 0)) rfl rfl rfl) ?_
        refine RQ.y rfl (Y.assign (v := .bool (d0.value == 0)) rfl) ?_
        refine RQ.y rfl (Y.assign (v := .bool ((d0.data.length : Int) == 0)) rfl) ?_
        refine RQ.nil ?_
        intro w14 hb15
        have szw14 := hb15.size
        have B4 := blkT B4 hb15
        have T := Tt T hb15
        refine then_n ?_
        refine wp_seq ?_
        refine wp_rb rfl ?_
        refine RQ.y rfl (Y.fieldAddr (off := 3) rfl (by kernel_rfl)) ?_
        refine RQ.y rfl (Y.load (v := .slice A1 d0.data.length c1) rfl (by kernel_rfl) (beC (blkCell B4 (i := 3) rfl))) ?_
        obtain ⟨y16, e17, hm⟩ := bnd hm
        refine RQ.call rfl (am2 rfl rfl) (by kernel_rfl) (v := .bool y16) (bel (K := fun _ => True) fun w' hb' => (c_m_slices_ContainsFunc_int64_int64 d0.data (fun x0 => m_impl_wellFormed_1 x0) _ e17 _ _ _ w' (slArg intRd_ok h1 r1 (Tt T hb')) (by kernel_rfl) (fun x0 b hx w1 hb1 => Calls.arr (by simp) (c_m_impl_wellFormed_1 x0 _ hx  w1 )))) ?_
        refine RQ.y rfl (Y.not (b' := (!y16)) rfl rfl) ?_
        refine RQ.y rfl (Y.assign (v := .bool (!y16)) rfl) ?_
        refine RQ.nil ?_
        intro w18 hb19
        have szw18 := hb19.size
        have B4 := blkT B4 hb19
        have T := Tt T hb19
        refine then_n ?_
        refine wp_seq ?_
        refine wp_seq ?_
        refine wp_rs rfl ?_
        refine RQ.y rfl (Y.fieldAddr (off := 0) rfl (by kernel_rfl)) ?_
        refine RQ.y rfl (Y.load (v := .int .i64 d0.kind) rfl (by kernel_rfl) (eqC (blkCell B4 (i := 0) rfl))) ?_
        refine RQ.nil ?_
        refine then_n ?_
        refine wp_block ?_
        refine wp_seq ?_
        refine wp_rs rfl ?_
        refine RQ.y rfl (Y.binI (v := .bool (d0.kind == 6)) rfl rfl rfl) ?_
        refine RQ.y rfl (Y.assign (v := .bool (d0.kind == 6)) rfl) ?_
        refine RQ.nil ?_
        refine then_n ?_
        rcases bcases (d0.kind == 6) with c20 | c20
        · replace hm := cF c20 hm
          refine cond_f rfl (vb rfl c20) ?_
          refine wp_seq ?_
          refine wp_rs rfl ?_
          refine RQ.y rfl (Y.binI (v := .bool (d0.kind == 7)) rfl rfl rfl) ?_
          refine RQ.y rfl (Y.assign (v := .bool (d0.kind == 7)) rfl) ?_
          refine RQ.nil ?_
          refine then_n ?_
          rcases bcases (d0.kind == 7) with c21 | c21
          · replace hm := cF c21 hm
            refine cond_f rfl (vb rfl c21) ?_
            refine wp_seq ?_
            refine wp_rs rfl ?_
            refine RQ.y rfl (Y.binI (v := .bool (d0.kind == 8)) rfl rfl rfl) ?_
            refine RQ.y rfl (Y.assign (v := .bool (d0.kind == 8)) rfl) ?_
            refine RQ.nil ?_
            refine then_n ?_
            rcases bcases (d0.kind == 8) with c22 | c22
            · replace hm := cF c22 hm
              refine cond_f rfl (vb rfl c22) ?_
              refine wp_seq ?_
              refine wp_rs rfl ?_
              refine RQ.y rfl (Y.binI (v := .bool (d0.kind == 9)) rfl rfl rfl) ?_
              refine RQ.y rfl (Y.assign (v := .bool (d0.kind == 9)) rfl) ?_
              refine RQ.nil ?_
              refine then_n ?_
              rcases bcases (d0.kind == 9) with c23 | c23
              · replace hm := cF c23 hm
                refine cond_f rfl (vb rfl c23) ?_
                refine wp_seq ?_
                refine wp_rs rfl ?_
                refine RQ.y rfl (Y.binI (v := .bool (d0.kind == 10)) rfl rfl rfl) ?_
                refine RQ.y rfl (Y.assign (v := .bool (d0.kind == 10)) rfl) ?_
                refine RQ.nil ?_
                refine then_n ?_
                rcases bcases (d0.kind == 10) with c24 | c24
                · replace hm := cF c24 hm
                  refine cond_f rfl (vb rfl c24) ?_
                  refine wp_seq ?_
                  refine wp_rs rfl ?_
                  refine RQ.y rfl (Y.binI (v := .bool (d0.kind == 11)) rfl rfl rfl) ?_
                  refine RQ.y rfl (Y.assign (v := .bool (d0.kind == 11)) rfl) ?_
                  refine RQ.nil ?_
                  refine then_n ?_
                  rcases bcases (d0.kind == 11) with c25 | c25
                  · replace hm := cF c25 hm
                    refine cond_f rfl (vb rfl c25) ?_
                    refine wp_seq ?_
                    refine wp_rs rfl ?_
                    refine RQ.y rfl (Y.binI (v := .bool (d0.kind == 12)) rfl rfl rfl) ?_
                    refine RQ.y rfl (Y.assign (v := .bool (d0.kind == 12)) rfl) ?_
                    refine RQ.nil ?_
                    refine then_n ?_
                    rcases bcases (d0.kind == 12) with c26 | c26
                    · replace hm := cF c26 hm
                      refine cond_f rfl (vb rfl c26) ?_
                      refine wp_skip ?_
                      refine blk_n (then_n ?_)
                      refine wp_seq ?_
                      refine wp_rs rfl ?_
                      refine RQ.y rfl (Y.move (v := .bool (d0.value == 0)) rfl) ?_
                      refine RQ.y rfl (Y.move (v := .bool (d0.value == 0)) rfl) ?_
                      rcases bcases (d0.value == 0) with c27 | c27
                      · replace hm := cF c27 hm
                        refine RQ.skip (wantN (dj := 114) rfl (vb rfl c27) rfl) ?_
                        refine RQ.y rfl (Y.pick (b := false) (v := .bool false) (vb rfl c27) rfl) ?_
                        refine RQ.y rfl (Y.assign (v := .bool false) rfl) ?_
                        refine RQ.nil ?_
                        refine then_n ?_
                        refine wp_ret ?_
                        obtain rfl := Option.some.inj hm
                        exact (ret1 rfl rfl rfl ⟨rfl, T⟩)
                      · replace hm := cT c27 hm
                        refine RQ.y (wantT (dj := 114) rfl (vb rfl c27)) (Y.move (v := .bool ((d0.data.length : Int) == 0)) rfl) ?_
                        refine RQ.y rfl (Y.pick (b := true) (v := .bool ((d0.data.length : Int) == 0)) (vb rfl c27) rfl) ?_
                        refine RQ.y rfl (Y.assign (v := .bool ((d0.data.length : Int) == 0)) rfl) ?_
                        refine RQ.nil ?_
                        refine then_n ?_
                        refine wp_ret ?_
                        obtain rfl := Option.some.inj hm
                        exact (ret1 rfl rfl rfl ⟨rfl, T⟩)
                    · replace hm := cT c26 hm
                      refine cond_t rfl (vb rfl c26) ?_
                      refine wp_rb rfl ?_
                      refine RQ.y rfl (Y.fieldAddr (off := 2) rfl (by kernel_rfl)) ?_
                      refine RQ.y rfl (Y.load (v := .int .i64 d0.value) rfl (by kernel_rfl) (beC (blkCell B4 (i := 2) rfl))) ?_
                      obtain ⟨y28, e29, hm⟩ := bnd hm
                      refine RQ.call rfl (am1 rfl) (by kernel_rfl) (v := .bool y28) (bel (K := fun _ => True) fun w' hb' => (c_m_impl_isDefIndex d0.value _ e29  w' )) ?_
                      refine RQ.y rfl (Y.assign (v := .bool y28) rfl) ?_
                      refine RQ.nil ?_
                      intro w30 hb31
                      have szw30 := hb31.size
                      have T := Tt T hb31
                      refine blk_n (then_n ?_)
                      refine wp_seq ?_
                      refine wp_rs rfl ?_
                      refine RQ.y rfl (Y.move (v := .bool y28) rfl) ?_
                      refine RQ.y rfl (Y.move (v := .bool y28) rfl) ?_
                      rcases bcases y28 with c32 | c32
                      · replace hm := cF c32 hm
                        refine RQ.skip (wantN (dj := 114) rfl (vb rfl c32) rfl) ?_
                        refine RQ.y rfl (Y.pick (b := false) (v := .bool false) (vb rfl c32) rfl) ?_
                        refine RQ.y rfl (Y.assign (v := .bool false) rfl) ?_
                        refine RQ.nil ?_
                        refine then_n ?_
                        refine wp_ret ?_
                        obtain rfl := Option.some.inj hm
                        exact (ret1 rfl rfl rfl ⟨rfl, T⟩)
                      · replace hm := cT c32 hm
                        refine RQ.y (wantT (dj := 114) rfl (vb rfl c32)) (Y.move (v := .bool ((d0.data.length : Int) == 0)) rfl) ?_
                        refine RQ.y rfl (Y.pick (b := true) (v := .bool ((d0.data.length : Int) == 0)) (vb rfl c32) rfl) ?_
                        refine RQ.y rfl (Y.assign (v := .bool ((d0.data.length : Int) == 0)) rfl) ?_
                        refine RQ.nil ?_
                        refine then_n ?_
                        refine wp_ret ?_
                        obtain rfl := Option.some.inj hm
                        exact (ret1 rfl rfl rfl ⟨rfl, T⟩)
                  · replace hm := cT c25 hm
                    refine cond_t rfl (vb rfl c25) ?_
                    refine wp_rs rfl ?_
                    refine RQ.y rfl (Y.fieldAddr (off := 3) rfl (by kernel_rfl)) ?_
                    refine RQ.y rfl (Y.load (v := .slice A1 d0.data.length c1) rfl (by kernel_rfl) (eqC (blkCell B4 (i := 3) rfl))) ?_
                    refine RQ.y rfl (Y.len (by kernel_rfl) rfl) ?_
                    refine RQ.y rfl (Y.binI (v := .bool ((d0.data.length : Int) == 2)) rfl rfl rfl) ?_
                    refine RQ.y rfl (Y.move (v := .bool ((d0.data.length : Int) == 2)) rfl) ?_
                    rcases bcases ((d0.data.length : Int) == 2) with c33 | c33
                    · replace hm := cF c33 hm
                      refine RQ.skip (wantN (dj := 105) rfl (vb rfl c33) rfl) ?_
                      refine RQ.y rfl (Y.pick (b := false) (v := .bool false) (vb rfl c33) rfl) ?_
                      refine RQ.y rfl (Y.assign (v := .bool false) rfl) ?_
                      refine RQ.nil ?_
                      refine blk_n (then_n ?_)
                      refine wp_seq ?_
                      refine wp_rs rfl ?_
                      refine RQ.y rfl (Y.move (v := .bool (d0.value == 0)) rfl) ?_
                      refine RQ.y rfl (Y.move (v := .bool (d0.value == 0)) rfl) ?_
                      rcases bcases (d0.value == 0) with c34 | c34
                      · replace hm := cF c34 hm
                        refine RQ.skip (wantN (dj := 114) rfl (vb rfl c34) rfl) ?_
                        refine RQ.y rfl (Y.pick (b := false) (v := .bool false) (vb rfl c34) rfl) ?_
                        refine RQ.y rfl (Y.assign (v := .bool false) rfl) ?_
                        refine RQ.nil ?_
                        refine then_n ?_
                        refine wp_ret ?_
                        obtain rfl := Option.some.inj hm
                        exact (ret1 rfl rfl rfl ⟨rfl, T⟩)
                      · replace hm := cT c34 hm
                        refine RQ.y (wantT (dj := 114) rfl (vb rfl c34)) (Y.move (v := .bool false) rfl) ?_
                        refine RQ.y rfl (Y.pick (b := true) (v := .bool false) (vb rfl c34) rfl) ?_
                        refine RQ.y rfl (Y.assign (v := .bool false) rfl) ?_
                        refine RQ.nil ?_
                        refine then_n ?_
                        refine wp_ret ?_
                        obtain rfl := Option.some.inj hm
                        exact (ret1 rfl rfl rfl ⟨rfl, T⟩)
                    · replace hm := cT c33 hm
                      refine RQ.y (wantT (dj := 105) rfl (vb rfl c33)) (Y.move (v := .bool (!y16)) rfl) ?_
                      refine RQ.y rfl (Y.pick (b := true) (v := .bool (!y16)) (vb rfl c33) rfl) ?_
                      refine RQ.y rfl (Y.assign (v := .bool (!y16)) rfl) ?_
                      refine RQ.nil ?_
                      refine blk_n (then_n ?_)
                      refine wp_seq ?_
                      refine wp_rs rfl ?_
                      refine RQ.y rfl (Y.move (v := .bool (d0.value == 0)) rfl) ?_
                      refine RQ.y rfl (Y.move (v := .bool (d0.value == 0)) rfl) ?_
                      rcases bcases (d0.value == 0) with c35 | c35
                      · replace hm := cF c35 hm
                        refine RQ.skip (wantN (dj := 114) rfl (vb rfl c35) rfl) ?_
                        refine RQ.y rfl (Y.pick (b := false) (v := .bool false) (vb rfl c35) rfl) ?_
                        refine RQ.y rfl (Y.assign (v := .bool false) rfl) ?_
                        refine RQ.nil ?_
                        refine then_n ?_
                        refine wp_ret ?_
                        obtain rfl := Option.some.inj hm
                        exact (ret1 rfl rfl rfl ⟨rfl, T⟩)
                      · replace hm := cT c35 hm
                        refine RQ.y (wantT (dj := 114) rfl (vb rfl c35)) (Y.move (v := .bool (!y16)) rfl) ?_
                        refine RQ.y rfl (Y.pick (b := true) (v := .bool (!y16)) (vb rfl c35) rfl) ?_
                        refine RQ.y rfl (Y.assign (v := .bool (!y16)) rfl) ?_
                        refine RQ.nil ?_
                        refine then_n ?_
                        refine wp_ret ?_
                        obtain rfl := Option.some.inj hm
                        exact (ret1 rfl rfl rfl ⟨rfl, T⟩)
                · replace hm := cT c24 hm
                  refine cond_t rfl (vb rfl c24) ?_
                  refine wp_rs rfl ?_
                  refine RQ.y rfl (Y.fieldAddr (off := 3) rfl (by kernel_rfl)) ?_
                  refine RQ.y rfl (Y.load (v := .slice A1 d0.data.length c1) rfl (by kernel_rfl) (eqC (blkCell B4 (i := 3) rfl))) ?_
                  refine RQ.y rfl (Y.len (by kernel_rfl) rfl) ?_
                  refine RQ.y rfl (Y.binI (v := .bool (decide ((d0.data.length : Int) ≥ 1))) rfl rfl rfl) ?_
                  refine RQ.y rfl (Y.move (v := .bool (decide ((d0.data.length : Int) ≥ 1))) rfl) ?_
                  rcases bcases (decide ((d0.data.length : Int) ≥ 1)) with c36 | c36
                  · replace hm := cF c36 hm
                    have pc36 := of_decide_eq_false c36
                    refine RQ.skip (wantN (dj := 90) rfl (vb rfl c36) rfl) ?_
                    refine RQ.skip (wantN (dj := 90) rfl (vb rfl c36) rfl) ?_
                    refine RQ.skip (wantN (dj := 90) rfl (vb rfl c36) rfl) ?_
                    refine RQ.skip (wantN (dj := 90) rfl (vb rfl c36) rfl) ?_
                    refine RQ.y rfl (Y.pick (b := false) (v := .bool false) (vb rfl c36) rfl) ?_
                    refine RQ.y rfl (Y.move (v := .bool false) rfl) ?_
                    refine RQ.skip (wantN (dj := 96) rfl rfl rfl) ?_
                    refine RQ.y rfl (Y.pick (b := false) (v := .bool false) rfl rfl) ?_
                    refine RQ.y rfl (Y.assign (v := .bool false) rfl) ?_
                    refine RQ.nil ?_
                    refine blk_n (then_n ?_)
                    refine wp_seq ?_
                    refine wp_rs rfl ?_
                    refine RQ.y rfl (Y.move (v := .bool (d0.value == 0)) rfl) ?_
                    refine RQ.y rfl (Y.move (v := .bool (d0.value == 0)) rfl) ?_
                    rcases bcases (d0.value == 0) with c37 | c37
                    · replace hm := cF c37 hm
                      refine RQ.skip (wantN (dj := 114) rfl (vb rfl c37) rfl) ?_
                      refine RQ.y rfl (Y.pick (b := false) (v := .bool false) (vb rfl c37) rfl) ?_
                      refine RQ.y rfl (Y.assign (v := .bool false) rfl) ?_
                      refine RQ.nil ?_
                      refine then_n ?_
                      refine wp_ret ?_
                      obtain rfl := Option.some.inj hm
                      exact (ret1 rfl rfl rfl ⟨rfl, T⟩)
                    · replace hm := cT c37 hm
                      refine RQ.y (wantT (dj := 114) rfl (vb rfl c37)) (Y.move (v := .bool false) rfl) ?_
                      refine RQ.y rfl (Y.pick (b := true) (v := .bool false) (vb rfl c37) rfl) ?_
                      refine RQ.y rfl (Y.assign (v := .bool false) rfl) ?_
                      refine RQ.nil ?_
                      refine then_n ?_
                      refine wp_ret ?_
                      obtain rfl := Option.some.inj hm
                      exact (ret1 rfl rfl rfl ⟨rfl, T⟩)
                  · replace hm := cT c36 hm
                    have pc36 := of_decide_eq_true c36
                    refine RQ.y (wantT (dj := 90) rfl (vb rfl c36)) (Y.fieldAddr (off := 3) rfl (by kernel_rfl)) ?_
                    refine RQ.y (wantT (dj := 90) rfl (vb rfl c36)) (Y.load (v := .slice A1 d0.data.length c1) rfl (by kernel_rfl) (eqC (blkCell B4 (i := 3) rfl))) ?_
                    refine RQ.y (wantT (dj := 90) rfl (vb rfl c36)) (Y.len (by kernel_rfl) rfl) ?_
                    refine RQ.y (wantT (dj := 90) rfl (vb rfl c36)) (Y.binI (v := .bool (decide ((d0.data.length : Int) ≤ 4))) rfl rfl rfl) ?_
                    refine RQ.y rfl (Y.pick (b := true) (v := .bool (decide ((d0.data.length : Int) ≤ 4))) (vb rfl c36) rfl) ?_
                    refine RQ.y rfl (Y.move (v := .bool (decide ((d0.data.length : Int) ≤ 4))) rfl) ?_
                    rcases bcases (decide ((d0.data.length : Int) ≤ 4)) with c38 | c38
                    · replace hm := cF c38 hm
                      have pc38 := of_decide_eq_false c38
                      refine RQ.skip (wantN (dj := 96) rfl (vb rfl c38) rfl) ?_
                      refine RQ.y rfl (Y.pick (b := false) (v := .bool false) (vb rfl c38) rfl) ?_
                      refine RQ.y rfl (Y.assign (v := .bool false) rfl) ?_
                      refine RQ.nil ?_
                      refine blk_n (then_n ?_)
                      refine wp_seq ?_
                      refine wp_rs rfl ?_
                      refine RQ.y rfl (Y.move (v := .bool (d0.value == 0)) rfl) ?_
                      refine RQ.y rfl (Y.move (v := .bool (d0.value == 0)) rfl) ?_
                      rcases bcases (d0.value == 0) with c39 | c39
                      · replace hm := cF c39 hm
                        refine RQ.skip (wantN (dj := 114) rfl (vb rfl c39) rfl) ?_
                        refine RQ.y rfl (Y.pick (b := false) (v := .bool false) (vb rfl c39) rfl) ?_
                        refine RQ.y rfl (Y.assign (v := .bool false) rfl) ?_
                        refine RQ.nil ?_
                        refine then_n ?_
                        refine wp_ret ?_
                        obtain rfl := Option.some.inj hm
                        exact (ret1 rfl rfl rfl ⟨rfl, T⟩)
                      · replace hm := cT c39 hm
                        refine RQ.y (wantT (dj := 114) rfl (vb rfl c39)) (Y.move (v := .bool false) rfl) ?_
                        refine RQ.y rfl (Y.pick (b := true) (v := .bool false) (vb rfl c39) rfl) ?_
                        refine RQ.y rfl (Y.assign (v := .bool false) rfl) ?_
                        refine RQ.nil ?_
                        refine then_n ?_
                        refine wp_ret ?_
                        obtain rfl := Option.some.inj hm
                        exact (ret1 rfl rfl rfl ⟨rfl, T⟩)
                    · replace hm := cT c38 hm
                      have pc38 := of_decide_eq_true c38
                      refine RQ.y (wantT (dj := 96) rfl (vb rfl c38)) (Y.move (v := .bool (!y16)) rfl) ?_
                      refine RQ.y rfl (Y.pick (b := true) (v := .bool (!y16)) (vb rfl c38) rfl) ?_
                      refine RQ.y rfl (Y.assign (v := .bool (!y16)) rfl) ?_
                      refine RQ.nil ?_
                      refine blk_n (then_n ?_)
                      refine wp_seq ?_
                      refine wp_rs rfl ?_
                      refine RQ.y rfl (Y.move (v := .bool (d0.value == 0)) rfl) ?_
                      refine RQ.y rfl (Y.move (v := .bool (d0.value == 0)) rfl) ?_
                      rcases bcases (d0.value == 0) with c40 | c40
                      · replace hm := cF c40 hm
                        refine RQ.skip (wantN (dj := 114) rfl (vb rfl c40) rfl) ?_
                        refine RQ.y rfl (Y.pick (b := false) (v := .bool false) (vb rfl c40) rfl) ?_
                        refine RQ.y rfl (Y.assign (v := .bool false) rfl) ?_
                        refine RQ.nil ?_
                        refine then_n ?_
                        refine wp_ret ?_
                        obtain rfl := Option.some.inj hm
                        exact (ret1 rfl rfl rfl ⟨rfl, T⟩)
                      · replace hm := cT c40 hm
                        refine RQ.y (wantT (dj := 114) rfl (vb rfl c40)) (Y.move (v := .bool (!y16)) rfl) ?_
                        refine RQ.y rfl (Y.pick (b := true) (v := .bool (!y16)) (vb rfl c40) rfl) ?_
                        refine RQ.y rfl (Y.assign (v := .bool (!y16)) rfl) ?_
                        refine RQ.nil ?_
                        refine then_n ?_
                        refine wp_ret ?_
                        obtain rfl := Option.some.inj hm
                        exact (ret1 rfl rfl rfl ⟨rfl, T⟩)
              · replace hm := cT c23 hm
                refine cond_t rfl (vb rfl c23) ?_
                refine wp_rs rfl ?_
                refine RQ.y rfl (Y.fieldAddr (off := 2) rfl (by kernel_rfl)) ?_
                refine RQ.y rfl (Y.load (v := .int .i64 d0.value) rfl (by kernel_rfl) (eqC (blkCell B4 (i := 2) rfl))) ?_
                refine RQ.y rfl (Y.binI (v := .bool (decide (d0.value ≥ 0))) rfl rfl rfl) ?_
                refine RQ.y rfl (Y.move (v := .bool (decide (d0.value ≥ 0))) rfl) ?_
                rcases bcases (decide (d0.value ≥ 0)) with c41 | c41
                · replace hm := cF c41 hm
                  have pc41 := of_decide_eq_false c41
                  refine RQ.skip (wantN (dj := 79) rfl (vb rfl c41) rfl) ?_
                  refine RQ.skip (wantN (dj := 79) rfl (vb rfl c41) rfl) ?_
                  refine RQ.skip (wantN (dj := 79) rfl (vb rfl c41) rfl) ?_
                  refine RQ.y rfl (Y.pick (b := false) (v := .bool false) (vb rfl c41) rfl) ?_
                  refine RQ.y rfl (Y.assign (v := .bool false) rfl) ?_
                  refine RQ.nil ?_
                  refine blk_n (then_n ?_)
                  refine wp_seq ?_
                  refine wp_rs rfl ?_
                  refine RQ.y rfl (Y.move (v := .bool false) rfl) ?_
                  refine RQ.y rfl (Y.move (v := .bool false) rfl) ?_
                  refine RQ.skip (wantN (dj := 114) rfl rfl rfl) ?_
                  refine RQ.y rfl (Y.pick (b := false) (v := .bool false) rfl rfl) ?_
                  refine RQ.y rfl (Y.assign (v := .bool false) rfl) ?_
                  refine RQ.nil ?_
                  refine then_n ?_
                  refine wp_ret ?_
                  obtain rfl := Option.some.inj hm
                  exact (ret1 rfl rfl rfl ⟨rfl, T⟩)
                · replace hm := cT c41 hm
                  have pc41 := of_decide_eq_true c41
                  refine RQ.y (wantT (dj := 79) rfl (vb rfl c41)) (Y.fieldAddr (off := 2) rfl (by kernel_rfl)) ?_
                  refine RQ.y (wantT (dj := 79) rfl (vb rfl c41)) (Y.load (v := .int .i64 d0.value) rfl (by kernel_rfl) (eqC (blkCell B4 (i := 2) rfl))) ?_
                  refine RQ.y (wantT (dj := 79) rfl (vb rfl c41)) (Y.binI (v := .bool (decide (d0.value < 4))) rfl rfl rfl) ?_
                  refine RQ.y rfl (Y.pick (b := true) (v := .bool (decide (d0.value < 4))) (vb rfl c41) rfl) ?_
                  refine RQ.y rfl (Y.assign (v := .bool (decide (d0.value < 4))) rfl) ?_
                  refine RQ.nil ?_
                  refine blk_n (then_n ?_)
                  refine wp_seq ?_
                  refine wp_rs rfl ?_
                  refine RQ.y rfl (Y.move (v := .bool (decide (d0.value < 4))) rfl) ?_
                  refine RQ.y rfl (Y.move (v := .bool (decide (d0.value < 4))) rfl) ?_
                  rcases bcases (decide (d0.value < 4)) with c42 | c42
                  · replace hm := cF c42 hm
                    have pc42 := of_decide_eq_false c42
                    refine RQ.skip (wantN (dj := 114) rfl (vb rfl c42) rfl) ?_
                    refine RQ.y rfl (Y.pick (b := false) (v := .bool false) (vb rfl c42) rfl) ?_
                    refine RQ.y rfl (Y.assign (v := .bool false) rfl) ?_
                    refine RQ.nil ?_
                    refine then_n ?_
                    refine wp_ret ?_
                    obtain rfl := Option.some.inj hm
                    exact (ret1 rfl rfl rfl ⟨rfl, T⟩)
                  · replace hm := cT c42 hm
                    have pc42 := of_decide_eq_true c42
                    refine RQ.y (wantT (dj := 114) rfl (vb rfl c42)) (Y.move (v := .bool ((d0.data.length : Int) == 0)) rfl) ?_
                    refine RQ.y rfl (Y.pick (b := true) (v := .bool ((d0.data.length : Int) == 0)) (vb rfl c42) rfl) ?_
                    refine RQ.y rfl (Y.assign (v := .bool ((d0.data.length : Int) == 0)) rfl) ?_
                    refine RQ.nil ?_
                    refine then_n ?_
                    refine wp_ret ?_
                    obtain rfl := Option.some.inj hm
                    exact (ret1 rfl rfl rfl ⟨rfl, T⟩)
            · replace hm := cT c22 hm
              refine cond_t rfl (vb rfl c22) ?_
              refine wp_seq ?_
              refine wp_rb rfl ?_
              refine RQ.y rfl (Y.fieldAddr (off := 2) rfl (by kernel_rfl)) ?_
              refine RQ.y rfl (Y.load (v := .int .i64 d0.value) rfl (by kernel_rfl) (beC (blkCell B4 (i := 2) rfl))) ?_
              obtain ⟨y43, e44, hm⟩ := bnd hm
              refine RQ.call rfl (am1 rfl) (by kernel_rfl) (v := .bool y43) (bel (K := fun _ => True) fun w' hb' => (c_m_impl_isOperator d0.value _ e44  w' )) ?_
              refine RQ.y rfl (Y.move (v := .bool y43) rfl) ?_
              rcases bcases y43 with c45 | c45
              · replace hm := cF c45 hm
                refine RQ.skip (wantN (dj := 61) rfl (vb rfl c45) rfl) ?_
                refine RQ.skip (wantN (dj := 61) rfl (vb rfl c45) rfl) ?_
                refine RQ.skip (wantN (dj := 61) rfl (vb rfl c45) rfl) ?_
                refine RQ.skip (wantN (dj := 61) rfl (vb rfl c45) rfl) ?_
                refine RQ.y rfl (Y.pick (b := false) (v := .bool false) (vb rfl c45) rfl) ?_
                refine RQ.y rfl (Y.move (v := .bool false) rfl) ?_
                refine RQ.skip (wantN (dj := 67) rfl rfl rfl) ?_
                refine RQ.skip (wantN (dj := 67) rfl rfl rfl) ?_
                refine RQ.skip (wantN (dj := 67) rfl rfl rfl) ?_
                refine RQ.skip (wantN (dj := 67) rfl rfl rfl) ?_
                refine RQ.skip (wantN (dj := 67) rfl rfl rfl) ?_
                refine RQ.y rfl (Y.pick (b := false) (v := .bool false) rfl rfl) ?_
                refine RQ.y rfl (Y.assign (v := .bool false) rfl) ?_
                refine RQ.nil ?_
                intro w46 hb47
                have szw46 := hb47.size
                have T := Tt T hb47
                refine then_n ?_
                refine wp_ret ?_
                obtain rfl := Option.some.inj hm
                exact (blk_r (then_r (ret1 rfl rfl rfl ⟨rfl, T⟩)))
              · replace hm := cT c45 hm
                refine RQ.y (wantT (dj := 61) rfl (vb rfl c45)) (Y.fieldAddr (off := 3) rfl (by kernel_rfl)) ?_
                refine RQ.y (wantT (dj := 61) rfl (vb rfl c45)) (Y.load (v := .slice A1 d0.data.length c1) rfl (by kernel_rfl) (beC (blkCell B4 (i := 3) rfl))) ?_
                refine RQ.y (wantT (dj := 61) rfl (vb rfl c45)) (Y.len (by kernel_rfl) rfl) ?_
                refine RQ.y (wantT (dj := 61) rfl (vb rfl c45)) (Y.binI (v := .bool ((d0.data.length : Int) == 1)) rfl rfl rfl) ?_
                refine RQ.y rfl (Y.pick (b := true) (v := .bool ((d0.data.length : Int) == 1)) (vb rfl c45) rfl) ?_
                refine RQ.y rfl (Y.move (v := .bool ((d0.data.length : Int) == 1)) rfl) ?_
                rcases bcases ((d0.data.length : Int) == 1) with c48 | c48
                · replace hm := cF c48 hm
                  refine RQ.skip (wantN (dj := 67) rfl (vb rfl c48) rfl) ?_
                  refine RQ.skip (wantN (dj := 67) rfl (vb rfl c48) rfl) ?_
                  refine RQ.skip (wantN (dj := 67) rfl (vb rfl c48) rfl) ?_
                  refine RQ.skip (wantN (dj := 67) rfl (vb rfl c48) rfl) ?_
                  refine RQ.skip (wantN (dj := 67) rfl (vb rfl c48) rfl) ?_
                  refine RQ.y rfl (Y.pick (b := false) (v := .bool false) (vb rfl c48) rfl) ?_
                  refine RQ.y rfl (Y.assign (v := .bool false) rfl) ?_
                  refine RQ.nil ?_
                  intro w49 hb50
                  have szw49 := hb50.size
                  have T := Tt T hb50
                  refine then_n ?_
                  refine wp_ret ?_
                  obtain rfl := Option.some.inj hm
                  exact (blk_r (then_r (ret1 rfl rfl rfl ⟨rfl, T⟩)))
                · replace hm := cT c48 hm
                  refine RQ.y (wantT (dj := 67) rfl (vb rfl c48)) (Y.fieldAddr (off := 3) rfl (by kernel_rfl)) ?_
                  refine RQ.y (wantT (dj := 67) rfl (vb rfl c48)) (Y.load (v := .slice A1 d0.data.length c1) rfl (by kernel_rfl) (beC (blkCell B4 (i := 3) rfl))) ?_
                  obtain ⟨x51, hx54, hm⟩ := bnd hm
                  obtain ⟨k52, hk55, hl56, hx54⟩ := getI_some hx54
                  obtain ⟨b58, o59, rfl, hbb58⟩ := h1.addr (by omega)
                  obtain ⟨cs53, hRcs53, hc57⟩ := h1.el hx54
                  have hScs53 := hRcs53
                  obtain rfl := hRcs53
                  refine RQ.y (wantT (dj := 67) rfl (vb rfl c48)) (Y.indexAddr (m := k52) (sz := 1) rfl rfl hk55 hl56 (by kernel_rfl)) ?_
                  refine RQ.y (wantT (dj := 67) rfl (vb rfl c48)) (Y.load (v := .int .i64 x51) rfl (by kernel_rfl) (beC (cellT T (hc57 0 _ rfl)))) ?_
                  obtain ⟨y60, e61, hm⟩ := bnd hm
                  refine RQ.call (wantT (dj := 67) rfl (vb rfl c48)) (am1 rfl) (by kernel_rfl) (v := .bool y60) (bel (K := fun _ => True) fun w' hb' => (c_m_impl_isInt x51 _ e61  w' )) ?_
                  refine RQ.y rfl (Y.pick (b := true) (v := .bool y60) (vb rfl c48) rfl) ?_
                  refine RQ.y rfl (Y.assign (v := .bool y60) rfl) ?_
                  refine RQ.nil ?_
                  intro w62 hb63
                  have szw62 := hb63.size
                  have T := Tt T hb63
                  refine then_n ?_
                  refine wp_ret ?_
                  obtain rfl := Option.some.inj hm
                  exact (blk_r (then_r (ret1 rfl rfl rfl ⟨rfl, T⟩)))
          · replace hm := cT c21 hm
            refine cond_t rfl (vb rfl c21) ?_
            refine wp_rb rfl ?_
            refine RQ.y rfl (Y.fieldAddr (off := 2) rfl (by kernel_rfl)) ?_
            refine RQ.y rfl (Y.load (v := .int .i64 d0.value) rfl (by kernel_rfl) (beC (blkCell B4 (i := 2) rfl))) ?_
            obtain ⟨y64, e65, hm⟩ := bnd hm
            refine RQ.call rfl (am1 rfl) (by kernel_rfl) (v := .bool y64) (bel (K := fun _ => True) fun w' hb' => (c_m_impl_isOperator d0.value _ e65  w' )) ?_
            refine RQ.y rfl (Y.assign (v := .bool y64) rfl) ?_
            refine RQ.nil ?_
            intro w66 hb67
            have szw66 := hb67.size
            have T := Tt T hb67
            refine blk_n (then_n ?_)
            refine wp_seq ?_
            refine wp_rs rfl ?_
            refine RQ.y rfl (Y.move (v := .bool y64) rfl) ?_
            refine RQ.y rfl (Y.move (v := .bool y64) rfl) ?_
            rcases bcases y64 with c68 | c68
            · replace hm := cF c68 hm
              refine RQ.skip (wantN (dj := 114) rfl (vb rfl c68) rfl) ?_
              refine RQ.y rfl (Y.pick (b := false) (v := .bool false) (vb rfl c68) rfl) ?_
              refine RQ.y rfl (Y.assign (v := .bool false) rfl) ?_
              refine RQ.nil ?_
              refine then_n ?_
              refine wp_ret ?_
              obtain rfl := Option.some.inj hm
              exact (ret1 rfl rfl rfl ⟨rfl, T⟩)
            · replace hm := cT c68 hm
              refine RQ.y (wantT (dj := 114) rfl (vb rfl c68)) (Y.move (v := .bool ((d0.data.length : Int) == 0)) rfl) ?_
              refine RQ.y rfl (Y.pick (b := true) (v := .bool ((d0.data.length : Int) == 0)) (vb rfl c68) rfl) ?_
              refine RQ.y rfl (Y.assign (v := .bool ((d0.data.length : Int) == 0)) rfl) ?_
              refine RQ.nil ?_
              refine then_n ?_
              refine wp_ret ?_
              obtain rfl := Option.some.inj hm
              exact (ret1 rfl rfl rfl ⟨rfl, T⟩)
        · replace hm := cT c20 hm
          refine cond_t rfl (vb rfl c20) ?_
          refine wp_rb rfl ?_
          refine RQ.y rfl (Y.fieldAddr (off := 2) rfl (by kernel_rfl)) ?_
          refine RQ.y rfl (Y.load (v := .int .i64 d0.value) rfl (by kernel_rfl) (beC (blkCell B4 (i := 2) rfl))) ?_
          obtain ⟨y69, e70, hm⟩ := bnd hm
          refine RQ.call rfl (am1 rfl) (by kernel_rfl) (v := .bool y69) (bel (K := fun _ => True) fun w' hb' => (c_m_impl_isInt d0.value _ e70  w' )) ?_
          refine RQ.y rfl (Y.assign (v := .bool y69) rfl) ?_
          refine RQ.nil ?_
          intro w71 hb72
          have szw71 := hb72.size
          have T := Tt T hb72
          refine blk_n (then_n ?_)
          refine wp_seq ?_
          refine wp_rs rfl ?_
          refine RQ.y rfl (Y.move (v := .bool y69) rfl) ?_
          refine RQ.y rfl (Y.move (v := .bool y69) rfl) ?_
          rcases bcases y69 with c73 | c73
          · replace hm := cF c73 hm
            refine RQ.skip (wantN (dj := 114) rfl (vb rfl c73) rfl) ?_
            refine RQ.y rfl (Y.pick (b := false) (v := .bool false) (vb rfl c73) rfl) ?_
            refine RQ.y rfl (Y.assign (v := .bool false) rfl) ?_
            refine RQ.nil ?_
            refine then_n ?_
            refine wp_ret ?_
            obtain rfl := Option.some.inj hm
            exact (ret1 rfl rfl rfl ⟨rfl, T⟩)
          · replace hm := cT c73 hm
            refine RQ.y (wantT (dj := 114) rfl (vb rfl c73)) (Y.move (v := .bool ((d0.data.length : Int) == 0)) rfl) ?_
            refine RQ.y rfl (Y.pick (b := true) (v := .bool ((d0.data.length : Int) == 0)) (vb rfl c73) rfl) ?_
            refine RQ.y rfl (Y.assign (v := .bool ((d0.data.length : Int) == 0)) rfl) ?_
            refine RQ.nil ?_
            refine then_n ?_
            refine wp_ret ?_
            obtain rfl := Option.some.inj hm
            exact (ret1 rfl rfl rfl ⟨rfl, T⟩)
    · replace hm := cT c10 hm
      refine RQ.skip (wantN (dj := 25) rfl (vb rfl c10) rfl) ?_
      refine RQ.skip (wantN (dj := 25) rfl (vb rfl c10) rfl) ?_
      refine RQ.skip (wantN (dj := 25) rfl (vb rfl c10) rfl) ?_
      refine RQ.skip (wantN (dj := 25) rfl (vb rfl c10) rfl) ?_
      refine RQ.skip (wantN (dj := 25) rfl (vb rfl c10) rfl) ?_
      refine RQ.skip (wantN (dj := 25) rfl (vb rfl c10) rfl) ?_
      refine RQ.y rfl (Y.pick (b := true) (v := .bool true) (vb rfl c10) rfl) ?_
      refine RQ.nil ?_
      intro w74 hb75
      have szw74 := hb75.size
      have B4 := blkT B4 hb75
      have T := Tt T hb75
      refine then_n ?_
      refine cond_t rfl rfl ?_
      refine wp_seq ?_
      refine wp_rs rfl ?_
      refine RQ.y rfl (Y.assign (v := .bool false) rfl) ?_
      refine RQ.nil ?_
      refine then_n ?_
      refine wp_ret ?_
      obtain rfl := Option.some.inj hm
      exact (then_r (ret1 rfl rfl rfl ⟨rfl, T⟩))
  · replace hm := cT c7 hm
    refine RQ.skip (wantN (dj := 10) rfl (vb rfl c7) rfl) ?_
    refine RQ.skip (wantN (dj := 10) rfl (vb rfl c7) rfl) ?_
    refine RQ.skip (wantN (dj := 10) rfl (vb rfl c7) rfl) ?_
    refine RQ.skip (wantN (dj := 10) rfl (vb rfl c7) rfl) ?_
    refine RQ.skip (wantN (dj := 10) rfl (vb rfl c7) rfl) ?_
    refine RQ.skip (wantN (dj := 10) rfl (vb rfl c7) rfl) ?_
    refine RQ.skip (wantN (dj := 10) rfl (vb rfl c7) rfl) ?_
    refine RQ.skip (wantN (dj := 10) rfl (vb rfl c7) rfl) ?_
    refine RQ.skip (wantN (dj := 10) rfl (vb rfl c7) rfl) ?_
    refine RQ.skip (wantN (dj := 10) rfl (vb rfl c7) rfl) ?_
    refine RQ.skip (wantN (dj := 10) rfl (vb rfl c7) rfl) ?_
    refine RQ.skip (wantN (dj := 10) rfl (vb rfl c7) rfl) ?_
    refine RQ.skip (wantN (dj := 10) rfl (vb rfl c7) rfl) ?_
    refine RQ.y rfl (Y.pick (b := true) (v := .bool true) (vb rfl c7) rfl) ?_
    refine RQ.y rfl (Y.move (v := .bool true) rfl) ?_
    refine RQ.skip (wantN (dj := 25) rfl rfl rfl) ?_
    refine RQ.skip (wantN (dj := 25) rfl rfl rfl) ?_
    refine RQ.skip (wantN (dj := 25) rfl rfl rfl) ?_
    refine RQ.skip (wantN (dj := 25) rfl rfl rfl) ?_
    refine RQ.skip (wantN (dj := 25) rfl rfl rfl) ?_
    refine RQ.skip (wantN (dj := 25) rfl rfl rfl) ?_
    refine RQ.y rfl (Y.pick (b := true) (v := .bool true) rfl rfl) ?_
    refine RQ.nil ?_
    intro w76 hb77
    have szw76 := hb77.size
    have B4 := blkT B4 hb77
    have T := Tt T hb77
    refine then_n ?_
    refine cond_t rfl rfl ?_
    refine wp_seq ?_
    refine wp_rs rfl ?_
    refine RQ.y rfl (Y.assign (v := .bool false) rfl) ?_
    refine RQ.nil ?_
    refine then_n ?_
    refine wp_ret ?_
    obtain rfl := Option.some.inj hm
    exact (then_r (ret1 rfl rfl rfl ⟨rfl, T⟩))

def m_impl_areAgents_A1 : Option Bool :=
  some true
def m_impl_areAgents_B1 (d0 : List DAgent) (rec1 : Int → Option Bool) (K1 : Option Bool) (i4 : Int) : Option Bool :=
  (bif (decide (i4 < (d0.length : Int))) then ((getI d0 i4).bind fun x7 => ((m_impl_wellFormed x7).bind fun y25 => (bif y25 then (bif ((x7.kind == 1) != (i4 == 0)) then some false else (rec1 (i4 + 1))) else some false))) else (K1))
def m_impl_areAgents_L1 (d0 : List DAgent) (K1 : Option Bool) : Nat → Int → Option Bool
  | 0, _ => none
  | g + 1, i4 => m_impl_areAgents_B1 d0 (m_impl_areAgents_L1 d0 K1 g) K1 i4
def m_impl_areAgents (d0 : List DAgent) : Option Bool :=
  (bif (decide ((d0.length : Int) < 1)) then some false else (bif (decide ((d0.length : Int) > 600)) then some false else (m_impl_areAgents_L1 d0 m_impl_areAgents_A1 (d0.length + 1) 0)))
set_option maxHeartbeats 2000000 in
theorem c_m_impl_areAgents (d0 : List DAgent) (r : Bool) (hm : m_impl_areAgents d0 = some r) (v0 : Value) (w : World) (hv0 : Sl agentRd 5 w v0 d0) :
    Calls Try.prog 115 #[v0] w fun e w' => e = .returned (.bool r) ∧ Below w.heap.size w w' := by
  obtain ⟨Aa0, na0, ca0, rfl, ha0, ra0⟩ := hv0
  have ea0 := ha0.len; subst ea0
  have qa0 := len_le ra0
  have T := Below.refl w.heap.size w
  unfold m_impl_areAgents at hm
  refine enter 32 Try.func115 rfl rfl rfl ?_
  intro f hf
  have s0 : f 0 = .slice Aa0 d0.length ca0 := hf 0 _ rfl
  refine wp_seq ?_
  refine wp_rs rfl ?_
  refine RQ.y rfl (Y.assign (v := .bool false) rfl) ?_
  refine RQ.nil ?_
  refine then_n ?_
  refine wp_seq ?_
  refine wp_seq ?_
  refine wp_rs rfl ?_
  refine RQ.y rfl (Y.move (v := .slice Aa0 d0.length ca0) s0) ?_
  refine RQ.y rfl (Y.len (by kernel_rfl) rfl) ?_
  refine RQ.y rfl (Y.binI (v := .bool (decide ((d0.length : Int) < 1))) rfl rfl rfl) ?_
  refine RQ.y rfl (Y.move (v := .bool (decide ((d0.length : Int) < 1))) rfl) ?_
  rcases bcases (decide ((d0.length : Int) < 1)) with c1 | c1
  · replace hm := cF c1 hm
    have pc1 := of_decide_eq_false c1
    refine RQ.y (wantT (dj := 8) rfl (vb rfl c1)) (Y.move (v := .slice Aa0 d0.length ca0) s0) ?_
    refine RQ.y (wantT (dj := 8) rfl (vb rfl c1)) (Y.len (by kernel_rfl) rfl) ?_
    refine RQ.y (wantT (dj := 8) rfl (vb rfl c1)) (Y.binI (v := .bool (decide ((d0.length : Int) > 600))) rfl rfl rfl) ?_
    refine RQ.y rfl (Y.pick (b := false) (v := .bool (decide ((d0.length : Int) > 600))) (vb rfl c1) rfl) ?_
    refine RQ.nil ?_
    refine then_n ?_
    rcases bcases (decide ((d0.length : Int) > 600)) with c2 | c2
    · replace hm := cF c2 hm
      have pc2 := of_decide_eq_false c2
      refine cond_f rfl (vb rfl c2) ?_
      refine wp_skip ?_
      refine then_n ?_
      refine wp_seq ?_
      refine wp_seq ?_
      refine wp_rs rfl ?_
      refine RQ.y rfl (Y.move (v := .slice Aa0 d0.length ca0) s0) ?_
      refine RQ.y rfl (Y.len (by kernel_rfl) rfl) ?_
      refine RQ.y rfl (Y.move (v := .int .i64 0) rfl) ?_
      refine RQ.nil ?_
      refine then_n ?_
      refine wp_block ?_
      obtain ⟨K1, hK1, hm⟩ : ∃ K, K = m_impl_areAgents_A1 ∧ m_impl_areAgents_L1 d0 K (d0.length + 1) 0 = some r := ⟨_, rfl, hm⟩
      refine wp_loopX (fun g f w' => ∃ (i4 : Int), f 13 = .slice Aa0 d0.length ca0 ∧ f 14 = .int .i64 (d0.length : Int) ∧ f 15 = .int .i64 i4 ∧ 0 ≤ i4 ∧ Below w.heap.size w w' ∧ m_impl_areAgents_L1 d0 K1 g i4 = some r) 0 (fun f w' => Below w.heap.size w w' ∧ m_impl_areAgents_A1  = some r) (d0.length + 1) ⟨0, rfl, rfl, rfl, (by omega), T, hm⟩ ?_ ?_
      · rintro f w3 ⟨T, hm⟩
        unfold m_impl_areAgents_A1 at hm
        refine blk_hit (then_n ?_)
        refine wp_seq ?_
        refine wp_rs rfl ?_
        refine RQ.y rfl (Y.assign (v := .bool true) rfl) ?_
        refine RQ.nil ?_
        refine then_n ?_
        refine wp_ret ?_
        obtain rfl := Option.some.inj hm
        exact (ret1 rfl rfl rfl ⟨rfl, T⟩)
      · rintro g f w5 ⟨i4, s13_1, s14_1, s15_1, nn15_1, T, hm⟩
        rcases g with _ | g
        · simp only [m_impl_areAgents_L1] at hm; cases hm
        obtain ⟨rec1, hrec1, hm⟩ : ∃ z, z = m_impl_areAgents_L1 d0 K1 g ∧ m_impl_areAgents_B1 d0 z K1 i4 = some r := ⟨_, rfl, hm⟩
        unfold m_impl_areAgents_B1 at hm
        refine wp_seq ?_
        refine wp_rs rfl ?_
        refine RQ.y rfl (Y.binI (v := .bool (decide (i4 < (d0.length : Int)))) s15_1 s14_1 rfl) ?_
        refine RQ.nil ?_
        refine then_n ?_
        refine wp_seq ?_
        rcases bcases (decide (i4 < (d0.length : Int))) with c6 | c6
        · replace hm := cF c6 hm
          have pc6 := of_decide_eq_false c6
          refine cond_f rfl (vb rfl c6) ?_
          refine wp_exit ?_
          exact (then_x (then_x (hit_x ⟨_, rfl, ⟨T, (by rw [hK1] at hm; exact hm)⟩⟩)))
        · replace hm := cT c6 hm
          have pc6 := of_decide_eq_true c6
          refine cond_t rfl (vb rfl c6) ?_
          refine wp_skip ?_
          refine then_n ?_
          refine wp_seq ?_
          refine wp_block ?_
          refine wp_seq ?_
          refine wp_rl rfl ?_
          refine RL.y rfl (Y.move (v := .int .i64 i4) s15_1) ?_
          obtain ⟨x7, hx10, hm⟩ := bnd hm
          obtain ⟨k8, hk11, hl12, hx10⟩ := getI_some hx10
          obtain ⟨b14, o15, rfl, hbb14⟩ := ha0.addr (by omega)
          obtain ⟨cs9, hRcs9, hc13⟩ := ha0.el hx10
          have hScs9 := hRcs9
          obtain ⟨A16, n16, c16, A17, n17, c17, rfl, ⟨h16, r16⟩, ⟨h17, r17⟩⟩ := hRcs9
          have e16 := h16.len; subst e16
          have q16 := len_le r16
          have e17 := h17.len; subst e17
          have q17 := len_le r17
          refine RL.y rfl (Y.indexAddr (m := k8) (sz := 5) s13_1 s15_1 hk11 hl12 (by kernel_rfl)) ?_
          refine RL.y rfl (Y.loadN (cs := [.int .i64 x7.kind, .int .i64 x7.level, .int .i64 x7.value, .slice A16 x7.data.length c16, .slice A17 x7.ports.length c17]) rfl (by kernel_rfl) (cells5 (eqC (cellT T (hc13 0 _ rfl))) (eqC (cellT T (hc13 1 _ rfl))) (eqC (cellT T (hc13 2 _ rfl))) (eqC (cellT T (hc13 3 _ rfl))) (eqC (cellT T (hc13 4 _ rfl))))) ?_
          refine RL.alloc (z := .agg #[.int .i64 0, .int .i64 0, .int .i64 0, .slice none 0 0, .slice none 0 0]) rfl (by kernel_rfl) (fun w18 B19 hb20 szw18 => ?_)
          replace B19 : Blk w18 w5.heap.size 89 #[.int .i64 0, .int .i64 0, .int .i64 0, .slice none 0 0, .slice none 0 0] := B19
          have GB19 : w.heap.size ≤ w5.heap.size := T.size
          have T := Tt T hb20
          refine RL.y rfl (Y.assign (v := .int .i64 i4) rfl) ?_
          refine RL.store (v := .agg #[.int .i64 x7.kind, .int .i64 x7.level, .int .i64 x7.value, .slice A16 x7.data.length c16, .slice A17 x7.ports.length c17]) (cs' := #[.int .i64 x7.kind, .int .i64 x7.level, .int .i64 x7.value, .slice A16 x7.data.length c16, .slice A17 x7.ports.length c17]) rfl rfl rfl B19 (by kernel_rfl) (by rfl) (by rfl) (by rfl) (fun w22 B23 ho24 => ?_)
          have szw22 := ho24.size
          have T := T.trans (ho24.below (by simp; omega))
          refine RL.nil ?_
          refine then_n ?_
          refine wp_seq ?_
          refine wp_rb rfl ?_
          refine RQ.y rfl (Y.loadN (cs := [.int .i64 x7.kind, .int .i64 x7.level, .int .i64 x7.value, .slice A16 x7.data.length c16, .slice A17 x7.ports.length c17]) rfl (by kernel_rfl) (cells5 (beC (blkCell B23 (i := 0) rfl)) (beC (blkCell B23 (i := 1) rfl)) (beC (blkCell B23 (i := 2) rfl)) (beC (blkCell B23 (i := 3) rfl)) (beC (blkCell B23 (i := 4) rfl)))) ?_
          obtain ⟨y25, e26, hm⟩ := bnd hm
          refine RQ.call rfl (am1 rfl) (by kernel_rfl) (v := .bool y25) (bel (K := fun _ => True) fun w' hb' => (c_m_impl_wellFormed x7 _ e26 _ w' (stArg (R := agentRd) ⟨_, _, _, _, _, _, rfl, ⟨SlAt.now intRd_ok h16 (Nat.le_refl _) (Tt T hb'), r16⟩, ⟨SlAt.now portRd_ok h17 (Nat.le_refl _) (Tt T hb'), r17⟩⟩))) ?_
          refine RQ.y rfl (Y.not (b' := (!y25)) rfl rfl) ?_
          refine RQ.y rfl (Y.move (v := .bool (!y25)) rfl) ?_
          rcases bcases y25 with c27 | c27
          · replace hm := cF c27 hm
            refine RQ.skip (wantN (dj := 23) rfl (vbn rfl c27 rfl) rfl) ?_
            refine RQ.skip (wantN (dj := 23) rfl (vbn rfl c27 rfl) rfl) ?_
            refine RQ.skip (wantN (dj := 23) rfl (vbn rfl c27 rfl) rfl) ?_
            refine RQ.skip (wantN (dj := 23) rfl (vbn rfl c27 rfl) rfl) ?_
            refine RQ.skip (wantN (dj := 23) rfl (vbn rfl c27 rfl) rfl) ?_
            refine RQ.skip (wantN (dj := 23) rfl (vbn rfl c27 rfl) rfl) ?_
            refine RQ.y rfl (Y.pick (b := true) (v := .bool true) (vbn rfl c27 rfl) rfl) ?_
            refine RQ.nil ?_
            intro w28 hb29
            have szw28 := hb29.size
            have T := Tt T hb29
            refine then_n ?_
            refine cond_t rfl rfl ?_
            refine wp_seq ?_
            refine wp_rs rfl ?_
            refine RQ.y rfl (Y.assign (v := .bool false) rfl) ?_
            refine RQ.nil ?_
            refine then_n ?_
            refine wp_ret ?_
            obtain rfl := Option.some.inj hm
            exact (blk_r (then_r (then_r (hit_r (blk_r (then_r (ret1 rfl rfl rfl ⟨rfl, T⟩)))))))
          · replace hm := cT c27 hm
            refine RQ.y (wantT (dj := 23) rfl (vbn rfl c27 rfl)) (Y.fieldAddr (off := 0) rfl (by kernel_rfl)) ?_
            refine RQ.y (wantT (dj := 23) rfl (vbn rfl c27 rfl)) (Y.load (v := .int .i64 x7.kind) rfl (by kernel_rfl) (beC (blkCell B23 (i := 0) rfl))) ?_
            refine RQ.y (wantT (dj := 23) rfl (vbn rfl c27 rfl)) (Y.binI (v := .bool (x7.kind == 1)) rfl rfl rfl) ?_
            refine RQ.y (wantT (dj := 23) rfl (vbn rfl c27 rfl)) (Y.move (v := .int .i64 i4) rfl) ?_
            refine RQ.y (wantT (dj := 23) rfl (vbn rfl c27 rfl)) (Y.binI (v := .bool (i4 == 0)) rfl rfl rfl) ?_
            refine RQ.y (wantT (dj := 23) rfl (vbn rfl c27 rfl)) (Y.beq (c := ((x7.kind == 1) != (i4 == 0))) (by kernel_rfl) rfl rfl (.inr ⟨rfl, rfl⟩)) ?_
            refine RQ.y rfl (Y.pick (b := false) (v := .bool ((x7.kind == 1) != (i4 == 0))) (vbn rfl c27 rfl) rfl) ?_
            refine RQ.nil ?_
            intro w30 hb31
            have szw30 := hb31.size
            have T := Tt T hb31
            refine then_n ?_
            rcases bcases ((x7.kind == 1) != (i4 == 0)) with c32 | c32
            · replace hm := cF c32 hm
              refine cond_f rfl (vb rfl c32) ?_
              refine wp_skip ?_
              refine blk_n (then_n ?_)
              refine wp_rs rfl ?_
              refine RQ.y rfl (Y.binI s15_1 rfl (binI_add (m := i4) (by omega))) ?_
              refine RQ.y rfl (Y.move (v := .int .i64 (i4 + 1)) rfl) ?_
              refine RQ.nil ?_
              exact (then_n ⟨g, _, Nat.lt_succ_self _, rfl, ⟨(i4 + 1), s13_1, s14_1, rfl, (by omega), T, (by rw [← hrec1]; exact hm)⟩⟩)
            · replace hm := cT c32 hm
              refine cond_t rfl (vb rfl c32) ?_
              refine wp_seq ?_
              refine wp_rs rfl ?_
              refine RQ.y rfl (Y.assign (v := .bool false) rfl) ?_
              refine RQ.nil ?_
              refine then_n ?_
              refine wp_ret ?_
              obtain rfl := Option.some.inj hm
              exact (blk_r (then_r (then_r (hit_r (blk_r (then_r (ret1 rfl rfl rfl ⟨rfl, T⟩)))))))
    · replace hm := cT c2 hm
      have pc2 := of_decide_eq_true c2
      refine cond_t rfl (vb rfl c2) ?_
      refine wp_seq ?_
      refine wp_rs rfl ?_
      refine RQ.y rfl (Y.assign (v := .bool false) rfl) ?_
      refine RQ.nil ?_
      refine then_n ?_
      refine wp_ret ?_
      obtain rfl := Option.some.inj hm
      exact (then_r (ret1 rfl rfl rfl ⟨rfl, T⟩))
  · replace hm := cT c1 hm
    have pc1 := of_decide_eq_true c1
    refine RQ.skip (wantN (dj := 8) rfl (vb rfl c1) rfl) ?_
    refine RQ.skip (wantN (dj := 8) rfl (vb rfl c1) rfl) ?_
    refine RQ.skip (wantN (dj := 8) rfl (vb rfl c1) rfl) ?_
    refine RQ.y rfl (Y.pick (b := true) (v := .bool true) (vb rfl c1) rfl) ?_
    refine RQ.nil ?_
    refine then_n ?_
    refine cond_t rfl rfl ?_
    refine wp_seq ?_
    refine wp_rs rfl ?_
    refine RQ.y rfl (Y.assign (v := .bool false) rfl) ?_
    refine RQ.nil ?_
    refine then_n ?_
    refine wp_ret ?_
    obtain rfl := Option.some.inj hm
    exact (then_r (ret1 rfl rfl rfl ⟨rfl, T⟩))

def m_impl_ValidNet (d0 : DNet) : Option Bool :=
  ((m_impl_areAgents d0.agents).bind fun y6 => (bif y6 then ((m_impl_Net_ports d0).bind fun y11 => ((m_slices_ContainsFunc_impl_Port_impl_Port y11 (fun x0 => m_impl_ValidNet_1 x0 d0)).bind fun y18 => some (!y18))) else some false))
set_option maxHeartbeats 2000000 in
theorem c_m_impl_ValidNet (d0 : DNet) (r : Bool) (hm : m_impl_ValidNet d0 = some r) (v0 : Value) (w : World) (hv0 : St netRd w v0 d0) :
    Calls Try.prog 68 #[v0] w fun e w' => e = .returned (.bool r) ∧ Below w.heap.size w w' := by
  obtain ⟨csa0, rfl, ⟨A1, n1, c1, rfl, ⟨h1, r1⟩⟩⟩ := hv0
  have e1 := h1.len; subst e1
  have q1 := len_le r1
  have T := Below.refl w.heap.size w
  unfold m_impl_ValidNet at hm
  refine enter 11 Try.func68 rfl rfl rfl ?_
  intro f hf
  have s0 : f 0 = .agg #[.slice A1 d0.agents.length c1] := hf 0 _ rfl
  refine wp_seq ?_
  refine wp_rl rfl ?_
  refine RL.box rfl s0 (fun w2 B3 hb4 szw2 => ?_)
  replace B3 : Blk w2 w.heap.size 30 #[.slice A1 d0.agents.length c1] := B3
  have GB3 : w.heap.size ≤ w.heap.size := T.size
  have T := Tt T hb4
  refine RL.y rfl (Y.assign (v := .bool false) rfl) ?_
  refine RL.nil ?_
  refine then_n ?_
  refine wp_seq ?_
  refine wp_seq ?_
  refine wp_rb rfl ?_
  refine RQ.y rfl (Y.fieldAddr (off := 0) rfl (by kernel_rfl)) ?_
  refine RQ.y rfl (Y.load (v := .slice A1 d0.agents.length c1) rfl (by kernel_rfl) (beC (blkCell B3 (i := 0) rfl))) ?_
  obtain ⟨y6, e7, hm⟩ := bnd hm
  refine RQ.call rfl (am1 rfl) (by kernel_rfl) (v := .bool y6) (bel (K := fun _ => True) fun w' hb' => (c_m_impl_areAgents d0.agents _ e7 _ w' (slArg agentRd_ok h1 r1 (Tt T hb')))) ?_
  refine RQ.y rfl (Y.not (b' := (!y6)) rfl rfl) ?_
  refine RQ.nil ?_
  intro w8 hb9
  have szw8 := hb9.size
  have B3 := blkT B3 hb9
  have T := Tt T hb9
  refine then_n ?_
  rcases bcases y6 with c10 | c10
  · replace hm := cF c10 hm
    refine cond_t rfl (vbn rfl c10 rfl) ?_
    refine wp_seq ?_
    refine wp_rs rfl ?_
    refine RQ.y rfl (Y.assign (v := .bool false) rfl) ?_
    refine RQ.nil ?_
    refine then_n ?_
    refine wp_ret ?_
    obtain rfl := Option.some.inj hm
    exact (then_r (ret1 rfl rfl rfl ⟨rfl, T⟩))
  · replace hm := cT c10 hm
    refine cond_f rfl (vbn rfl c10 rfl) ?_
    refine wp_skip ?_
    refine then_n ?_
    refine wp_seq ?_
    refine wp_rl rfl ?_
    obtain ⟨y11, e12, hm⟩ := bnd hm
    refine RL.call rfl (am1 rfl) (by kernel_rfl) ((c_m_impl_Net_ports d0 _ e12 _ _ (ptBox (R := netRd) B3 ⟨_, _, _, rfl, ⟨SlAt.now agentRd_ok h1 (Nat.le_refl _) T, r1⟩⟩)).mono ?_)
    rintro _ w16 ⟨⟨v13, rfl, G14⟩, hb17⟩
    refine ⟨_, rfl, ?_⟩
    have szw16 := hb17.size
    have T0w16 := T.size
    have No15_ob5 := OwF.ne G14 B3.lt
    have B3 := blkT B3 hb17
    have T := Tt T hb17
    replace G14 := OwF.mono G14 T0w16
    refine RL.y rfl (Y.makeFunc (vals := #[.pointer (some ⟨w.heap.size, 0, none⟩)]) (am1 rfl)) ?_
    obtain ⟨y18, e19, hm⟩ := bnd hm
    refine RL.call rfl (am2 rfl rfl) (by kernel_rfl) ((c_m_slices_ContainsFunc_impl_Port_impl_Port y11 (fun x0 => m_impl_ValidNet_1 x0 d0) _ e19 _ _ _ _ (OwF.arg fPort G14) (by kernel_rfl) (fun x0 b hx w1 hb1 => Calls.arr (by simp) (c_m_impl_ValidNet_1 x0 d0 _ hx _ w1 (ptBox (R := netRd) (blkT B3 hb1) ⟨_, _, _, rfl, ⟨SlAt.now agentRd_ok h1 (Nat.le_refl _) (Tt T hb1), r1⟩⟩)))).mono ?_)
    rintro _ w20 ⟨rfl, hb21⟩
    refine ⟨_, rfl, ?_⟩
    have szw20 := hb21.size
    have B3 := blkT B3 hb21
    have G14 := OwF.below G14 hb21
    have T := Tt T hb21
    refine RL.y rfl (Y.not (b' := (!y18)) rfl rfl) ?_
    refine RL.y rfl (Y.assign (v := .bool (!y18)) rfl) ?_
    refine RL.nil ?_
    refine then_n ?_
    refine wp_ret ?_
    obtain rfl := Option.some.inj hm
    exact (ret1 rfl rfl rfl ⟨rfl, T⟩)

end Go.Proofs.Ytampijkiidjcmaa
