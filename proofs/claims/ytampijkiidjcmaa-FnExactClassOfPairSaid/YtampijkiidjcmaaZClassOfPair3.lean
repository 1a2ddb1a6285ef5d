/- Lemmas of the proof of ClassOfPair, part 3. No condition. -/
import Derived.Test.YtampijkiidjcmaaZClassOfPair2
namespace Go.Proofs.Ytampijkiidjcmaa
section
open Go.RowKit
set_option linter.unusedVariables false
set_option linter.unusedSimpArgs false
set_option maxRecDepth 100000
def m_slices_IndexFunc_impl_Port_impl_Port_A1 : Option Int :=
  some (-1)
def m_slices_IndexFunc_impl_Port_impl_Port_B1 (d0 : List DPort) (d1 : DPort → Option Bool) (rec1 : Int → Option Int) (K1 : Option Int) (i2 : Int) : Option Int :=
  (bif (decide (i2 < (d0.length : Int))) then ((getI d0 i2).bind fun x5 => ((d1 x5).bind fun y14 => (bif y14 then some i2 else (rec1 (i2 + 1))))) else (K1))
def m_slices_IndexFunc_impl_Port_impl_Port_L1 (d0 : List DPort) (d1 : DPort → Option Bool) (K1 : Option Int) : Nat → Int → Option Int
  | 0, _ => none
  | g + 1, i2 => m_slices_IndexFunc_impl_Port_impl_Port_B1 d0 d1 (m_slices_IndexFunc_impl_Port_impl_Port_L1 d0 d1 K1 g) K1 i2
def m_slices_IndexFunc_impl_Port_impl_Port (d0 : List DPort) (d1 : DPort → Option Bool) : Option Int :=
  (m_slices_IndexFunc_impl_Port_impl_Port_L1 d0 d1 m_slices_IndexFunc_impl_Port_impl_Port_A1 (d0.length + 1) 0)
set_option maxHeartbeats 2000000 in
theorem c_m_slices_IndexFunc_impl_Port_impl_Port (d0 : List DPort) (d1 : DPort → Option Bool) (r : Int) (hm : m_slices_IndexFunc_impl_Port_impl_Port d0 d1 = some r) (v0 : Value) (gf1 : FuncId) (caps1 : Array Value) (w : World) (hv0 : Sl portRd 2 w v0 d0) (hgo1 : isGo Try.prog gf1 = true) (hf1 : ∀ (x0 : DPort) (b : Bool), d1 x0 = some b → ∀ w1, Below w.heap.size w w1 → Calls Try.prog gf1 (#[.agg #[.int .i64 x0.agent, .int .i64 x0.slot]] ++ caps1) w1 fun e w2 => e = .returned (.bool b) ∧ Below w1.heap.size w1 w2) :
    Calls Try.prog 167 #[v0, .func (.func gf1) #[] caps1] w fun e w' => e = .returned (.int .i64 r) ∧ Below w.heap.size w w' := by
  obtain ⟨Aa0, na0, ca0, rfl, ha0, ra0⟩ := hv0
  have ea0 := ha0.len; subst ea0
  have qa0 := len_le ra0
  have T := Below.refl w.heap.size w
  unfold m_slices_IndexFunc_impl_Port_impl_Port at hm
  refine enter 19 Try.func167 rfl rfl rfl ?_
  intro f hf
  have s0 : f 0 = .slice Aa0 d0.length ca0 := hf 0 _ rfl
  have s1 : f 1 = .func (.func gf1) #[] caps1 := hf 1 _ rfl
  refine wp_seq ?_
  refine wp_rs rfl ?_
  refine RQ.y rfl (Y.assign (v := .int .i64 0) rfl) ?_
  refine RQ.nil ?_
  refine then_n ?_
  refine wp_seq ?_
  refine wp_seq ?_
  refine wp_rs rfl ?_
  refine RQ.y rfl (Y.move (v := .slice Aa0 d0.length ca0) s0) ?_
  refine RQ.y rfl (Y.len (by kernel_rfl) rfl) ?_
  refine RQ.y rfl (Y.move (v := .int .i64 0) rfl) ?_
  refine RQ.nil ?_
  refine then_n ?_
  refine wp_block ?_
  obtain ⟨K1, hK1, hm⟩ : ∃ K, K = m_slices_IndexFunc_impl_Port_impl_Port_A1 ∧ m_slices_IndexFunc_impl_Port_impl_Port_L1 d0 d1 K (d0.length + 1) 0 = some r := ⟨_, rfl, hm⟩
  refine wp_loopX (fun g f w' => ∃ (i2 : Int), f 0 = .slice Aa0 d0.length ca0 ∧ f 1 = .func (.func gf1) #[] caps1 ∧ f 7 = .int .i64 (d0.length : Int) ∧ f 8 = .int .i64 i2 ∧ 0 ≤ i2 ∧ Below w.heap.size w w' ∧ m_slices_IndexFunc_impl_Port_impl_Port_L1 d0 d1 K1 g i2 = some r) 0 (fun f w' => Below w.heap.size w w' ∧ m_slices_IndexFunc_impl_Port_impl_Port_A1  = some r) (d0.length + 1) ⟨0, s0, s1, rfl, rfl, (by omega), T, hm⟩ ?_ ?_
  · rintro f w1 ⟨T, hm⟩
    unfold m_slices_IndexFunc_impl_Port_impl_Port_A1 at hm
    refine blk_hit (then_n ?_)
    refine wp_seq ?_
    refine wp_rs rfl ?_
    refine RQ.y rfl (Y.assign (v := .int .i64 (-1)) rfl) ?_
    refine RQ.nil ?_
    refine then_n ?_
    refine wp_ret ?_
    obtain rfl := Option.some.inj hm
    exact (ret1 rfl rfl rfl ⟨rfl, T⟩)
  · rintro g f w3 ⟨i2, s0_1, s1_1, s7_1, s8_1, nn8_1, T, hm⟩
    rcases g with _ | g
    · simp only [m_slices_IndexFunc_impl_Port_impl_Port_L1] at hm; cases hm
    obtain ⟨rec1, hrec1, hm⟩ : ∃ z, z = m_slices_IndexFunc_impl_Port_impl_Port_L1 d0 d1 K1 g ∧ m_slices_IndexFunc_impl_Port_impl_Port_B1 d0 d1 z K1 i2 = some r := ⟨_, rfl, hm⟩
    unfold m_slices_IndexFunc_impl_Port_impl_Port_B1 at hm
    refine wp_seq ?_
    refine wp_rs rfl ?_
    refine RQ.y rfl (Y.binI (v := .bool (decide (i2 < (d0.length : Int)))) s8_1 s7_1 rfl) ?_
    refine RQ.nil ?_
    refine then_n ?_
    refine wp_seq ?_
    rcases bcases (decide (i2 < (d0.length : Int))) with c4 | c4
    · replace hm := cF c4 hm
      have pc4 := of_decide_eq_false c4
      refine cond_f rfl (vb rfl c4) ?_
      refine wp_exit ?_
      exact (then_x (then_x (hit_x ⟨_, rfl, ⟨T, (by rw [hK1] at hm; exact hm)⟩⟩)))
    · replace hm := cT c4 hm
      have pc4 := of_decide_eq_true c4
      refine cond_t rfl (vb rfl c4) ?_
      refine wp_skip ?_
      refine then_n ?_
      refine wp_seq ?_
      refine wp_block ?_
      refine wp_seq ?_
      refine wp_rs rfl ?_
      refine RQ.y rfl (Y.move (v := .int .i64 i2) s8_1) ?_
      refine RQ.y rfl (Y.assign (v := .int .i64 i2) rfl) ?_
      refine RQ.nil ?_
      refine then_n ?_
      refine wp_seq ?_
      refine wp_rb rfl ?_
      refine RQ.y rfl (Y.move (v := .func (.func gf1) #[] caps1) s1_1) ?_
      refine RQ.y rfl (Y.move (v := .slice Aa0 d0.length ca0) s0_1) ?_
      refine RQ.y rfl (Y.move (v := .int .i64 i2) rfl) ?_
      obtain ⟨x5, hx8, hm⟩ := bnd hm
      obtain ⟨k6, hk9, hl10, hx8⟩ := getI_some hx8
      obtain ⟨b12, o13, rfl, hbb12⟩ := ha0.addr (by omega)
      obtain ⟨cs7, hRcs7, hc11⟩ := ha0.el hx8
      have hScs7 := hRcs7
      obtain rfl := hRcs7
      refine RQ.y rfl (Y.indexAddr (m := k6) (sz := 2) rfl rfl hk9 hl10 (by kernel_rfl)) ?_
      refine RQ.y rfl (Y.loadN (cs := [.int .i64 x5.agent, .int .i64 x5.slot]) rfl (by kernel_rfl) (cells2 (beC (cellT T (hc11 0 _ rfl))) (beC (cellT T (hc11 1 _ rfl))))) ?_
      obtain ⟨y14, e15, hm⟩ := bnd hm
      refine RQ.callV rfl rfl (am1 rfl) hgo1 (v := .bool y14) (bel (K := fun _ => True) fun w' hb' => hf1 x5 y14 e15 w' (Tt T hb')) ?_
      refine RQ.nil ?_
      intro w16 hb17
      have szw16 := hb17.size
      have T := Tt T hb17
      refine then_n ?_
      rcases bcases y14 with c18 | c18
      · replace hm := cF c18 hm
        refine cond_f rfl (vb rfl c18) ?_
        refine wp_skip ?_
        refine blk_n (then_n ?_)
        refine wp_rs rfl ?_
        refine RQ.y rfl (Y.binI s8_1 rfl (binI_add (m := i2) (by omega))) ?_
        refine RQ.y rfl (Y.move (v := .int .i64 (i2 + 1)) rfl) ?_
        refine RQ.nil ?_
        exact (then_n ⟨g, _, Nat.lt_succ_self _, rfl, ⟨(i2 + 1), s0_1, s1_1, s7_1, rfl, (by omega), T, (by rw [← hrec1]; exact hm)⟩⟩)
      · replace hm := cT c18 hm
        refine cond_t rfl (vb rfl c18) ?_
        refine wp_seq ?_
        refine wp_rs rfl ?_
        refine RQ.y rfl (Y.move (v := .int .i64 i2) rfl) ?_
        refine RQ.y rfl (Y.assign (v := .int .i64 i2) rfl) ?_
        refine RQ.nil ?_
        refine then_n ?_
        refine wp_ret ?_
        obtain rfl := Option.some.inj hm
        exact (blk_r (then_r (then_r (hit_r (blk_r (then_r (ret1 rfl rfl rfl ⟨rfl, T⟩)))))))
def m_slices_ContainsFunc_impl_Port_impl_Port (d0 : List DPort) (d1 : DPort → Option Bool) : Option Bool :=
  ((m_slices_IndexFunc_impl_Port_impl_Port d0 d1).bind fun y1 => some (decide (y1 ≥ 0)))
set_option maxHeartbeats 2000000 in
theorem c_m_slices_ContainsFunc_impl_Port_impl_Port (d0 : List DPort) (d1 : DPort → Option Bool) (r : Bool) (hm : m_slices_ContainsFunc_impl_Port_impl_Port d0 d1 = some r) (v0 : Value) (gf1 : FuncId) (caps1 : Array Value) (w : World) (hv0 : Sl portRd 2 w v0 d0) (hgo1 : isGo Try.prog gf1 = true) (hf1 : ∀ (x0 : DPort) (b : Bool), d1 x0 = some b → ∀ w1, Below w.heap.size w w1 → Calls Try.prog gf1 (#[.agg #[.int .i64 x0.agent, .int .i64 x0.slot]] ++ caps1) w1 fun e w2 => e = .returned (.bool b) ∧ Below w1.heap.size w1 w2) :
    Calls Try.prog 116 #[v0, .func (.func gf1) #[] caps1] w fun e w' => e = .returned (.bool r) ∧ Below w.heap.size w w' := by
  obtain ⟨Aa0, na0, ca0, rfl, ha0, ra0⟩ := hv0
  have ea0 := ha0.len; subst ea0
  have qa0 := len_le ra0
  have T := Below.refl w.heap.size w
  unfold m_slices_ContainsFunc_impl_Port_impl_Port at hm
  refine enter 9 Try.func116 rfl rfl rfl ?_
  intro f hf
  have s0 : f 0 = .slice Aa0 d0.length ca0 := hf 0 _ rfl
  have s1 : f 1 = .func (.func gf1) #[] caps1 := hf 1 _ rfl
  refine wp_seq ?_
  refine wp_rs rfl ?_
  refine RQ.y rfl (Y.assign (v := .bool false) rfl) ?_
  refine RQ.nil ?_
  refine then_n ?_
  refine wp_seq ?_
  refine wp_rb rfl ?_
  refine RQ.y rfl (Y.move (v := .slice Aa0 d0.length ca0) s0) ?_
  refine RQ.y rfl (Y.move (v := .func (.func gf1) #[] caps1) s1) ?_
  obtain ⟨y1, e2, hm⟩ := bnd hm
  refine RQ.call rfl (am2 rfl rfl) (by kernel_rfl) (v := .int .i64 y1) (bel (K := fun _ => True) fun w' hb' => (c_m_slices_IndexFunc_impl_Port_impl_Port d0 d1 _ e2 _ _ _ w' (slArg portRd_ok ha0 ra0 (Tt T hb')) hgo1 (fun x0 b hx w1 hb1 => hf1 x0 b hx w1 (Tt (Tt T hb') hb1)))) ?_
  refine RQ.y rfl (Y.binI (v := .bool (decide (y1 ≥ 0))) rfl rfl rfl) ?_
  refine RQ.y rfl (Y.assign (v := .bool (decide (y1 ≥ 0))) rfl) ?_
  refine RQ.nil ?_
  intro w3 hb4
  have szw3 := hb4.size
  have T := Tt T hb4
  refine then_n ?_
  refine wp_ret ?_
  obtain rfl := Option.some.inj hm
  exact (ret1 rfl rfl rfl ⟨rfl, T⟩)
def m_slices_IndexFunc_int64_int64_A1 : Option Int :=
  some (-1)
def m_slices_IndexFunc_int64_int64_B1 (d0 : List Int) (d1 : Int → Option Bool) (rec1 : Int → Option Int) (K1 : Option Int) (i2 : Int) : Option Int :=
  (bif (decide (i2 < (d0.length : Int))) then ((getI d0 i2).bind fun x5 => ((d1 x5).bind fun y14 => (bif y14 then some i2 else (rec1 (i2 + 1))))) else (K1))
def m_slices_IndexFunc_int64_int64_L1 (d0 : List Int) (d1 : Int → Option Bool) (K1 : Option Int) : Nat → Int → Option Int
  | 0, _ => none
  | g + 1, i2 => m_slices_IndexFunc_int64_int64_B1 d0 d1 (m_slices_IndexFunc_int64_int64_L1 d0 d1 K1 g) K1 i2
def m_slices_IndexFunc_int64_int64 (d0 : List Int) (d1 : Int → Option Bool) : Option Int :=
  (m_slices_IndexFunc_int64_int64_L1 d0 d1 m_slices_IndexFunc_int64_int64_A1 (d0.length + 1) 0)
set_option maxHeartbeats 2000000 in
theorem c_m_slices_IndexFunc_int64_int64 (d0 : List Int) (d1 : Int → Option Bool) (r : Int) (hm : m_slices_IndexFunc_int64_int64 d0 d1 = some r) (v0 : Value) (gf1 : FuncId) (caps1 : Array Value) (w : World) (hv0 : Sl intRd 1 w v0 d0) (hgo1 : isGo Try.prog gf1 = true) (hf1 : ∀ (x0 : Int) (b : Bool), d1 x0 = some b → ∀ w1, Below w.heap.size w w1 → Calls Try.prog gf1 (#[.int .i64 x0] ++ caps1) w1 fun e w2 => e = .returned (.bool b) ∧ Below w1.heap.size w1 w2) :
    Calls Try.prog 195 #[v0, .func (.func gf1) #[] caps1] w fun e w' => e = .returned (.int .i64 r) ∧ Below w.heap.size w w' := by
  obtain ⟨Aa0, na0, ca0, rfl, ha0, ra0⟩ := hv0
  have ea0 := ha0.len; subst ea0
  have qa0 := len_le ra0
  have T := Below.refl w.heap.size w
  unfold m_slices_IndexFunc_int64_int64 at hm
  refine enter 19 Try.func195 rfl rfl rfl ?_
  intro f hf
  have s0 : f 0 = .slice Aa0 d0.length ca0 := hf 0 _ rfl
  have s1 : f 1 = .func (.func gf1) #[] caps1 := hf 1 _ rfl
  refine wp_seq ?_
  refine wp_rs rfl ?_
  refine RQ.y rfl (Y.assign (v := .int .i64 0) rfl) ?_
  refine RQ.nil ?_
  refine then_n ?_
  refine wp_seq ?_
  refine wp_seq ?_
  refine wp_rs rfl ?_
  refine RQ.y rfl (Y.move (v := .slice Aa0 d0.length ca0) s0) ?_
  refine RQ.y rfl (Y.len (by kernel_rfl) rfl) ?_
  refine RQ.y rfl (Y.move (v := .int .i64 0) rfl) ?_
  refine RQ.nil ?_
  refine then_n ?_
  refine wp_block ?_
  obtain ⟨K1, hK1, hm⟩ : ∃ K, K = m_slices_IndexFunc_int64_int64_A1 ∧ m_slices_IndexFunc_int64_int64_L1 d0 d1 K (d0.length + 1) 0 = some r := ⟨_, rfl, hm⟩
  refine wp_loopX (fun g f w' => ∃ (i2 : Int), f 0 = .slice Aa0 d0.length ca0 ∧ f 1 = .func (.func gf1) #[] caps1 ∧ f 7 = .int .i64 (d0.length : Int) ∧ f 8 = .int .i64 i2 ∧ 0 ≤ i2 ∧ Below w.heap.size w w' ∧ m_slices_IndexFunc_int64_int64_L1 d0 d1 K1 g i2 = some r) 0 (fun f w' => Below w.heap.size w w' ∧ m_slices_IndexFunc_int64_int64_A1  = some r) (d0.length + 1) ⟨0, s0, s1, rfl, rfl, (by omega), T, hm⟩ ?_ ?_
  · rintro f w1 ⟨T, hm⟩
    unfold m_slices_IndexFunc_int64_int64_A1 at hm
    refine blk_hit (then_n ?_)
    refine wp_seq ?_
    refine wp_rs rfl ?_
    refine RQ.y rfl (Y.assign (v := .int .i64 (-1)) rfl) ?_
    refine RQ.nil ?_
    refine then_n ?_
    refine wp_ret ?_
    obtain rfl := Option.some.inj hm
    exact (ret1 rfl rfl rfl ⟨rfl, T⟩)
  · rintro g f w3 ⟨i2, s0_1, s1_1, s7_1, s8_1, nn8_1, T, hm⟩
    rcases g with _ | g
    · simp only [m_slices_IndexFunc_int64_int64_L1] at hm; cases hm
    obtain ⟨rec1, hrec1, hm⟩ : ∃ z, z = m_slices_IndexFunc_int64_int64_L1 d0 d1 K1 g ∧ m_slices_IndexFunc_int64_int64_B1 d0 d1 z K1 i2 = some r := ⟨_, rfl, hm⟩
    unfold m_slices_IndexFunc_int64_int64_B1 at hm
    refine wp_seq ?_
    refine wp_rs rfl ?_
    refine RQ.y rfl (Y.binI (v := .bool (decide (i2 < (d0.length : Int)))) s8_1 s7_1 rfl) ?_
    refine RQ.nil ?_
    refine then_n ?_
    refine wp_seq ?_
    rcases bcases (decide (i2 < (d0.length : Int))) with c4 | c4
    · replace hm := cF c4 hm
      have pc4 := of_decide_eq_false c4
      refine cond_f rfl (vb rfl c4) ?_
      refine wp_exit ?_
      exact (then_x (then_x (hit_x ⟨_, rfl, ⟨T, (by rw [hK1] at hm; exact hm)⟩⟩)))
    · replace hm := cT c4 hm
      have pc4 := of_decide_eq_true c4
      refine cond_t rfl (vb rfl c4) ?_
      refine wp_skip ?_
      refine then_n ?_
      refine wp_seq ?_
      refine wp_block ?_
      refine wp_seq ?_
      refine wp_rs rfl ?_
      refine RQ.y rfl (Y.move (v := .int .i64 i2) s8_1) ?_
      refine RQ.y rfl (Y.assign (v := .int .i64 i2) rfl) ?_
      refine RQ.nil ?_
      refine then_n ?_
      refine wp_seq ?_
      refine wp_rb rfl ?_
      refine RQ.y rfl (Y.move (v := .func (.func gf1) #[] caps1) s1_1) ?_
      refine RQ.y rfl (Y.move (v := .slice Aa0 d0.length ca0) s0_1) ?_
      refine RQ.y rfl (Y.move (v := .int .i64 i2) rfl) ?_
      obtain ⟨x5, hx8, hm⟩ := bnd hm
      obtain ⟨k6, hk9, hl10, hx8⟩ := getI_some hx8
      obtain ⟨b12, o13, rfl, hbb12⟩ := ha0.addr (by omega)
      obtain ⟨cs7, hRcs7, hc11⟩ := ha0.el hx8
      have hScs7 := hRcs7
      obtain rfl := hRcs7
      refine RQ.y rfl (Y.indexAddr (m := k6) (sz := 1) rfl rfl hk9 hl10 (by kernel_rfl)) ?_
      refine RQ.y rfl (Y.load (v := .int .i64 x5) rfl (by kernel_rfl) (beC (cellT T (hc11 0 _ rfl)))) ?_
      obtain ⟨y14, e15, hm⟩ := bnd hm
      refine RQ.callV rfl rfl (am1 rfl) hgo1 (v := .bool y14) (bel (K := fun _ => True) fun w' hb' => hf1 x5 y14 e15 w' (Tt T hb')) ?_
      refine RQ.nil ?_
      intro w16 hb17
      have szw16 := hb17.size
      have T := Tt T hb17
      refine then_n ?_
      rcases bcases y14 with c18 | c18
      · replace hm := cF c18 hm
        refine cond_f rfl (vb rfl c18) ?_
        refine wp_skip ?_
        refine blk_n (then_n ?_)
        refine wp_rs rfl ?_
        refine RQ.y rfl (Y.binI s8_1 rfl (binI_add (m := i2) (by omega))) ?_
        refine RQ.y rfl (Y.move (v := .int .i64 (i2 + 1)) rfl) ?_
        refine RQ.nil ?_
        exact (then_n ⟨g, _, Nat.lt_succ_self _, rfl, ⟨(i2 + 1), s0_1, s1_1, s7_1, rfl, (by omega), T, (by rw [← hrec1]; exact hm)⟩⟩)
      · replace hm := cT c18 hm
        refine cond_t rfl (vb rfl c18) ?_
        refine wp_seq ?_
        refine wp_rs rfl ?_
        refine RQ.y rfl (Y.move (v := .int .i64 i2) rfl) ?_
        refine RQ.y rfl (Y.assign (v := .int .i64 i2) rfl) ?_
        refine RQ.nil ?_
        refine then_n ?_
        refine wp_ret ?_
        obtain rfl := Option.some.inj hm
        exact (blk_r (then_r (then_r (hit_r (blk_r (then_r (ret1 rfl rfl rfl ⟨rfl, T⟩)))))))
def m_slices_ContainsFunc_int64_int64 (d0 : List Int) (d1 : Int → Option Bool) : Option Bool :=
  ((m_slices_IndexFunc_int64_int64 d0 d1).bind fun y1 => some (decide (y1 ≥ 0)))
set_option maxHeartbeats 2000000 in
theorem c_m_slices_ContainsFunc_int64_int64 (d0 : List Int) (d1 : Int → Option Bool) (r : Bool) (hm : m_slices_ContainsFunc_int64_int64 d0 d1 = some r) (v0 : Value) (gf1 : FuncId) (caps1 : Array Value) (w : World) (hv0 : Sl intRd 1 w v0 d0) (hgo1 : isGo Try.prog gf1 = true) (hf1 : ∀ (x0 : Int) (b : Bool), d1 x0 = some b → ∀ w1, Below w.heap.size w w1 → Calls Try.prog gf1 (#[.int .i64 x0] ++ caps1) w1 fun e w2 => e = .returned (.bool b) ∧ Below w1.heap.size w1 w2) :
    Calls Try.prog 186 #[v0, .func (.func gf1) #[] caps1] w fun e w' => e = .returned (.bool r) ∧ Below w.heap.size w w' := by
  obtain ⟨Aa0, na0, ca0, rfl, ha0, ra0⟩ := hv0
  have ea0 := ha0.len; subst ea0
  have qa0 := len_le ra0
  have T := Below.refl w.heap.size w
  unfold m_slices_ContainsFunc_int64_int64 at hm
  refine enter 9 Try.func186 rfl rfl rfl ?_
  intro f hf
  have s0 : f 0 = .slice Aa0 d0.length ca0 := hf 0 _ rfl
  have s1 : f 1 = .func (.func gf1) #[] caps1 := hf 1 _ rfl
  refine wp_seq ?_
  refine wp_rs rfl ?_
  refine RQ.y rfl (Y.assign (v := .bool false) rfl) ?_
  refine RQ.nil ?_
  refine then_n ?_
  refine wp_seq ?_
  refine wp_rb rfl ?_
  refine RQ.y rfl (Y.move (v := .slice Aa0 d0.length ca0) s0) ?_
  refine RQ.y rfl (Y.move (v := .func (.func gf1) #[] caps1) s1) ?_
  obtain ⟨y1, e2, hm⟩ := bnd hm
  refine RQ.call rfl (am2 rfl rfl) (by kernel_rfl) (v := .int .i64 y1) (bel (K := fun _ => True) fun w' hb' => (c_m_slices_IndexFunc_int64_int64 d0 d1 _ e2 _ _ _ w' (slArg intRd_ok ha0 ra0 (Tt T hb')) hgo1 (fun x0 b hx w1 hb1 => hf1 x0 b hx w1 (Tt (Tt T hb') hb1)))) ?_
  refine RQ.y rfl (Y.binI (v := .bool (decide (y1 ≥ 0))) rfl rfl rfl) ?_
  refine RQ.y rfl (Y.assign (v := .bool (decide (y1 ≥ 0))) rfl) ?_
  refine RQ.nil ?_
  intro w3 hb4
  have szw3 := hb4.size
  have T := Tt T hb4
  refine then_n ?_
  refine wp_ret ?_
  obtain rfl := Option.some.inj hm
  exact (ret1 rfl rfl rfl ⟨rfl, T⟩)
def m_impl_ValidNet_1 (d0 : DPort) (d1 : DNet) : Option Bool :=
  ((m_impl_Net_peer d1 d0).bind fun y6 => (bif (y6.agent == d0.agent && y6.slot == d0.slot) then some true else ((m_impl_hasPort d1.agents y6).bind fun y18 => (bif y18 then ((m_impl_Net_peer d1 y6).bind fun y23 => some (!(y23.agent == d0.agent && y23.slot == d0.slot))) else some true))))
set_option maxHeartbeats 2000000 in
theorem c_m_impl_ValidNet_1 (d0 : DPort) (d1 : DNet) (r : Bool) (hm : m_impl_ValidNet_1 d0 d1 = some r) (v1 : Value) (w : World) (hv1 : Pt netRd w v1 d1) :
    Calls Try.prog 118 #[.agg #[.int .i64 d0.agent, .int .i64 d0.slot], v1] w fun e w' => e = .returned (.bool r) ∧ Below w.heap.size w w' := by
  obtain ⟨ba1, oa1, csa1, rfl, hba1, hRa1, hca1⟩ := hv1
  have hSa1 := hRa1
  obtain ⟨A1, n1, c1, rfl, ⟨h1, r1⟩⟩ := hRa1
  have e1 := h1.len; subst e1
  have q1 := len_le r1
  have T := Below.refl w.heap.size w
  unfold m_impl_ValidNet_1 at hm
  refine enter 23 Try.func118 rfl rfl rfl ?_
  intro f hf
  have s0 : f 0 = .agg #[.int .i64 d0.agent, .int .i64 d0.slot] := hf 0 _ rfl
  have s1 : f 1 = .pointer (some ⟨ba1, oa1, none⟩) := hf 1 _ rfl
  refine wp_seq ?_
  refine wp_rl rfl ?_
  refine RL.box rfl s0 (fun w2 B3 hb4 szw2 => ?_)
  replace B3 : Blk w2 w.heap.size 53 #[.int .i64 d0.agent, .int .i64 d0.slot] := B3
  have GB3 : w.heap.size ≤ w.heap.size := T.size
  have T := Tt T hb4
  refine RL.y rfl (Y.assign (v := .bool false) rfl) ?_
  refine RL.nil ?_
  refine then_n ?_
  refine wp_seq ?_
  refine wp_rl rfl ?_
  refine RL.y rfl (Y.loadN (cs := [.int .i64 d0.agent, .int .i64 d0.slot]) rfl (by kernel_rfl) (cells2 (eqC (blkCell B3 (i := 0) rfl)) (eqC (blkCell B3 (i := 1) rfl)))) ?_
  obtain ⟨y6, e7, hm⟩ := bnd hm
  refine RL.call rfl (am2 s1 rfl) (by kernel_rfl) ((c_m_impl_Net_peer d1 d0 _ e7 _ _ (ptArg netRd_ok hba1 hSa1 hca1 T)).mono ?_)
  rintro _ w8 ⟨rfl, hb9⟩
  refine ⟨_, rfl, ?_⟩
  have szw8 := hb9.size
  have B3 := blkT B3 hb9
  have T := Tt T hb9
  refine RL.alloc (z := .agg #[.int .i64 0, .int .i64 0]) rfl (by kernel_rfl) (fun w10 B11 hb12 szw10 => ?_)
  replace B11 : Blk w10 w8.heap.size 53 #[.int .i64 0, .int .i64 0] := B11
  have GB11 : w.heap.size ≤ w8.heap.size := T.size
  have Eob13_ob5 := Nat.ne_of_lt B3.lt
  have B3 := blkT B3 hb12
  have T := Tt T hb12
  refine RL.store (v := .agg #[.int .i64 y6.agent, .int .i64 y6.slot]) (cs' := #[.int .i64 y6.agent, .int .i64 y6.slot]) rfl rfl rfl B11 (by kernel_rfl) (by rfl) (by rfl) (by rfl) (fun w14 B15 ho16 => ?_)
  have szw14 := ho16.size
  have B3 := B3.only_ ho16 (by intro hin; simp at hin; exact Eob13_ob5 hin)
  have T := T.trans (ho16.below (by simp; omega))
  refine RL.nil ?_
  refine then_n ?_
  refine wp_seq ?_
  refine wp_rbd (by kernel_rfl) (by kernel_rfl) ?_
  refine RQ.y rfl (Y.loadN (cs := [.int .i64 y6.agent, .int .i64 y6.slot]) rfl (by kernel_rfl) (cells2 (beC (blkCell B15 (i := 0) rfl)) (beC (blkCell B15 (i := 1) rfl)))) ?_
  refine RQ.y rfl (Y.loadN (cs := [.int .i64 d0.agent, .int .i64 d0.slot]) rfl (by kernel_rfl) (cells2 (beC (blkCell B3 (i := 0) rfl)) (beC (blkCell B3 (i := 1) rfl)))) ?_
  refine RQ.y rfl (Y.eqS (b := (y6.agent == d0.agent && y6.slot == d0.slot)) rfl rfl (eqPort_run _ _ _ _) (eqGuardPort_run _ _ _ _ _)) ?_
  refine RQ.y rfl (Y.move (v := .bool (y6.agent == d0.agent && y6.slot == d0.slot)) rfl) ?_
  rcases bcases (y6.agent == d0.agent && y6.slot == d0.slot) with c17 | c17
  · replace hm := cF c17 hm
    refine RQ.y (wantT (dj := 10) rfl (vb rfl c17)) (Y.fieldAddr (off := 0) s1 (by kernel_rfl)) ?_
    refine RQ.y (wantT (dj := 10) rfl (vb rfl c17)) (Y.load (v := .slice A1 d1.agents.length c1) rfl (by kernel_rfl) (beC (cellT T (hca1 0 _ rfl)))) ?_
    refine RQ.y (wantT (dj := 10) rfl (vb rfl c17)) (Y.loadN (cs := [.int .i64 y6.agent, .int .i64 y6.slot]) rfl (by kernel_rfl) (cells2 (beC (blkCell B15 (i := 0) rfl)) (beC (blkCell B15 (i := 1) rfl)))) ?_
    obtain ⟨y18, e19, hm⟩ := bnd hm
    refine RQ.call (wantT (dj := 10) rfl (vb rfl c17)) (am2 rfl rfl) (by kernel_rfl) (v := .bool y18) (bel (K := fun _ => True) fun w' hb' => (c_m_impl_hasPort d1.agents y6 _ e19 _ w' (slArg agentRd_ok h1 r1 (Tt T hb')))) ?_
    refine RQ.y (wantT (dj := 10) rfl (vb rfl c17)) (Y.not (b' := (!y18)) rfl rfl) ?_
    refine RQ.y rfl (Y.pick (b := false) (v := .bool (!y18)) (vb rfl c17) rfl) ?_
    refine RQ.y rfl (Y.move (v := .bool (!y18)) rfl) ?_
    rcases bcases y18 with c20 | c20
    · replace hm := cF c20 hm
      refine RQ.skip (wantN (dj := 17) rfl (vbn rfl c20 rfl) rfl) ?_
      refine RQ.skip (wantN (dj := 17) rfl (vbn rfl c20 rfl) rfl) ?_
      refine RQ.skip (wantN (dj := 17) rfl (vbn rfl c20 rfl) rfl) ?_
      refine RQ.skip (wantN (dj := 17) rfl (vbn rfl c20 rfl) rfl) ?_
      refine RQ.y rfl (Y.pick (b := true) (v := .bool true) (vbn rfl c20 rfl) rfl) ?_
      refine RQ.y rfl (Y.assign (v := .bool true) rfl) ?_
      refine RQ.nil ?_
      intro w21 hb22
      have szw21 := hb22.size
      have T := Tt T hb22
      refine then_n ?_
      refine wp_ret ?_
      obtain rfl := Option.some.inj hm
      exact (ret1 rfl rfl rfl ⟨rfl, T⟩)
    · replace hm := cT c20 hm
      refine RQ.y (wantT (dj := 17) rfl (vbn rfl c20 rfl)) (Y.loadN (cs := [.int .i64 y6.agent, .int .i64 y6.slot]) rfl (by kernel_rfl) (cells2 (beC (blkCell B15 (i := 0) rfl)) (beC (blkCell B15 (i := 1) rfl)))) ?_
      obtain ⟨y23, e24, hm⟩ := bnd hm
      refine RQ.call (wantT (dj := 17) rfl (vbn rfl c20 rfl)) (am2 s1 rfl) (by kernel_rfl) (v := .agg #[.int .i64 y23.agent, .int .i64 y23.slot]) (bel (K := fun _ => True) fun w' hb' => (c_m_impl_Net_peer d1 y6 _ e24 _ w' (ptArg netRd_ok hba1 hSa1 hca1 (Tt T hb')))) ?_
      refine RQ.y (wantT (dj := 17) rfl (vbn rfl c20 rfl)) (Y.loadN (cs := [.int .i64 d0.agent, .int .i64 d0.slot]) rfl (by kernel_rfl) (cells2 (beC (blkCell B3 (i := 0) rfl)) (beC (blkCell B3 (i := 1) rfl)))) ?_
      refine RQ.y (wantT (dj := 17) rfl (vbn rfl c20 rfl)) (Y.neS (b := (y23.agent == d0.agent && y23.slot == d0.slot)) rfl rfl (eqPort_run _ _ _ _) (eqGuardPort_run _ _ _ _ _)) ?_
      refine RQ.y rfl (Y.pick (b := false) (v := .bool (!(y23.agent == d0.agent && y23.slot == d0.slot))) (vbn rfl c20 rfl) rfl) ?_
      refine RQ.y rfl (Y.assign (v := .bool (!(y23.agent == d0.agent && y23.slot == d0.slot))) rfl) ?_
      refine RQ.nil ?_
      intro w25 hb26
      have szw25 := hb26.size
      have T := Tt T hb26
      refine then_n ?_
      refine wp_ret ?_
      obtain rfl := Option.some.inj hm
      exact (ret1 rfl rfl rfl ⟨rfl, T⟩)
  · replace hm := cT c17 hm
    refine RQ.skip (wantN (dj := 10) rfl (vb rfl c17) rfl) ?_
    refine RQ.skip (wantN (dj := 10) rfl (vb rfl c17) rfl) ?_
    refine RQ.skip (wantN (dj := 10) rfl (vb rfl c17) rfl) ?_
    refine RQ.skip (wantN (dj := 10) rfl (vb rfl c17) rfl) ?_
    refine RQ.skip (wantN (dj := 10) rfl (vb rfl c17) rfl) ?_
    refine RQ.y rfl (Y.pick (b := true) (v := .bool true) (vb rfl c17) rfl) ?_
    refine RQ.y rfl (Y.move (v := .bool true) rfl) ?_
    refine RQ.skip (wantN (dj := 17) rfl rfl rfl) ?_
    refine RQ.skip (wantN (dj := 17) rfl rfl rfl) ?_
    refine RQ.skip (wantN (dj := 17) rfl rfl rfl) ?_
    refine RQ.skip (wantN (dj := 17) rfl rfl rfl) ?_
    refine RQ.y rfl (Y.pick (b := true) (v := .bool true) rfl rfl) ?_
    refine RQ.y rfl (Y.assign (v := .bool true) rfl) ?_
    refine RQ.nil ?_
    intro w27 hb28
    have szw27 := hb28.size
    have T := Tt T hb28
    refine then_n ?_
    refine wp_ret ?_
    obtain rfl := Option.some.inj hm
    exact (ret1 rfl rfl rfl ⟨rfl, T⟩)
def m_impl_wellFormed (d0 : DAgent) : Option Bool :=
  (bif ((d0.ports.length : Int) == 0) then some false else ((m_impl_fieldsOf d0.kind (d0.ports.length : Int)).bind fun y8 => (bif ((portsOf d0.kind y8) != (d0.ports.length : Int)) then some false else (bif (allowed d0.kind d0.level) then ((m_slices_ContainsFunc_int64_int64 d0.data (fun x0 => m_impl_wellFormed_1 x0)).bind fun y16 => (bif (d0.kind == 6) then ((m_impl_isInt d0.value).bind fun y69 => (bif y69 then some ((d0.data.length : Int) == 0) else some false)) else (bif (d0.kind == 7) then ((m_impl_isOperator d0.value).bind fun y64 => (bif y64 then some ((d0.data.length : Int) == 0) else some false)) else (bif (d0.kind == 8) then ((m_impl_isOperator d0.value).bind fun y43 => (bif y43 then (bif ((d0.data.length : Int) == 1) then ((getI d0.data 0).bind fun x51 => ((m_impl_isInt x51).bind fun y60 => some y60)) else some false) else some false)) else (bif (d0.kind == 9) then (bif (decide (d0.value ≥ 0)) then (bif (decide (d0.value < 4)) then some ((d0.data.length : Int) == 0) else some false) else some false) else (bif (d0.kind == 10) then (bif (decide ((d0.data.length : Int) ≥ 1)) then (bif (decide ((d0.data.length : Int) ≤ 4)) then (bif (d0.value == 0) then some (!y16) else some false) else (bif (d0.value == 0) then some false else some false)) else (bif (d0.value == 0) then some false else some false)) else (bif (d0.kind == 11) then (bif ((d0.data.length : Int) == 2) then (bif (d0.value == 0) then some (!y16) else some false) else (bif (d0.value == 0) then some false else some false)) else (bif (d0.kind == 12) then ((m_impl_isDefIndex d0.value).bind fun y28 => (bif y28 then some ((d0.data.length : Int) == 0) else some false)) else (bif (d0.value == 0) then some ((d0.data.length : Int) == 0) else some false))))))))) else some false))))
set_option maxHeartbeats 2000000 in
theorem c_m_impl_wellFormed (d0 : DAgent) (r : Bool) (hm : m_impl_wellFormed d0 = some r) (v0 : Value) (w : World) (hv0 : St agentRd w v0 d0) :
    Calls Try.prog 166 #[v0] w fun e w' => e = .returned (.bool r) ∧ Below w.heap.size w w' := by
  obtain ⟨csa0, rfl, ⟨A1, n1, c1, A2, n2, c2, rfl, ⟨h1, r1⟩, ⟨h2, r2⟩⟩⟩ := hv0
  have e1 := h1.len; subst e1
  have q1 := len_le r1
  have e2 := h2.len; subst e2
  have q2 := len_le r2
  have T := Below.refl w.heap.size w
  unfold m_impl_wellFormed at hm
  refine enter 117 Try.func166 rfl rfl rfl ?_
  intro f hf
  have s0 : f 0 = .agg #[.int .i64 d0.kind, .int .i64 d0.level, .int .i64 d0.value, .slice A1 d0.data.length c1, .slice A2 d0.ports.length c2] := hf 0 _ rfl
  refine wp_seq ?_
  refine wp_rl rfl ?_
  refine RL.box rfl s0 (fun w3 B4 hb5 szw3 => ?_)
  replace B4 : Blk w3 w.heap.size 89 #[.int .i64 d0.kind, .int .i64 d0.level, .int .i64 d0.value, .slice A1 d0.data.length c1, .slice A2 d0.ports.length c2] := B4
  have GB4 : w.heap.size ≤ w.heap.size := T.size
  have T := Tt T hb5
  refine RL.y rfl (Y.assign (v := .bool false) rfl) ?_
  refine RL.nil ?_
  refine then_n ?_
  refine wp_seq ?_
  refine wp_seq ?_
  refine wp_rbd (by kernel_rfl) (by kernel_rfl) ?_
  refine RQ.y rfl (Y.fieldAddr (off := 4) rfl (by kernel_rfl)) ?_
  refine RQ.y rfl (Y.load (v := .slice A2 d0.ports.length c2) rfl (by kernel_rfl) (beC (blkCell B4 (i := 4) rfl))) ?_
  refine RQ.y rfl (Y.len (by kernel_rfl) rfl) ?_
  refine RQ.y rfl (Y.binI (v := .bool ((d0.ports.length : Int) == 0)) rfl rfl rfl) ?_
  refine RQ.y rfl (Y.move (v := .bool ((d0.ports.length : Int) == 0)) rfl) ?_
  rcases bcases ((d0.ports.length : Int) == 0) with c7 | c7
  · replace hm := cF c7 hm
    refine RQ.y (wantT (dj := 10) rfl (vb rfl c7)) (Y.fieldAddr (off := 0) rfl (by kernel_rfl)) ?_
    refine RQ.y (wantT (dj := 10) rfl (vb rfl c7)) (Y.load (v := .int .i64 d0.kind) rfl (by kernel_rfl) (beC (blkCell B4 (i := 0) rfl))) ?_
    refine RQ.y (wantT (dj := 10) rfl (vb rfl c7)) (Y.fieldAddr (off := 0) rfl (by kernel_rfl)) ?_
    refine RQ.y (wantT (dj := 10) rfl (vb rfl c7)) (Y.load (v := .int .i64 d0.kind) rfl (by kernel_rfl) (beC (blkCell B4 (i := 0) rfl))) ?_
    refine RQ.y (wantT (dj := 10) rfl (vb rfl c7)) (Y.fieldAddr (off := 4) rfl (by kernel_rfl)) ?_
    refine RQ.y (wantT (dj := 10) rfl (vb rfl c7)) (Y.load (v := .slice A2 d0.ports.length c2) rfl (by kernel_rfl) (beC (blkCell B4 (i := 4) rfl))) ?_
    refine RQ.y (wantT (dj := 10) rfl (vb rfl c7)) (Y.len (by kernel_rfl) rfl) ?_
    obtain ⟨y8, e9, hm⟩ := bnd hm
    refine RQ.call (wantT (dj := 10) rfl (vb rfl c7)) (am2 rfl rfl) (by kernel_rfl) (v := .int .i64 y8) (bel (K := fun _ => True) fun w' hb' => (c_m_impl_fieldsOf d0.kind (d0.ports.length : Int) _ e9  w' )) ?_
    refine RQ.call (wantT (dj := 10) rfl (vb rfl c7)) (am2 rfl rfl) (by kernel_rfl) (v := .int .i64 (portsOf d0.kind y8)) (bel (K := fun _ => True) fun w' hb' => (callB (impl_PortsOf d0.kind y8 w'))) ?_
    refine RQ.y (wantT (dj := 10) rfl (vb rfl c7)) (Y.fieldAddr (off := 4) rfl (by kernel_rfl)) ?_
    refine RQ.y (wantT (dj := 10) rfl (vb rfl c7)) (Y.load (v := .slice A2 d0.ports.length c2) rfl (by kernel_rfl) (beC (blkCell B4 (i := 4) rfl))) ?_
    refine RQ.y (wantT (dj := 10) rfl (vb rfl c7)) (Y.len (by kernel_rfl) rfl) ?_
    refine RQ.y (wantT (dj := 10) rfl (vb rfl c7)) (Y.binI (v := .bool ((portsOf d0.kind y8) != (d0.ports.length : Int))) rfl rfl rfl) ?_
    refine RQ.y rfl (Y.pick (b := false) (v := .bool ((portsOf d0.kind y8) != (d0.ports.length : Int))) (vb rfl c7) rfl) ?_
    refine RQ.y rfl (Y.move (v := .bool ((portsOf d0.kind y8) != (d0.ports.length : Int))) rfl) ?_
    rcases bcases ((portsOf d0.kind y8) != (d0.ports.length : Int)) with c10 | c10
    · replace hm := cF c10 hm
      refine RQ.y (wantT (dj := 25) rfl (vb rfl c10)) (Y.fieldAddr (off := 0) rfl (by kernel_rfl)) ?_
      refine RQ.y (wantT (dj := 25) rfl (vb rfl c10)) (Y.load (v := .int .i64 d0.kind) rfl (by kernel_rfl) (beC (blkCell B4 (i := 0) rfl))) ?_
      refine RQ.y (wantT (dj := 25) rfl (vb rfl c10)) (Y.fieldAddr (off := 1) rfl (by kernel_rfl)) ?_
      refine RQ.y (wantT (dj := 25) rfl (vb rfl c10)) (Y.load (v := .int .i64 d0.level) rfl (by kernel_rfl) (beC (blkCell B4 (i := 1) rfl))) ?_
      refine RQ.call (wantT (dj := 25) rfl (vb rfl c10)) (am2 rfl rfl) (by kernel_rfl) (v := .bool (allowed d0.kind d0.level)) (bel (K := fun _ => True) fun w' hb' => (callB (impl_isAllowed d0.kind d0.level w'))) ?_
      refine RQ.y (wantT (dj := 25) rfl (vb rfl c10)) (Y.not (b' := (!(allowed d0.kind d0.level))) rfl rfl) ?_
      refine RQ.y rfl (Y.pick (b := false) (v := .bool (!(allowed d0.kind d0.level))) (vb rfl c10) rfl) ?_
      refine RQ.nil ?_
      intro w11 hb12
      have szw11 := hb12.size
      have B4 := blkT B4 hb12
      have T := Tt T hb12
      refine then_n ?_
      rcases bcases (allowed d0.kind d0.level) with c13 | c13
      · replace hm := cF c13 hm
        refine cond_t rfl (vbn rfl c13 rfl) ?_
        refine wp_seq ?_
        refine wp_rs rfl ?_
        refine RQ.y rfl (Y.assign (v := .bool false) rfl) ?_
        refine RQ.nil ?_
        refine then_n ?_
        refine wp_ret ?_
        obtain rfl := Option.some.inj hm
        exact (then_r (ret1 rfl rfl rfl ⟨rfl, T⟩))
      · replace hm := cT c13 hm
        refine cond_f rfl (vbn rfl c13 rfl) ?_
        refine wp_skip ?_
        refine then_n ?_
        refine wp_seq ?_
        refine wp_rbd (by kernel_rfl) (by kernel_rfl) ?_
        refine RQ.y rfl (Y.fieldAddr (off := 2) rfl (by kernel_rfl)) ?_
        refine RQ.y rfl (Y.load (v := .int .i64 d0.value) rfl (by kernel_rfl) (beC (blkCell B4 (i := 2) rfl))) ?_
        refine RQ.y rfl (Y.binI (v := .bool (d0.value == 0)) rfl rfl rfl) ?_
        refine RQ.y rfl (Y.fieldAddr (off := 3) rfl (by kernel_rfl)) ?_
        refine RQ.y rfl (Y.load (v := .slice A1 d0.data.length c1) rfl (by kernel_rfl) (beC (blkCell B4 (i := 3) rfl))) ?_
        refine RQ.y rfl (Y.len (by kernel_rfl) rfl) ?_
        refine RQ.y rfl (Y.binI (v := .bool ((d0.data.length : Int) == 0)) rfl rfl rfl) ?_
        refine RQ.y rfl (Y.assign (v := .bool (d0.value == 0)) rfl) ?_
        refine RQ.y rfl (Y.assign (v := .bool ((d0.data.length : Int) == 0)) rfl) ?_
        refine RQ.nil ?_
        intro w14 hb15
        have szw14 := hb15.size
        have B4 := blkT B4 hb15
        have T := Tt T hb15
        refine then_n ?_
        refine wp_seq ?_
        refine wp_rb rfl ?_
        refine RQ.y rfl (Y.fieldAddr (off := 3) rfl (by kernel_rfl)) ?_
        refine RQ.y rfl (Y.load (v := .slice A1 d0.data.length c1) rfl (by kernel_rfl) (beC (blkCell B4 (i := 3) rfl))) ?_
        obtain ⟨y16, e17, hm⟩ := bnd hm
        refine RQ.call rfl (am2 rfl rfl) (by kernel_rfl) (v := .bool y16) (bel (K := fun _ => True) fun w' hb' => (c_m_slices_ContainsFunc_int64_int64 d0.data (fun x0 => m_impl_wellFormed_1 x0) _ e17 _ _ _ w' (slArg intRd_ok h1 r1 (Tt T hb')) (by kernel_rfl) (fun x0 b hx w1 hb1 => Calls.arr (by simp) (c_m_impl_wellFormed_1 x0 _ hx  w1 )))) ?_
        refine RQ.y rfl (Y.not (b' := (!y16)) rfl rfl) ?_
        refine RQ.y rfl (Y.assign (v := .bool (!y16)) rfl) ?_
        refine RQ.nil ?_
        intro w18 hb19
        have szw18 := hb19.size
        have B4 := blkT B4 hb19
        have T := Tt T hb19
        refine then_n ?_
        refine wp_seq ?_
        refine wp_seq ?_
        refine wp_rs rfl ?_
        refine RQ.y rfl (Y.fieldAddr (off := 0) rfl (by kernel_rfl)) ?_
        refine RQ.y rfl (Y.load (v := .int .i64 d0.kind) rfl (by kernel_rfl) (eqC (blkCell B4 (i := 0) rfl))) ?_
        refine RQ.nil ?_
        refine then_n ?_
        refine wp_block ?_
        refine wp_seq ?_
        refine wp_rs rfl ?_
        refine RQ.y rfl (Y.binI (v := .bool (d0.kind == 6)) rfl rfl rfl) ?_
        refine RQ.y rfl (Y.assign (v := .bool (d0.kind == 6)) rfl) ?_
        refine RQ.nil ?_
        refine then_n ?_
        rcases bcases (d0.kind == 6) with c20 | c20
        · replace hm := cF c20 hm
          refine cond_f rfl (vb rfl c20) ?_
          refine wp_seq ?_
          refine wp_rs rfl ?_
          refine RQ.y rfl (Y.binI (v := .bool (d0.kind == 7)) rfl rfl rfl) ?_
          refine RQ.y rfl (Y.assign (v := .bool (d0.kind == 7)) rfl) ?_
          refine RQ.nil ?_
          refine then_n ?_
          rcases bcases (d0.kind == 7) with c21 | c21
          · replace hm := cF c21 hm
            refine cond_f rfl (vb rfl c21) ?_
            refine wp_seq ?_
            refine wp_rs rfl ?_
            refine RQ.y rfl (Y.binI (v := .bool (d0.kind == 8)) rfl rfl rfl) ?_
            refine RQ.y rfl (Y.assign (v := .bool (d0.kind == 8)) rfl) ?_
            refine RQ.nil ?_
            refine then_n ?_
            rcases bcases (d0.kind == 8) with c22 | c22
            · replace hm := cF c22 hm
              refine cond_f rfl (vb rfl c22) ?_
              refine wp_seq ?_
              refine wp_rs rfl ?_
              refine RQ.y rfl (Y.binI (v := .bool (d0.kind == 9)) rfl rfl rfl) ?_
              refine RQ.y rfl (Y.assign (v := .bool (d0.kind == 9)) rfl) ?_
              refine RQ.nil ?_
              refine then_n ?_
              rcases bcases (d0.kind == 9) with c23 | c23
              · replace hm := cF c23 hm
                refine cond_f rfl (vb rfl c23) ?_
                refine wp_seq ?_
                refine wp_rs rfl ?_
                refine RQ.y rfl (Y.binI (v := .bool (d0.kind == 10)) rfl rfl rfl) ?_
                refine RQ.y rfl (Y.assign (v := .bool (d0.kind == 10)) rfl) ?_
                refine RQ.nil ?_
                refine then_n ?_
                rcases bcases (d0.kind == 10) with c24 | c24
                · replace hm := cF c24 hm
                  refine cond_f rfl (vb rfl c24) ?_
                  refine wp_seq ?_
                  refine wp_rs rfl ?_
                  refine RQ.y rfl (Y.binI (v := .bool (d0.kind == 11)) rfl rfl rfl) ?_
                  refine RQ.y rfl (Y.assign (v := .bool (d0.kind == 11)) rfl) ?_
                  refine RQ.nil ?_
                  refine then_n ?_
                  rcases bcases (d0.kind == 11) with c25 | c25
                  · replace hm := cF c25 hm
                    refine cond_f rfl (vb rfl c25) ?_
                    refine wp_seq ?_
                    refine wp_rs rfl ?_
                    refine RQ.y rfl (Y.binI (v := .bool (d0.kind == 12)) rfl rfl rfl) ?_
                    refine RQ.y rfl (Y.assign (v := .bool (d0.kind == 12)) rfl) ?_
                    refine RQ.nil ?_
                    refine then_n ?_
                    rcases bcases (d0.kind == 12) with c26 | c26
                    · replace hm := cF c26 hm
                      refine cond_f rfl (vb rfl c26) ?_
                      refine wp_skip ?_
                      refine blk_n (then_n ?_)
                      refine wp_seq ?_
                      refine wp_rs rfl ?_
                      refine RQ.y rfl (Y.move (v := .bool (d0.value == 0)) rfl) ?_
                      refine RQ.y rfl (Y.move (v := .bool (d0.value == 0)) rfl) ?_
                      rcases bcases (d0.value == 0) with c27 | c27
                      · replace hm := cF c27 hm
                        refine RQ.skip (wantN (dj := 114) rfl (vb rfl c27) rfl) ?_
                        refine RQ.y rfl (Y.pick (b := false) (v := .bool false) (vb rfl c27) rfl) ?_
                        refine RQ.y rfl (Y.assign (v := .bool false) rfl) ?_
                        refine RQ.nil ?_
                        refine then_n ?_
                        refine wp_ret ?_
                        obtain rfl := Option.some.inj hm
                        exact (ret1 rfl rfl rfl ⟨rfl, T⟩)
                      · replace hm := cT c27 hm
                        refine RQ.y (wantT (dj := 114) rfl (vb rfl c27)) (Y.move (v := .bool ((d0.data.length : Int) == 0)) rfl) ?_
                        refine RQ.y rfl (Y.pick (b := true) (v := .bool ((d0.data.length : Int) == 0)) (vb rfl c27) rfl) ?_
                        refine RQ.y rfl (Y.assign (v := .bool ((d0.data.length : Int) == 0)) rfl) ?_
                        refine RQ.nil ?_
                        refine then_n ?_
                        refine wp_ret ?_
                        obtain rfl := Option.some.inj hm
                        exact (ret1 rfl rfl rfl ⟨rfl, T⟩)
                    · replace hm := cT c26 hm
                      refine cond_t rfl (vb rfl c26) ?_
                      refine wp_rb rfl ?_
                      refine RQ.y rfl (Y.fieldAddr (off := 2) rfl (by kernel_rfl)) ?_
                      refine RQ.y rfl (Y.load (v := .int .i64 d0.value) rfl (by kernel_rfl) (beC (blkCell B4 (i := 2) rfl))) ?_
                      obtain ⟨y28, e29, hm⟩ := bnd hm
                      refine RQ.call rfl (am1 rfl) (by kernel_rfl) (v := .bool y28) (bel (K := fun _ => True) fun w' hb' => (c_m_impl_isDefIndex d0.value _ e29  w' )) ?_
                      refine RQ.y rfl (Y.assign (v := .bool y28) rfl) ?_
                      refine RQ.nil ?_
                      intro w30 hb31
                      have szw30 := hb31.size
                      have T := Tt T hb31
                      refine blk_n (then_n ?_)
                      refine wp_seq ?_
                      refine wp_rs rfl ?_
                      refine RQ.y rfl (Y.move (v := .bool y28) rfl) ?_
                      refine RQ.y rfl (Y.move (v := .bool y28) rfl) ?_
                      rcases bcases y28 with c32 | c32
                      · replace hm := cF c32 hm
                        refine RQ.skip (wantN (dj := 114) rfl (vb rfl c32) rfl) ?_
                        refine RQ.y rfl (Y.pick (b := false) (v := .bool false) (vb rfl c32) rfl) ?_
                        refine RQ.y rfl (Y.assign (v := .bool false) rfl) ?_
                        refine RQ.nil ?_
                        refine then_n ?_
                        refine wp_ret ?_
                        obtain rfl := Option.some.inj hm
                        exact (ret1 rfl rfl rfl ⟨rfl, T⟩)
                      · replace hm := cT c32 hm
                        refine RQ.y (wantT (dj := 114) rfl (vb rfl c32)) (Y.move (v := .bool ((d0.data.length : Int) == 0)) rfl) ?_
                        refine RQ.y rfl (Y.pick (b := true) (v := .bool ((d0.data.length : Int) == 0)) (vb rfl c32) rfl) ?_
                        refine RQ.y rfl (Y.assign (v := .bool ((d0.data.length : Int) == 0)) rfl) ?_
                        refine RQ.nil ?_
                        refine then_n ?_
                        refine wp_ret ?_
                        obtain rfl := Option.some.inj hm
                        exact (ret1 rfl rfl rfl ⟨rfl, T⟩)
                  · replace hm := cT c25 hm
                    refine cond_t rfl (vb rfl c25) ?_
                    refine wp_rs rfl ?_
                    refine RQ.y rfl (Y.fieldAddr (off := 3) rfl (by kernel_rfl)) ?_
                    refine RQ.y rfl (Y.load (v := .slice A1 d0.data.length c1) rfl (by kernel_rfl) (eqC (blkCell B4 (i := 3) rfl))) ?_
                    refine RQ.y rfl (Y.len (by kernel_rfl) rfl) ?_
                    refine RQ.y rfl (Y.binI (v := .bool ((d0.data.length : Int) == 2)) rfl rfl rfl) ?_
                    refine RQ.y rfl (Y.move (v := .bool ((d0.data.length : Int) == 2)) rfl) ?_
                    rcases bcases ((d0.data.length : Int) == 2) with c33 | c33
                    · replace hm := cF c33 hm
                      refine RQ.skip (wantN (dj := 105) rfl (vb rfl c33) rfl) ?_
                      refine RQ.y rfl (Y.pick (b := false) (v := .bool false) (vb rfl c33) rfl) ?_
                      refine RQ.y rfl (Y.assign (v := .bool false) rfl) ?_
                      refine RQ.nil ?_
                      refine blk_n (then_n ?_)
                      refine wp_seq ?_
                      refine wp_rs rfl ?_
                      refine RQ.y rfl (Y.move (v := .bool (d0.value == 0)) rfl) ?_
                      refine RQ.y rfl (Y.move (v := .bool (d0.value == 0)) rfl) ?_
                      rcases bcases (d0.value == 0) with c34 | c34
                      · replace hm := cF c34 hm
                        refine RQ.skip (wantN (dj := 114) rfl (vb rfl c34) rfl) ?_
                        refine RQ.y rfl (Y.pick (b := false) (v := .bool false) (vb rfl c34) rfl) ?_
                        refine RQ.y rfl (Y.assign (v := .bool false) rfl) ?_
                        refine RQ.nil ?_
                        refine then_n ?_
                        refine wp_ret ?_
                        obtain rfl := Option.some.inj hm
                        exact (ret1 rfl rfl rfl ⟨rfl, T⟩)
                      · replace hm := cT c34 hm
                        refine RQ.y (wantT (dj := 114) rfl (vb rfl c34)) (Y.move (v := .bool false) rfl) ?_
                        refine RQ.y rfl (Y.pick (b := true) (v := .bool false) (vb rfl c34) rfl) ?_
                        refine RQ.y rfl (Y.assign (v := .bool false) rfl) ?_
                        refine RQ.nil ?_
                        refine then_n ?_
                        refine wp_ret ?_
                        obtain rfl := Option.some.inj hm
                        exact (ret1 rfl rfl rfl ⟨rfl, T⟩)
                    · replace hm := cT c33 hm
                      refine RQ.y (wantT (dj := 105) rfl (vb rfl c33)) (Y.move (v := .bool (!y16)) rfl) ?_
                      refine RQ.y rfl (Y.pick (b := true) (v := .bool (!y16)) (vb rfl c33) rfl) ?_
                      refine RQ.y rfl (Y.assign (v := .bool (!y16)) rfl) ?_
                      refine RQ.nil ?_
                      refine blk_n (then_n ?_)
                      refine wp_seq ?_
                      refine wp_rs rfl ?_
                      refine RQ.y rfl (Y.move (v := .bool (d0.value == 0)) rfl) ?_
                      refine RQ.y rfl (Y.move (v := .bool (d0.value == 0)) rfl) ?_
                      rcases bcases (d0.value == 0) with c35 | c35
                      · replace hm := cF c35 hm
                        refine RQ.skip (wantN (dj := 114) rfl (vb rfl c35) rfl) ?_
                        refine RQ.y rfl (Y.pick (b := false) (v := .bool false) (vb rfl c35) rfl) ?_
                        refine RQ.y rfl (Y.assign (v := .bool false) rfl) ?_
                        refine RQ.nil ?_
                        refine then_n ?_
                        refine wp_ret ?_
                        obtain rfl := Option.some.inj hm
                        exact (ret1 rfl rfl rfl ⟨rfl, T⟩)
                      · replace hm := cT c35 hm
                        refine RQ.y (wantT (dj := 114) rfl (vb rfl c35)) (Y.move (v := .bool (!y16)) rfl) ?_
                        refine RQ.y rfl (Y.pick (b := true) (v := .bool (!y16)) (vb rfl c35) rfl) ?_
                        refine RQ.y rfl (Y.assign (v := .bool (!y16)) rfl) ?_
                        refine RQ.nil ?_
                        refine then_n ?_
                        refine wp_ret ?_
                        obtain rfl := Option.some.inj hm
                        exact (ret1 rfl rfl rfl ⟨rfl, T⟩)
                · replace hm := cT c24 hm
                  refine cond_t rfl (vb rfl c24) ?_
                  refine wp_rs rfl ?_
                  refine RQ.y rfl (Y.fieldAddr (off := 3) rfl (by kernel_rfl)) ?_
                  refine RQ.y rfl (Y.load (v := .slice A1 d0.data.length c1) rfl (by kernel_rfl) (eqC (blkCell B4 (i := 3) rfl))) ?_
                  refine RQ.y rfl (Y.len (by kernel_rfl) rfl) ?_
                  refine RQ.y rfl (Y.binI (v := .bool (decide ((d0.data.length : Int) ≥ 1))) rfl rfl rfl) ?_
                  refine RQ.y rfl (Y.move (v := .bool (decide ((d0.data.length : Int) ≥ 1))) rfl) ?_
                  rcases bcases (decide ((d0.data.length : Int) ≥ 1)) with c36 | c36
                  · replace hm := cF c36 hm
                    have pc36 := of_decide_eq_false c36
                    refine RQ.skip (wantN (dj := 90) rfl (vb rfl c36) rfl) ?_
                    refine RQ.skip (wantN (dj := 90) rfl (vb rfl c36) rfl) ?_
                    refine RQ.skip (wantN (dj := 90) rfl (vb rfl c36) rfl) ?_
                    refine RQ.skip (wantN (dj := 90) rfl (vb rfl c36) rfl) ?_
                    refine RQ.y rfl (Y.pick (b := false) (v := .bool false) (vb rfl c36) rfl) ?_
                    refine RQ.y rfl (Y.move (v := .bool false) rfl) ?_
                    refine RQ.skip (wantN (dj := 96) rfl rfl rfl) ?_
                    refine RQ.y rfl (Y.pick (b := false) (v := .bool false) rfl rfl) ?_
                    refine RQ.y rfl (Y.assign (v := .bool false) rfl) ?_
                    refine RQ.nil ?_
                    refine blk_n (then_n ?_)
                    refine wp_seq ?_
                    refine wp_rs rfl ?_
                    refine RQ.y rfl (Y.move (v := .bool (d0.value == 0)) rfl) ?_
                    refine RQ.y rfl (Y.move (v := .bool (d0.value == 0)) rfl) ?_
                    rcases bcases (d0.value == 0) with c37 | c37
                    · replace hm := cF c37 hm
                      refine RQ.skip (wantN (dj := 114) rfl (vb rfl c37) rfl) ?_
                      refine RQ.y rfl (Y.pick (b := false) (v := .bool false) (vb rfl c37) rfl) ?_
                      refine RQ.y rfl (Y.assign (v := .bool false) rfl) ?_
                      refine RQ.nil ?_
                      refine then_n ?_
                      refine wp_ret ?_
                      obtain rfl := Option.some.inj hm
                      exact (ret1 rfl rfl rfl ⟨rfl, T⟩)
                    · replace hm := cT c37 hm
                      refine RQ.y (wantT (dj := 114) rfl (vb rfl c37)) (Y.move (v := .bool false) rfl) ?_
                      refine RQ.y rfl (Y.pick (b := true) (v := .bool false) (vb rfl c37) rfl) ?_
                      refine RQ.y rfl (Y.assign (v := .bool false) rfl) ?_
                      refine RQ.nil ?_
                      refine then_n ?_
                      refine wp_ret ?_
                      obtain rfl := Option.some.inj hm
                      exact (ret1 rfl rfl rfl ⟨rfl, T⟩)
                  · replace hm := cT c36 hm
                    have pc36 := of_decide_eq_true c36
                    refine RQ.y (wantT (dj := 90) rfl (vb rfl c36)) (Y.fieldAddr (off := 3) rfl (by kernel_rfl)) ?_
                    refine RQ.y (wantT (dj := 90) rfl (vb rfl c36)) (Y.load (v := .slice A1 d0.data.length c1) rfl (by kernel_rfl) (eqC (blkCell B4 (i := 3) rfl))) ?_
                    refine RQ.y (wantT (dj := 90) rfl (vb rfl c36)) (Y.len (by kernel_rfl) rfl) ?_
                    refine RQ.y (wantT (dj := 90) rfl (vb rfl c36)) (Y.binI (v := .bool (decide ((d0.data.length : Int) ≤ 4))) rfl rfl rfl) ?_
                    refine RQ.y rfl (Y.pick (b := true) (v := .bool (decide ((d0.data.length : Int) ≤ 4))) (vb rfl c36) rfl) ?_
                    refine RQ.y rfl (Y.move (v := .bool (decide ((d0.data.length : Int) ≤ 4))) rfl) ?_
                    rcases bcases (decide ((d0.data.length : Int) ≤ 4)) with c38 | c38
                    · replace hm := cF c38 hm
                      have pc38 := of_decide_eq_false c38
                      refine RQ.skip (wantN (dj := 96) rfl (vb rfl c38) rfl) ?_
                      refine RQ.y rfl (Y.pick (b := false) (v := .bool false) (vb rfl c38) rfl) ?_
                      refine RQ.y rfl (Y.assign (v := .bool false) rfl) ?_
                      refine RQ.nil ?_
                      refine blk_n (then_n ?_)
                      refine wp_seq ?_
                      refine wp_rs rfl ?_
                      refine RQ.y rfl (Y.move (v := .bool (d0.value == 0)) rfl) ?_
                      refine RQ.y rfl (Y.move (v := .bool (d0.value == 0)) rfl) ?_
                      rcases bcases (d0.value == 0) with c39 | c39
                      · replace hm := cF c39 hm
                        refine RQ.skip (wantN (dj := 114) rfl (vb rfl c39) rfl) ?_
                        refine RQ.y rfl (Y.pick (b := false) (v := .bool false) (vb rfl c39) rfl) ?_
                        refine RQ.y rfl (Y.assign (v := .bool false) rfl) ?_
                        refine RQ.nil ?_
                        refine then_n ?_
                        refine wp_ret ?_
                        obtain rfl := Option.some.inj hm
                        exact (ret1 rfl rfl rfl ⟨rfl, T⟩)
                      · replace hm := cT c39 hm
                        refine RQ.y (wantT (dj := 114) rfl (vb rfl c39)) (Y.move (v := .bool false) rfl) ?_
                        refine RQ.y rfl (Y.pick (b := true) (v := .bool false) (vb rfl c39) rfl) ?_
                        refine RQ.y rfl (Y.assign (v := .bool false) rfl) ?_
                        refine RQ.nil ?_
                        refine then_n ?_
                        refine wp_ret ?_
                        obtain rfl := Option.some.inj hm
                        exact (ret1 rfl rfl rfl ⟨rfl, T⟩)
                    · replace hm := cT c38 hm
                      have pc38 := of_decide_eq_true c38
                      refine RQ.y (wantT (dj := 96) rfl (vb rfl c38)) (Y.move (v := .bool (!y16)) rfl) ?_
                      refine RQ.y rfl (Y.pick (b := true) (v := .bool (!y16)) (vb rfl c38) rfl) ?_
                      refine RQ.y rfl (Y.assign (v := .bool (!y16)) rfl) ?_
                      refine RQ.nil ?_
                      refine blk_n (then_n ?_)
                      refine wp_seq ?_
                      refine wp_rs rfl ?_
                      refine RQ.y rfl (Y.move (v := .bool (d0.value == 0)) rfl) ?_
                      refine RQ.y rfl (Y.move (v := .bool (d0.value == 0)) rfl) ?_
                      rcases bcases (d0.value == 0) with c40 | c40
                      · replace hm := cF c40 hm
                        refine RQ.skip (wantN (dj := 114) rfl (vb rfl c40) rfl) ?_
                        refine RQ.y rfl (Y.pick (b := false) (v := .bool false) (vb rfl c40) rfl) ?_
                        refine RQ.y rfl (Y.assign (v := .bool false) rfl) ?_
                        refine RQ.nil ?_
                        refine then_n ?_
                        refine wp_ret ?_
                        obtain rfl := Option.some.inj hm
                        exact (ret1 rfl rfl rfl ⟨rfl, T⟩)
                      · replace hm := cT c40 hm
                        refine RQ.y (wantT (dj := 114) rfl (vb rfl c40)) (Y.move (v := .bool (!y16)) rfl) ?_
                        refine RQ.y rfl (Y.pick (b := true) (v := .bool (!y16)) (vb rfl c40) rfl) ?_
                        refine RQ.y rfl (Y.assign (v := .bool (!y16)) rfl) ?_
                        refine RQ.nil ?_
                        refine then_n ?_
                        refine wp_ret ?_
                        obtain rfl := Option.some.inj hm
                        exact (ret1 rfl rfl rfl ⟨rfl, T⟩)
              · replace hm := cT c23 hm
                refine cond_t rfl (vb rfl c23) ?_
                refine wp_rs rfl ?_
                refine RQ.y rfl (Y.fieldAddr (off := 2) rfl (by kernel_rfl)) ?_
                refine RQ.y rfl (Y.load (v := .int .i64 d0.value) rfl (by kernel_rfl) (eqC (blkCell B4 (i := 2) rfl))) ?_
                refine RQ.y rfl (Y.binI (v := .bool (decide (d0.value ≥ 0))) rfl rfl rfl) ?_
                refine RQ.y rfl (Y.move (v := .bool (decide (d0.value ≥ 0))) rfl) ?_
                rcases bcases (decide (d0.value ≥ 0)) with c41 | c41
                · replace hm := cF c41 hm
                  have pc41 := of_decide_eq_false c41
                  refine RQ.skip (wantN (dj := 79) rfl (vb rfl c41) rfl) ?_
                  refine RQ.skip (wantN (dj := 79) rfl (vb rfl c41) rfl) ?_
                  refine RQ.skip (wantN (dj := 79) rfl (vb rfl c41) rfl) ?_
                  refine RQ.y rfl (Y.pick (b := false) (v := .bool false) (vb rfl c41) rfl) ?_
                  refine RQ.y rfl (Y.assign (v := .bool false) rfl) ?_
                  refine RQ.nil ?_
                  refine blk_n (then_n ?_)
                  refine wp_seq ?_
                  refine wp_rs rfl ?_
                  refine RQ.y rfl (Y.move (v := .bool false) rfl) ?_
                  refine RQ.y rfl (Y.move (v := .bool false) rfl) ?_
                  refine RQ.skip (wantN (dj := 114) rfl rfl rfl) ?_
                  refine RQ.y rfl (Y.pick (b := false) (v := .bool false) rfl rfl) ?_
                  refine RQ.y rfl (Y.assign (v := .bool false) rfl) ?_
                  refine RQ.nil ?_
                  refine then_n ?_
                  refine wp_ret ?_
                  obtain rfl := Option.some.inj hm
                  exact (ret1 rfl rfl rfl ⟨rfl, T⟩)
                · replace hm := cT c41 hm
                  have pc41 := of_decide_eq_true c41
                  refine RQ.y (wantT (dj := 79) rfl (vb rfl c41)) (Y.fieldAddr (off := 2) rfl (by kernel_rfl)) ?_
                  refine RQ.y (wantT (dj := 79) rfl (vb rfl c41)) (Y.load (v := .int .i64 d0.value) rfl (by kernel_rfl) (eqC (blkCell B4 (i := 2) rfl))) ?_
                  refine RQ.y (wantT (dj := 79) rfl (vb rfl c41)) (Y.binI (v := .bool (decide (d0.value < 4))) rfl rfl rfl) ?_
                  refine RQ.y rfl (Y.pick (b := true) (v := .bool (decide (d0.value < 4))) (vb rfl c41) rfl) ?_
                  refine RQ.y rfl (Y.assign (v := .bool (decide (d0.value < 4))) rfl) ?_
                  refine RQ.nil ?_
                  refine blk_n (then_n ?_)
                  refine wp_seq ?_
                  refine wp_rs rfl ?_
                  refine RQ.y rfl (Y.move (v := .bool (decide (d0.value < 4))) rfl) ?_
                  refine RQ.y rfl (Y.move (v := .bool (decide (d0.value < 4))) rfl) ?_
                  rcases bcases (decide (d0.value < 4)) with c42 | c42
                  · replace hm := cF c42 hm
                    have pc42 := of_decide_eq_false c42
                    refine RQ.skip (wantN (dj := 114) rfl (vb rfl c42) rfl) ?_
                    refine RQ.y rfl (Y.pick (b := false) (v := .bool false) (vb rfl c42) rfl) ?_
                    refine RQ.y rfl (Y.assign (v := .bool false) rfl) ?_
                    refine RQ.nil ?_
                    refine then_n ?_
                    refine wp_ret ?_
                    obtain rfl := Option.some.inj hm
                    exact (ret1 rfl rfl rfl ⟨rfl, T⟩)
                  · replace hm := cT c42 hm
                    have pc42 := of_decide_eq_true c42
                    refine RQ.y (wantT (dj := 114) rfl (vb rfl c42)) (Y.move (v := .bool ((d0.data.length : Int) == 0)) rfl) ?_
                    refine RQ.y rfl (Y.pick (b := true) (v := .bool ((d0.data.length : Int) == 0)) (vb rfl c42) rfl) ?_
                    refine RQ.y rfl (Y.assign (v := .bool ((d0.data.length : Int) == 0)) rfl) ?_
                    refine RQ.nil ?_
                    refine then_n ?_
                    refine wp_ret ?_
                    obtain rfl := Option.some.inj hm
                    exact (ret1 rfl rfl rfl ⟨rfl, T⟩)
            · replace hm := cT c22 hm
              refine cond_t rfl (vb rfl c22) ?_
              refine wp_seq ?_
              refine wp_rb rfl ?_
              refine RQ.y rfl (Y.fieldAddr (off := 2) rfl (by kernel_rfl)) ?_
              refine RQ.y rfl (Y.load (v := .int .i64 d0.value) rfl (by kernel_rfl) (beC (blkCell B4 (i := 2) rfl))) ?_
              obtain ⟨y43, e44, hm⟩ := bnd hm
              refine RQ.call rfl (am1 rfl) (by kernel_rfl) (v := .bool y43) (bel (K := fun _ => True) fun w' hb' => (c_m_impl_isOperator d0.value _ e44  w' )) ?_
              refine RQ.y rfl (Y.move (v := .bool y43) rfl) ?_
              rcases bcases y43 with c45 | c45
              · replace hm := cF c45 hm
                refine RQ.skip (wantN (dj := 61) rfl (vb rfl c45) rfl) ?_
                refine RQ.skip (wantN (dj := 61) rfl (vb rfl c45) rfl) ?_
                refine RQ.skip (wantN (dj := 61) rfl (vb rfl c45) rfl) ?_
                refine RQ.skip (wantN (dj := 61) rfl (vb rfl c45) rfl) ?_
                refine RQ.y rfl (Y.pick (b := false) (v := .bool false) (vb rfl c45) rfl) ?_
                refine RQ.y rfl (Y.move (v := .bool false) rfl) ?_
                refine RQ.skip (wantN (dj := 67) rfl rfl rfl) ?_
                refine RQ.skip (wantN (dj := 67) rfl rfl rfl) ?_
                refine RQ.skip (wantN (dj := 67) rfl rfl rfl) ?_
                refine RQ.skip (wantN (dj := 67) rfl rfl rfl) ?_
                refine RQ.skip (wantN (dj := 67) rfl rfl rfl) ?_
                refine RQ.y rfl (Y.pick (b := false) (v := .bool false) rfl rfl) ?_
                refine RQ.y rfl (Y.assign (v := .bool false) rfl) ?_
                refine RQ.nil ?_
                intro w46 hb47
                have szw46 := hb47.size
                have T := Tt T hb47
                refine then_n ?_
                refine wp_ret ?_
                obtain rfl := Option.some.inj hm
                exact (blk_r (then_r (ret1 rfl rfl rfl ⟨rfl, T⟩)))
              · replace hm := cT c45 hm
                refine RQ.y (wantT (dj := 61) rfl (vb rfl c45)) (Y.fieldAddr (off := 3) rfl (by kernel_rfl)) ?_
                refine RQ.y (wantT (dj := 61) rfl (vb rfl c45)) (Y.load (v := .slice A1 d0.data.length c1) rfl (by kernel_rfl) (beC (blkCell B4 (i := 3) rfl))) ?_
                refine RQ.y (wantT (dj := 61) rfl (vb rfl c45)) (Y.len (by kernel_rfl) rfl) ?_
                refine RQ.y (wantT (dj := 61) rfl (vb rfl c45)) (Y.binI (v := .bool ((d0.data.length : Int) == 1)) rfl rfl rfl) ?_
                refine RQ.y rfl (Y.pick (b := true) (v := .bool ((d0.data.length : Int) == 1)) (vb rfl c45) rfl) ?_
                refine RQ.y rfl (Y.move (v := .bool ((d0.data.length : Int) == 1)) rfl) ?_
                rcases bcases ((d0.data.length : Int) == 1) with c48 | c48
                · replace hm := cF c48 hm
                  refine RQ.skip (wantN (dj := 67) rfl (vb rfl c48) rfl) ?_
                  refine RQ.skip (wantN (dj := 67) rfl (vb rfl c48) rfl) ?_
                  refine RQ.skip (wantN (dj := 67) rfl (vb rfl c48) rfl) ?_
                  refine RQ.skip (wantN (dj := 67) rfl (vb rfl c48) rfl) ?_
                  refine RQ.skip (wantN (dj := 67) rfl (vb rfl c48) rfl) ?_
                  refine RQ.y rfl (Y.pick (b := false) (v := .bool false) (vb rfl c48) rfl) ?_
                  refine RQ.y rfl (Y.assign (v := .bool false) rfl) ?_
                  refine RQ.nil ?_
                  intro w49 hb50
                  have szw49 := hb50.size
                  have T := Tt T hb50
                  refine then_n ?_
                  refine wp_ret ?_
                  obtain rfl := Option.some.inj hm
                  exact (blk_r (then_r (ret1 rfl rfl rfl ⟨rfl, T⟩)))
                · replace hm := cT c48 hm
                  refine RQ.y (wantT (dj := 67) rfl (vb rfl c48)) (Y.fieldAddr (off := 3) rfl (by kernel_rfl)) ?_
                  refine RQ.y (wantT (dj := 67) rfl (vb rfl c48)) (Y.load (v := .slice A1 d0.data.length c1) rfl (by kernel_rfl) (beC (blkCell B4 (i := 3) rfl))) ?_
                  obtain ⟨x51, hx54, hm⟩ := bnd hm
                  obtain ⟨k52, hk55, hl56, hx54⟩ := getI_some hx54
                  obtain ⟨b58, o59, rfl, hbb58⟩ := h1.addr (by omega)
                  obtain ⟨cs53, hRcs53, hc57⟩ := h1.el hx54
                  have hScs53 := hRcs53
                  obtain rfl := hRcs53
                  refine RQ.y (wantT (dj := 67) rfl (vb rfl c48)) (Y.indexAddr (m := k52) (sz := 1) rfl rfl hk55 hl56 (by kernel_rfl)) ?_
                  refine RQ.y (wantT (dj := 67) rfl (vb rfl c48)) (Y.load (v := .int .i64 x51) rfl (by kernel_rfl) (beC (cellT T (hc57 0 _ rfl)))) ?_
                  obtain ⟨y60, e61, hm⟩ := bnd hm
                  refine RQ.call (wantT (dj := 67) rfl (vb rfl c48)) (am1 rfl) (by kernel_rfl) (v := .bool y60) (bel (K := fun _ => True) fun w' hb' => (c_m_impl_isInt x51 _ e61  w' )) ?_
                  refine RQ.y rfl (Y.pick (b := true) (v := .bool y60) (vb rfl c48) rfl) ?_
                  refine RQ.y rfl (Y.assign (v := .bool y60) rfl) ?_
                  refine RQ.nil ?_
                  intro w62 hb63
                  have szw62 := hb63.size
                  have T := Tt T hb63
                  refine then_n ?_
                  refine wp_ret ?_
                  obtain rfl := Option.some.inj hm
                  exact (blk_r (then_r (ret1 rfl rfl rfl ⟨rfl, T⟩)))
          · replace hm := cT c21 hm
            refine cond_t rfl (vb rfl c21) ?_
            refine wp_rb rfl ?_
            refine RQ.y rfl (Y.fieldAddr (off := 2) rfl (by kernel_rfl)) ?_
            refine RQ.y rfl (Y.load (v := .int .i64 d0.value) rfl (by kernel_rfl) (beC (blkCell B4 (i := 2) rfl))) ?_
            obtain ⟨y64, e65, hm⟩ := bnd hm
            refine RQ.call rfl (am1 rfl) (by kernel_rfl) (v := .bool y64) (bel (K := fun _ => True) fun w' hb' => (c_m_impl_isOperator d0.value _ e65  w' )) ?_
            refine RQ.y rfl (Y.assign (v := .bool y64) rfl) ?_
            refine RQ.nil ?_
            intro w66 hb67
            have szw66 := hb67.size
            have T := Tt T hb67
            refine blk_n (then_n ?_)
            refine wp_seq ?_
            refine wp_rs rfl ?_
            refine RQ.y rfl (Y.move (v := .bool y64) rfl) ?_
            refine RQ.y rfl (Y.move (v := .bool y64) rfl) ?_
            rcases bcases y64 with c68 | c68
            · replace hm := cF c68 hm
              refine RQ.skip (wantN (dj := 114) rfl (vb rfl c68) rfl) ?_
              refine RQ.y rfl (Y.pick (b := false) (v := .bool false) (vb rfl c68) rfl) ?_
              refine RQ.y rfl (Y.assign (v := .bool false) rfl) ?_
              refine RQ.nil ?_
              refine then_n ?_
              refine wp_ret ?_
              obtain rfl := Option.some.inj hm
              exact (ret1 rfl rfl rfl ⟨rfl, T⟩)
            · replace hm := cT c68 hm
              refine RQ.y (wantT (dj := 114) rfl (vb rfl c68)) (Y.move (v := .bool ((d0.data.length : Int) == 0)) rfl) ?_
              refine RQ.y rfl (Y.pick (b := true) (v := .bool ((d0.data.length : Int) == 0)) (vb rfl c68) rfl) ?_
              refine RQ.y rfl (Y.assign (v := .bool ((d0.data.length : Int) == 0)) rfl) ?_
              refine RQ.nil ?_
              refine then_n ?_
              refine wp_ret ?_
              obtain rfl := Option.some.inj hm
              exact (ret1 rfl rfl rfl ⟨rfl, T⟩)
        · replace hm := cT c20 hm
          refine cond_t rfl (vb rfl c20) ?_
          refine wp_rb rfl ?_
          refine RQ.y rfl (Y.fieldAddr (off := 2) rfl (by kernel_rfl)) ?_
          refine RQ.y rfl (Y.load (v := .int .i64 d0.value) rfl (by kernel_rfl) (beC (blkCell B4 (i := 2) rfl))) ?_
          obtain ⟨y69, e70, hm⟩ := bnd hm
          refine RQ.call rfl (am1 rfl) (by kernel_rfl) (v := .bool y69) (bel (K := fun _ => True) fun w' hb' => (c_m_impl_isInt d0.value _ e70  w' )) ?_
          refine RQ.y rfl (Y.assign (v := .bool y69) rfl) ?_
          refine RQ.nil ?_
          intro w71 hb72
          have szw71 := hb72.size
          have T := Tt T hb72
          refine blk_n (then_n ?_)
          refine wp_seq ?_
          refine wp_rs rfl ?_
          refine RQ.y rfl (Y.move (v := .bool y69) rfl) ?_
          refine RQ.y rfl (Y.move (v := .bool y69) rfl) ?_
          rcases bcases y69 with c73 | c73
          · replace hm := cF c73 hm
            refine RQ.skip (wantN (dj := 114) rfl (vb rfl c73) rfl) ?_
            refine RQ.y rfl (Y.pick (b := false) (v := .bool false) (vb rfl c73) rfl) ?_
            refine RQ.y rfl (Y.assign (v := .bool false) rfl) ?_
            refine RQ.nil ?_
            refine then_n ?_
            refine wp_ret ?_
            obtain rfl := Option.some.inj hm
            exact (ret1 rfl rfl rfl ⟨rfl, T⟩)
          · replace hm := cT c73 hm
            refine RQ.y (wantT (dj := 114) rfl (vb rfl c73)) (Y.move (v := .bool ((d0.data.length : Int) == 0)) rfl) ?_
            refine RQ.y rfl (Y.pick (b := true) (v := .bool ((d0.data.length : Int) == 0)) (vb rfl c73) rfl) ?_
            refine RQ.y rfl (Y.assign (v := .bool ((d0.data.length : Int) == 0)) rfl) ?_
            refine RQ.nil ?_
            refine then_n ?_
            refine wp_ret ?_
            obtain rfl := Option.some.inj hm
            exact (ret1 rfl rfl rfl ⟨rfl, T⟩)
    · replace hm := cT c10 hm
      refine RQ.skip (wantN (dj := 25) rfl (vb rfl c10) rfl) ?_
      refine RQ.skip (wantN (dj := 25) rfl (vb rfl c10) rfl) ?_
      refine RQ.skip (wantN (dj := 25) rfl (vb rfl c10) rfl) ?_
      refine RQ.skip (wantN (dj := 25) rfl (vb rfl c10) rfl) ?_
      refine RQ.skip (wantN (dj := 25) rfl (vb rfl c10) rfl) ?_
      refine RQ.skip (wantN (dj := 25) rfl (vb rfl c10) rfl) ?_
      refine RQ.y rfl (Y.pick (b := true) (v := .bool true) (vb rfl c10) rfl) ?_
      refine RQ.nil ?_
      intro w74 hb75
      have szw74 := hb75.size
      have B4 := blkT B4 hb75
      have T := Tt T hb75
      refine then_n ?_
      refine cond_t rfl rfl ?_
      refine wp_seq ?_
      refine wp_rs rfl ?_
      refine RQ.y rfl (Y.assign (v := .bool false) rfl) ?_
      refine RQ.nil ?_
      refine then_n ?_
      refine wp_ret ?_
      obtain rfl := Option.some.inj hm
      exact (then_r (ret1 rfl rfl rfl ⟨rfl, T⟩))
  · replace hm := cT c7 hm
    refine RQ.skip (wantN (dj := 10) rfl (vb rfl c7) rfl) ?_
    refine RQ.skip (wantN (dj := 10) rfl (vb rfl c7) rfl) ?_
    refine RQ.skip (wantN (dj := 10) rfl (vb rfl c7) rfl) ?_
    refine RQ.skip (wantN (dj := 10) rfl (vb rfl c7) rfl) ?_
    refine RQ.skip (wantN (dj := 10) rfl (vb rfl c7) rfl) ?_
    refine RQ.skip (wantN (dj := 10) rfl (vb rfl c7) rfl) ?_
    refine RQ.skip (wantN (dj := 10) rfl (vb rfl c7) rfl) ?_
    refine RQ.skip (wantN (dj := 10) rfl (vb rfl c7) rfl) ?_
    refine RQ.skip (wantN (dj := 10) rfl (vb rfl c7) rfl) ?_
    refine RQ.skip (wantN (dj := 10) rfl (vb rfl c7) rfl) ?_
    refine RQ.skip (wantN (dj := 10) rfl (vb rfl c7) rfl) ?_
    refine RQ.skip (wantN (dj := 10) rfl (vb rfl c7) rfl) ?_
    refine RQ.skip (wantN (dj := 10) rfl (vb rfl c7) rfl) ?_
    refine RQ.y rfl (Y.pick (b := true) (v := .bool true) (vb rfl c7) rfl) ?_
    refine RQ.y rfl (Y.move (v := .bool true) rfl) ?_
    refine RQ.skip (wantN (dj := 25) rfl rfl rfl) ?_
    refine RQ.skip (wantN (dj := 25) rfl rfl rfl) ?_
    refine RQ.skip (wantN (dj := 25) rfl rfl rfl) ?_
    refine RQ.skip (wantN (dj := 25) rfl rfl rfl) ?_
    refine RQ.skip (wantN (dj := 25) rfl rfl rfl) ?_
    refine RQ.skip (wantN (dj := 25) rfl rfl rfl) ?_
    refine RQ.y rfl (Y.pick (b := true) (v := .bool true) rfl rfl) ?_
    refine RQ.nil ?_
    intro w76 hb77
    have szw76 := hb77.size
    have B4 := blkT B4 hb77
    have T := Tt T hb77
    refine then_n ?_
    refine cond_t rfl rfl ?_
    refine wp_seq ?_
    refine wp_rs rfl ?_
    refine RQ.y rfl (Y.assign (v := .bool false) rfl) ?_
    refine RQ.nil ?_
    refine then_n ?_
    refine wp_ret ?_
    obtain rfl := Option.some.inj hm
    exact (then_r (ret1 rfl rfl rfl ⟨rfl, T⟩))
def m_impl_areAgents_A1 : Option Bool :=
  some true
def m_impl_areAgents_B1 (d0 : List DAgent) (rec1 : Int → Option Bool) (K1 : Option Bool) (i4 : Int) : Option Bool :=
  (bif (decide (i4 < (d0.length : Int))) then ((getI d0 i4).bind fun x7 => ((m_impl_wellFormed x7).bind fun y25 => (bif y25 then (bif ((x7.kind == 1) != (i4 == 0)) then some false else (rec1 (i4 + 1))) else some false))) else (K1))
def m_impl_areAgents_L1 (d0 : List DAgent) (K1 : Option Bool) : Nat → Int → Option Bool
  | 0, _ => none
  | g + 1, i4 => m_impl_areAgents_B1 d0 (m_impl_areAgents_L1 d0 K1 g) K1 i4
def m_impl_areAgents (d0 : List DAgent) : Option Bool :=
  (bif (decide ((d0.length : Int) < 1)) then some false else (bif (decide ((d0.length : Int) > 600)) then some false else (m_impl_areAgents_L1 d0 m_impl_areAgents_A1 (d0.length + 1) 0)))
set_option maxHeartbeats 2000000 in
theorem c_m_impl_areAgents (d0 : List DAgent) (r : Bool) (hm : m_impl_areAgents d0 = some r) (v0 : Value) (w : World) (hv0 : Sl agentRd 5 w v0 d0) :
    Calls Try.prog 115 #[v0] w fun e w' => e = .returned (.bool r) ∧ Below w.heap.size w w' := by
  obtain ⟨Aa0, na0, ca0, rfl, ha0, ra0⟩ := hv0
  have ea0 := ha0.len; subst ea0
  have qa0 := len_le ra0
  have T := Below.refl w.heap.size w
  unfold m_impl_areAgents at hm
  refine enter 32 Try.func115 rfl rfl rfl ?_
  intro f hf
  have s0 : f 0 = .slice Aa0 d0.length ca0 := hf 0 _ rfl
  refine wp_seq ?_
  refine wp_rs rfl ?_
  refine RQ.y rfl (Y.assign (v := .bool false) rfl) ?_
  refine RQ.nil ?_
  refine then_n ?_
  refine wp_seq ?_
  refine wp_seq ?_
  refine wp_rs rfl ?_
  refine RQ.y rfl (Y.move (v := .slice Aa0 d0.length ca0) s0) ?_
  refine RQ.y rfl (Y.len (by kernel_rfl) rfl) ?_
  refine RQ.y rfl (Y.binI (v := .bool (decide ((d0.length : Int) < 1))) rfl rfl rfl) ?_
  refine RQ.y rfl (Y.move (v := .bool (decide ((d0.length : Int) < 1))) rfl) ?_
  rcases bcases (decide ((d0.length : Int) < 1)) with c1 | c1
  · replace hm := cF c1 hm
    have pc1 := of_decide_eq_false c1
    refine RQ.y (wantT (dj := 8) rfl (vb rfl c1)) (Y.move (v := .slice Aa0 d0.length ca0) s0) ?_
    refine RQ.y (wantT (dj := 8) rfl (vb rfl c1)) (Y.len (by kernel_rfl) rfl) ?_
    refine RQ.y (wantT (dj := 8) rfl (vb rfl c1)) (Y.binI (v := .bool (decide ((d0.length : Int) > 600))) rfl rfl rfl) ?_
    refine RQ.y rfl (Y.pick (b := false) (v := .bool (decide ((d0.length : Int) > 600))) (vb rfl c1) rfl) ?_
    refine RQ.nil ?_
    refine then_n ?_
    rcases bcases (decide ((d0.length : Int) > 600)) with c2 | c2
    · replace hm := cF c2 hm
      have pc2 := of_decide_eq_false c2
      refine cond_f rfl (vb rfl c2) ?_
      refine wp_skip ?_
      refine then_n ?_
      refine wp_seq ?_
      refine wp_seq ?_
      refine wp_rs rfl ?_
      refine RQ.y rfl (Y.move (v := .slice Aa0 d0.length ca0) s0) ?_
      refine RQ.y rfl (Y.len (by kernel_rfl) rfl) ?_
      refine RQ.y rfl (Y.move (v := .int .i64 0) rfl) ?_
      refine RQ.nil ?_
      refine then_n ?_
      refine wp_block ?_
      obtain ⟨K1, hK1, hm⟩ : ∃ K, K = m_impl_areAgents_A1 ∧ m_impl_areAgents_L1 d0 K (d0.length + 1) 0 = some r := ⟨_, rfl, hm⟩
      refine wp_loopX (fun g f w' => ∃ (i4 : Int), f 13 = .slice Aa0 d0.length ca0 ∧ f 14 = .int .i64 (d0.length : Int) ∧ f 15 = .int .i64 i4 ∧ 0 ≤ i4 ∧ Below w.heap.size w w' ∧ m_impl_areAgents_L1 d0 K1 g i4 = some r) 0 (fun f w' => Below w.heap.size w w' ∧ m_impl_areAgents_A1  = some r) (d0.length + 1) ⟨0, rfl, rfl, rfl, (by omega), T, hm⟩ ?_ ?_
      · rintro f w3 ⟨T, hm⟩
        unfold m_impl_areAgents_A1 at hm
        refine blk_hit (then_n ?_)
        refine wp_seq ?_
        refine wp_rs rfl ?_
        refine RQ.y rfl (Y.assign (v := .bool true) rfl) ?_
        refine RQ.nil ?_
        refine then_n ?_
        refine wp_ret ?_
        obtain rfl := Option.some.inj hm
        exact (ret1 rfl rfl rfl ⟨rfl, T⟩)
      · rintro g f w5 ⟨i4, s13_1, s14_1, s15_1, nn15_1, T, hm⟩
        rcases g with _ | g
        · simp only [m_impl_areAgents_L1] at hm; cases hm
        obtain ⟨rec1, hrec1, hm⟩ : ∃ z, z = m_impl_areAgents_L1 d0 K1 g ∧ m_impl_areAgents_B1 d0 z K1 i4 = some r := ⟨_, rfl, hm⟩
        unfold m_impl_areAgents_B1 at hm
        refine wp_seq ?_
        refine wp_rs rfl ?_
        refine RQ.y rfl (Y.binI (v := .bool (decide (i4 < (d0.length : Int)))) s15_1 s14_1 rfl) ?_
        refine RQ.nil ?_
        refine then_n ?_
        refine wp_seq ?_
        rcases bcases (decide (i4 < (d0.length : Int))) with c6 | c6
        · replace hm := cF c6 hm
          have pc6 := of_decide_eq_false c6
          refine cond_f rfl (vb rfl c6) ?_
          refine wp_exit ?_
          exact (then_x (then_x (hit_x ⟨_, rfl, ⟨T, (by rw [hK1] at hm; exact hm)⟩⟩)))
        · replace hm := cT c6 hm
          have pc6 := of_decide_eq_true c6
          refine cond_t rfl (vb rfl c6) ?_
          refine wp_skip ?_
          refine then_n ?_
          refine wp_seq ?_
          refine wp_block ?_
          refine wp_seq ?_
          refine wp_rl rfl ?_
          refine RL.y rfl (Y.move (v := .int .i64 i4) s15_1) ?_
          obtain ⟨x7, hx10, hm⟩ := bnd hm
          obtain ⟨k8, hk11, hl12, hx10⟩ := getI_some hx10
          obtain ⟨b14, o15, rfl, hbb14⟩ := ha0.addr (by omega)
          obtain ⟨cs9, hRcs9, hc13⟩ := ha0.el hx10
          have hScs9 := hRcs9
          obtain ⟨A16, n16, c16, A17, n17, c17, rfl, ⟨h16, r16⟩, ⟨h17, r17⟩⟩ := hRcs9
          have e16 := h16.len; subst e16
          have q16 := len_le r16
          have e17 := h17.len; subst e17
          have q17 := len_le r17
          refine RL.y rfl (Y.indexAddr (m := k8) (sz := 5) s13_1 s15_1 hk11 hl12 (by kernel_rfl)) ?_
          refine RL.y rfl (Y.loadN (cs := [.int .i64 x7.kind, .int .i64 x7.level, .int .i64 x7.value, .slice A16 x7.data.length c16, .slice A17 x7.ports.length c17]) rfl (by kernel_rfl) (cells5 (eqC (cellT T (hc13 0 _ rfl))) (eqC (cellT T (hc13 1 _ rfl))) (eqC (cellT T (hc13 2 _ rfl))) (eqC (cellT T (hc13 3 _ rfl))) (eqC (cellT T (hc13 4 _ rfl))))) ?_
          refine RL.alloc (z := .agg #[.int .i64 0, .int .i64 0, .int .i64 0, .slice none 0 0, .slice none 0 0]) rfl (by kernel_rfl) (fun w18 B19 hb20 szw18 => ?_)
          replace B19 : Blk w18 w5.heap.size 89 #[.int .i64 0, .int .i64 0, .int .i64 0, .slice none 0 0, .slice none 0 0] := B19
          have GB19 : w.heap.size ≤ w5.heap.size := T.size
          have T := Tt T hb20
          refine RL.y rfl (Y.assign (v := .int .i64 i4) rfl) ?_
          refine RL.store (v := .agg #[.int .i64 x7.kind, .int .i64 x7.level, .int .i64 x7.value, .slice A16 x7.data.length c16, .slice A17 x7.ports.length c17]) (cs' := #[.int .i64 x7.kind, .int .i64 x7.level, .int .i64 x7.value, .slice A16 x7.data.length c16, .slice A17 x7.ports.length c17]) rfl rfl rfl B19 (by kernel_rfl) (by rfl) (by rfl) (by rfl) (fun w22 B23 ho24 => ?_)
          have szw22 := ho24.size
          have T := T.trans (ho24.below (by simp; omega))
          refine RL.nil ?_
          refine then_n ?_
          refine wp_seq ?_
          refine wp_rb rfl ?_
          refine RQ.y rfl (Y.loadN (cs := [.int .i64 x7.kind, .int .i64 x7.level, .int .i64 x7.value, .slice A16 x7.data.length c16, .slice A17 x7.ports.length c17]) rfl (by kernel_rfl) (cells5 (beC (blkCell B23 (i := 0) rfl)) (beC (blkCell B23 (i := 1) rfl)) (beC (blkCell B23 (i := 2) rfl)) (beC (blkCell B23 (i := 3) rfl)) (beC (blkCell B23 (i := 4) rfl)))) ?_
          obtain ⟨y25, e26, hm⟩ := bnd hm
          refine RQ.call rfl (am1 rfl) (by kernel_rfl) (v := .bool y25) (bel (K := fun _ => True) fun w' hb' => (c_m_impl_wellFormed x7 _ e26 _ w' (stArg (R := agentRd) ⟨_, _, _, _, _, _, rfl, ⟨SlAt.now intRd_ok h16 (Nat.le_refl _) (Tt T hb'), r16⟩, ⟨SlAt.now portRd_ok h17 (Nat.le_refl _) (Tt T hb'), r17⟩⟩))) ?_
          refine RQ.y rfl (Y.not (b' := (!y25)) rfl rfl) ?_
          refine RQ.y rfl (Y.move (v := .bool (!y25)) rfl) ?_
          rcases bcases y25 with c27 | c27
          · replace hm := cF c27 hm
            refine RQ.skip (wantN (dj := 23) rfl (vbn rfl c27 rfl) rfl) ?_
            refine RQ.skip (wantN (dj := 23) rfl (vbn rfl c27 rfl) rfl) ?_
            refine RQ.skip (wantN (dj := 23) rfl (vbn rfl c27 rfl) rfl) ?_
            refine RQ.skip (wantN (dj := 23) rfl (vbn rfl c27 rfl) rfl) ?_
            refine RQ.skip (wantN (dj := 23) rfl (vbn rfl c27 rfl) rfl) ?_
            refine RQ.skip (wantN (dj := 23) rfl (vbn rfl c27 rfl) rfl) ?_
            refine RQ.y rfl (Y.pick (b := true) (v := .bool true) (vbn rfl c27 rfl) rfl) ?_
            refine RQ.nil ?_
            intro w28 hb29
            have szw28 := hb29.size
            have T := Tt T hb29
            refine then_n ?_
            refine cond_t rfl rfl ?_
            refine wp_seq ?_
            refine wp_rs rfl ?_
            refine RQ.y rfl (Y.assign (v := .bool false) rfl) ?_
            refine RQ.nil ?_
            refine then_n ?_
            refine wp_ret ?_
            obtain rfl := Option.some.inj hm
            exact (blk_r (then_r (then_r (hit_r (blk_r (then_r (ret1 rfl rfl rfl ⟨rfl, T⟩)))))))
          · replace hm := cT c27 hm
            refine RQ.y (wantT (dj := 23) rfl (vbn rfl c27 rfl)) (Y.fieldAddr (off := 0) rfl (by kernel_rfl)) ?_
            refine RQ.y (wantT (dj := 23) rfl (vbn rfl c27 rfl)) (Y.load (v := .int .i64 x7.kind) rfl (by kernel_rfl) (beC (blkCell B23 (i := 0) rfl))) ?_
            refine RQ.y (wantT (dj := 23) rfl (vbn rfl c27 rfl)) (Y.binI (v := .bool (x7.kind == 1)) rfl rfl rfl) ?_
            refine RQ.y (wantT (dj := 23) rfl (vbn rfl c27 rfl)) (Y.move (v := .int .i64 i4) rfl) ?_
            refine RQ.y (wantT (dj := 23) rfl (vbn rfl c27 rfl)) (Y.binI (v := .bool (i4 == 0)) rfl rfl rfl) ?_
            refine RQ.y (wantT (dj := 23) rfl (vbn rfl c27 rfl)) (Y.beq (c := ((x7.kind == 1) != (i4 == 0))) (by kernel_rfl) rfl rfl (.inr ⟨rfl, rfl⟩)) ?_
            refine RQ.y rfl (Y.pick (b := false) (v := .bool ((x7.kind == 1) != (i4 == 0))) (vbn rfl c27 rfl) rfl) ?_
            refine RQ.nil ?_
            intro w30 hb31
            have szw30 := hb31.size
            have T := Tt T hb31
            refine then_n ?_
            rcases bcases ((x7.kind == 1) != (i4 == 0)) with c32 | c32
            · replace hm := cF c32 hm
              refine cond_f rfl (vb rfl c32) ?_
              refine wp_skip ?_
              refine blk_n (then_n ?_)
              refine wp_rs rfl ?_
              refine RQ.y rfl (Y.binI s15_1 rfl (binI_add (m := i4) (by omega))) ?_
              refine RQ.y rfl (Y.move (v := .int .i64 (i4 + 1)) rfl) ?_
              refine RQ.nil ?_
              exact (then_n ⟨g, _, Nat.lt_succ_self _, rfl, ⟨(i4 + 1), s13_1, s14_1, rfl, (by omega), T, (by rw [← hrec1]; exact hm)⟩⟩)
            · replace hm := cT c32 hm
              refine cond_t rfl (vb rfl c32) ?_
              refine wp_seq ?_
              refine wp_rs rfl ?_
              refine RQ.y rfl (Y.assign (v := .bool false) rfl) ?_
              refine RQ.nil ?_
              refine then_n ?_
              refine wp_ret ?_
              obtain rfl := Option.some.inj hm
              exact (blk_r (then_r (then_r (hit_r (blk_r (then_r (ret1 rfl rfl rfl ⟨rfl, T⟩)))))))
    · replace hm := cT c2 hm
      have pc2 := of_decide_eq_true c2
      refine cond_t rfl (vb rfl c2) ?_
      refine wp_seq ?_
      refine wp_rs rfl ?_
      refine RQ.y rfl (Y.assign (v := .bool false) rfl) ?_
      refine RQ.nil ?_
      refine then_n ?_
      refine wp_ret ?_
      obtain rfl := Option.some.inj hm
      exact (then_r (ret1 rfl rfl rfl ⟨rfl, T⟩))
  · replace hm := cT c1 hm
    have pc1 := of_decide_eq_true c1
    refine RQ.skip (wantN (dj := 8) rfl (vb rfl c1) rfl) ?_
    refine RQ.skip (wantN (dj := 8) rfl (vb rfl c1) rfl) ?_
    refine RQ.skip (wantN (dj := 8) rfl (vb rfl c1) rfl) ?_
    refine RQ.y rfl (Y.pick (b := true) (v := .bool true) (vb rfl c1) rfl) ?_
    refine RQ.nil ?_
    refine then_n ?_
    refine cond_t rfl rfl ?_
    refine wp_seq ?_
    refine wp_rs rfl ?_
    refine RQ.y rfl (Y.assign (v := .bool false) rfl) ?_
    refine RQ.nil ?_
    refine then_n ?_
    refine wp_ret ?_
    obtain rfl := Option.some.inj hm
    exact (then_r (ret1 rfl rfl rfl ⟨rfl, T⟩))
def m_impl_ValidNet (d0 : DNet) : Option Bool :=
  ((m_impl_areAgents d0.agents).bind fun y6 => (bif y6 then ((m_impl_Net_ports d0).bind fun y11 => ((m_slices_ContainsFunc_impl_Port_impl_Port y11 (fun x0 => m_impl_ValidNet_1 x0 d0)).bind fun y18 => some (!y18))) else some false))
set_option maxHeartbeats 2000000 in
theorem c_m_impl_ValidNet (d0 : DNet) (r : Bool) (hm : m_impl_ValidNet d0 = some r) (v0 : Value) (w : World) (hv0 : St netRd w v0 d0) :
    Calls Try.prog 68 #[v0] w fun e w' => e = .returned (.bool r) ∧ Below w.heap.size w w' := by
  obtain ⟨csa0, rfl, ⟨A1, n1, c1, rfl, ⟨h1, r1⟩⟩⟩ := hv0
  have e1 := h1.len; subst e1
  have q1 := len_le r1
  have T := Below.refl w.heap.size w
  unfold m_impl_ValidNet at hm
  refine enter 11 Try.func68 rfl rfl rfl ?_
  intro f hf
  have s0 : f 0 = .agg #[.slice A1 d0.agents.length c1] := hf 0 _ rfl
  refine wp_seq ?_
  refine wp_rl rfl ?_
  refine RL.box rfl s0 (fun w2 B3 hb4 szw2 => ?_)
  replace B3 : Blk w2 w.heap.size 30 #[.slice A1 d0.agents.length c1] := B3
  have GB3 : w.heap.size ≤ w.heap.size := T.size
  have T := Tt T hb4
  refine RL.y rfl (Y.assign (v := .bool false) rfl) ?_
  refine RL.nil ?_
  refine then_n ?_
  refine wp_seq ?_
  refine wp_seq ?_
  refine wp_rb rfl ?_
  refine RQ.y rfl (Y.fieldAddr (off := 0) rfl (by kernel_rfl)) ?_
  refine RQ.y rfl (Y.load (v := .slice A1 d0.agents.length c1) rfl (by kernel_rfl) (beC (blkCell B3 (i := 0) rfl))) ?_
  obtain ⟨y6, e7, hm⟩ := bnd hm
  refine RQ.call rfl (am1 rfl) (by kernel_rfl) (v := .bool y6) (bel (K := fun _ => True) fun w' hb' => (c_m_impl_areAgents d0.agents _ e7 _ w' (slArg agentRd_ok h1 r1 (Tt T hb')))) ?_
  refine RQ.y rfl (Y.not (b' := (!y6)) rfl rfl) ?_
  refine RQ.nil ?_
  intro w8 hb9
  have szw8 := hb9.size
  have B3 := blkT B3 hb9
  have T := Tt T hb9
  refine then_n ?_
  rcases bcases y6 with c10 | c10
  · replace hm := cF c10 hm
    refine cond_t rfl (vbn rfl c10 rfl) ?_
    refine wp_seq ?_
    refine wp_rs rfl ?_
    refine RQ.y rfl (Y.assign (v := .bool false) rfl) ?_
    refine RQ.nil ?_
    refine then_n ?_
    refine wp_ret ?_
    obtain rfl := Option.some.inj hm
    exact (then_r (ret1 rfl rfl rfl ⟨rfl, T⟩))
  · replace hm := cT c10 hm
    refine cond_f rfl (vbn rfl c10 rfl) ?_
    refine wp_skip ?_
    refine then_n ?_
    refine wp_seq ?_
    refine wp_rl rfl ?_
    obtain ⟨y11, e12, hm⟩ := bnd hm
    refine RL.call rfl (am1 rfl) (by kernel_rfl) ((c_m_impl_Net_ports d0 _ e12 _ _ (ptBox (R := netRd) B3 ⟨_, _, _, rfl, ⟨SlAt.now agentRd_ok h1 (Nat.le_refl _) T, r1⟩⟩)).mono ?_)
    rintro _ w16 ⟨⟨v13, rfl, G14⟩, hb17⟩
    refine ⟨_, rfl, ?_⟩
    have szw16 := hb17.size
    have T0w16 := T.size
    have No15_ob5 := OwF.ne G14 B3.lt
    have B3 := blkT B3 hb17
    have T := Tt T hb17
    replace G14 := OwF.mono G14 T0w16
    refine RL.y rfl (Y.makeFunc (vals := #[.pointer (some ⟨w.heap.size, 0, none⟩)]) (am1 rfl)) ?_
    obtain ⟨y18, e19, hm⟩ := bnd hm
    refine RL.call rfl (am2 rfl rfl) (by kernel_rfl) ((c_m_slices_ContainsFunc_impl_Port_impl_Port y11 (fun x0 => m_impl_ValidNet_1 x0 d0) _ e19 _ _ _ _ (OwF.arg fPort G14) (by kernel_rfl) (fun x0 b hx w1 hb1 => Calls.arr (by simp) (c_m_impl_ValidNet_1 x0 d0 _ hx _ w1 (ptBox (R := netRd) (blkT B3 hb1) ⟨_, _, _, rfl, ⟨SlAt.now agentRd_ok h1 (Nat.le_refl _) (Tt T hb1), r1⟩⟩)))).mono ?_)
    rintro _ w20 ⟨rfl, hb21⟩
    refine ⟨_, rfl, ?_⟩
    have szw20 := hb21.size
    have B3 := blkT B3 hb21
    have G14 := OwF.below G14 hb21
    have T := Tt T hb21
    refine RL.y rfl (Y.not (b' := (!y18)) rfl rfl) ?_
    refine RL.y rfl (Y.assign (v := .bool (!y18)) rfl) ?_
    refine RL.nil ?_
    refine then_n ?_
    refine wp_ret ?_
    obtain rfl := Option.some.inj hm
    exact (ret1 rfl rfl rfl ⟨rfl, T⟩)
end
section
open Go.RowKit
set_option linter.unusedVariables false
set_option linter.unusedSimpArgs false
theorem allDef {xs : List Int} : (∀ k, k < xs.length → ∃ x, xs[k]? = some x ∧ defIx x = true) ↔ xs.all defIx = true := by
  rw [List.all_eq_true]
  constructor
  · intro h x hx
    obtain ⟨k, hk, rfl⟩ := List.getElem_of_mem hx
    obtain ⟨y, hy, hd⟩ := h k hk
    rw [List.getElem?_eq_getElem hk] at hy
    injection hy with hy
    rw [hy]; exact hd
  · intro h k hk
    exact ⟨xs[k], List.getElem?_eq_getElem hk, h _ (List.getElem_mem _)⟩
theorem inR_def (x : Int) : inR x 0 23 = defIx x := rfl
theorem content_L1 (x : DAgent) (g : Nat) (hg : x.data.length < g) : m_spec_l11Content_L1 x m_spec_l11Content_A1 g 0 = some (x.data.all defIx) := by
  have h := allI (L := m_spec_l11Content_L1 x m_spec_l11Content_A1) (n := x.data.length) (p := fun k => ∃ y, x.data[k]? = some y ∧ defIx y = true) (no := some false) (K := some true)
    (fun g k hk ⟨y, hy, hd⟩ => by simp [m_spec_l11Content_L1, m_spec_l11Content_B1, hk, getI_nat hy, m_spec_l11Def, inR_def, hd])
    (fun g k hk hn => by
      have hd : defIx x.data[k] = false := by
        cases h : defIx x.data[k] with
        | false => rfl
        | true => exact absurd ⟨_, List.getElem?_eq_getElem hk, h⟩ hn
      simp [m_spec_l11Content_L1, m_spec_l11Content_B1, hk, getI_lt hk, m_spec_l11Def, inR_def, hd])
    (fun g => by simp [m_spec_l11Content_L1, m_spec_l11Content_B1, m_spec_l11Content_A1]) g hg
  rw [h]
  by_cases ha : x.data.all defIx = true
  · rw [if_pos (allDef.2 ha), ha]
  · rw [if_neg (fun hh => ha (allDef.1 hh))]; simp at ha ⊢; exact ha
theorem content_L2 (x : DAgent) (g : Nat) (hg : x.data.length < g) : m_spec_l11Content_L2 x m_spec_l11Content_A2 g 0 = some (x.data.all defIx) := by
  have h := allI (L := m_spec_l11Content_L2 x m_spec_l11Content_A2) (n := x.data.length) (p := fun k => ∃ y, x.data[k]? = some y ∧ defIx y = true) (no := some false) (K := some true)
    (fun g k hk ⟨y, hy, hd⟩ => by simp [m_spec_l11Content_L2, m_spec_l11Content_B2, hk, getI_nat hy, m_spec_l11Def, inR_def, hd])
    (fun g k hk hn => by
      have hd : defIx x.data[k] = false := by
        cases h : defIx x.data[k] with
        | false => rfl
        | true => exact absurd ⟨_, List.getElem?_eq_getElem hk, h⟩ hn
      simp [m_spec_l11Content_L2, m_spec_l11Content_B2, hk, getI_lt hk, m_spec_l11Def, inR_def, hd])
    (fun g => by simp [m_spec_l11Content_L2, m_spec_l11Content_B2, m_spec_l11Content_A2]) g hg
  rw [h]
  by_cases ha : x.data.all defIx = true
  · rw [if_pos (allDef.2 ha), ha]
  · rw [if_neg (fun hh => ha (allDef.1 hh))]; simp at ha ⊢; exact ha
theorem p_content (x : DAgent) : m_spec_l11Content x = some (content x.kind x.value x.data) := by
  have l1 := content_L1 x (x.data.length + 1) (by omega)
  have l2 := content_L2 x (x.data.length + 1) (by omega)
  have i2 : ((x.data.length : Int) = 2) ↔ x.data.length = 2 := by omega
  have i1 : ((x.data.length : Int) = 1) ↔ x.data.length = 1 := by omega
  have i14 : inR (x.data.length : Int) 1 4 = (decide (1 ≤ x.data.length) && decide (x.data.length ≤ 4)) := by
    rw [Bool.eq_iff_iff]; simp [inR]; omega
  have hI : ∀ y, inR y (-2147483648) 2147483647 = int32B y := fun _ => rfl
  have hO : inR x.value 1 6 = operB x.value := rfl
  unfold m_spec_l11Content content
  simp only [hI, hO, l1, l2, m_spec_l11Def, inR_def, Bool.cond_eq_ite, beq_iff_eq, bne_iff_ne, ne_eq, i14, i1, i2]
  by_cases h8 : x.kind = 8
  · by_cases h0 : x.data.length = 1
    · obtain ⟨y, hy⟩ : ∃ y, x.data = [y] := List.length_eq_one_iff.1 h0
      simp only [h8, hy]
      cases ho : operB x.value <;> simp [getI]
    · simp [h8, h0]
  by_cases h6 : x.kind = 6
  · by_cases h0 : x.data.length = 0 <;> simp [h6, h0]
  by_cases h7 : x.kind = 7
  · by_cases h0 : x.data.length = 0 <;> simp [h7, h0]
  by_cases h9 : x.kind = 9
  · by_cases h0 : x.data.length = 0 <;> simp [h9, h0, inR]
  by_cases h12 : x.kind = 12
  · by_cases h0 : x.data.length = 0 <;> simp [h12, h0]
  by_cases h10 : x.kind = 10
  · by_cases hv : x.value = 0 <;> by_cases n1 : 1 ≤ x.data.length <;> by_cases n4 : x.data.length ≤ 4 <;> simp [h10, hv, n1, n4]
  by_cases h11 : x.kind = 11
  · by_cases hv : x.value = 0 <;> by_cases hn : x.data.length = 2 <;> simp [h11, hv, hn]
  by_cases hv : x.value = 0 <;> by_cases h0 : x.data.length = 0 <;> simp [h6, h7, h8, h9, h10, h11, h12, hv, h0]
theorem p_fields (x : DAgent) (hp : x.ports.length ≤ 9223372036854775807) : m_spec_l11Fields x = some (fieldsN x.kind x.ports.length) := by
  unfold m_spec_l11Fields fieldsN
  simp only [Bool.cond_eq_ite, beq_iff_eq]
  by_cases h : x.kind = 9
  · simp [h, ck_ok (n := (x.ports.length : Int) - 1) (by omega)]
  · simp [h]
theorem p_agent (x : DAgent) (hp : x.ports.length ≤ 9223372036854775807) : m_spec_l11Agent x = some (agentOk x) := by
  unfold m_spec_l11Agent agentOk
  simp only [p_fields x hp, Option.bind_some, p_content, Bool.cond_eq_ite, beq_iff_eq, decide_eq_true_eq]
  generalize portsOf x.kind (fieldsN x.kind x.ports.length) = p
  by_cases h1 : p > 0
  · have h1' : 0 < p := h1
    by_cases h2 : (x.ports.length : Int) = p
    · cases h3 : allowed x.kind x.level <;> simp [h1, h1', h2]
    · simp [h1, h1', h2]
  · have h1' : ¬ 0 < p := h1
    simp [h1, h1']
theorem p_ifields (k : Int) (n : Nat) (hn : n ≤ 9223372036854775807) : m_impl_fieldsOf k (n : Int) = some (fieldsN k n) := by
  unfold m_impl_fieldsOf fieldsN
  simp only [Bool.cond_eq_ite, beq_iff_eq]
  by_cases h : k = 9
  · simp [h, ck_ok (n := (n : Int) - 1) (by omega)]
  · simp [h]
theorem p_isDef (n : Int) : m_impl_isDefIndex n = some (defIx n) := by
  unfold m_impl_isDefIndex defIx
  simp only [Bool.cond_eq_ite, decide_eq_true_eq]
  by_cases h : 0 ≤ n <;> simp [h] <;> omega
theorem p_isInt (n : Int) : m_impl_isInt n = some (int32B n) := by
  unfold m_impl_isInt int32B
  simp only [Bool.cond_eq_ite, decide_eq_true_eq]
  by_cases h : -2147483648 ≤ n <;> simp [h]
theorem p_isOper (n : Int) : m_impl_isOperator n = some (operB n) := by
  unfold m_impl_isOperator operB
  simp only [Bool.cond_eq_ite, decide_eq_true_eq]
  by_cases h : 1 ≤ n <;> simp [h]
theorem p_index_int (d : List Int) (p : Int → Option Bool) (q : Int → Bool) (h : ∀ x ∈ d, p x = some (q x)) : ∃ i, m_slices_IndexFunc_int64_int64 d p = some i ∧ decide (i ≥ 0) = d.any q := by
  unfold m_slices_IndexFunc_int64_int64
  by_cases ha : ∃ k, k < d.length ∧ ∃ x, d[k]? = some x ∧ q x = true
  · obtain ⟨m, ⟨hm, x, hx, hq⟩, hl⟩ : ∃ m, (m < d.length ∧ ∃ x, d[m]? = some x ∧ q x = true) ∧ ∀ k, k < m → ∀ y, d[k]? = some y → q y = false := by
      obtain ⟨k0, hk0⟩ := ha
      induction k0 using Nat.strongRecOn with
      | _ k0 ih =>
        by_cases hh : ∃ k, k < k0 ∧ k < d.length ∧ ∃ x, d[k]? = some x ∧ q x = true
        · obtain ⟨k, hk, hk1⟩ := hh; exact ih k hk hk1
        · exact ⟨k0, hk0, fun k hk y hy => by
            cases hq : q y with
            | false => rfl
            | true => exact absurd ⟨k, hk, lt_of_some hy, y, hy, hq⟩ hh⟩
    refine ⟨m, ?_, ?_⟩
    · refine trajI (n := m) (fun g k hk => ?_) (fun g => ?_) _ (by omega)
      · have hkl : k < d.length := by omega
        have hy := List.getElem?_eq_getElem hkl
        simp [m_slices_IndexFunc_int64_int64_L1, m_slices_IndexFunc_int64_int64_B1, hkl, getI_lt hkl, h _ (List.getElem_mem hkl), hl k hk _ hy]
      · have hmem := List.mem_of_getElem? hx
        simp [m_slices_IndexFunc_int64_int64_L1, m_slices_IndexFunc_int64_int64_B1, hm, getI_nat hx, h _ hmem, hq]
    · have : d.any q = true := List.any_eq_true.2 ⟨x, List.mem_of_getElem? hx, hq⟩
      rw [this]; simp
  · refine ⟨-1, ?_, ?_⟩
    · refine trajI (n := d.length) (fun g k hk => ?_) (fun g => ?_) _ (by omega)
      · have hq : q d[k] = false := by
          cases hq : q d[k] with
          | false => rfl
          | true => exact absurd ⟨k, hk, _, List.getElem?_eq_getElem hk, hq⟩ ha
        simp [m_slices_IndexFunc_int64_int64_L1, m_slices_IndexFunc_int64_int64_B1, hk, getI_lt hk, h _ (List.getElem_mem hk), hq]
      · simp [m_slices_IndexFunc_int64_int64_L1, m_slices_IndexFunc_int64_int64_B1, m_slices_IndexFunc_int64_int64_A1]
    · have : d.any q = false := List.any_eq_false.2 fun x hx hq => by
        obtain ⟨k, hk, rfl⟩ := List.getElem_of_mem hx
        exact ha ⟨k, hk, _, List.getElem?_eq_getElem hk, hq⟩
      rw [this]; simp
theorem p_contains_int (d : List Int) (p : Int → Option Bool) (q : Int → Bool) (h : ∀ x ∈ d, p x = some (q x)) : m_slices_ContainsFunc_int64_int64 d p = some (d.any q) := by
  obtain ⟨i, h1, h2⟩ := p_index_int d p q h
  simp -implicitDefEqProofs only [m_slices_ContainsFunc_int64_int64, h1, Option.bind_some, h2]
theorem p_wellFormed (x : DAgent) (hp : x.ports.length ≤ 9223372036854775807) : m_impl_wellFormed x = some (agentOk x) := by
  have hc := p_contains_int x.data (fun x0 => m_impl_wellFormed_1 x0) (fun x0 => !defIx x0) (fun y _ => by simp [m_impl_wellFormed_1, p_isDef])
  have hall : x.data.all defIx = !(x.data.any fun x0 => !defIx x0) := by rw [List.not_any_eq_all_not]; simp
  have e0 : ((x.data.length : Int) == 0) = decide (x.data.length = 0) := by rw [Bool.eq_iff_iff]; simp
  have i2 : ((x.data.length : Int) = 2) ↔ x.data.length = 2 := by omega
  have i1 : ((x.data.length : Int) = 1) ↔ x.data.length = 1 := by omega
  have g1 : ((x.data.length : Int) ≥ 1) ↔ 1 ≤ x.data.length := by omega
  have g4 : ((x.data.length : Int) ≤ 4) ↔ x.data.length ≤ 4 := by omega
  have ip : ((x.ports.length : Int) = 0) ↔ x.ports.length = 0 := by omega
  unfold m_impl_wellFormed agentOk
  simp only [p_ifields _ _ hp, Option.bind_some, hc, p_isInt, p_isOper, p_isDef, content, hall, e0, Bool.cond_eq_ite, beq_iff_eq, bne_iff_ne, ne_eq, decide_eq_true_eq, i1, i2, ip, g1, g4, ge_iff_le]
  generalize hp0 : portsOf x.kind (fieldsN x.kind x.ports.length) = p
  by_cases h0 : x.ports.length = 0
  · by_cases h1 : 0 < p
    · have : ¬ (x.ports.length : Int) = p := by omega
      simp [h0]; intro h2; omega
    · simp [h0, h1]
  by_cases h2 : p = (x.ports.length : Int)
  case neg =>
    have h2' : ¬ (x.ports.length : Int) = p := fun e => h2 e.symm
    simp [h0, h2, h2']
  have hpos : 0 < x.ports.length := by omega
  have v4 : x.value < 4 ↔ x.value ≤ 3 := by omega
  subst h2
  generalize hany : (x.data.any fun x0 => !defIx x0) = anyb
  cases h3 : allowed x.kind x.level
  · simp [h0]
  by_cases k6 : x.kind = 6
  · cases hi : int32B x.value <;> simp [h0, hpos, k6]
  by_cases k7 : x.kind = 7
  · cases hi : operB x.value <;> simp [h0, hpos, k7]
  by_cases k8 : x.kind = 8
  · by_cases hd : x.data.length = 1
    · obtain ⟨y, hy⟩ : ∃ y, x.data = [y] := List.length_eq_one_iff.1 hd
      cases hi : operB x.value <;> simp [h0, hpos, k8, hy, getI]
    · cases hi : operB x.value <;> simp [h0, hpos, k8, hd]
  by_cases k9 : x.kind = 9
  · by_cases v0 : 0 ≤ x.value <;> by_cases v3 : x.value ≤ 3
    all_goals simp [h0, hpos, k9, v0, v3, v4]
  by_cases k10 : x.kind = 10
  · by_cases v0 : x.value = 0 <;> by_cases n1 : 1 ≤ x.data.length <;> by_cases n4 : x.data.length ≤ 4 <;> simp [h0, hpos, k10, v0, n1, n4]
  by_cases k11 : x.kind = 11
  · by_cases v0 : x.value = 0 <;> by_cases n2 : x.data.length = 2 <;> simp [h0, hpos, k11, v0, n2]
  by_cases k12 : x.kind = 12
  · cases hi : defIx x.value <;> simp [h0, hpos, k12]
  by_cases v0 : x.value = 0 <;> simp [h0, hpos, k6, k7, k8, k9, k10, k11, k12, v0]
theorem agentsOk_iff {xs : List DAgent} : agentsOk xs = true ↔ AgentsOk xs := by unfold agentsOk; simp
theorem agents_p {xs : List DAgent} : (∀ k, k < xs.length → ∃ x, xs[k]? = some x ∧ agentOk x = true ∧ decide (x.kind = 1) = decide (k = 0)) ↔ ∀ (i : Nat) (x : DAgent), xs[i]? = some x → agentOk x = true ∧ decide (x.kind = 1) = decide (i = 0) := by
  constructor
  · intro h i x hx
    obtain ⟨y, hy, h1⟩ := h i (lt_of_some hx)
    rw [hx] at hy; injection hy with hy; subst hy; exact h1
  · intro h k hk
    exact ⟨xs[k], List.getElem?_eq_getElem hk, h k _ (List.getElem?_eq_getElem hk)⟩
theorem kind_ne (k : Int) (i : Nat) : ((k == 1) != ((i : Int) == 0)) = !(decide (decide (k = 1) = decide (i = 0))) := by
  have e1 : (k == 1) = decide (k = 1) := by rw [Bool.eq_iff_iff]; simp
  have e2 : ((i : Int) == 0) = decide (i = 0) := by rw [Bool.eq_iff_iff]; simp
  rw [e1, e2]
  cases decide (k = 1) <;> cases decide (i = 0) <;> rfl
open Classical in
theorem p_agents (xs : List DAgent) (hb : ∀ x ∈ xs, x.ports.length ≤ 9223372036854775807) : m_spec_l11Agents xs = some (agentsOk xs) := by
  unfold m_spec_l11Agents
  by_cases hl : 1 ≤ xs.length ∧ xs.length ≤ 600
  · have h0 : inR (xs.length : Int) 1 600 = true := by simp [inR]; omega
    rw [h0, cond_true]
    have h := allI (L := m_spec_l11Agents_L1 xs m_spec_l11Agents_A1) (n := xs.length) (p := fun k => ∃ x, xs[k]? = some x ∧ agentOk x = true ∧ decide (x.kind = 1) = decide (k = 0)) (no := some false) (K := some true)
      (fun g k hk ⟨x, hx, h1, h2⟩ => by
        have hm := hb x (List.mem_of_getElem? hx)
        simp [m_spec_l11Agents_L1, m_spec_l11Agents_B1, hk, getI_nat hx, p_agent x hm, h1, kind_ne, h2])
      (fun g k hk hn => by
        have hx := List.getElem?_eq_getElem hk
        have hm := hb _ (List.getElem_mem hk)
        cases h1 : agentOk xs[k] with
        | false => simp [m_spec_l11Agents_L1, m_spec_l11Agents_B1, hk, getI_lt hk, p_agent _ hm, h1]
        | true =>
          have h2 : ¬ decide (xs[k].kind = 1) = decide (k = 0) := fun h2 => hn ⟨_, hx, h1, h2⟩
          simp -implicitDefEqProofs only [m_spec_l11Agents_L1, m_spec_l11Agents_B1, dlt hk, cond_true, getI_lt hk, Option.bind_some, p_agent _ hm, h1, kind_ne, decide_eq_false h2, Bool.not_false, Bool.not_true, Bool.or_true, Bool.false_or, cond_false])
      (fun g => by simp [m_spec_l11Agents_L1, m_spec_l11Agents_B1, m_spec_l11Agents_A1]) (xs.length + 1) (by omega)
    rw [h]
    by_cases ha : ∀ k, k < xs.length → ∃ x, xs[k]? = some x ∧ agentOk x = true ∧ decide (x.kind = 1) = decide (k = 0)
    · rw [if_pos ha, agentsOk_iff.2 ⟨hl.1, hl.2, agents_p.1 ha⟩]
    · rw [if_neg ha]
      cases hc : agentsOk xs with
      | false => rfl
      | true => exact absurd (agents_p.2 (agentsOk_iff.1 hc).2.2) ha
  · have h0 : inR (xs.length : Int) 1 600 = false := by simp [inR]; omega
    rw [h0, cond_false]
    cases hc : agentsOk xs with
    | false => rfl
    | true => exact absurd ⟨(agentsOk_iff.1 hc).1, (agentsOk_iff.1 hc).2.1⟩ hl
open Classical in
theorem p_areAgents (xs : List DAgent) (hb : ∀ x ∈ xs, x.ports.length ≤ 9223372036854775807) : m_impl_areAgents xs = some (agentsOk xs) := by
  unfold m_impl_areAgents
  by_cases hl : 1 ≤ xs.length ∧ xs.length ≤ 600
  · have h0 : decide ((xs.length : Int) < 1) = false := by simp; omega
    have h0' : decide ((xs.length : Int) > 600) = false := by simp; omega
    rw [h0, h0', cond_false, cond_false]
    have h := allI (L := m_impl_areAgents_L1 xs m_impl_areAgents_A1) (n := xs.length) (p := fun k => ∃ x, xs[k]? = some x ∧ agentOk x = true ∧ decide (x.kind = 1) = decide (k = 0)) (no := some false) (K := some true)
      (fun g k hk ⟨x, hx, h1, h2⟩ => by
        have hm := hb x (List.mem_of_getElem? hx)
        simp [m_impl_areAgents_L1, m_impl_areAgents_B1, hk, getI_nat hx, p_wellFormed x hm, h1, kind_ne, h2])
      (fun g k hk hn => by
        have hx := List.getElem?_eq_getElem hk
        have hm := hb _ (List.getElem_mem hk)
        cases h1 : agentOk xs[k] with
        | false => simp [m_impl_areAgents_L1, m_impl_areAgents_B1, hk, getI_lt hk, p_wellFormed _ hm, h1]
        | true =>
          have h2 : ¬ decide (xs[k].kind = 1) = decide (k = 0) := fun h2 => hn ⟨_, hx, h1, h2⟩
          simp -implicitDefEqProofs only [m_impl_areAgents_L1, m_impl_areAgents_B1, dlt hk, cond_true, getI_lt hk, Option.bind_some, p_wellFormed _ hm, h1, kind_ne, decide_eq_false h2, Bool.not_false, Bool.not_true, Bool.or_true, Bool.false_or, cond_false])
      (fun g => by simp [m_impl_areAgents_L1, m_impl_areAgents_B1, m_impl_areAgents_A1]) (xs.length + 1) (by omega)
    rw [h]
    by_cases ha : ∀ k, k < xs.length → ∃ x, xs[k]? = some x ∧ agentOk x = true ∧ decide (x.kind = 1) = decide (k = 0)
    · rw [if_pos ha, agentsOk_iff.2 ⟨hl.1, hl.2, agents_p.1 ha⟩]
    · rw [if_neg ha]
      cases hc : agentsOk xs with
      | false => rfl
      | true => exact absurd (agents_p.2 (agentsOk_iff.1 hc).2.2) ha
  · have hc : agentsOk xs = false := by
      cases hc : agentsOk xs with
      | false => rfl
      | true => exact absurd ⟨(agentsOk_iff.1 hc).1, (agentsOk_iff.1 hc).2.1⟩ hl
    by_cases h1 : xs.length < 1
    · have h0 : decide ((xs.length : Int) < 1) = true := by simp; omega
      rw [h0, cond_true, hc]
    · have h0 : decide ((xs.length : Int) < 1) = false := by simp; omega
      have h0' : decide ((xs.length : Int) > 600) = true := by simp; omega
      rw [h0, h0', cond_false, cond_true, hc]
/-- No list is longer than what a net of the laws may hold. -/
def Small (xs : List DAgent) : Prop := szAgentS xs ≤ 1048576
theorem Small.len {xs : List DAgent} (h : Small xs) : xs.length ≤ 1048576 := by unfold Small szAgentS at h; omega
theorem sum_mem {α : Type} {f : α → Nat} {xs : List α} {x : α} (h : x ∈ xs) : f x ≤ (xs.map f).sum := by
  induction xs with
  | nil => cases h
  | cons y ys ih =>
    rcases List.mem_cons.1 h with rfl | h
    · simp
    · have := ih h; simp; omega
theorem Small.ports {xs : List DAgent} (h : Small xs) {x : DAgent} (hx : x ∈ xs) : x.ports.length ≤ 1048576 := by
  have := sum_mem (f := szAgent) hx
  have e : szAgent x = x.data.length + x.ports.length := rfl
  unfold Small szAgentS at h; omega
theorem Small.data {xs : List DAgent} (h : Small xs) {x : DAgent} (hx : x ∈ xs) : x.data.length ≤ 1048576 := by
  have := sum_mem (f := szAgent) hx
  have e : szAgent x = x.data.length + x.ports.length := rfl
  unfold Small szAgentS at h; omega
theorem Small.ports' {xs : List DAgent} (h : Small xs) : ∀ x ∈ xs, x.ports.length ≤ 9223372036854775807 := fun x hx => by have := h.ports hx; omega
theorem portsFrom_len : ∀ (i : Nat) (xs : List DAgent), (portsFrom i xs).length ≤ (xs.map szAgent).sum
  | _, [] => by simp [portsFrom]
  | i, x :: xs => by have := portsFrom_len (i + 1) xs; simp [portsFrom, agentPorts, szAgent]; omega
theorem Small.all {xs : List DAgent} (h : Small xs) : (allPorts xs).length ≤ 1048576 := by
  have := portsFrom_len 0 xs
  unfold Small szAgentS at h; unfold allPorts; omega
theorem agentAt_nat {xs : List DAgent} {k : Nat} {x : DAgent} (h : xs[k]? = some x) : agentAt xs (k : Int) = x := by simp [agentAt, List.getD, h]
theorem p_port (xs : List DAgent) (p : DPort) (h : Small xs) : m_spec_l11Port xs p = some (hasPort xs p) := by
  unfold m_spec_l11Port
  have hl := h.len
  rw [ck_ok (by omega), Option.bind_some]
  by_cases ha : 0 ≤ p.agent ∧ p.agent < xs.length
  · obtain ⟨k, hk⟩ := Int.eq_ofNat_of_zero_le ha.1
    have hkl : k < xs.length := by omega
    have h0 : inR p.agent 0 ((xs.length : Int) - 1) = true := by simp [inR]; omega
    have hx := List.getElem?_eq_getElem hkl
    have hp := h.ports (List.getElem_mem hkl)
    rw [h0, cond_true, hk, getI_nat hx, Option.bind_some, ck_ok (by omega), Option.bind_some]
    congr 1
    rw [Bool.eq_iff_iff]
    simp [inR, hasPort, hk, agentAt_nat hx]
    omega
  · have h0 : inR p.agent 0 ((xs.length : Int) - 1) = false := by simp [inR]; omega
    rw [h0, cond_false]
    congr 1
    simp [hasPort]
    omega
theorem p_hasPort (xs : List DAgent) (p : DPort) : m_impl_hasPort xs p = some (hasPort xs p) := by
  unfold m_impl_hasPort
  by_cases h1 : 0 ≤ p.agent
  · by_cases h2 : p.agent < xs.length
    · by_cases h3 : 0 ≤ p.slot
      · obtain ⟨k, hk⟩ := Int.eq_ofNat_of_zero_le h1
        have hkl : k < xs.length := by omega
        have hx := List.getElem?_eq_getElem hkl
        simp [h3, hk, hkl, hasPort, getI_nat hx, agentAt_nat hx]
      · simp [h1, h2, h3, hasPort]
    · simp [h1, h2, hasPort]
  · simp [h1, hasPort]
theorem p_peer {xs : List DAgent} {p : DPort} (h : hasPort xs p = true) : m_impl_Net_peer ⟨xs⟩ p = some (peer xs p) := by
  obtain ⟨i, k, x, rfl, hx, hk, ha⟩ := hasPort_at h
  have hy := List.getElem?_eq_getElem hk
  simp [m_impl_Net_peer, getI_nat hx, getI_nat hy, peer_of hx hy]
theorem port_eq (q p : DPort) : (q.agent == p.agent && q.slot == p.slot) = decide (q = p) := by
  rw [Bool.eq_iff_iff]
  cases q; cases p; simp
theorem badPort_at {xs : List DAgent} {i k : Nat} {x : DAgent} {q : DPort} (hx : xs[i]? = some x) (hq : x.ports[k]? = some q) : badPort xs ⟨i, k⟩ = (decide (q = ⟨i, k⟩) || !hasPort xs q || !decide (peer xs q = ⟨i, k⟩)) := by
  unfold badPort; rw [peer_of hx hq]
open Classical in
theorem p_ok_inner {xs : List DAgent} (hs : Small xs) {i : Nat} {x : DAgent} (hx : xs[i]? = some x) (rec : Int → Option Bool) (g : Nat) (hg : x.ports.length < g) :
    ((∀ k, k < x.ports.length → badPort xs ⟨i, k⟩ = false) ∧ m_spec_l11Ok_L2 ⟨xs⟩ (i : Int) x (m_spec_l11Ok_A2 rec (i : Int)) g 0 = rec ((i : Int) + 1)) ∨ ((¬ ∀ k, k < x.ports.length → badPort xs ⟨i, k⟩ = false) ∧ m_spec_l11Ok_L2 ⟨xs⟩ (i : Int) x (m_spec_l11Ok_A2 rec (i : Int)) g 0 = some false) := by
  have hi := lt_of_some hx
  have hl := hs.len
  refine (allO (L := m_spec_l11Ok_L2 ⟨xs⟩ (i : Int) x (m_spec_l11Ok_A2 rec (i : Int))) (n := x.ports.length) (p := fun k => badPort xs ⟨i, k⟩ = false) (no := some false) (K := rec ((i : Int) + 1)) ?_ ?_ ?_ g hg)
  · intro g k hk hb
    have hq := List.getElem?_eq_getElem hk
    rw [badPort_at hx hq] at hb
    simp only [Bool.or_eq_false_iff, Bool.not_eq_false', decide_eq_false_iff_not, decide_eq_true_eq] at hb
    obtain ⟨⟨h1, h2⟩, h3⟩ := hb
    obtain ⟨i2, k2, x2, he, hx2, hk2, _⟩ := hasPort_at h2
    have hq2 := List.getElem?_eq_getElem hk2
    have h1' : (x.ports[k].agent == (i : Int) && x.ports[k].slot == (k : Int)) = false := by
      have := port_eq x.ports[k] ⟨i, k⟩
      simp only at this
      rw [this]; simpa using h1
    have h3' : (x2.ports[k2].agent == (i : Int) && x2.ports[k2].slot == (k : Int)) = true := by
      have := port_eq x2.ports[k2] ⟨i, k⟩
      simp only at this
      rw [this]
      rw [he, peer_of hx2 hq2] at h3
      simpa using h3
    have ha : x.ports[k].agent = (i2 : Int) := by rw [he]
    have hsl : x.ports[k].slot = (k2 : Int) := by rw [he]
    have e1 : getI xs x.ports[k].agent = some x2 := by rw [ha]; exact getI_nat hx2
    have e2 : getI x2.ports x.ports[k].slot = some x2.ports[k2] := by rw [hsl]; exact getI_nat hq2
    simp -implicitDefEqProofs only [m_spec_l11Ok_L2, m_spec_l11Ok_B2, dlt hk, cond_true, getI_lt hk, Option.bind_some, h1', cond_false, p_port xs _ hs, h2, e1, e2, h3']
  · intro g k hk hb
    have hq := List.getElem?_eq_getElem hk
    have hb : badPort xs ⟨i, k⟩ = true := by simpa using hb
    rw [badPort_at hx hq] at hb
    have hE := port_eq x.ports[k] ⟨i, k⟩
    simp only at hE
    by_cases h1 : x.ports[k] = (⟨i, k⟩ : DPort)
    · have : (x.ports[k].agent == (i : Int) && x.ports[k].slot == (k : Int)) = true := by rw [hE]; simpa using h1
      simp -implicitDefEqProofs only [m_spec_l11Ok_L2, m_spec_l11Ok_B2, dlt hk, cond_true, getI_lt hk, Option.bind_some, this]
    · have h1' : (x.ports[k].agent == (i : Int) && x.ports[k].slot == (k : Int)) = false := by rw [hE]; simpa using h1
      cases h2 : hasPort xs x.ports[k] with
      | false => simp -implicitDefEqProofs only [m_spec_l11Ok_L2, m_spec_l11Ok_B2, dlt hk, cond_true, getI_lt hk, Option.bind_some, h1', cond_false, p_port xs _ hs, h2]
      | true =>
        have h3 : ¬ peer xs x.ports[k] = (⟨i, k⟩ : DPort) := by
          intro h3; rw [h2, h3] at hb; simp [h1] at hb
        obtain ⟨i2, k2, x2, he, hx2, hk2, _⟩ := hasPort_at h2
        have hq2 := List.getElem?_eq_getElem hk2
        have h3' : (x2.ports[k2].agent == (i : Int) && x2.ports[k2].slot == (k : Int)) = false := by
          have := port_eq x2.ports[k2] ⟨i, k⟩
          simp only at this
          rw [this]
          rw [he, peer_of hx2 hq2] at h3
          simpa using h3
        have ha : x.ports[k].agent = (i2 : Int) := by rw [he]
        have hsl : x.ports[k].slot = (k2 : Int) := by rw [he]
        have e1 : getI xs x.ports[k].agent = some x2 := by rw [ha]; exact getI_nat hx2
        have e2 : getI x2.ports x.ports[k].slot = some x2.ports[k2] := by rw [hsl]; exact getI_nat hq2
        simp -implicitDefEqProofs only [m_spec_l11Ok_L2, m_spec_l11Ok_B2, dlt hk, cond_true, getI_lt hk, Option.bind_some, h1', cond_false, p_port xs _ hs, h2, e1, e2, h3']
  · intro g
    simp -implicitDefEqProofs only [m_spec_l11Ok_L2, m_spec_l11Ok_B2, dge, cond_false, m_spec_l11Ok_A2]
    rw [ck_ok (by omega), Option.bind_some]
theorem portsOk_p {xs : List DAgent} : (∀ i, i < xs.length → ∃ x, xs[i]? = some x ∧ ∀ k, k < x.ports.length → badPort xs ⟨i, k⟩ = false) ↔ PortsOk xs := by
  constructor
  · intro h i x hx k hk
    obtain ⟨y, hy, h1⟩ := h i (lt_of_some hx)
    rw [hx] at hy; injection hy with hy; subst hy; exact h1 k hk
  · intro h i hi
    exact ⟨xs[i], List.getElem?_eq_getElem hi, fun k hk => h i _ (List.getElem?_eq_getElem hi) k hk⟩
theorem validNet_iff {x : DNet} : validNet x = true ↔ AgentsOk x.agents ∧ PortsOk x.agents := by unfold validNet; simp
open Classical in
theorem p_ok (d : DNet) (hs : Small d.agents) : m_spec_l11Ok d = some (validNet d) := by
  obtain ⟨xs⟩ := d
  have hs : Small xs := hs
  unfold m_spec_l11Ok
  rw [p_agents xs hs.ports', Option.bind_some]
  cases hag : agentsOk xs with
  | false =>
    rw [cond_false]
    cases hv : validNet ⟨xs⟩ with
    | false => rfl
    | true => rw [agentsOk_iff.2 (validNet_iff.1 hv).1] at hag; cases hag
  | true =>
    rw [cond_true]
    have h := allO (L := m_spec_l11Ok_L1 ⟨xs⟩ m_spec_l11Ok_A1) (n := xs.length) (p := fun i => ∃ x, xs[i]? = some x ∧ ∀ k, k < x.ports.length → badPort xs ⟨i, k⟩ = false) (no := some false) (K := some true)
      (fun g i hi ⟨x, hx, hp⟩ => by
        simp -implicitDefEqProofs only [m_spec_l11Ok_L1, m_spec_l11Ok_B1, dlt hi, cond_true, getI_nat hx, Option.bind_some]
        rcases p_ok_inner hs hx (m_spec_l11Ok_L1 ⟨xs⟩ m_spec_l11Ok_A1 g) _ (Nat.lt_succ_self _) with ⟨_, h⟩ | ⟨hn, _⟩
        · exact h
        · exact absurd hp hn)
      (fun g i hi hn => by
        have hx := List.getElem?_eq_getElem hi
        simp -implicitDefEqProofs only [m_spec_l11Ok_L1, m_spec_l11Ok_B1, dlt hi, cond_true, getI_lt hi, Option.bind_some]
        rcases p_ok_inner hs hx (m_spec_l11Ok_L1 ⟨xs⟩ m_spec_l11Ok_A1 g) _ (Nat.lt_succ_self _) with ⟨hp, _⟩ | ⟨_, h⟩
        · exact absurd ⟨_, hx, hp⟩ hn
        · exact h)
      (fun g => by simp -implicitDefEqProofs only [m_spec_l11Ok_L1, m_spec_l11Ok_B1, dge, cond_false, m_spec_l11Ok_A1]) (xs.length + 1) (Nat.lt_succ_self _)
    rcases h with ⟨ha, h⟩ | ⟨ha, h⟩
    · rw [validNet_iff.2 ⟨agentsOk_iff.1 hag, portsOk_p.1 ha⟩]; exact h
    · cases hv : validNet ⟨xs⟩ with
      | false => exact h
      | true => exact absurd (portsOk_p.2 (validNet_iff.1 hv).2) ha
theorem agentPorts_len (i : Nat) (x : DAgent) : (agentPorts i x).length = x.ports.length := by simp [agentPorts]
theorem p_ports_inner {i : Nat} {x : DAgent} (rec : List DPort → Int → Option (List DPort)) (acc : List DPort) (hb : acc.length + x.ports.length ≤ 4294967296) (hi : (i : Int) < 9223372036854775807) (g : Nat) (hg : x.ports.length < g) :
    m_impl_Net_ports_L2 (i : Int) x (m_impl_Net_ports_A2 rec (i : Int)) g acc 0 = rec (acc ++ agentPorts i x) ((i : Int) + 1) := by
  have h := traj (L := fun g (s : List DPort × Int) => m_impl_Net_ports_L2 (i : Int) x (m_impl_Net_ports_A2 rec (i : Int)) g s.1 s.2) (st := fun k => (acc ++ (List.range k).map (fun (j : Nat) => (⟨i, j⟩ : DPort)), (k : Int))) (n := x.ports.length) (r := rec (acc ++ agentPorts i x) ((i : Int) + 1))
    (fun g k hk => by
      simp -implicitDefEqProofs only [m_impl_Net_ports_L2, m_impl_Net_ports_B2, dlt hk, cond_true]
      rw [mustP_ok (by simp; omega), Option.bind_some]
      rw [List.range_succ, List.map_append, List.append_assoc]
      simp only [List.map_cons, List.map_nil, Int.natCast_add, Int.cast_ofNat_Int])
    (fun g => by
      simp -implicitDefEqProofs only [m_impl_Net_ports_L2, m_impl_Net_ports_B2, dge, cond_false, m_impl_Net_ports_A2]
      rw [ck_ok (by omega), Option.bind_some, agentPorts]) g hg
  simpa using h
theorem p_ports (d : DNet) (hs : Small d.agents) : m_impl_Net_ports d = some (allPorts d.agents) := by
  obtain ⟨xs⟩ := d
  have hs : Small xs := hs
  have hl := hs.len
  have ha := hs.all
  unfold m_impl_Net_ports
  have h := traj (L := fun g (s : List DPort × Int) => m_impl_Net_ports_L1 ⟨xs⟩ m_impl_Net_ports_A1 g s.1 s.2) (st := fun k => (allPorts (xs.take k), (k : Int))) (n := xs.length) (r := some (allPorts xs))
    (fun g k hk => by
      have hx := List.getElem?_eq_getElem hk
      have hlen : (allPorts (xs.take (k + 1))).length ≤ (allPorts xs).length := by
        have : allPorts xs = portsFrom 0 (xs.take (k + 1) ++ xs.drop (k + 1)) := by rw [List.take_append_drop]; rfl
        rw [this, portsFrom_append, List.length_append]
        exact Nat.le_add_right _ _
      rw [allPorts_take hx, List.length_append, agentPorts_len] at hlen
      simp -implicitDefEqProofs only [m_impl_Net_ports_L1, m_impl_Net_ports_B1, dlt hk, cond_true, getI_lt hk, Option.bind_some]
      rw [p_ports_inner (m_impl_Net_ports_L1 ⟨xs⟩ m_impl_Net_ports_A1 g) _ (by omega) (by omega) _ (Nat.lt_succ_self _), allPorts_take hx]
      simp only [Int.natCast_add, Int.cast_ofNat_Int])
    (fun g => by
      simp -implicitDefEqProofs only [m_impl_Net_ports_L1, m_impl_Net_ports_B1, dge, cond_false, m_impl_Net_ports_A1, List.take_length]) (xs.length + 1) (Nat.lt_succ_self _)
  exact h
theorem p_index_port (d : List DPort) (p : DPort → Option Bool) (q : DPort → Bool) (h : ∀ x ∈ d, p x = some (q x)) : ∃ i, m_slices_IndexFunc_impl_Port_impl_Port d p = some i ∧ decide (i ≥ 0) = d.any q := by
  unfold m_slices_IndexFunc_impl_Port_impl_Port
  by_cases ha : ∃ k, k < d.length ∧ ∃ x, d[k]? = some x ∧ q x = true
  · obtain ⟨m, ⟨hm, x, hx, hq⟩, hl⟩ : ∃ m, (m < d.length ∧ ∃ x, d[m]? = some x ∧ q x = true) ∧ ∀ k, k < m → ∀ y, d[k]? = some y → q y = false := by
      obtain ⟨k0, hk0⟩ := ha
      induction k0 using Nat.strongRecOn with
      | _ k0 ih =>
        by_cases hh : ∃ k, k < k0 ∧ k < d.length ∧ ∃ x, d[k]? = some x ∧ q x = true
        · obtain ⟨k, hk, hk1⟩ := hh; exact ih k hk hk1
        · exact ⟨k0, hk0, fun k hk y hy => by
            cases hq : q y with
            | false => rfl
            | true => exact absurd ⟨k, hk, lt_of_some hy, y, hy, hq⟩ hh⟩
    refine ⟨m, ?_, ?_⟩
    · refine trajI (n := m) (fun g k hk => ?_) (fun g => ?_) _ (by omega)
      · have hkl : k < d.length := by omega
        have hy := List.getElem?_eq_getElem hkl
        simp [m_slices_IndexFunc_impl_Port_impl_Port_L1, m_slices_IndexFunc_impl_Port_impl_Port_B1, hkl, getI_lt hkl, h _ (List.getElem_mem hkl), hl k hk _ hy]
      · have hmem := List.mem_of_getElem? hx
        simp [m_slices_IndexFunc_impl_Port_impl_Port_L1, m_slices_IndexFunc_impl_Port_impl_Port_B1, hm, getI_nat hx, h _ hmem, hq]
    · have : d.any q = true := List.any_eq_true.2 ⟨x, List.mem_of_getElem? hx, hq⟩
      rw [this]; simp
  · refine ⟨-1, ?_, ?_⟩
    · refine trajI (n := d.length) (fun g k hk => ?_) (fun g => ?_) _ (by omega)
      · have hq : q d[k] = false := by
          cases hq : q d[k] with
          | false => rfl
          | true => exact absurd ⟨k, hk, _, List.getElem?_eq_getElem hk, hq⟩ ha
        simp [m_slices_IndexFunc_impl_Port_impl_Port_L1, m_slices_IndexFunc_impl_Port_impl_Port_B1, hk, getI_lt hk, h _ (List.getElem_mem hk), hq]
      · simp [m_slices_IndexFunc_impl_Port_impl_Port_L1, m_slices_IndexFunc_impl_Port_impl_Port_B1, m_slices_IndexFunc_impl_Port_impl_Port_A1]
    · have : d.any q = false := List.any_eq_false.2 fun x hx hq => by
        obtain ⟨k, hk, rfl⟩ := List.getElem_of_mem hx
        exact ha ⟨k, hk, _, List.getElem?_eq_getElem hk, hq⟩
      rw [this]; simp
theorem p_contains_port (d : List DPort) (p : DPort → Option Bool) (q : DPort → Bool) (h : ∀ x ∈ d, p x = some (q x)) : m_slices_ContainsFunc_impl_Port_impl_Port d p = some (d.any q) := by
  obtain ⟨i, h1, h2⟩ := p_index_port d p q h
  simp -implicitDefEqProofs only [m_slices_ContainsFunc_impl_Port_impl_Port, h1, Option.bind_some, h2]
theorem p_valid1 {xs : List DAgent} {p : DPort} (h : hasPort xs p = true) : m_impl_ValidNet_1 p ⟨xs⟩ = some (badPort xs p) := by
  unfold m_impl_ValidNet_1 badPort
  rw [p_peer h, Option.bind_some, port_eq]
  by_cases h1 : peer xs p = p
  · simp [h1]
  · cases h2 : hasPort xs (peer xs p) with
    | false => simp [h1, p_hasPort, h2]
    | true => simp [h1, p_hasPort, h2, p_peer h2, port_eq]
theorem p_valid (d : DNet) (hs : Small d.agents) : m_impl_ValidNet d = some (validNet d) := by
  obtain ⟨xs⟩ := d
  have hs : Small xs := hs
  unfold m_impl_ValidNet
  rw [p_areAgents xs hs.ports', Option.bind_some]
  cases hag : agentsOk xs with
  | false =>
    rw [cond_false]
    cases hv : validNet ⟨xs⟩ with
    | false => rfl
    | true => rw [agentsOk_iff.2 (validNet_iff.1 hv).1] at hag; cases hag
  | true =>
    rw [cond_true, p_ports _ hs, Option.bind_some]
    have hc := p_contains_port (allPorts xs) (fun x0 => m_impl_ValidNet_1 x0 ⟨xs⟩) (badPort xs) (fun p hp => by
      obtain ⟨j, x, k, h1, h2, rfl⟩ := mem_portsFrom.1 hp
      have hh := hasPort_of h1 h2
      simp only [Nat.zero_add]
      exact p_valid1 hh)
    rw [hc, Option.bind_some]
    congr 1
    rw [Bool.eq_iff_iff, validNet_iff, Bool.not_eq_true', any_allPorts]
    exact ⟨fun h => ⟨agentsOk_iff.1 hag, h⟩, fun h => h.2⟩
end
section
open Go.RowKit
set_option linter.unusedVariables false
set_option linter.unusedSimpArgs false
/-- A loop that appends f k at index k. -/
theorem appI {α ρ : Type} {L : Nat → List α → Int → Option ρ} {f : Nat → List α} {n M : Nat} {K : List α → Option ρ} (h : ∀ g (k : Nat) acc, k < n → acc.length + (f k).length ≤ M → L (g + 1) acc (k : Int) = L g (acc ++ f k) ((k : Int) + 1)) (he : ∀ g acc, L (g + 1) acc (n : Int) = K acc) :
    ∀ (k0 : Nat) acc g, k0 ≤ n → n < g + k0 → acc.length + ((List.range' k0 (n - k0)).flatMap f).length ≤ M → L g acc (k0 : Int) = K (acc ++ (List.range' k0 (n - k0)).flatMap f) := by
  have key : ∀ d k0 acc g, k0 + d = n → d < g → acc.length + ((List.range' k0 d).flatMap f).length ≤ M → L g acc (k0 : Int) = K (acc ++ (List.range' k0 d).flatMap f) := by
    intro d
    induction d with
    | zero =>
      intro k0 acc g hk hg hM
      obtain ⟨g, rfl⟩ : ∃ g', g = g' + 1 := ⟨g - 1, by omega⟩
      obtain rfl : k0 = n := by omega
      rw [he g]; simp
    | succ d ih =>
      intro k0 acc g hk hg hM
      obtain ⟨g, rfl⟩ : ∃ g', g = g' + 1 := ⟨g - 1, by omega⟩
      rw [List.range'_succ, List.flatMap_cons, List.length_append] at hM
      rw [h g k0 acc (by omega) (by omega)]
      have := ih (k0 + 1) (acc ++ f k0) g (by omega) (by omega) (by rw [List.length_append]; omega)
      rw [List.range'_succ, List.flatMap_cons, ← List.append_assoc]
      simpa using this
  intro k0 acc g hk hg hM
  exact key (n - k0) k0 acc g (by omega) (by omega) hM
theorem portsOf_kind {k f : Int} (h : 0 < portsOf k f) : 1 ≤ k ∧ k ≤ 12 := by
  unfold portsOf at h
  split at h
  · omega
  · split at h
    · omega
    · split at h
      · omega
      · split at h
        · omega
        · split at h <;> omega
structure Good (xs : List DAgent) : Prop where
  one : 1 ≤ xs.length
  len : xs.length ≤ 600
  ok : ∀ (i : Nat) (x : DAgent), xs[i]? = some x → agentOk x = true
  root : ∀ (i : Nat) (x : DAgent), xs[i]? = some x → (x.kind = 1 ↔ i = 0)
  ports : PortsOk xs
theorem good {d : DNet} (h : validNet d = true) : Good d.agents := by
  obtain ⟨⟨h1, h2, h3⟩, h4⟩ := validNet_iff.1 h
  exact ⟨h1, h2, fun i x hx => (h3 i x hx).1, fun i x hx => by have := (h3 i x hx).2; simpa using this, h4⟩
theorem agentOk_pos {x : DAgent} (h : agentOk x = true) : 0 < x.ports.length ∧ 1 ≤ x.kind ∧ x.kind ≤ 12 := by
  unfold agentOk at h
  simp only [Bool.and_eq_true, decide_eq_true_eq] at h
  have := portsOf_kind h.1.1.1
  omega
theorem Good.pos {xs : List DAgent} (G : Good xs) {i : Nat} {x : DAgent} (hx : xs[i]? = some x) : 0 < x.ports.length := (agentOk_pos (G.ok i x hx)).1
def pairAt (xs : List DAgent) (i : Nat) : List DPair :=
  let x := agentAt xs i
  let q := peer xs ⟨i, 0⟩
  if q.slot = 0 ∧ (i : Int) < q.agent ∧ x.kind ≠ 1 then [⟨i, q.agent⟩] else []
theorem pairAt_le (xs : List DAgent) (i : Nat) : (pairAt xs i).length ≤ 1 := by
  unfold pairAt; simp only; split <;> simp
theorem flat_le {α β : Type} {f : α → List β} (h : ∀ a, (f a).length ≤ 1) : ∀ l : List α, (l.flatMap f).length ≤ l.length
  | [] => by simp
  | a :: l => by have := flat_le h l; have := h a; simp only [List.flatMap_cons, List.length_append, List.length_cons]; omega
theorem pairAt_eq {xs : List DAgent} {i : Nat} {x : DAgent} {q : DPort} (hx : xs[i]? = some x) (hq : x.ports[0]? = some q) : pairAt xs i = if q.slot = 0 ∧ (i : Int) < q.agent ∧ x.kind ≠ 1 then [⟨i, q.agent⟩] else [] := by
  unfold pairAt
  simp only [agentAt_nat hx]
  have : peer xs ⟨(i : Int), 0⟩ = q := peer_of (k := 0) hx hq
  rw [this]
def pairsOf (xs : List DAgent) : List DPair := (List.range' 0 xs.length).flatMap (pairAt xs)
theorem pairs_one {xs : List DAgent} (G : Good xs) : pairsOf xs = (List.range' 1 (xs.length - 1)).flatMap (pairAt xs) := by
  have h1 := G.one
  obtain ⟨n, hn⟩ : ∃ n, xs.length = n + 1 := ⟨xs.length - 1, by omega⟩
  have hx := List.getElem?_eq_getElem (show 0 < xs.length by omega)
  have hk := (G.root 0 _ hx).2 rfl
  have h0 : pairAt xs 0 = [] := by
    rw [pairAt_eq hx (List.getElem?_eq_getElem (G.pos hx))]
    simp [hk]
  unfold pairsOf
  rw [hn, List.range'_succ, List.flatMap_cons, h0]
  simp
theorem p_sPairs {d : DNet} (G : Good d.agents) : m_spec_l11Pairs d = some (pairsOf d.agents) := by
  obtain ⟨xs⟩ := d
  have G : Good xs := G
  have h1 := G.one
  have hl := G.len
  unfold m_spec_l11Pairs
  rw [pairs_one G]
  have key := appI (L := fun g acc (i : Int) => m_spec_l11Pairs_L1 ⟨xs⟩ m_spec_l11Pairs_A1 g acc (i + 1)) (f := fun k => pairAt xs (k + 1)) (n := xs.length - 1) (M := 4294967296) (K := some)
    (fun g k acc hk hM => by
      have hk1 : k + 1 < xs.length := by omega
      have hx := List.getElem?_eq_getElem hk1
      have hp := G.pos hx
      have hq := List.getElem?_eq_getElem hp
      have hr : xs[k + 1].kind ≠ 1 := fun h => by have := (G.root _ _ hx).1 h; omega
      have h0 : (xs[k + 1].kind == 0) = false := by have := agentOk_pos (G.ok _ _ hx); simp; omega
      have e1 : getI xs ((k : Int) + 1) = some xs[k + 1] := getI_nat (k := k + 1) hx
      have e2 : getI xs[k + 1].ports 0 = some xs[k + 1].ports[0] := getI_nat (k := 0) hq
      have e0 : decide ((k : Int) + 1 < (xs.length : Int)) = true := by simp; omega
      rw [pairAt_eq hx hq] at hM ⊢
      generalize xs[k + 1].ports[0] = q at *
      simp -implicitDefEqProofs only [m_spec_l11Pairs_L1, m_spec_l11Pairs_B1, e0, cond_true, e1, e2, Option.bind_some, h0, cond_false]
      by_cases c1 : q.slot = 0
      · by_cases c2 : (k : Int) + 1 < q.agent
        · have c2' : ((k + 1 : Nat) : Int) < q.agent := by omega
          rw [if_pos ⟨c1, c2', hr⟩] at hM ⊢
          rw [show (q.slot == 0) = true by simpa using c1, show decide (q.agent > (k : Int) + 1) = true by simpa using c2, cond_true, cond_true, mustP_ok (by simpa using hM), Option.bind_some]
          simp only [Int.natCast_add, Int.cast_ofNat_Int]
        · have c2' : ¬ ((k + 1 : Nat) : Int) < q.agent := by omega
          rw [if_neg (fun h => c2' h.2.1), show (q.slot == 0) = true by simpa using c1, show decide (q.agent > (k : Int) + 1) = false by simpa using c2, cond_true, cond_false, List.append_nil]
      · rw [if_neg (fun h => c1 h.1), show (q.slot == 0) = false by simpa using c1, cond_false, List.append_nil])
    (fun g acc => by
      have e0 : decide (((xs.length - 1 : Nat) : Int) + 1 < (xs.length : Int)) = false := by simp; omega
      simp -implicitDefEqProofs only [m_spec_l11Pairs_L1, m_spec_l11Pairs_B1, e0, cond_false, m_spec_l11Pairs_A1])
    0 [] (xs.length + 1) (by omega) (by omega) (by
      have := flat_le (f := fun k => pairAt xs (k + 1)) (fun k => pairAt_le xs (k + 1)) (List.range' 0 (xs.length - 1 - 0))
      rw [List.length_range'] at this
      simp only [List.length_nil]; omega)
  have e : (List.range' 0 (xs.length - 1 - 0)).flatMap (fun k => pairAt xs (k + 1)) = (List.range' 1 (xs.length - 1)).flatMap (pairAt xs) := by
    have : List.range' 1 (xs.length - 1) = (List.range' 0 (xs.length - 1)).map (· + 1) := by rw [List.range'_eq_map_range, List.range_eq_range']; exact List.map_congr_left fun k _ => Nat.add_comm 1 k
    rw [this, List.flatMap_map]; rfl
  rw [e] at key
  simpa using key
theorem p_iPairs {d : DNet} (G : Good d.agents) : m_impl_Net_pairs d = some (pairsOf d.agents) := by
  obtain ⟨xs⟩ := d
  have G : Good xs := G
  have hl := G.len
  unfold m_impl_Net_pairs
  have key := appI (L := m_impl_Net_pairs_L1 ⟨xs⟩ m_impl_Net_pairs_A1) (f := pairAt xs) (n := xs.length) (M := 4294967296) (K := some)
    (fun g k acc hk hM => by
      have hx := List.getElem?_eq_getElem hk
      have hp := G.pos hx
      have hq := List.getElem?_eq_getElem hp
      have e2 : getI xs[k].ports 0 = some xs[k].ports[0] := getI_nat (k := 0) hq
      rw [pairAt_eq hx hq] at hM ⊢
      generalize xs[k].ports[0] = q at *
      simp -implicitDefEqProofs only [m_impl_Net_pairs_L1, m_impl_Net_pairs_B1, dlt hk, cond_true, getI_lt hk, e2, Option.bind_some]
      by_cases c1 : q.slot = 0
      · by_cases c2 : (k : Int) < q.agent
        · by_cases c3 : xs[k].kind = 1
          · rw [if_neg (fun h => h.2.2 c3), show (q.slot == 0) = true by simpa using c1, show decide (q.agent > (k : Int)) = true by simpa using c2, show (xs[k].kind != 1) = false by simpa using c3, cond_true, cond_true, cond_false, List.append_nil]
          · rw [if_pos ⟨c1, c2, c3⟩] at hM ⊢
            rw [show (q.slot == 0) = true by simpa using c1, show decide (q.agent > (k : Int)) = true by simpa using c2, show (xs[k].kind != 1) = true by simpa using c3, cond_true, cond_true, cond_true, mustP_ok (by simpa using hM), Option.bind_some]
        · rw [if_neg (fun h => c2 h.2.1), show (q.slot == 0) = true by simpa using c1, show decide (q.agent > (k : Int)) = false by simpa using c2, cond_true, cond_false, List.append_nil]
      · rw [if_neg (fun h => c1 h.1), show (q.slot == 0) = false by simpa using c1, cond_false, List.append_nil])
    (fun g acc => by
      simp -implicitDefEqProofs only [m_impl_Net_pairs_L1, m_impl_Net_pairs_B1, dge, cond_false, m_impl_Net_pairs_A1])
    0 [] (xs.length + 1) (by omega) (by omega) (by
      have := flat_le (f := pairAt xs) (fun k => pairAt_le xs k) (List.range' 0 (xs.length - 0))
      rw [List.length_range'] at this
      simp only [List.length_nil]; omega)
  simpa [pairsOf] using key
def before (p q : DPort) : Bool := decide (p.agent < q.agent) || (p.agent == q.agent && decide (p.slot < q.slot))
end
section
open Go.RowKit
set_option linter.unusedVariables false
set_option linter.unusedSimpArgs false
inductive OT where
  | nil | q (i : Nat) (r : OT) | a (i : Nat) (r : OT) | two (i : Nat) (r1 : OT) (j : Nat) (r2 : OT)
def OT.len : OT → Nat
  | .nil => 0
  | .q _ r => r.len + 1
  | .a _ r => r.len + 1
  | .two _ r1 _ _ => r1.len + 1
section
variable {P : Program} {ops : Array Oper} {S : World → Prop}
def ActAt (P : Program) (ops : Array Oper) (K : (Nat → Value) → World → Prop) (i : Nat) (f : Nat → Value) (w : World) : Prop :=
  match ops[i]? with
  | none => False
  | some o => (wantF f ops o = true ∧ OpX P (fun v w' => K (upo f o.dst v) w') ((execOp (ev f) o).run P w)) ∨ (wantF f ops o = false ∧ K (upo f o.dst undef) w)
def RT (P : Program) (ops : Array Oper) (S : World → Prop) (Q : (Nat → Value) → World → Prop) : OT → (Nat → Value) → World → Prop
  | .nil, f, w => Q f w
  | .q i r, f, w => match ops[i]? with
    | none => False
    | some o => ∃ v, ((wantF f ops o = true ∧ ∀ w, S w → (execOp (ev f) o).run P w = .ok (.value v) w) ∨ (wantF f ops o = false ∧ v = undef)) ∧ RT P ops S Q r (upo f o.dst v) w
  | .a i r, f, w => ActAt P ops (fun f' w' => S w' ∧ RT P ops S Q r f' w') i f w
  | .two i r1 j r2, f, w => ActAt P ops (fun f' w' => S w' ∧ RT P ops S Q r1 f' w') i f w ∧ ActAt P ops (fun f' w' => S w' ∧ RT P ops S Q r2 f' w') j f w
def ordT (ops : Array Oper) : OT → Array Bool → Bool
  | .nil, listed => (Region.ready .any ops listed).isEmpty
  | .q i r, listed => (Region.ready .any ops listed).contains i && Region.free .any ops listed i && ordT ops r (listed.setIfInBounds i true)
  | .a i r, listed => decide (Region.ready .any ops listed = [i]) && ordT ops r (listed.setIfInBounds i true)
  | .two i r1 j r2, listed => decide (Region.ready .any ops listed = [i, j]) && ordT ops r1 (listed.setIfInBounds i true) && ordT ops r2 (listed.setIfInBounds j true) && decide (r1.len = r2.len)
theorem actAt_op {n : Nat} {Q' : Exit → Act → World → Prop} (hok : ∀ (i : Nat) (o : Oper), ops[i]? = some o → okOp n ops o = true) {K : (Nat → Value) → World → Prop} {m : Nat} {listed : Array Bool} {f : Nat → Value} {w : World} {j : Nat}
    (hK : ∀ f w, K f w → S w ∧ wpAnyH P .any ops Q' S m (listed.setIfInBounds j true) (Fr n f) w) (h : ActAt P ops K j f w) :
    wpOp P ops Q' j (fun a w' => S w' ∧ wpAnyH P .any ops Q' S m (listed.setIfInBounds j true) a w') (Fr n f) w := by
  unfold ActAt at h
  cases ho : ops[j]? with
  | none => rw [ho] at h; exact h.elim
  | some o =>
    rw [ho] at h
    have hk := hok j o ho
    unfold wpOp
    rw [ho]
    simp only
    rw [Fr_wanted hk]
    have key : ∀ v w', K (upo f o.dst v) w' → S w' ∧ wpAnyH P .any ops Q' S m (listed.setIfInBounds j true) ((Fr n f).put o.dst v) w' := fun v w' h1 => by
      rw [Fr_put]; exact hK _ _ h1
    rcases h with ⟨hw, h⟩ | ⟨hw, h1⟩
    · rw [hw, if_pos rfl]
      left
      unfold Oper.wp
      rw [Fr_exec hk]
      refine OpX_wp ?_
      revert h
      generalize (execOp (ev f) o).run P w = r
      intro h
      cases r with
      | ok nx w' =>
        cases nx <;> simp only [OpX] at h ⊢ <;> try exact key _ _ h
        case enter g args => exact h.mono fun e w'' ⟨v, he, hk⟩ => ⟨v, he, key _ _ hk⟩
      | halt x w' => simp only [OpX] at h
    · rw [hw, if_neg (by decide)]
      exact key _ _ h1
theorem RT_H {n : Nat} {Q : (Nat → Value) → World → Prop} {Q' : Exit → Act → World → Prop} (hQ : ∀ f w, Q f w → Q' .normal (Fr n f) w) (hP : ∀ c a w, ¬ Q' (.panic c) a w) (hsel : Region.noSelect ops = true) (hok : ∀ (i : Nat) (o : Oper), ops[i]? = some o → okOp n ops o = true) :
    ∀ (l : OT) (listed : Array Bool) (f : Nat → Value) (w : World), ordT ops l listed = true → S w → RT P ops S Q l f w → wpAnyH P .any ops Q' S l.len listed (Fr n f) w
  | .nil, listed, f, w, hB, hS, h => ⟨by simpa [ordT] using hB, hQ f w h⟩
  | .q i rest, listed, f, w, hB, hS, h => by
    simp only [ordT, Bool.and_eq_true] at hB
    obtain ⟨⟨hr, hf⟩, hB⟩ := hB
    unfold RT at h
    cases ho : ops[i]? with
    | none => rw [ho] at h; exact h.elim
    | some o =>
      rw [ho] at h
      obtain ⟨v, h1, h2⟩ := h
      have hk := hok i o ho
      refine wpAnyH_take ho hsel hf hr (fun c a w h => absurd h (hP c _ w)) ?_ hS (v := v) ?_
      · rcases h1 with ⟨hw, h1⟩ | ⟨hw, e⟩
        · exact .inl ⟨by rw [Fr_wanted hk]; exact hw, fun w hw' => by rw [Fr_exec hk]; exact h1 w hw'⟩
        · exact .inr ⟨by rw [Fr_wanted hk]; exact hw, e⟩
      · rw [Fr_put]
        exact RT_H hQ hP hsel hok rest _ _ w hB hS h2
  | .a i rest, listed, f, w, hB, hS, h => by
    simp only [ordT, Bool.and_eq_true, decide_eq_true_eq] at hB
    obtain ⟨hr, hB⟩ := hB
    refine wpAnyH_all hr (by simp) fun j hj => ?_
    obtain rfl : j = i := by simpa using hj
    exact actAt_op hok (fun f w ⟨h1, h2⟩ => ⟨h1, RT_H hQ hP hsel hok rest _ _ w hB h1 h2⟩) h
  | .two i r1 j r2, listed, f, w, hB, hS, h => by
    simp only [ordT, Bool.and_eq_true, decide_eq_true_eq] at hB
    obtain ⟨⟨⟨hr, hB1⟩, hB2⟩, hl⟩ := hB
    refine wpAnyH_all hr (by simp) fun k hk => ?_
    have hk : k = i ∨ k = j := by simpa using hk
    rcases hk with rfl | rfl
    · exact actAt_op hok (fun f w ⟨h1, h2⟩ => ⟨h1, RT_H hQ hP hsel hok r1 _ _ w hB1 h1 h2⟩) h.1
    · refine actAt_op hok (fun f w ⟨h1, h2⟩ => ⟨h1, ?_⟩) h.2
      rw [hl]
      exact RT_H hQ hP hsel hok r2 _ _ w hB2 h1 h2
theorem wp_rgt {id n : Nat} {l : List Oper} {f : Nat → Value} {w : World} {Q : Exit → Act → World → Prop} (S : World → Prop) (ord : OT) (hm : P.follows .mixedOrders = true)
    (hin : (okAll n l && Region.noSelect l.toArray && decide (ord.len = l.length) && ordT l.toArray ord (Array.replicate l.length false)) = true)
    (h : ∀ w1, Below w.heap.size w w1 → w1.heap.size = w.heap.size → S w1 ∧ RT P l.toArray S (fun f' w' => Q .normal (Fr n f') w') ord f w1) : (Code.region id l.toArray true).wp P Q (Fr n f) w := by
  simp only [Bool.and_eq_true, decide_eq_true_eq] at hin
  obtain ⟨⟨⟨h1, h2⟩, h3⟩, h4⟩ := hin
  refine Code.wp_mono (Q := noP Q) (fun e a w hq => by cases e <;> first | exact hq | exact hq.elim) ?_
  refine wp_region_held (S := S) hm ?_
  obtain ⟨hS, hR⟩ := h { w with drawn := w.drawn + 1 } ⟨rfl, rfl, rfl, Nat.le_refl _, fun _ _ => rfl⟩ rfl
  have := RT_H (Q' := noP Q) (n := n) (fun f w h => h) (fun c a w h => h) h2 (fun i o ho => List.all_eq_true.1 h1 o (by
    have : l[i]? = some o := by simpa using ho
    exact List.mem_of_getElem? this)) ord _ f _ h4 hS hR
  rw [h3] at this
  simpa using this
variable {Q : (Nat → Value) → World → Prop} {rest r2 : OT} {f : Nat → Value} {w : World} {i j : Nat} {o o2 : Oper}
theorem RT.nil_ (h : Q f w) : RT P ops S Q .nil f w := h
theorem RT.y {v : Value} (ho : ops[i]? = some o) (hg : wantF f ops o = true) (hy : Y P S f o v) (h : RT P ops S Q rest (upo f o.dst v) w) : RT P ops S Q (.q i rest) f w := by
  unfold RT; rw [ho]; exact ⟨v, .inl ⟨hg, hy⟩, h⟩
theorem RT.skip (ho : ops[i]? = some o) (hg : wantF f ops o = false) (h : RT P ops S Q rest (upo f o.dst undef) w) : RT P ops S Q (.q i rest) f w := by
  unfold RT; rw [ho]; exact ⟨undef, .inr ⟨hg, rfl⟩, h⟩
theorem ActAt.of {K : (Nat → Value) → World → Prop} (ho : ops[i]? = some o) (h : RL P ops K [o] f w) : ActAt P ops K i f w := by
  unfold ActAt
  rw [ho]
  unfold RL at h
  exact h
theorem RT.act (ho : ops[i]? = some o) (h : RL P ops (fun f' w' => S w' ∧ RT P ops S Q rest f' w') [o] f w) : RT P ops S Q (.a i rest) f w := ActAt.of ho h
theorem RT.both (ho : ops[i]? = some o) (ho2 : ops[j]? = some o2) (h : RL P ops (fun f' w' => S w' ∧ RT P ops S Q rest f' w') [o] f w) (h2 : RL P ops (fun f' w' => S w' ∧ RT P ops S Q r2 f' w') [o2] f w) : RT P ops S Q (.two i rest j r2) f w :=
  ⟨ActAt.of ho h, ActAt.of ho2 h2⟩
end
end
section
open Go.RowKit
set_option linter.unusedVariables false
set_option linter.unusedSimpArgs false
set_option maxRecDepth 100000
def m_spec_l13Class (d0 : DAgent) (d1 : DAgent) : Option Int :=
  (bif (d0.kind == 9) then (bif (d1.kind == 10) then (bif (decide (d0.value ≥ (d1.data.length : Int))) then some 8 else (bif (d0.kind == 10) then (bif (d1.kind == 9) then (bif (decide (d1.value ≥ (d0.data.length : Int))) then some 8 else some (pairClass d0.kind d0.level d1.kind d1.level)) else some (pairClass d0.kind d0.level d1.kind d1.level)) else some (pairClass d0.kind d0.level d1.kind d1.level))) else (bif (d0.kind == 10) then (bif (d1.kind == 9) then (bif (decide (d1.value ≥ (d0.data.length : Int))) then some 8 else some (pairClass d0.kind d0.level d1.kind d1.level)) else some (pairClass d0.kind d0.level d1.kind d1.level)) else some (pairClass d0.kind d0.level d1.kind d1.level))) else (bif (d0.kind == 10) then (bif (d1.kind == 9) then (bif (decide (d1.value ≥ (d0.data.length : Int))) then some 8 else some (pairClass d0.kind d0.level d1.kind d1.level)) else some (pairClass d0.kind d0.level d1.kind d1.level)) else some (pairClass d0.kind d0.level d1.kind d1.level)))
set_option maxHeartbeats 2000000 in
theorem c_m_spec_l13Class (d0 : DAgent) (d1 : DAgent) (r : Int) (hm : m_spec_l13Class d0 d1 = some r) (v0 : Value) (v1 : Value) (w : World) (hv0 : Pt agentRd w v0 d0) (hv1 : Pt agentRd w v1 d1) :
    Calls Try.prog 61 #[v0, v1] w fun e w' => e = .returned (.int .i64 r) ∧ Below w.heap.size w w' := by
  obtain ⟨ba0, oa0, csa0, rfl, hba0, hRa0, hca0⟩ := hv0
  have hSa0 := hRa0
  obtain ⟨A1, n1, c1, A2, n2, c2, rfl, ⟨h1, r1⟩, ⟨h2, r2⟩⟩ := hRa0
  have e1 := h1.len; subst e1
  have q1 := len_le r1
  have e2 := h2.len; subst e2
  have q2 := len_le r2
  obtain ⟨ba1, oa1, csa1, rfl, hba1, hRa1, hca1⟩ := hv1
  have hSa1 := hRa1
  obtain ⟨A3, n3, c3, A4, n4, c4, rfl, ⟨h3, r3⟩, ⟨h4, r4⟩⟩ := hRa1
  have e3 := h3.len; subst e3
  have q3 := len_le r3
  have e4 := h4.len; subst e4
  have q4 := len_le r4
  have T := Below.refl w.heap.size w
  unfold m_spec_l13Class at hm
  refine enter 70 Try.func61 rfl rfl rfl ?_
  intro f hf
  have s0 : f 0 = .pointer (some ⟨ba0, oa0, none⟩) := hf 0 _ rfl
  have s1 : f 1 = .pointer (some ⟨ba1, oa1, none⟩) := hf 1 _ rfl
  refine wp_seq ?_
  refine wp_rs rfl ?_
  refine RQ.y rfl (Y.assign (v := .int .i64 0) rfl) ?_
  refine RQ.nil ?_
  refine then_n ?_
  refine wp_seq ?_
  refine wp_seq ?_
  refine wp_rbd (by kernel_rfl) (by kernel_rfl) ?_
  refine RQ.y rfl (Y.move (v := .pointer (some ⟨ba0, oa0, none⟩)) s0) ?_
  refine RQ.y rfl (Y.nilCheck rfl) ?_
  refine RQ.y rfl (Y.fieldAddr (off := 0) rfl (by kernel_rfl)) ?_
  refine RQ.y rfl (Y.load (v := .int .i64 d0.kind) rfl (by kernel_rfl) (beC (cellT T (hca0 0 _ rfl)))) ?_
  refine RQ.y rfl (Y.binI (v := .bool (d0.kind == 9)) rfl rfl rfl) ?_
  refine RQ.y rfl (Y.move (v := .bool (d0.kind == 9)) rfl) ?_
  rcases bcases (d0.kind == 9) with c5 | c5
  · replace hm := cF c5 hm
    refine RQ.skip (wantN (dj := 10) rfl (vb rfl c5) rfl) ?_
    refine RQ.skip (wantN (dj := 10) rfl (vb rfl c5) rfl) ?_
    refine RQ.skip (wantN (dj := 10) rfl (vb rfl c5) rfl) ?_
    refine RQ.skip (wantN (dj := 10) rfl (vb rfl c5) rfl) ?_
    refine RQ.skip (wantN (dj := 10) rfl (vb rfl c5) rfl) ?_
    refine RQ.y rfl (Y.pick (b := false) (v := .bool false) (vb rfl c5) rfl) ?_
    refine RQ.y rfl (Y.move (v := .bool false) rfl) ?_
    refine RQ.skip (wantN (dj := 17) rfl rfl rfl) ?_
    refine RQ.skip (wantN (dj := 17) rfl rfl rfl) ?_
    refine RQ.skip (wantN (dj := 17) rfl rfl rfl) ?_
    refine RQ.skip (wantN (dj := 17) rfl rfl rfl) ?_
    refine RQ.skip (wantN (dj := 17) rfl rfl rfl) ?_
    refine RQ.skip (wantN (dj := 17) rfl rfl rfl) ?_
    refine RQ.skip (wantN (dj := 17) rfl rfl rfl) ?_
    refine RQ.skip (wantN (dj := 17) rfl rfl rfl) ?_
    refine RQ.skip (wantN (dj := 17) rfl rfl rfl) ?_
    refine RQ.skip (wantN (dj := 17) rfl rfl rfl) ?_
    refine RQ.y rfl (Y.pick (b := false) (v := .bool false) rfl rfl) ?_
    refine RQ.nil ?_
    intro w6 hb7
    have szw6 := hb7.size
    have T := Tt T hb7
    refine then_n ?_
    refine cond_f rfl rfl ?_
    refine wp_skip ?_
    refine then_n ?_
    refine wp_seq ?_
    refine wp_seq ?_
    refine wp_rbd (by kernel_rfl) (by kernel_rfl) ?_
    refine RQ.y rfl (Y.move (v := .pointer (some ⟨ba0, oa0, none⟩)) s0) ?_
    refine RQ.y rfl (Y.nilCheck rfl) ?_
    refine RQ.y rfl (Y.fieldAddr (off := 0) rfl (by kernel_rfl)) ?_
    refine RQ.y rfl (Y.load (v := .int .i64 d0.kind) rfl (by kernel_rfl) (beC (cellT T (hca0 0 _ rfl)))) ?_
    refine RQ.y rfl (Y.binI (v := .bool (d0.kind == 10)) rfl rfl rfl) ?_
    refine RQ.y rfl (Y.move (v := .bool (d0.kind == 10)) rfl) ?_
    rcases bcases (d0.kind == 10) with c8 | c8
    · replace hm := cF c8 hm
      refine RQ.skip (wantN (dj := 34) rfl (vb rfl c8) rfl) ?_
      refine RQ.skip (wantN (dj := 34) rfl (vb rfl c8) rfl) ?_
      refine RQ.skip (wantN (dj := 34) rfl (vb rfl c8) rfl) ?_
      refine RQ.skip (wantN (dj := 34) rfl (vb rfl c8) rfl) ?_
      refine RQ.skip (wantN (dj := 34) rfl (vb rfl c8) rfl) ?_
      refine RQ.y rfl (Y.pick (b := false) (v := .bool false) (vb rfl c8) rfl) ?_
      refine RQ.y rfl (Y.move (v := .bool false) rfl) ?_
      refine RQ.skip (wantN (dj := 41) rfl rfl rfl) ?_
      refine RQ.skip (wantN (dj := 41) rfl rfl rfl) ?_
      refine RQ.skip (wantN (dj := 41) rfl rfl rfl) ?_
      refine RQ.skip (wantN (dj := 41) rfl rfl rfl) ?_
      refine RQ.skip (wantN (dj := 41) rfl rfl rfl) ?_
      refine RQ.skip (wantN (dj := 41) rfl rfl rfl) ?_
      refine RQ.skip (wantN (dj := 41) rfl rfl rfl) ?_
      refine RQ.skip (wantN (dj := 41) rfl rfl rfl) ?_
      refine RQ.skip (wantN (dj := 41) rfl rfl rfl) ?_
      refine RQ.skip (wantN (dj := 41) rfl rfl rfl) ?_
      refine RQ.y rfl (Y.pick (b := false) (v := .bool false) rfl rfl) ?_
      refine RQ.nil ?_
      intro w9 hb10
      have szw9 := hb10.size
      have T := Tt T hb10
      refine then_n ?_
      refine cond_f rfl rfl ?_
      refine wp_skip ?_
      refine then_n ?_
      refine wp_seq ?_
      refine wp_rbd (by kernel_rfl) (by kernel_rfl) ?_
      refine RQ.y rfl (Y.move (v := .pointer (some ⟨ba0, oa0, none⟩)) s0) ?_
      refine RQ.y rfl (Y.nilCheck rfl) ?_
      refine RQ.y rfl (Y.fieldAddr (off := 0) rfl (by kernel_rfl)) ?_
      refine RQ.y rfl (Y.load (v := .int .i64 d0.kind) rfl (by kernel_rfl) (beC (cellT T (hca0 0 _ rfl)))) ?_
      refine RQ.y rfl (Y.move (v := .pointer (some ⟨ba0, oa0, none⟩)) s0) ?_
      refine RQ.y rfl (Y.nilCheck rfl) ?_
      refine RQ.y rfl (Y.fieldAddr (off := 1) rfl (by kernel_rfl)) ?_
      refine RQ.y rfl (Y.load (v := .int .i64 d0.level) rfl (by kernel_rfl) (beC (cellT T (hca0 1 _ rfl)))) ?_
      refine RQ.y rfl (Y.move (v := .pointer (some ⟨ba1, oa1, none⟩)) s1) ?_
      refine RQ.y rfl (Y.nilCheck rfl) ?_
      refine RQ.y rfl (Y.fieldAddr (off := 0) rfl (by kernel_rfl)) ?_
      refine RQ.y rfl (Y.load (v := .int .i64 d1.kind) rfl (by kernel_rfl) (beC (cellT T (hca1 0 _ rfl)))) ?_
      refine RQ.y rfl (Y.move (v := .pointer (some ⟨ba1, oa1, none⟩)) s1) ?_
      refine RQ.y rfl (Y.nilCheck rfl) ?_
      refine RQ.y rfl (Y.fieldAddr (off := 1) rfl (by kernel_rfl)) ?_
      refine RQ.y rfl (Y.load (v := .int .i64 d1.level) rfl (by kernel_rfl) (beC (cellT T (hca1 1 _ rfl)))) ?_
      refine RQ.call rfl (am4 rfl rfl rfl rfl) (by kernel_rfl) (v := .int .i64 (pairClass d0.kind d0.level d1.kind d1.level)) (bel (K := fun _ => True) fun w' hb' => (callB (spec_PairClass d0.kind d0.level d1.kind d1.level w'))) ?_
      refine RQ.y rfl (Y.assign (v := .int .i64 (pairClass d0.kind d0.level d1.kind d1.level)) rfl) ?_
      refine RQ.nil ?_
      intro w11 hb12
      have szw11 := hb12.size
      have T := Tt T hb12
      refine then_n ?_
      refine wp_ret ?_
      obtain rfl := Option.some.inj hm
      exact (ret1 rfl rfl rfl ⟨rfl, T⟩)
    · replace hm := cT c8 hm
      refine RQ.y (wantT (dj := 34) rfl (vb rfl c8)) (Y.move (v := .pointer (some ⟨ba1, oa1, none⟩)) s1) ?_
      refine RQ.y (wantT (dj := 34) rfl (vb rfl c8)) (Y.nilCheck rfl) ?_
      refine RQ.y (wantT (dj := 34) rfl (vb rfl c8)) (Y.fieldAddr (off := 0) rfl (by kernel_rfl)) ?_
      refine RQ.y (wantT (dj := 34) rfl (vb rfl c8)) (Y.load (v := .int .i64 d1.kind) rfl (by kernel_rfl) (beC (cellT T (hca1 0 _ rfl)))) ?_
      refine RQ.y (wantT (dj := 34) rfl (vb rfl c8)) (Y.binI (v := .bool (d1.kind == 9)) rfl rfl rfl) ?_
      refine RQ.y rfl (Y.pick (b := true) (v := .bool (d1.kind == 9)) (vb rfl c8) rfl) ?_
      refine RQ.y rfl (Y.move (v := .bool (d1.kind == 9)) rfl) ?_
      rcases bcases (d1.kind == 9) with c13 | c13
      · replace hm := cF c13 hm
        refine RQ.skip (wantN (dj := 41) rfl (vb rfl c13) rfl) ?_
        refine RQ.skip (wantN (dj := 41) rfl (vb rfl c13) rfl) ?_
        refine RQ.skip (wantN (dj := 41) rfl (vb rfl c13) rfl) ?_
        refine RQ.skip (wantN (dj := 41) rfl (vb rfl c13) rfl) ?_
        refine RQ.skip (wantN (dj := 41) rfl (vb rfl c13) rfl) ?_
        refine RQ.skip (wantN (dj := 41) rfl (vb rfl c13) rfl) ?_
        refine RQ.skip (wantN (dj := 41) rfl (vb rfl c13) rfl) ?_
        refine RQ.skip (wantN (dj := 41) rfl (vb rfl c13) rfl) ?_
        refine RQ.skip (wantN (dj := 41) rfl (vb rfl c13) rfl) ?_
        refine RQ.skip (wantN (dj := 41) rfl (vb rfl c13) rfl) ?_
        refine RQ.y rfl (Y.pick (b := false) (v := .bool false) (vb rfl c13) rfl) ?_
        refine RQ.nil ?_
        intro w14 hb15
        have szw14 := hb15.size
        have T := Tt T hb15
        refine then_n ?_
        refine cond_f rfl rfl ?_
        refine wp_skip ?_
        refine then_n ?_
        refine wp_seq ?_
        refine wp_rbd (by kernel_rfl) (by kernel_rfl) ?_
        refine RQ.y rfl (Y.move (v := .pointer (some ⟨ba0, oa0, none⟩)) s0) ?_
        refine RQ.y rfl (Y.nilCheck rfl) ?_
        refine RQ.y rfl (Y.fieldAddr (off := 0) rfl (by kernel_rfl)) ?_
        refine RQ.y rfl (Y.load (v := .int .i64 d0.kind) rfl (by kernel_rfl) (beC (cellT T (hca0 0 _ rfl)))) ?_
        refine RQ.y rfl (Y.move (v := .pointer (some ⟨ba0, oa0, none⟩)) s0) ?_
        refine RQ.y rfl (Y.nilCheck rfl) ?_
        refine RQ.y rfl (Y.fieldAddr (off := 1) rfl (by kernel_rfl)) ?_
        refine RQ.y rfl (Y.load (v := .int .i64 d0.level) rfl (by kernel_rfl) (beC (cellT T (hca0 1 _ rfl)))) ?_
        refine RQ.y rfl (Y.move (v := .pointer (some ⟨ba1, oa1, none⟩)) s1) ?_
        refine RQ.y rfl (Y.nilCheck rfl) ?_
        refine RQ.y rfl (Y.fieldAddr (off := 0) rfl (by kernel_rfl)) ?_
        refine RQ.y rfl (Y.load (v := .int .i64 d1.kind) rfl (by kernel_rfl) (beC (cellT T (hca1 0 _ rfl)))) ?_
        refine RQ.y rfl (Y.move (v := .pointer (some ⟨ba1, oa1, none⟩)) s1) ?_
        refine RQ.y rfl (Y.nilCheck rfl) ?_
        refine RQ.y rfl (Y.fieldAddr (off := 1) rfl (by kernel_rfl)) ?_
        refine RQ.y rfl (Y.load (v := .int .i64 d1.level) rfl (by kernel_rfl) (beC (cellT T (hca1 1 _ rfl)))) ?_
        refine RQ.call rfl (am4 rfl rfl rfl rfl) (by kernel_rfl) (v := .int .i64 (pairClass d0.kind d0.level d1.kind d1.level)) (bel (K := fun _ => True) fun w' hb' => (callB (spec_PairClass d0.kind d0.level d1.kind d1.level w'))) ?_
        refine RQ.y rfl (Y.assign (v := .int .i64 (pairClass d0.kind d0.level d1.kind d1.level)) rfl) ?_
        refine RQ.nil ?_
        intro w16 hb17
        have szw16 := hb17.size
        have T := Tt T hb17
        refine then_n ?_
        refine wp_ret ?_
        obtain rfl := Option.some.inj hm
        exact (ret1 rfl rfl rfl ⟨rfl, T⟩)
      · replace hm := cT c13 hm
        refine RQ.y (wantT (dj := 41) rfl (vb rfl c13)) (Y.move (v := .pointer (some ⟨ba1, oa1, none⟩)) s1) ?_
        refine RQ.y (wantT (dj := 41) rfl (vb rfl c13)) (Y.nilCheck rfl) ?_
        refine RQ.y (wantT (dj := 41) rfl (vb rfl c13)) (Y.fieldAddr (off := 2) rfl (by kernel_rfl)) ?_
        refine RQ.y (wantT (dj := 41) rfl (vb rfl c13)) (Y.load (v := .int .i64 d1.value) rfl (by kernel_rfl) (beC (cellT T (hca1 2 _ rfl)))) ?_
        refine RQ.y (wantT (dj := 41) rfl (vb rfl c13)) (Y.move (v := .pointer (some ⟨ba0, oa0, none⟩)) s0) ?_
        refine RQ.y (wantT (dj := 41) rfl (vb rfl c13)) (Y.nilCheck rfl) ?_
        refine RQ.y (wantT (dj := 41) rfl (vb rfl c13)) (Y.fieldAddr (off := 3) rfl (by kernel_rfl)) ?_
        refine RQ.y (wantT (dj := 41) rfl (vb rfl c13)) (Y.load (v := .slice A1 d0.data.length c1) rfl (by kernel_rfl) (beC (cellT T (hca0 3 _ rfl)))) ?_
        refine RQ.y (wantT (dj := 41) rfl (vb rfl c13)) (Y.len (by kernel_rfl) rfl) ?_
        refine RQ.y (wantT (dj := 41) rfl (vb rfl c13)) (Y.binI (v := .bool (decide (d1.value ≥ (d0.data.length : Int)))) rfl rfl rfl) ?_
        refine RQ.y rfl (Y.pick (b := true) (v := .bool (decide (d1.value ≥ (d0.data.length : Int)))) (vb rfl c13) rfl) ?_
        refine RQ.nil ?_
        intro w18 hb19
        have szw18 := hb19.size
        have T := Tt T hb19
        refine then_n ?_
        rcases bcases (decide (d1.value ≥ (d0.data.length : Int))) with c20 | c20
        · replace hm := cF c20 hm
          have pc20 := of_decide_eq_false c20
          refine cond_f rfl (vb rfl c20) ?_
          refine wp_skip ?_
          refine then_n ?_
          refine wp_seq ?_
          refine wp_rbd (by kernel_rfl) (by kernel_rfl) ?_
          refine RQ.y rfl (Y.move (v := .pointer (some ⟨ba0, oa0, none⟩)) s0) ?_
          refine RQ.y rfl (Y.nilCheck rfl) ?_
          refine RQ.y rfl (Y.fieldAddr (off := 0) rfl (by kernel_rfl)) ?_
          refine RQ.y rfl (Y.load (v := .int .i64 d0.kind) rfl (by kernel_rfl) (beC (cellT T (hca0 0 _ rfl)))) ?_
          refine RQ.y rfl (Y.move (v := .pointer (some ⟨ba0, oa0, none⟩)) s0) ?_
          refine RQ.y rfl (Y.nilCheck rfl) ?_
          refine RQ.y rfl (Y.fieldAddr (off := 1) rfl (by kernel_rfl)) ?_
          refine RQ.y rfl (Y.load (v := .int .i64 d0.level) rfl (by kernel_rfl) (beC (cellT T (hca0 1 _ rfl)))) ?_
          refine RQ.y rfl (Y.move (v := .pointer (some ⟨ba1, oa1, none⟩)) s1) ?_
          refine RQ.y rfl (Y.nilCheck rfl) ?_
          refine RQ.y rfl (Y.fieldAddr (off := 0) rfl (by kernel_rfl)) ?_
          refine RQ.y rfl (Y.load (v := .int .i64 d1.kind) rfl (by kernel_rfl) (beC (cellT T (hca1 0 _ rfl)))) ?_
          refine RQ.y rfl (Y.move (v := .pointer (some ⟨ba1, oa1, none⟩)) s1) ?_
          refine RQ.y rfl (Y.nilCheck rfl) ?_
          refine RQ.y rfl (Y.fieldAddr (off := 1) rfl (by kernel_rfl)) ?_
          refine RQ.y rfl (Y.load (v := .int .i64 d1.level) rfl (by kernel_rfl) (beC (cellT T (hca1 1 _ rfl)))) ?_
          refine RQ.call rfl (am4 rfl rfl rfl rfl) (by kernel_rfl) (v := .int .i64 (pairClass d0.kind d0.level d1.kind d1.level)) (bel (K := fun _ => True) fun w' hb' => (callB (spec_PairClass d0.kind d0.level d1.kind d1.level w'))) ?_
          refine RQ.y rfl (Y.assign (v := .int .i64 (pairClass d0.kind d0.level d1.kind d1.level)) rfl) ?_
          refine RQ.nil ?_
          intro w21 hb22
          have szw21 := hb22.size
          have T := Tt T hb22
          refine then_n ?_
          refine wp_ret ?_
          obtain rfl := Option.some.inj hm
          exact (ret1 rfl rfl rfl ⟨rfl, T⟩)
        · replace hm := cT c20 hm
          have pc20 := of_decide_eq_true c20
          refine cond_t rfl (vb rfl c20) ?_
          refine wp_seq ?_
          refine wp_rs rfl ?_
          refine RQ.y rfl (Y.assign (v := .int .i64 8) rfl) ?_
          refine RQ.nil ?_
          refine then_n ?_
          refine wp_ret ?_
          obtain rfl := Option.some.inj hm
          exact (then_r (ret1 rfl rfl rfl ⟨rfl, T⟩))
  · replace hm := cT c5 hm
    refine RQ.y (wantT (dj := 10) rfl (vb rfl c5)) (Y.move (v := .pointer (some ⟨ba1, oa1, none⟩)) s1) ?_
    refine RQ.y (wantT (dj := 10) rfl (vb rfl c5)) (Y.nilCheck rfl) ?_
    refine RQ.y (wantT (dj := 10) rfl (vb rfl c5)) (Y.fieldAddr (off := 0) rfl (by kernel_rfl)) ?_
    refine RQ.y (wantT (dj := 10) rfl (vb rfl c5)) (Y.load (v := .int .i64 d1.kind) rfl (by kernel_rfl) (beC (cellT T (hca1 0 _ rfl)))) ?_
    refine RQ.y (wantT (dj := 10) rfl (vb rfl c5)) (Y.binI (v := .bool (d1.kind == 10)) rfl rfl rfl) ?_
    refine RQ.y rfl (Y.pick (b := true) (v := .bool (d1.kind == 10)) (vb rfl c5) rfl) ?_
    refine RQ.y rfl (Y.move (v := .bool (d1.kind == 10)) rfl) ?_
    rcases bcases (d1.kind == 10) with c23 | c23
    · replace hm := cF c23 hm
      refine RQ.skip (wantN (dj := 17) rfl (vb rfl c23) rfl) ?_
      refine RQ.skip (wantN (dj := 17) rfl (vb rfl c23) rfl) ?_
      refine RQ.skip (wantN (dj := 17) rfl (vb rfl c23) rfl) ?_
      refine RQ.skip (wantN (dj := 17) rfl (vb rfl c23) rfl) ?_
      refine RQ.skip (wantN (dj := 17) rfl (vb rfl c23) rfl) ?_
      refine RQ.skip (wantN (dj := 17) rfl (vb rfl c23) rfl) ?_
      refine RQ.skip (wantN (dj := 17) rfl (vb rfl c23) rfl) ?_
      refine RQ.skip (wantN (dj := 17) rfl (vb rfl c23) rfl) ?_
      refine RQ.skip (wantN (dj := 17) rfl (vb rfl c23) rfl) ?_
      refine RQ.skip (wantN (dj := 17) rfl (vb rfl c23) rfl) ?_
      refine RQ.y rfl (Y.pick (b := false) (v := .bool false) (vb rfl c23) rfl) ?_
      refine RQ.nil ?_
      intro w24 hb25
      have szw24 := hb25.size
      have T := Tt T hb25
      refine then_n ?_
      refine cond_f rfl rfl ?_
      refine wp_skip ?_
      refine then_n ?_
      refine wp_seq ?_
      refine wp_seq ?_
      refine wp_rbd (by kernel_rfl) (by kernel_rfl) ?_
      refine RQ.y rfl (Y.move (v := .pointer (some ⟨ba0, oa0, none⟩)) s0) ?_
      refine RQ.y rfl (Y.nilCheck rfl) ?_
      refine RQ.y rfl (Y.fieldAddr (off := 0) rfl (by kernel_rfl)) ?_
      refine RQ.y rfl (Y.load (v := .int .i64 d0.kind) rfl (by kernel_rfl) (beC (cellT T (hca0 0 _ rfl)))) ?_
      refine RQ.y rfl (Y.binI (v := .bool (d0.kind == 10)) rfl rfl rfl) ?_
      refine RQ.y rfl (Y.move (v := .bool (d0.kind == 10)) rfl) ?_
      rcases bcases (d0.kind == 10) with c26 | c26
      · replace hm := cF c26 hm
        refine RQ.skip (wantN (dj := 34) rfl (vb rfl c26) rfl) ?_
        refine RQ.skip (wantN (dj := 34) rfl (vb rfl c26) rfl) ?_
        refine RQ.skip (wantN (dj := 34) rfl (vb rfl c26) rfl) ?_
        refine RQ.skip (wantN (dj := 34) rfl (vb rfl c26) rfl) ?_
        refine RQ.skip (wantN (dj := 34) rfl (vb rfl c26) rfl) ?_
        refine RQ.y rfl (Y.pick (b := false) (v := .bool false) (vb rfl c26) rfl) ?_
        refine RQ.y rfl (Y.move (v := .bool false) rfl) ?_
        refine RQ.skip (wantN (dj := 41) rfl rfl rfl) ?_
        refine RQ.skip (wantN (dj := 41) rfl rfl rfl) ?_
        refine RQ.skip (wantN (dj := 41) rfl rfl rfl) ?_
        refine RQ.skip (wantN (dj := 41) rfl rfl rfl) ?_
        refine RQ.skip (wantN (dj := 41) rfl rfl rfl) ?_
        refine RQ.skip (wantN (dj := 41) rfl rfl rfl) ?_
        refine RQ.skip (wantN (dj := 41) rfl rfl rfl) ?_
        refine RQ.skip (wantN (dj := 41) rfl rfl rfl) ?_
        refine RQ.skip (wantN (dj := 41) rfl rfl rfl) ?_
        refine RQ.skip (wantN (dj := 41) rfl rfl rfl) ?_
        refine RQ.y rfl (Y.pick (b := false) (v := .bool false) rfl rfl) ?_
        refine RQ.nil ?_
        intro w27 hb28
        have szw27 := hb28.size
        have T := Tt T hb28
        refine then_n ?_
        refine cond_f rfl rfl ?_
        refine wp_skip ?_
        refine then_n ?_
        refine wp_seq ?_
        refine wp_rbd (by kernel_rfl) (by kernel_rfl) ?_
        refine RQ.y rfl (Y.move (v := .pointer (some ⟨ba0, oa0, none⟩)) s0) ?_
        refine RQ.y rfl (Y.nilCheck rfl) ?_
        refine RQ.y rfl (Y.fieldAddr (off := 0) rfl (by kernel_rfl)) ?_
        refine RQ.y rfl (Y.load (v := .int .i64 d0.kind) rfl (by kernel_rfl) (beC (cellT T (hca0 0 _ rfl)))) ?_
        refine RQ.y rfl (Y.move (v := .pointer (some ⟨ba0, oa0, none⟩)) s0) ?_
        refine RQ.y rfl (Y.nilCheck rfl) ?_
        refine RQ.y rfl (Y.fieldAddr (off := 1) rfl (by kernel_rfl)) ?_
        refine RQ.y rfl (Y.load (v := .int .i64 d0.level) rfl (by kernel_rfl) (beC (cellT T (hca0 1 _ rfl)))) ?_
        refine RQ.y rfl (Y.move (v := .pointer (some ⟨ba1, oa1, none⟩)) s1) ?_
        refine RQ.y rfl (Y.nilCheck rfl) ?_
        refine RQ.y rfl (Y.fieldAddr (off := 0) rfl (by kernel_rfl)) ?_
        refine RQ.y rfl (Y.load (v := .int .i64 d1.kind) rfl (by kernel_rfl) (beC (cellT T (hca1 0 _ rfl)))) ?_
        refine RQ.y rfl (Y.move (v := .pointer (some ⟨ba1, oa1, none⟩)) s1) ?_
        refine RQ.y rfl (Y.nilCheck rfl) ?_
        refine RQ.y rfl (Y.fieldAddr (off := 1) rfl (by kernel_rfl)) ?_
        refine RQ.y rfl (Y.load (v := .int .i64 d1.level) rfl (by kernel_rfl) (beC (cellT T (hca1 1 _ rfl)))) ?_
        refine RQ.call rfl (am4 rfl rfl rfl rfl) (by kernel_rfl) (v := .int .i64 (pairClass d0.kind d0.level d1.kind d1.level)) (bel (K := fun _ => True) fun w' hb' => (callB (spec_PairClass d0.kind d0.level d1.kind d1.level w'))) ?_
        refine RQ.y rfl (Y.assign (v := .int .i64 (pairClass d0.kind d0.level d1.kind d1.level)) rfl) ?_
        refine RQ.nil ?_
        intro w29 hb30
        have szw29 := hb30.size
        have T := Tt T hb30
        refine then_n ?_
        refine wp_ret ?_
        obtain rfl := Option.some.inj hm
        exact (ret1 rfl rfl rfl ⟨rfl, T⟩)
      · replace hm := cT c26 hm
        refine RQ.y (wantT (dj := 34) rfl (vb rfl c26)) (Y.move (v := .pointer (some ⟨ba1, oa1, none⟩)) s1) ?_
        refine RQ.y (wantT (dj := 34) rfl (vb rfl c26)) (Y.nilCheck rfl) ?_
        refine RQ.y (wantT (dj := 34) rfl (vb rfl c26)) (Y.fieldAddr (off := 0) rfl (by kernel_rfl)) ?_
        refine RQ.y (wantT (dj := 34) rfl (vb rfl c26)) (Y.load (v := .int .i64 d1.kind) rfl (by kernel_rfl) (beC (cellT T (hca1 0 _ rfl)))) ?_
        refine RQ.y (wantT (dj := 34) rfl (vb rfl c26)) (Y.binI (v := .bool (d1.kind == 9)) rfl rfl rfl) ?_
        refine RQ.y rfl (Y.pick (b := true) (v := .bool (d1.kind == 9)) (vb rfl c26) rfl) ?_
        refine RQ.y rfl (Y.move (v := .bool (d1.kind == 9)) rfl) ?_
        rcases bcases (d1.kind == 9) with c31 | c31
        · replace hm := cF c31 hm
          refine RQ.skip (wantN (dj := 41) rfl (vb rfl c31) rfl) ?_
          refine RQ.skip (wantN (dj := 41) rfl (vb rfl c31) rfl) ?_
          refine RQ.skip (wantN (dj := 41) rfl (vb rfl c31) rfl) ?_
          refine RQ.skip (wantN (dj := 41) rfl (vb rfl c31) rfl) ?_
          refine RQ.skip (wantN (dj := 41) rfl (vb rfl c31) rfl) ?_
          refine RQ.skip (wantN (dj := 41) rfl (vb rfl c31) rfl) ?_
          refine RQ.skip (wantN (dj := 41) rfl (vb rfl c31) rfl) ?_
          refine RQ.skip (wantN (dj := 41) rfl (vb rfl c31) rfl) ?_
          refine RQ.skip (wantN (dj := 41) rfl (vb rfl c31) rfl) ?_
          refine RQ.skip (wantN (dj := 41) rfl (vb rfl c31) rfl) ?_
          refine RQ.y rfl (Y.pick (b := false) (v := .bool false) (vb rfl c31) rfl) ?_
          refine RQ.nil ?_
          intro w32 hb33
          have szw32 := hb33.size
          have T := Tt T hb33
          refine then_n ?_
          refine cond_f rfl rfl ?_
          refine wp_skip ?_
          refine then_n ?_
          refine wp_seq ?_
          refine wp_rbd (by kernel_rfl) (by kernel_rfl) ?_
          refine RQ.y rfl (Y.move (v := .pointer (some ⟨ba0, oa0, none⟩)) s0) ?_
          refine RQ.y rfl (Y.nilCheck rfl) ?_
          refine RQ.y rfl (Y.fieldAddr (off := 0) rfl (by kernel_rfl)) ?_
          refine RQ.y rfl (Y.load (v := .int .i64 d0.kind) rfl (by kernel_rfl) (beC (cellT T (hca0 0 _ rfl)))) ?_
          refine RQ.y rfl (Y.move (v := .pointer (some ⟨ba0, oa0, none⟩)) s0) ?_
          refine RQ.y rfl (Y.nilCheck rfl) ?_
          refine RQ.y rfl (Y.fieldAddr (off := 1) rfl (by kernel_rfl)) ?_
          refine RQ.y rfl (Y.load (v := .int .i64 d0.level) rfl (by kernel_rfl) (beC (cellT T (hca0 1 _ rfl)))) ?_
          refine RQ.y rfl (Y.move (v := .pointer (some ⟨ba1, oa1, none⟩)) s1) ?_
          refine RQ.y rfl (Y.nilCheck rfl) ?_
          refine RQ.y rfl (Y.fieldAddr (off := 0) rfl (by kernel_rfl)) ?_
          refine RQ.y rfl (Y.load (v := .int .i64 d1.kind) rfl (by kernel_rfl) (beC (cellT T (hca1 0 _ rfl)))) ?_
          refine RQ.y rfl (Y.move (v := .pointer (some ⟨ba1, oa1, none⟩)) s1) ?_
          refine RQ.y rfl (Y.nilCheck rfl) ?_
          refine RQ.y rfl (Y.fieldAddr (off := 1) rfl (by kernel_rfl)) ?_
          refine RQ.y rfl (Y.load (v := .int .i64 d1.level) rfl (by kernel_rfl) (beC (cellT T (hca1 1 _ rfl)))) ?_
          refine RQ.call rfl (am4 rfl rfl rfl rfl) (by kernel_rfl) (v := .int .i64 (pairClass d0.kind d0.level d1.kind d1.level)) (bel (K := fun _ => True) fun w' hb' => (callB (spec_PairClass d0.kind d0.level d1.kind d1.level w'))) ?_
          refine RQ.y rfl (Y.assign (v := .int .i64 (pairClass d0.kind d0.level d1.kind d1.level)) rfl) ?_
          refine RQ.nil ?_
          intro w34 hb35
          have szw34 := hb35.size
          have T := Tt T hb35
          refine then_n ?_
          refine wp_ret ?_
          obtain rfl := Option.some.inj hm
          exact (ret1 rfl rfl rfl ⟨rfl, T⟩)
        · replace hm := cT c31 hm
          refine RQ.y (wantT (dj := 41) rfl (vb rfl c31)) (Y.move (v := .pointer (some ⟨ba1, oa1, none⟩)) s1) ?_
          refine RQ.y (wantT (dj := 41) rfl (vb rfl c31)) (Y.nilCheck rfl) ?_
          refine RQ.y (wantT (dj := 41) rfl (vb rfl c31)) (Y.fieldAddr (off := 2) rfl (by kernel_rfl)) ?_
          refine RQ.y (wantT (dj := 41) rfl (vb rfl c31)) (Y.load (v := .int .i64 d1.value) rfl (by kernel_rfl) (beC (cellT T (hca1 2 _ rfl)))) ?_
          refine RQ.y (wantT (dj := 41) rfl (vb rfl c31)) (Y.move (v := .pointer (some ⟨ba0, oa0, none⟩)) s0) ?_
          refine RQ.y (wantT (dj := 41) rfl (vb rfl c31)) (Y.nilCheck rfl) ?_
          refine RQ.y (wantT (dj := 41) rfl (vb rfl c31)) (Y.fieldAddr (off := 3) rfl (by kernel_rfl)) ?_
          refine RQ.y (wantT (dj := 41) rfl (vb rfl c31)) (Y.load (v := .slice A1 d0.data.length c1) rfl (by kernel_rfl) (beC (cellT T (hca0 3 _ rfl)))) ?_
          refine RQ.y (wantT (dj := 41) rfl (vb rfl c31)) (Y.len (by kernel_rfl) rfl) ?_
          refine RQ.y (wantT (dj := 41) rfl (vb rfl c31)) (Y.binI (v := .bool (decide (d1.value ≥ (d0.data.length : Int)))) rfl rfl rfl) ?_
          refine RQ.y rfl (Y.pick (b := true) (v := .bool (decide (d1.value ≥ (d0.data.length : Int)))) (vb rfl c31) rfl) ?_
          refine RQ.nil ?_
          intro w36 hb37
          have szw36 := hb37.size
          have T := Tt T hb37
          refine then_n ?_
          rcases bcases (decide (d1.value ≥ (d0.data.length : Int))) with c38 | c38
          · replace hm := cF c38 hm
            have pc38 := of_decide_eq_false c38
            refine cond_f rfl (vb rfl c38) ?_
            refine wp_skip ?_
            refine then_n ?_
            refine wp_seq ?_
            refine wp_rbd (by kernel_rfl) (by kernel_rfl) ?_
            refine RQ.y rfl (Y.move (v := .pointer (some ⟨ba0, oa0, none⟩)) s0) ?_
            refine RQ.y rfl (Y.nilCheck rfl) ?_
            refine RQ.y rfl (Y.fieldAddr (off := 0) rfl (by kernel_rfl)) ?_
            refine RQ.y rfl (Y.load (v := .int .i64 d0.kind) rfl (by kernel_rfl) (beC (cellT T (hca0 0 _ rfl)))) ?_
            refine RQ.y rfl (Y.move (v := .pointer (some ⟨ba0, oa0, none⟩)) s0) ?_
            refine RQ.y rfl (Y.nilCheck rfl) ?_
            refine RQ.y rfl (Y.fieldAddr (off := 1) rfl (by kernel_rfl)) ?_
            refine RQ.y rfl (Y.load (v := .int .i64 d0.level) rfl (by kernel_rfl) (beC (cellT T (hca0 1 _ rfl)))) ?_
            refine RQ.y rfl (Y.move (v := .pointer (some ⟨ba1, oa1, none⟩)) s1) ?_
            refine RQ.y rfl (Y.nilCheck rfl) ?_
            refine RQ.y rfl (Y.fieldAddr (off := 0) rfl (by kernel_rfl)) ?_
            refine RQ.y rfl (Y.load (v := .int .i64 d1.kind) rfl (by kernel_rfl) (beC (cellT T (hca1 0 _ rfl)))) ?_
            refine RQ.y rfl (Y.move (v := .pointer (some ⟨ba1, oa1, none⟩)) s1) ?_
            refine RQ.y rfl (Y.nilCheck rfl) ?_
            refine RQ.y rfl (Y.fieldAddr (off := 1) rfl (by kernel_rfl)) ?_
            refine RQ.y rfl (Y.load (v := .int .i64 d1.level) rfl (by kernel_rfl) (beC (cellT T (hca1 1 _ rfl)))) ?_
            refine RQ.call rfl (am4 rfl rfl rfl rfl) (by kernel_rfl) (v := .int .i64 (pairClass d0.kind d0.level d1.kind d1.level)) (bel (K := fun _ => True) fun w' hb' => (callB (spec_PairClass d0.kind d0.level d1.kind d1.level w'))) ?_
            refine RQ.y rfl (Y.assign (v := .int .i64 (pairClass d0.kind d0.level d1.kind d1.level)) rfl) ?_
            refine RQ.nil ?_
            intro w39 hb40
            have szw39 := hb40.size
            have T := Tt T hb40
            refine then_n ?_
            refine wp_ret ?_
            obtain rfl := Option.some.inj hm
            exact (ret1 rfl rfl rfl ⟨rfl, T⟩)
          · replace hm := cT c38 hm
            have pc38 := of_decide_eq_true c38
            refine cond_t rfl (vb rfl c38) ?_
            refine wp_seq ?_
            refine wp_rs rfl ?_
            refine RQ.y rfl (Y.assign (v := .int .i64 8) rfl) ?_
            refine RQ.nil ?_
            refine then_n ?_
            refine wp_ret ?_
            obtain rfl := Option.some.inj hm
            exact (then_r (ret1 rfl rfl rfl ⟨rfl, T⟩))
    · replace hm := cT c23 hm
      refine RQ.y (wantT (dj := 17) rfl (vb rfl c23)) (Y.move (v := .pointer (some ⟨ba0, oa0, none⟩)) s0) ?_
      refine RQ.y (wantT (dj := 17) rfl (vb rfl c23)) (Y.nilCheck rfl) ?_
      refine RQ.y (wantT (dj := 17) rfl (vb rfl c23)) (Y.fieldAddr (off := 2) rfl (by kernel_rfl)) ?_
      refine RQ.y (wantT (dj := 17) rfl (vb rfl c23)) (Y.load (v := .int .i64 d0.value) rfl (by kernel_rfl) (beC (cellT T (hca0 2 _ rfl)))) ?_
      refine RQ.y (wantT (dj := 17) rfl (vb rfl c23)) (Y.move (v := .pointer (some ⟨ba1, oa1, none⟩)) s1) ?_
      refine RQ.y (wantT (dj := 17) rfl (vb rfl c23)) (Y.nilCheck rfl) ?_
      refine RQ.y (wantT (dj := 17) rfl (vb rfl c23)) (Y.fieldAddr (off := 3) rfl (by kernel_rfl)) ?_
      refine RQ.y (wantT (dj := 17) rfl (vb rfl c23)) (Y.load (v := .slice A3 d1.data.length c3) rfl (by kernel_rfl) (beC (cellT T (hca1 3 _ rfl)))) ?_
      refine RQ.y (wantT (dj := 17) rfl (vb rfl c23)) (Y.len (by kernel_rfl) rfl) ?_
      refine RQ.y (wantT (dj := 17) rfl (vb rfl c23)) (Y.binI (v := .bool (decide (d0.value ≥ (d1.data.length : Int)))) rfl rfl rfl) ?_
      refine RQ.y rfl (Y.pick (b := true) (v := .bool (decide (d0.value ≥ (d1.data.length : Int)))) (vb rfl c23) rfl) ?_
      refine RQ.nil ?_
      intro w41 hb42
      have szw41 := hb42.size
      have T := Tt T hb42
      refine then_n ?_
      rcases bcases (decide (d0.value ≥ (d1.data.length : Int))) with c43 | c43
      · replace hm := cF c43 hm
        have pc43 := of_decide_eq_false c43
        refine cond_f rfl (vb rfl c43) ?_
        refine wp_skip ?_
        refine then_n ?_
        refine wp_seq ?_
        refine wp_seq ?_
        refine wp_rbd (by kernel_rfl) (by kernel_rfl) ?_
        refine RQ.y rfl (Y.move (v := .pointer (some ⟨ba0, oa0, none⟩)) s0) ?_
        refine RQ.y rfl (Y.nilCheck rfl) ?_
        refine RQ.y rfl (Y.fieldAddr (off := 0) rfl (by kernel_rfl)) ?_
        refine RQ.y rfl (Y.load (v := .int .i64 d0.kind) rfl (by kernel_rfl) (beC (cellT T (hca0 0 _ rfl)))) ?_
        refine RQ.y rfl (Y.binI (v := .bool (d0.kind == 10)) rfl rfl rfl) ?_
        refine RQ.y rfl (Y.move (v := .bool (d0.kind == 10)) rfl) ?_
        rcases bcases (d0.kind == 10) with c44 | c44
        · replace hm := cF c44 hm
          refine RQ.skip (wantN (dj := 34) rfl (vb rfl c44) rfl) ?_
          refine RQ.skip (wantN (dj := 34) rfl (vb rfl c44) rfl) ?_
          refine RQ.skip (wantN (dj := 34) rfl (vb rfl c44) rfl) ?_
          refine RQ.skip (wantN (dj := 34) rfl (vb rfl c44) rfl) ?_
          refine RQ.skip (wantN (dj := 34) rfl (vb rfl c44) rfl) ?_
          refine RQ.y rfl (Y.pick (b := false) (v := .bool false) (vb rfl c44) rfl) ?_
          refine RQ.y rfl (Y.move (v := .bool false) rfl) ?_
          refine RQ.skip (wantN (dj := 41) rfl rfl rfl) ?_
          refine RQ.skip (wantN (dj := 41) rfl rfl rfl) ?_
          refine RQ.skip (wantN (dj := 41) rfl rfl rfl) ?_
          refine RQ.skip (wantN (dj := 41) rfl rfl rfl) ?_
          refine RQ.skip (wantN (dj := 41) rfl rfl rfl) ?_
          refine RQ.skip (wantN (dj := 41) rfl rfl rfl) ?_
          refine RQ.skip (wantN (dj := 41) rfl rfl rfl) ?_
          refine RQ.skip (wantN (dj := 41) rfl rfl rfl) ?_
          refine RQ.skip (wantN (dj := 41) rfl rfl rfl) ?_
          refine RQ.skip (wantN (dj := 41) rfl rfl rfl) ?_
          refine RQ.y rfl (Y.pick (b := false) (v := .bool false) rfl rfl) ?_
          refine RQ.nil ?_
          intro w45 hb46
          have szw45 := hb46.size
          have T := Tt T hb46
          refine then_n ?_
          refine cond_f rfl rfl ?_
          refine wp_skip ?_
          refine then_n ?_
          refine wp_seq ?_
          refine wp_rbd (by kernel_rfl) (by kernel_rfl) ?_
          refine RQ.y rfl (Y.move (v := .pointer (some ⟨ba0, oa0, none⟩)) s0) ?_
          refine RQ.y rfl (Y.nilCheck rfl) ?_
          refine RQ.y rfl (Y.fieldAddr (off := 0) rfl (by kernel_rfl)) ?_
          refine RQ.y rfl (Y.load (v := .int .i64 d0.kind) rfl (by kernel_rfl) (beC (cellT T (hca0 0 _ rfl)))) ?_
          refine RQ.y rfl (Y.move (v := .pointer (some ⟨ba0, oa0, none⟩)) s0) ?_
          refine RQ.y rfl (Y.nilCheck rfl) ?_
          refine RQ.y rfl (Y.fieldAddr (off := 1) rfl (by kernel_rfl)) ?_
          refine RQ.y rfl (Y.load (v := .int .i64 d0.level) rfl (by kernel_rfl) (beC (cellT T (hca0 1 _ rfl)))) ?_
          refine RQ.y rfl (Y.move (v := .pointer (some ⟨ba1, oa1, none⟩)) s1) ?_
          refine RQ.y rfl (Y.nilCheck rfl) ?_
          refine RQ.y rfl (Y.fieldAddr (off := 0) rfl (by kernel_rfl)) ?_
          refine RQ.y rfl (Y.load (v := .int .i64 d1.kind) rfl (by kernel_rfl) (beC (cellT T (hca1 0 _ rfl)))) ?_
          refine RQ.y rfl (Y.move (v := .pointer (some ⟨ba1, oa1, none⟩)) s1) ?_
          refine RQ.y rfl (Y.nilCheck rfl) ?_
          refine RQ.y rfl (Y.fieldAddr (off := 1) rfl (by kernel_rfl)) ?_
          refine RQ.y rfl (Y.load (v := .int .i64 d1.level) rfl (by kernel_rfl) (beC (cellT T (hca1 1 _ rfl)))) ?_
          refine RQ.call rfl (am4 rfl rfl rfl rfl) (by kernel_rfl) (v := .int .i64 (pairClass d0.kind d0.level d1.kind d1.level)) (bel (K := fun _ => True) fun w' hb' => (callB (spec_PairClass d0.kind d0.level d1.kind d1.level w'))) ?_
          refine RQ.y rfl (Y.assign (v := .int .i64 (pairClass d0.kind d0.level d1.kind d1.level)) rfl) ?_
          refine RQ.nil ?_
          intro w47 hb48
          have szw47 := hb48.size
          have T := Tt T hb48
          refine then_n ?_
          refine wp_ret ?_
          obtain rfl := Option.some.inj hm
          exact (ret1 rfl rfl rfl ⟨rfl, T⟩)
        · replace hm := cT c44 hm
          refine RQ.y (wantT (dj := 34) rfl (vb rfl c44)) (Y.move (v := .pointer (some ⟨ba1, oa1, none⟩)) s1) ?_
          refine RQ.y (wantT (dj := 34) rfl (vb rfl c44)) (Y.nilCheck rfl) ?_
          refine RQ.y (wantT (dj := 34) rfl (vb rfl c44)) (Y.fieldAddr (off := 0) rfl (by kernel_rfl)) ?_
          refine RQ.y (wantT (dj := 34) rfl (vb rfl c44)) (Y.load (v := .int .i64 d1.kind) rfl (by kernel_rfl) (beC (cellT T (hca1 0 _ rfl)))) ?_
          refine RQ.y (wantT (dj := 34) rfl (vb rfl c44)) (Y.binI (v := .bool (d1.kind == 9)) rfl rfl rfl) ?_
          refine RQ.y rfl (Y.pick (b := true) (v := .bool (d1.kind == 9)) (vb rfl c44) rfl) ?_
          refine RQ.y rfl (Y.move (v := .bool (d1.kind == 9)) rfl) ?_
          rcases bcases (d1.kind == 9) with c49 | c49
          · replace hm := cF c49 hm
            refine RQ.skip (wantN (dj := 41) rfl (vb rfl c49) rfl) ?_
            refine RQ.skip (wantN (dj := 41) rfl (vb rfl c49) rfl) ?_
            refine RQ.skip (wantN (dj := 41) rfl (vb rfl c49) rfl) ?_
            refine RQ.skip (wantN (dj := 41) rfl (vb rfl c49) rfl) ?_
            refine RQ.skip (wantN (dj := 41) rfl (vb rfl c49) rfl) ?_
            refine RQ.skip (wantN (dj := 41) rfl (vb rfl c49) rfl) ?_
            refine RQ.skip (wantN (dj := 41) rfl (vb rfl c49) rfl) ?_
            refine RQ.skip (wantN (dj := 41) rfl (vb rfl c49) rfl) ?_
            refine RQ.skip (wantN (dj := 41) rfl (vb rfl c49) rfl) ?_
            refine RQ.skip (wantN (dj := 41) rfl (vb rfl c49) rfl) ?_
            refine RQ.y rfl (Y.pick (b := false) (v := .bool false) (vb rfl c49) rfl) ?_
            refine RQ.nil ?_
            intro w50 hb51
            have szw50 := hb51.size
            have T := Tt T hb51
            refine then_n ?_
            refine cond_f rfl rfl ?_
            refine wp_skip ?_
            refine then_n ?_
            refine wp_seq ?_
            refine wp_rbd (by kernel_rfl) (by kernel_rfl) ?_
            refine RQ.y rfl (Y.move (v := .pointer (some ⟨ba0, oa0, none⟩)) s0) ?_
            refine RQ.y rfl (Y.nilCheck rfl) ?_
            refine RQ.y rfl (Y.fieldAddr (off := 0) rfl (by kernel_rfl)) ?_
            refine RQ.y rfl (Y.load (v := .int .i64 d0.kind) rfl (by kernel_rfl) (beC (cellT T (hca0 0 _ rfl)))) ?_
            refine RQ.y rfl (Y.move (v := .pointer (some ⟨ba0, oa0, none⟩)) s0) ?_
            refine RQ.y rfl (Y.nilCheck rfl) ?_
            refine RQ.y rfl (Y.fieldAddr (off := 1) rfl (by kernel_rfl)) ?_
            refine RQ.y rfl (Y.load (v := .int .i64 d0.level) rfl (by kernel_rfl) (beC (cellT T (hca0 1 _ rfl)))) ?_
            refine RQ.y rfl (Y.move (v := .pointer (some ⟨ba1, oa1, none⟩)) s1) ?_
            refine RQ.y rfl (Y.nilCheck rfl) ?_
            refine RQ.y rfl (Y.fieldAddr (off := 0) rfl (by kernel_rfl)) ?_
            refine RQ.y rfl (Y.load (v := .int .i64 d1.kind) rfl (by kernel_rfl) (beC (cellT T (hca1 0 _ rfl)))) ?_
            refine RQ.y rfl (Y.move (v := .pointer (some ⟨ba1, oa1, none⟩)) s1) ?_
            refine RQ.y rfl (Y.nilCheck rfl) ?_
            refine RQ.y rfl (Y.fieldAddr (off := 1) rfl (by kernel_rfl)) ?_
            refine RQ.y rfl (Y.load (v := .int .i64 d1.level) rfl (by kernel_rfl) (beC (cellT T (hca1 1 _ rfl)))) ?_
            refine RQ.call rfl (am4 rfl rfl rfl rfl) (by kernel_rfl) (v := .int .i64 (pairClass d0.kind d0.level d1.kind d1.level)) (bel (K := fun _ => True) fun w' hb' => (callB (spec_PairClass d0.kind d0.level d1.kind d1.level w'))) ?_
            refine RQ.y rfl (Y.assign (v := .int .i64 (pairClass d0.kind d0.level d1.kind d1.level)) rfl) ?_
            refine RQ.nil ?_
            intro w52 hb53
            have szw52 := hb53.size
            have T := Tt T hb53
            refine then_n ?_
            refine wp_ret ?_
            obtain rfl := Option.some.inj hm
            exact (ret1 rfl rfl rfl ⟨rfl, T⟩)
          · replace hm := cT c49 hm
            refine RQ.y (wantT (dj := 41) rfl (vb rfl c49)) (Y.move (v := .pointer (some ⟨ba1, oa1, none⟩)) s1) ?_
            refine RQ.y (wantT (dj := 41) rfl (vb rfl c49)) (Y.nilCheck rfl) ?_
            refine RQ.y (wantT (dj := 41) rfl (vb rfl c49)) (Y.fieldAddr (off := 2) rfl (by kernel_rfl)) ?_
            refine RQ.y (wantT (dj := 41) rfl (vb rfl c49)) (Y.load (v := .int .i64 d1.value) rfl (by kernel_rfl) (beC (cellT T (hca1 2 _ rfl)))) ?_
            refine RQ.y (wantT (dj := 41) rfl (vb rfl c49)) (Y.move (v := .pointer (some ⟨ba0, oa0, none⟩)) s0) ?_
            refine RQ.y (wantT (dj := 41) rfl (vb rfl c49)) (Y.nilCheck rfl) ?_
            refine RQ.y (wantT (dj := 41) rfl (vb rfl c49)) (Y.fieldAddr (off := 3) rfl (by kernel_rfl)) ?_
            refine RQ.y (wantT (dj := 41) rfl (vb rfl c49)) (Y.load (v := .slice A1 d0.data.length c1) rfl (by kernel_rfl) (beC (cellT T (hca0 3 _ rfl)))) ?_
            refine RQ.y (wantT (dj := 41) rfl (vb rfl c49)) (Y.len (by kernel_rfl) rfl) ?_
            refine RQ.y (wantT (dj := 41) rfl (vb rfl c49)) (Y.binI (v := .bool (decide (d1.value ≥ (d0.data.length : Int)))) rfl rfl rfl) ?_
            refine RQ.y rfl (Y.pick (b := true) (v := .bool (decide (d1.value ≥ (d0.data.length : Int)))) (vb rfl c49) rfl) ?_
            refine RQ.nil ?_
            intro w54 hb55
            have szw54 := hb55.size
            have T := Tt T hb55
            refine then_n ?_
            rcases bcases (decide (d1.value ≥ (d0.data.length : Int))) with c56 | c56
            · replace hm := cF c56 hm
              have pc56 := of_decide_eq_false c56
              refine cond_f rfl (vb rfl c56) ?_
              refine wp_skip ?_
              refine then_n ?_
              refine wp_seq ?_
              refine wp_rbd (by kernel_rfl) (by kernel_rfl) ?_
              refine RQ.y rfl (Y.move (v := .pointer (some ⟨ba0, oa0, none⟩)) s0) ?_
              refine RQ.y rfl (Y.nilCheck rfl) ?_
              refine RQ.y rfl (Y.fieldAddr (off := 0) rfl (by kernel_rfl)) ?_
              refine RQ.y rfl (Y.load (v := .int .i64 d0.kind) rfl (by kernel_rfl) (beC (cellT T (hca0 0 _ rfl)))) ?_
              refine RQ.y rfl (Y.move (v := .pointer (some ⟨ba0, oa0, none⟩)) s0) ?_
              refine RQ.y rfl (Y.nilCheck rfl) ?_
              refine RQ.y rfl (Y.fieldAddr (off := 1) rfl (by kernel_rfl)) ?_
              refine RQ.y rfl (Y.load (v := .int .i64 d0.level) rfl (by kernel_rfl) (beC (cellT T (hca0 1 _ rfl)))) ?_
              refine RQ.y rfl (Y.move (v := .pointer (some ⟨ba1, oa1, none⟩)) s1) ?_
              refine RQ.y rfl (Y.nilCheck rfl) ?_
              refine RQ.y rfl (Y.fieldAddr (off := 0) rfl (by kernel_rfl)) ?_
              refine RQ.y rfl (Y.load (v := .int .i64 d1.kind) rfl (by kernel_rfl) (beC (cellT T (hca1 0 _ rfl)))) ?_
              refine RQ.y rfl (Y.move (v := .pointer (some ⟨ba1, oa1, none⟩)) s1) ?_
              refine RQ.y rfl (Y.nilCheck rfl) ?_
              refine RQ.y rfl (Y.fieldAddr (off := 1) rfl (by kernel_rfl)) ?_
              refine RQ.y rfl (Y.load (v := .int .i64 d1.level) rfl (by kernel_rfl) (beC (cellT T (hca1 1 _ rfl)))) ?_
              refine RQ.call rfl (am4 rfl rfl rfl rfl) (by kernel_rfl) (v := .int .i64 (pairClass d0.kind d0.level d1.kind d1.level)) (bel (K := fun _ => True) fun w' hb' => (callB (spec_PairClass d0.kind d0.level d1.kind d1.level w'))) ?_
              refine RQ.y rfl (Y.assign (v := .int .i64 (pairClass d0.kind d0.level d1.kind d1.level)) rfl) ?_
              refine RQ.nil ?_
              intro w57 hb58
              have szw57 := hb58.size
              have T := Tt T hb58
              refine then_n ?_
              refine wp_ret ?_
              obtain rfl := Option.some.inj hm
              exact (ret1 rfl rfl rfl ⟨rfl, T⟩)
            · replace hm := cT c56 hm
              have pc56 := of_decide_eq_true c56
              refine cond_t rfl (vb rfl c56) ?_
              refine wp_seq ?_
              refine wp_rs rfl ?_
              refine RQ.y rfl (Y.assign (v := .int .i64 8) rfl) ?_
              refine RQ.nil ?_
              refine then_n ?_
              refine wp_ret ?_
              obtain rfl := Option.some.inj hm
              exact (then_r (ret1 rfl rfl rfl ⟨rfl, T⟩))
      · replace hm := cT c43 hm
        have pc43 := of_decide_eq_true c43
        refine cond_t rfl (vb rfl c43) ?_
        refine wp_seq ?_
        refine wp_rs rfl ?_
        refine RQ.y rfl (Y.assign (v := .int .i64 8) rfl) ?_
        refine RQ.nil ?_
        refine then_n ?_
        refine wp_ret ?_
        obtain rfl := Option.some.inj hm
        exact (then_r (ret1 rfl rfl rfl ⟨rfl, T⟩))
def m_impl_Net_classOf (d0 : DNet) (d1 : DPair) : Option (Int × Bool) :=
  ((getI d0.agents d1.a).bind fun x8 => ((getI d0.agents d1.b).bind fun x19 => (bif ((pairFirst x8.kind x8.level x19.kind x19.level) == 2) then (bif ((pairClass x8.kind x8.level x19.kind x19.level) == 6) then (bif (x8.kind == 10) then (bif (decide (x19.value ≥ (x8.data.length : Int))) then some (8, false) else some ((pairClass x8.kind x8.level x19.kind x19.level), ((pairFirst x8.kind x8.level x19.kind x19.level) == 2))) else some ((pairClass x8.kind x8.level x19.kind x19.level), ((pairFirst x8.kind x8.level x19.kind x19.level) == 2))) else some ((pairClass x8.kind x8.level x19.kind x19.level), ((pairFirst x8.kind x8.level x19.kind x19.level) == 2))) else (bif ((pairClass x8.kind x8.level x19.kind x19.level) == 6) then (bif (x19.kind == 10) then (bif (decide (x8.value ≥ (x19.data.length : Int))) then some (8, false) else some ((pairClass x8.kind x8.level x19.kind x19.level), ((pairFirst x8.kind x8.level x19.kind x19.level) == 2))) else some ((pairClass x8.kind x8.level x19.kind x19.level), ((pairFirst x8.kind x8.level x19.kind x19.level) == 2))) else some ((pairClass x8.kind x8.level x19.kind x19.level), ((pairFirst x8.kind x8.level x19.kind x19.level) == 2))))))
set_option maxHeartbeats 2000000 in
theorem c_m_impl_Net_classOf (d0 : DNet) (d1 : DPair) (r : Int × Bool) (hm : m_impl_Net_classOf d0 d1 = some r) (v0 : Value) (w : World) (hv0 : Pt netRd w v0 d0) :
    Calls Try.prog 64 #[v0, .agg #[.int .i64 d1.a, .int .i64 d1.b]] w fun e w' => e = .returned (.tuple #[.int .i64 r.1, .bool r.2]) ∧ Below w.heap.size w w' := by
  obtain ⟨ba0, oa0, csa0, rfl, hba0, hRa0, hca0⟩ := hv0
  have hSa0 := hRa0
  obtain ⟨A1, n1, c1, rfl, ⟨h1, r1⟩⟩ := hRa0
  have e1 := h1.len; subst e1
  have q1 := len_le r1
  have T := Below.refl w.heap.size w
  unfold m_impl_Net_classOf at hm
  refine enter 60 Try.func64 rfl rfl rfl ?_
  intro f hf
  have s0 : f 0 = .pointer (some ⟨ba0, oa0, none⟩) := hf 0 _ rfl
  have s1 : f 1 = .agg #[.int .i64 d1.a, .int .i64 d1.b] := hf 1 _ rfl
  refine wp_seq ?_
  refine wp_rl rfl ?_
  refine RL.box rfl s1 (fun w2 B3 hb4 szw2 => ?_)
  replace B3 : Blk w2 w.heap.size 81 #[.int .i64 d1.a, .int .i64 d1.b] := B3
  have GB3 : w.heap.size ≤ w.heap.size := T.size
  have T := Tt T hb4
  refine RL.y rfl (Y.assign (v := .int .i64 0) rfl) ?_
  refine RL.y rfl (Y.assign (v := .bool false) rfl) ?_
  refine RL.nil ?_
  refine then_n ?_
  refine wp_seq ?_
  refine wp_rgt (fun w' => Below w.heap.size w w' ∧ Blk w' w.heap.size 81 #[.int .i64 d1.a, .int .i64 d1.b]) (.q 0 (.q 1 (.q 2 (.q 3 (.q 4 (.q 5 (.q 6 (.q 7 (.q 8 (.q 9 (.q 10 (.q 11 (.q 12 (.q 13 (.q 14 (.q 15 (.two 16 (.a 17 (.a 18 (.a 19 .nil))) 17 (.a 16 (.a 18 (.a 19 .nil)))))))))))))))))))) (by kernel_rfl) (by kernel_rfl) (fun w6 hb7 szw6 => ?_)
  have B3 := blkT B3 hb7
  have T := Tt T hb7
  refine ⟨⟨T, B3⟩, ?_⟩
  refine RT.y rfl rfl (Y.move (v := .pointer (some ⟨ba0, oa0, none⟩)) s0) ?_
  refine RT.y rfl rfl (Y.nilCheck rfl) ?_
  refine RT.y rfl rfl (Y.fieldAddr (off := 0) rfl (by kernel_rfl)) ?_
  refine RT.y rfl rfl (Y.load (v := .slice A1 d0.agents.length c1) rfl (by kernel_rfl) (fun w' hS => (cellT hS.1 (hca0 0 _ rfl)))) ?_
  refine RT.y rfl rfl (Y.fieldAddr (off := 0) rfl (by kernel_rfl)) ?_
  refine RT.y rfl rfl (Y.load (v := .int .i64 d1.a) rfl (by kernel_rfl) (fun w' hS => (blkCell hS.2 (i := 0) rfl))) ?_
  obtain ⟨x8, hx11, hm⟩ := bnd hm
  obtain ⟨k9, hk12, hl13, hx11⟩ := getI_some hx11
  obtain ⟨b15, o16, rfl, hbb15⟩ := h1.addr (by omega)
  obtain ⟨cs10, hRcs10, hc14⟩ := h1.el hx11
  have hScs10 := hRcs10
  obtain ⟨A17, n17, c17, A18, n18, c18, rfl, ⟨h17, r17⟩, ⟨h18, r18⟩⟩ := hRcs10
  have e17 := h17.len; subst e17
  have q17 := len_le r17
  have e18 := h18.len; subst e18
  have q18 := len_le r18
  refine RT.y rfl rfl (Y.indexAddr (m := k9) (sz := 5) rfl rfl hk12 hl13 (by kernel_rfl)) ?_
  refine RT.y rfl rfl (Y.loadN (cs := [.int .i64 x8.kind, .int .i64 x8.level, .int .i64 x8.value, .slice A17 x8.data.length c17, .slice A18 x8.ports.length c18]) rfl (by kernel_rfl) (cells5 (fun w' hS => (cellT hS.1 (hc14 0 _ rfl))) (fun w' hS => (cellT hS.1 (hc14 1 _ rfl))) (fun w' hS => (cellT hS.1 (hc14 2 _ rfl))) (fun w' hS => (cellT hS.1 (hc14 3 _ rfl))) (fun w' hS => (cellT hS.1 (hc14 4 _ rfl))))) ?_
  refine RT.y rfl rfl (Y.move (v := .pointer (some ⟨ba0, oa0, none⟩)) s0) ?_
  refine RT.y rfl rfl (Y.nilCheck rfl) ?_
  refine RT.y rfl rfl (Y.fieldAddr (off := 0) rfl (by kernel_rfl)) ?_
  refine RT.y rfl rfl (Y.load (v := .slice (some ⟨b15, o16, none⟩) d0.agents.length c1) rfl (by kernel_rfl) (fun w' hS => (cellT hS.1 (hca0 0 _ rfl)))) ?_
  refine RT.y rfl rfl (Y.fieldAddr (off := 1) rfl (by kernel_rfl)) ?_
  refine RT.y rfl rfl (Y.load (v := .int .i64 d1.b) rfl (by kernel_rfl) (fun w' hS => (blkCell hS.2 (i := 1) rfl))) ?_
  obtain ⟨x19, hx22, hm⟩ := bnd hm
  obtain ⟨k20, hk23, hl24, hx22⟩ := getI_some hx22
  obtain ⟨cs21, hRcs21, hc25⟩ := h1.el hx22
  have hScs21 := hRcs21
  obtain ⟨A26, n26, c26, A27, n27, c27, rfl, ⟨h26, r26⟩, ⟨h27, r27⟩⟩ := hRcs21
  have e26 := h26.len; subst e26
  have q26 := len_le r26
  have e27 := h27.len; subst e27
  have q27 := len_le r27
  refine RT.y rfl rfl (Y.indexAddr (m := k20) (sz := 5) rfl rfl hk23 hl24 (by kernel_rfl)) ?_
  refine RT.y rfl rfl (Y.loadN (cs := [.int .i64 x19.kind, .int .i64 x19.level, .int .i64 x19.value, .slice A26 x19.data.length c26, .slice A27 x19.ports.length c27]) rfl (by kernel_rfl) (cells5 (fun w' hS => (cellT hS.1 (hc25 0 _ rfl))) (fun w' hS => (cellT hS.1 (hc25 1 _ rfl))) (fun w' hS => (cellT hS.1 (hc25 2 _ rfl))) (fun w' hS => (cellT hS.1 (hc25 3 _ rfl))) (fun w' hS => (cellT hS.1 (hc25 4 _ rfl))))) ?_
  refine RT.both rfl rfl ?_ ?_
  · refine RL.alloc (z := .agg #[.int .i64 0, .int .i64 0, .int .i64 0, .slice none 0 0, .slice none 0 0]) rfl (by kernel_rfl) (fun w28 B29 hb30 szw28 => ?_)
    replace B29 : Blk w28 w6.heap.size 89 #[.int .i64 0, .int .i64 0, .int .i64 0, .slice none 0 0, .slice none 0 0] := B29
    have GB29 : w.heap.size ≤ w6.heap.size := T.size
    have Eob31_ob5 := Nat.ne_of_lt B3.lt
    have B3 := blkT B3 hb30
    have T := Tt T hb30
    refine RL.nil ⟨⟨T, B3⟩, ?_⟩
    refine RT.act rfl ?_
    refine RL.alloc (z := .agg #[.int .i64 0, .int .i64 0, .int .i64 0, .slice none 0 0, .slice none 0 0]) rfl (by kernel_rfl) (fun w32 B33 hb34 szw32 => ?_)
    replace B33 : Blk w32 w28.heap.size 89 #[.int .i64 0, .int .i64 0, .int .i64 0, .slice none 0 0, .slice none 0 0] := B33
    have GB33 : w.heap.size ≤ w28.heap.size := T.size
    have Eob35_ob5 := Nat.ne_of_lt B3.lt
    have Eob35_ob31 := Nat.ne_of_lt B29.lt
    have B3 := blkT B3 hb34
    have B29 := blkT B29 hb34
    have T := Tt T hb34
    refine RL.nil ⟨⟨T, B3⟩, ?_⟩
    refine RT.act rfl ?_
    refine RL.store (v := .agg #[.int .i64 x8.kind, .int .i64 x8.level, .int .i64 x8.value, .slice A17 x8.data.length c17, .slice A18 x8.ports.length c18]) (cs' := #[.int .i64 x8.kind, .int .i64 x8.level, .int .i64 x8.value, .slice A17 x8.data.length c17, .slice A18 x8.ports.length c18]) rfl rfl rfl B29 (by kernel_rfl) (by rfl) (by rfl) (by rfl) (fun w36 B37 ho38 => ?_)
    have szw36 := ho38.size
    have B3 := B3.only_ ho38 (by intro hin; simp at hin; exact Eob31_ob5 hin)
    have B33 := B33.only_ ho38 (by intro hin; simp at hin; exact Eob35_ob31.symm hin)
    have T := T.trans (ho38.below (by first | (simp; done) | (simp; omega)))
    refine RL.nil ⟨⟨T, B3⟩, ?_⟩
    refine RT.act rfl ?_
    refine RL.store (v := .agg #[.int .i64 x19.kind, .int .i64 x19.level, .int .i64 x19.value, .slice A26 x19.data.length c26, .slice A27 x19.ports.length c27]) (cs' := #[.int .i64 x19.kind, .int .i64 x19.level, .int .i64 x19.value, .slice A26 x19.data.length c26, .slice A27 x19.ports.length c27]) rfl rfl rfl B33 (by kernel_rfl) (by rfl) (by rfl) (by rfl) (fun w39 B40 ho41 => ?_)
    have szw39 := ho41.size
    have B3 := B3.only_ ho41 (by intro hin; simp at hin; exact Eob35_ob5 hin)
    have B37 := B37.only_ ho41 (by intro hin; simp at hin; exact Eob35_ob31 hin)
    have T := T.trans (ho41.below (by first | (simp; done) | (simp; omega)))
    refine RL.nil ⟨⟨T, B3⟩, ?_⟩
    refine RT.nil_ ?_
    refine then_n ?_
    refine wp_seq ?_
    refine wp_rb rfl ?_
    refine RQ.y rfl (Y.fieldAddr (off := 0) rfl (by kernel_rfl)) ?_
    refine RQ.y rfl (Y.load (v := .int .i64 x8.kind) rfl (by kernel_rfl) (beC (blkCell B37 (i := 0) rfl))) ?_
    refine RQ.y rfl (Y.fieldAddr (off := 1) rfl (by kernel_rfl)) ?_
    refine RQ.y rfl (Y.load (v := .int .i64 x8.level) rfl (by kernel_rfl) (beC (blkCell B37 (i := 1) rfl))) ?_
    refine RQ.y rfl (Y.fieldAddr (off := 0) rfl (by kernel_rfl)) ?_
    refine RQ.y rfl (Y.load (v := .int .i64 x19.kind) rfl (by kernel_rfl) (beC (blkCell B40 (i := 0) rfl))) ?_
    refine RQ.y rfl (Y.fieldAddr (off := 1) rfl (by kernel_rfl)) ?_
    refine RQ.y rfl (Y.load (v := .int .i64 x19.level) rfl (by kernel_rfl) (beC (blkCell B40 (i := 1) rfl))) ?_
    refine RQ.call rfl (am4 rfl rfl rfl rfl) (by kernel_rfl) (v := .tuple #[.int .i64 (pairClass x8.kind x8.level x19.kind x19.level), .int .i64 (pairFirst x8.kind x8.level x19.kind x19.level)]) (bel (K := fun _ => True) fun w' hb' => (callB (impl_pairOf x8.kind x8.level x19.kind x19.level w'))) ?_
    refine RQ.y rfl (Y.move (v := .tuple #[.int .i64 (pairClass x8.kind x8.level x19.kind x19.level), .int .i64 (pairFirst x8.kind x8.level x19.kind x19.level)]) rfl) ?_
    refine RQ.y rfl (Y.extract (i := 0) rfl rfl) ?_
    refine RQ.y rfl (Y.extract (i := 1) rfl rfl) ?_
    refine RQ.y rfl (Y.assign (v := .int .i64 (pairClass x8.kind x8.level x19.kind x19.level)) rfl) ?_
    refine RQ.y rfl (Y.assign (v := .int .i64 (pairFirst x8.kind x8.level x19.kind x19.level)) rfl) ?_
    refine RQ.nil ?_
    intro w42 hb43
    have szw42 := hb43.size
    have B37 := blkT B37 hb43
    have B40 := blkT B40 hb43
    have T := Tt T hb43
    refine then_n ?_
    refine wp_seq ?_
    refine wp_seq ?_
    refine wp_rs rfl ?_
    refine RQ.y rfl (Y.move (v := .int .i64 (pairFirst x8.kind x8.level x19.kind x19.level)) rfl) ?_
    refine RQ.y rfl (Y.binI (v := .bool ((pairFirst x8.kind x8.level x19.kind x19.level) == 2)) rfl rfl rfl) ?_
    refine RQ.nil ?_
    refine then_n ?_
    rcases bcases ((pairFirst x8.kind x8.level x19.kind x19.level) == 2) with c44 | c44
    · replace hm := cF c44 hm
      refine cond_f rfl (vb rfl c44) ?_
      refine wp_skip ?_
      refine then_n ?_
      refine wp_seq ?_
      refine wp_seq ?_
      refine wp_rs rfl ?_
      refine RQ.y rfl (Y.move (v := .int .i64 (pairClass x8.kind x8.level x19.kind x19.level)) rfl) ?_
      refine RQ.y rfl (Y.binI (v := .bool ((pairClass x8.kind x8.level x19.kind x19.level) == 6)) rfl rfl rfl) ?_
      refine RQ.y rfl (Y.move (v := .bool ((pairClass x8.kind x8.level x19.kind x19.level) == 6)) rfl) ?_
      rcases bcases ((pairClass x8.kind x8.level x19.kind x19.level) == 6) with c45 | c45
      · replace hm := cF c45 hm
        refine RQ.skip (wantN (dj := 44) rfl (vb rfl c45) rfl) ?_
        refine RQ.skip (wantN (dj := 44) rfl (vb rfl c45) rfl) ?_
        refine RQ.skip (wantN (dj := 44) rfl (vb rfl c45) rfl) ?_
        refine RQ.y rfl (Y.pick (b := false) (v := .bool false) (vb rfl c45) rfl) ?_
        refine RQ.y rfl (Y.move (v := .bool false) rfl) ?_
        refine RQ.skip (wantN (dj := 49) rfl rfl rfl) ?_
        refine RQ.skip (wantN (dj := 49) rfl rfl rfl) ?_
        refine RQ.skip (wantN (dj := 49) rfl rfl rfl) ?_
        refine RQ.skip (wantN (dj := 49) rfl rfl rfl) ?_
        refine RQ.skip (wantN (dj := 49) rfl rfl rfl) ?_
        refine RQ.skip (wantN (dj := 49) rfl rfl rfl) ?_
        refine RQ.y rfl (Y.pick (b := false) (v := .bool false) rfl rfl) ?_
        refine RQ.nil ?_
        refine then_n ?_
        refine cond_f rfl rfl ?_
        refine wp_skip ?_
        refine then_n ?_
        refine wp_seq ?_
        refine wp_rs rfl ?_
        refine RQ.y rfl (Y.move (v := .int .i64 (pairClass x8.kind x8.level x19.kind x19.level)) rfl) ?_
        refine RQ.y rfl (Y.move (v := .int .i64 (pairFirst x8.kind x8.level x19.kind x19.level)) rfl) ?_
        refine RQ.y rfl (Y.binI (v := .bool ((pairFirst x8.kind x8.level x19.kind x19.level) == 2)) rfl rfl rfl) ?_
        refine RQ.y rfl (Y.assign (v := .int .i64 (pairClass x8.kind x8.level x19.kind x19.level)) rfl) ?_
        refine RQ.y rfl (Y.assign (v := .bool ((pairFirst x8.kind x8.level x19.kind x19.level) == 2)) rfl) ?_
        refine RQ.nil ?_
        refine then_n ?_
        refine wp_ret ?_
        obtain rfl := Option.some.inj hm
        exact (ret2 rfl rfl rfl rfl ⟨rfl, T⟩)
      · replace hm := cT c45 hm
        refine RQ.y (wantT (dj := 44) rfl (vb rfl c45)) (Y.fieldAddr (off := 0) rfl (by kernel_rfl)) ?_
        refine RQ.y (wantT (dj := 44) rfl (vb rfl c45)) (Y.load (v := .int .i64 x19.kind) rfl (by kernel_rfl) (eqC (blkCell B40 (i := 0) rfl))) ?_
        refine RQ.y (wantT (dj := 44) rfl (vb rfl c45)) (Y.binI (v := .bool (x19.kind == 10)) rfl rfl rfl) ?_
        refine RQ.y rfl (Y.pick (b := true) (v := .bool (x19.kind == 10)) (vb rfl c45) rfl) ?_
        refine RQ.y rfl (Y.move (v := .bool (x19.kind == 10)) rfl) ?_
        rcases bcases (x19.kind == 10) with c46 | c46
        · replace hm := cF c46 hm
          refine RQ.skip (wantN (dj := 49) rfl (vb rfl c46) rfl) ?_
          refine RQ.skip (wantN (dj := 49) rfl (vb rfl c46) rfl) ?_
          refine RQ.skip (wantN (dj := 49) rfl (vb rfl c46) rfl) ?_
          refine RQ.skip (wantN (dj := 49) rfl (vb rfl c46) rfl) ?_
          refine RQ.skip (wantN (dj := 49) rfl (vb rfl c46) rfl) ?_
          refine RQ.skip (wantN (dj := 49) rfl (vb rfl c46) rfl) ?_
          refine RQ.y rfl (Y.pick (b := false) (v := .bool false) (vb rfl c46) rfl) ?_
          refine RQ.nil ?_
          refine then_n ?_
          refine cond_f rfl rfl ?_
          refine wp_skip ?_
          refine then_n ?_
          refine wp_seq ?_
          refine wp_rs rfl ?_
          refine RQ.y rfl (Y.move (v := .int .i64 (pairClass x8.kind x8.level x19.kind x19.level)) rfl) ?_
          refine RQ.y rfl (Y.move (v := .int .i64 (pairFirst x8.kind x8.level x19.kind x19.level)) rfl) ?_
          refine RQ.y rfl (Y.binI (v := .bool ((pairFirst x8.kind x8.level x19.kind x19.level) == 2)) rfl rfl rfl) ?_
          refine RQ.y rfl (Y.assign (v := .int .i64 (pairClass x8.kind x8.level x19.kind x19.level)) rfl) ?_
          refine RQ.y rfl (Y.assign (v := .bool ((pairFirst x8.kind x8.level x19.kind x19.level) == 2)) rfl) ?_
          refine RQ.nil ?_
          refine then_n ?_
          refine wp_ret ?_
          obtain rfl := Option.some.inj hm
          exact (ret2 rfl rfl rfl rfl ⟨rfl, T⟩)
        · replace hm := cT c46 hm
          refine RQ.y (wantT (dj := 49) rfl (vb rfl c46)) (Y.fieldAddr (off := 2) rfl (by kernel_rfl)) ?_
          refine RQ.y (wantT (dj := 49) rfl (vb rfl c46)) (Y.load (v := .int .i64 x8.value) rfl (by kernel_rfl) (eqC (blkCell B37 (i := 2) rfl))) ?_
          refine RQ.y (wantT (dj := 49) rfl (vb rfl c46)) (Y.fieldAddr (off := 3) rfl (by kernel_rfl)) ?_
          refine RQ.y (wantT (dj := 49) rfl (vb rfl c46)) (Y.load (v := .slice A26 x19.data.length c26) rfl (by kernel_rfl) (eqC (blkCell B40 (i := 3) rfl))) ?_
          refine RQ.y (wantT (dj := 49) rfl (vb rfl c46)) (Y.len (by kernel_rfl) rfl) ?_
          refine RQ.y (wantT (dj := 49) rfl (vb rfl c46)) (Y.binI (v := .bool (decide (x8.value ≥ (x19.data.length : Int)))) rfl rfl rfl) ?_
          refine RQ.y rfl (Y.pick (b := true) (v := .bool (decide (x8.value ≥ (x19.data.length : Int)))) (vb rfl c46) rfl) ?_
          refine RQ.nil ?_
          refine then_n ?_
          rcases bcases (decide (x8.value ≥ (x19.data.length : Int))) with c47 | c47
          · replace hm := cF c47 hm
            have pc47 := of_decide_eq_false c47
            refine cond_f rfl (vb rfl c47) ?_
            refine wp_skip ?_
            refine then_n ?_
            refine wp_seq ?_
            refine wp_rs rfl ?_
            refine RQ.y rfl (Y.move (v := .int .i64 (pairClass x8.kind x8.level x19.kind x19.level)) rfl) ?_
            refine RQ.y rfl (Y.move (v := .int .i64 (pairFirst x8.kind x8.level x19.kind x19.level)) rfl) ?_
            refine RQ.y rfl (Y.binI (v := .bool ((pairFirst x8.kind x8.level x19.kind x19.level) == 2)) rfl rfl rfl) ?_
            refine RQ.y rfl (Y.assign (v := .int .i64 (pairClass x8.kind x8.level x19.kind x19.level)) rfl) ?_
            refine RQ.y rfl (Y.assign (v := .bool ((pairFirst x8.kind x8.level x19.kind x19.level) == 2)) rfl) ?_
            refine RQ.nil ?_
            refine then_n ?_
            refine wp_ret ?_
            obtain rfl := Option.some.inj hm
            exact (ret2 rfl rfl rfl rfl ⟨rfl, T⟩)
          · replace hm := cT c47 hm
            have pc47 := of_decide_eq_true c47
            refine cond_t rfl (vb rfl c47) ?_
            refine wp_seq ?_
            refine wp_rs rfl ?_
            refine RQ.y rfl (Y.assign (v := .int .i64 8) rfl) ?_
            refine RQ.y rfl (Y.assign (v := .bool false) rfl) ?_
            refine RQ.nil ?_
            refine then_n ?_
            refine wp_ret ?_
            obtain rfl := Option.some.inj hm
            exact (then_r (ret2 rfl rfl rfl rfl ⟨rfl, T⟩))
    · replace hm := cT c44 hm
      refine cond_t rfl (vb rfl c44) ?_
      refine wp_rl rfl ?_
      refine RL.y rfl (Y.loadN (cs := [.int .i64 x19.kind, .int .i64 x19.level, .int .i64 x19.value, .slice A26 x19.data.length c26, .slice A27 x19.ports.length c27]) rfl (by kernel_rfl) (cells5 (eqC (blkCell B40 (i := 0) rfl)) (eqC (blkCell B40 (i := 1) rfl)) (eqC (blkCell B40 (i := 2) rfl)) (eqC (blkCell B40 (i := 3) rfl)) (eqC (blkCell B40 (i := 4) rfl)))) ?_
      refine RL.y rfl (Y.loadN (cs := [.int .i64 x8.kind, .int .i64 x8.level, .int .i64 x8.value, .slice A17 x8.data.length c17, .slice A18 x8.ports.length c18]) rfl (by kernel_rfl) (cells5 (eqC (blkCell B37 (i := 0) rfl)) (eqC (blkCell B37 (i := 1) rfl)) (eqC (blkCell B37 (i := 2) rfl)) (eqC (blkCell B37 (i := 3) rfl)) (eqC (blkCell B37 (i := 4) rfl)))) ?_
      refine RL.store (v := .agg #[.int .i64 x19.kind, .int .i64 x19.level, .int .i64 x19.value, .slice A26 x19.data.length c26, .slice A27 x19.ports.length c27]) (cs' := #[.int .i64 x19.kind, .int .i64 x19.level, .int .i64 x19.value, .slice A26 x19.data.length c26, .slice A27 x19.ports.length c27]) rfl rfl rfl B37 (by kernel_rfl) (by rfl) (by rfl) (by rfl) (fun w48 B49 ho50 => ?_)
      have szw48 := ho50.size
      have B40 := B40.only_ ho50 (by intro hin; simp at hin; exact Eob35_ob31.symm hin)
      have T := T.trans (ho50.below (by first | (simp; done) | (simp; omega)))
      refine RL.store (v := .agg #[.int .i64 x8.kind, .int .i64 x8.level, .int .i64 x8.value, .slice A17 x8.data.length c17, .slice A18 x8.ports.length c18]) (cs' := #[.int .i64 x8.kind, .int .i64 x8.level, .int .i64 x8.value, .slice A17 x8.data.length c17, .slice A18 x8.ports.length c18]) rfl rfl rfl B40 (by kernel_rfl) (by rfl) (by rfl) (by rfl) (fun w51 B52 ho53 => ?_)
      have szw51 := ho53.size
      have B49 := B49.only_ ho53 (by intro hin; simp at hin; exact Eob35_ob31 hin)
      have T := T.trans (ho53.below (by first | (simp; done) | (simp; omega)))
      refine RL.nil ?_
      refine then_n ?_
      refine wp_seq ?_
      refine wp_seq ?_
      refine wp_rs rfl ?_
      refine RQ.y rfl (Y.move (v := .int .i64 (pairClass x8.kind x8.level x19.kind x19.level)) rfl) ?_
      refine RQ.y rfl (Y.binI (v := .bool ((pairClass x8.kind x8.level x19.kind x19.level) == 6)) rfl rfl rfl) ?_
      refine RQ.y rfl (Y.move (v := .bool ((pairClass x8.kind x8.level x19.kind x19.level) == 6)) rfl) ?_
      rcases bcases ((pairClass x8.kind x8.level x19.kind x19.level) == 6) with c54 | c54
      · replace hm := cF c54 hm
        refine RQ.skip (wantN (dj := 44) rfl (vb rfl c54) rfl) ?_
        refine RQ.skip (wantN (dj := 44) rfl (vb rfl c54) rfl) ?_
        refine RQ.skip (wantN (dj := 44) rfl (vb rfl c54) rfl) ?_
        refine RQ.y rfl (Y.pick (b := false) (v := .bool false) (vb rfl c54) rfl) ?_
        refine RQ.y rfl (Y.move (v := .bool false) rfl) ?_
        refine RQ.skip (wantN (dj := 49) rfl rfl rfl) ?_
        refine RQ.skip (wantN (dj := 49) rfl rfl rfl) ?_
        refine RQ.skip (wantN (dj := 49) rfl rfl rfl) ?_
        refine RQ.skip (wantN (dj := 49) rfl rfl rfl) ?_
        refine RQ.skip (wantN (dj := 49) rfl rfl rfl) ?_
        refine RQ.skip (wantN (dj := 49) rfl rfl rfl) ?_
        refine RQ.y rfl (Y.pick (b := false) (v := .bool false) rfl rfl) ?_
        refine RQ.nil ?_
        refine then_n ?_
        refine cond_f rfl rfl ?_
        refine wp_skip ?_
        refine then_n ?_
        refine wp_seq ?_
        refine wp_rs rfl ?_
        refine RQ.y rfl (Y.move (v := .int .i64 (pairClass x8.kind x8.level x19.kind x19.level)) rfl) ?_
        refine RQ.y rfl (Y.move (v := .int .i64 (pairFirst x8.kind x8.level x19.kind x19.level)) rfl) ?_
        refine RQ.y rfl (Y.binI (v := .bool ((pairFirst x8.kind x8.level x19.kind x19.level) == 2)) rfl rfl rfl) ?_
        refine RQ.y rfl (Y.assign (v := .int .i64 (pairClass x8.kind x8.level x19.kind x19.level)) rfl) ?_
        refine RQ.y rfl (Y.assign (v := .bool ((pairFirst x8.kind x8.level x19.kind x19.level) == 2)) rfl) ?_
        refine RQ.nil ?_
        refine then_n ?_
        refine wp_ret ?_
        obtain rfl := Option.some.inj hm
        exact (ret2 rfl rfl rfl rfl ⟨rfl, T⟩)
      · replace hm := cT c54 hm
        refine RQ.y (wantT (dj := 44) rfl (vb rfl c54)) (Y.fieldAddr (off := 0) rfl (by kernel_rfl)) ?_
        refine RQ.y (wantT (dj := 44) rfl (vb rfl c54)) (Y.load (v := .int .i64 x8.kind) rfl (by kernel_rfl) (eqC (blkCell B52 (i := 0) rfl))) ?_
        refine RQ.y (wantT (dj := 44) rfl (vb rfl c54)) (Y.binI (v := .bool (x8.kind == 10)) rfl rfl rfl) ?_
        refine RQ.y rfl (Y.pick (b := true) (v := .bool (x8.kind == 10)) (vb rfl c54) rfl) ?_
        refine RQ.y rfl (Y.move (v := .bool (x8.kind == 10)) rfl) ?_
        rcases bcases (x8.kind == 10) with c55 | c55
        · replace hm := cF c55 hm
          refine RQ.skip (wantN (dj := 49) rfl (vb rfl c55) rfl) ?_
          refine RQ.skip (wantN (dj := 49) rfl (vb rfl c55) rfl) ?_
          refine RQ.skip (wantN (dj := 49) rfl (vb rfl c55) rfl) ?_
          refine RQ.skip (wantN (dj := 49) rfl (vb rfl c55) rfl) ?_
          refine RQ.skip (wantN (dj := 49) rfl (vb rfl c55) rfl) ?_
          refine RQ.skip (wantN (dj := 49) rfl (vb rfl c55) rfl) ?_
          refine RQ.y rfl (Y.pick (b := false) (v := .bool false) (vb rfl c55) rfl) ?_
          refine RQ.nil ?_
          refine then_n ?_
          refine cond_f rfl rfl ?_
          refine wp_skip ?_
          refine then_n ?_
          refine wp_seq ?_
          refine wp_rs rfl ?_
          refine RQ.y rfl (Y.move (v := .int .i64 (pairClass x8.kind x8.level x19.kind x19.level)) rfl) ?_
          refine RQ.y rfl (Y.move (v := .int .i64 (pairFirst x8.kind x8.level x19.kind x19.level)) rfl) ?_
          refine RQ.y rfl (Y.binI (v := .bool ((pairFirst x8.kind x8.level x19.kind x19.level) == 2)) rfl rfl rfl) ?_
          refine RQ.y rfl (Y.assign (v := .int .i64 (pairClass x8.kind x8.level x19.kind x19.level)) rfl) ?_
          refine RQ.y rfl (Y.assign (v := .bool ((pairFirst x8.kind x8.level x19.kind x19.level) == 2)) rfl) ?_
          refine RQ.nil ?_
          refine then_n ?_
          refine wp_ret ?_
          obtain rfl := Option.some.inj hm
          exact (ret2 rfl rfl rfl rfl ⟨rfl, T⟩)
        · replace hm := cT c55 hm
          refine RQ.y (wantT (dj := 49) rfl (vb rfl c55)) (Y.fieldAddr (off := 2) rfl (by kernel_rfl)) ?_
          refine RQ.y (wantT (dj := 49) rfl (vb rfl c55)) (Y.load (v := .int .i64 x19.value) rfl (by kernel_rfl) (eqC (blkCell B49 (i := 2) rfl))) ?_
          refine RQ.y (wantT (dj := 49) rfl (vb rfl c55)) (Y.fieldAddr (off := 3) rfl (by kernel_rfl)) ?_
          refine RQ.y (wantT (dj := 49) rfl (vb rfl c55)) (Y.load (v := .slice A17 x8.data.length c17) rfl (by kernel_rfl) (eqC (blkCell B52 (i := 3) rfl))) ?_
          refine RQ.y (wantT (dj := 49) rfl (vb rfl c55)) (Y.len (by kernel_rfl) rfl) ?_
          refine RQ.y (wantT (dj := 49) rfl (vb rfl c55)) (Y.binI (v := .bool (decide (x19.value ≥ (x8.data.length : Int)))) rfl rfl rfl) ?_
          refine RQ.y rfl (Y.pick (b := true) (v := .bool (decide (x19.value ≥ (x8.data.length : Int)))) (vb rfl c55) rfl) ?_
          refine RQ.nil ?_
          refine then_n ?_
          rcases bcases (decide (x19.value ≥ (x8.data.length : Int))) with c56 | c56
          · replace hm := cF c56 hm
            have pc56 := of_decide_eq_false c56
            refine cond_f rfl (vb rfl c56) ?_
            refine wp_skip ?_
            refine then_n ?_
            refine wp_seq ?_
            refine wp_rs rfl ?_
            refine RQ.y rfl (Y.move (v := .int .i64 (pairClass x8.kind x8.level x19.kind x19.level)) rfl) ?_
            refine RQ.y rfl (Y.move (v := .int .i64 (pairFirst x8.kind x8.level x19.kind x19.level)) rfl) ?_
            refine RQ.y rfl (Y.binI (v := .bool ((pairFirst x8.kind x8.level x19.kind x19.level) == 2)) rfl rfl rfl) ?_
            refine RQ.y rfl (Y.assign (v := .int .i64 (pairClass x8.kind x8.level x19.kind x19.level)) rfl) ?_
            refine RQ.y rfl (Y.assign (v := .bool ((pairFirst x8.kind x8.level x19.kind x19.level) == 2)) rfl) ?_
            refine RQ.nil ?_
            refine then_n ?_
            refine wp_ret ?_
            obtain rfl := Option.some.inj hm
            exact (ret2 rfl rfl rfl rfl ⟨rfl, T⟩)
          · replace hm := cT c56 hm
            have pc56 := of_decide_eq_true c56
            refine cond_t rfl (vb rfl c56) ?_
            refine wp_seq ?_
            refine wp_rs rfl ?_
            refine RQ.y rfl (Y.assign (v := .int .i64 8) rfl) ?_
            refine RQ.y rfl (Y.assign (v := .bool false) rfl) ?_
            refine RQ.nil ?_
            refine then_n ?_
            refine wp_ret ?_
            obtain rfl := Option.some.inj hm
            exact (then_r (ret2 rfl rfl rfl rfl ⟨rfl, T⟩))
  · refine RL.alloc (z := .agg #[.int .i64 0, .int .i64 0, .int .i64 0, .slice none 0 0, .slice none 0 0]) rfl (by kernel_rfl) (fun w57 B58 hb59 szw57 => ?_)
    replace B58 : Blk w57 w6.heap.size 89 #[.int .i64 0, .int .i64 0, .int .i64 0, .slice none 0 0, .slice none 0 0] := B58
    have GB58 : w.heap.size ≤ w6.heap.size := T.size
    have Eob60_ob5 := Nat.ne_of_lt B3.lt
    have B3 := blkT B3 hb59
    have T := Tt T hb59
    refine RL.nil ⟨⟨T, B3⟩, ?_⟩
    refine RT.act rfl ?_
    refine RL.alloc (z := .agg #[.int .i64 0, .int .i64 0, .int .i64 0, .slice none 0 0, .slice none 0 0]) rfl (by kernel_rfl) (fun w61 B62 hb63 szw61 => ?_)
    replace B62 : Blk w61 w57.heap.size 89 #[.int .i64 0, .int .i64 0, .int .i64 0, .slice none 0 0, .slice none 0 0] := B62
    have GB62 : w.heap.size ≤ w57.heap.size := T.size
    have Eob64_ob5 := Nat.ne_of_lt B3.lt
    have Eob64_ob60 := Nat.ne_of_lt B58.lt
    have B3 := blkT B3 hb63
    have B58 := blkT B58 hb63
    have T := Tt T hb63
    refine RL.nil ⟨⟨T, B3⟩, ?_⟩
    refine RT.act rfl ?_
    refine RL.store (v := .agg #[.int .i64 x8.kind, .int .i64 x8.level, .int .i64 x8.value, .slice A17 x8.data.length c17, .slice A18 x8.ports.length c18]) (cs' := #[.int .i64 x8.kind, .int .i64 x8.level, .int .i64 x8.value, .slice A17 x8.data.length c17, .slice A18 x8.ports.length c18]) rfl rfl rfl B62 (by kernel_rfl) (by rfl) (by rfl) (by rfl) (fun w65 B66 ho67 => ?_)
    have szw65 := ho67.size
    have B3 := B3.only_ ho67 (by intro hin; simp at hin; exact Eob64_ob5 hin)
    have B58 := B58.only_ ho67 (by intro hin; simp at hin; exact Eob64_ob60 hin)
    have T := T.trans (ho67.below (by first | (simp; done) | (simp; omega)))
    refine RL.nil ⟨⟨T, B3⟩, ?_⟩
    refine RT.act rfl ?_
    refine RL.store (v := .agg #[.int .i64 x19.kind, .int .i64 x19.level, .int .i64 x19.value, .slice A26 x19.data.length c26, .slice A27 x19.ports.length c27]) (cs' := #[.int .i64 x19.kind, .int .i64 x19.level, .int .i64 x19.value, .slice A26 x19.data.length c26, .slice A27 x19.ports.length c27]) rfl rfl rfl B58 (by kernel_rfl) (by rfl) (by rfl) (by rfl) (fun w68 B69 ho70 => ?_)
    have szw68 := ho70.size
    have B3 := B3.only_ ho70 (by intro hin; simp at hin; exact Eob60_ob5 hin)
    have B66 := B66.only_ ho70 (by intro hin; simp at hin; exact Eob64_ob60.symm hin)
    have T := T.trans (ho70.below (by first | (simp; done) | (simp; omega)))
    refine RL.nil ⟨⟨T, B3⟩, ?_⟩
    refine RT.nil_ ?_
    refine then_n ?_
    refine wp_seq ?_
    refine wp_rb rfl ?_
    refine RQ.y rfl (Y.fieldAddr (off := 0) rfl (by kernel_rfl)) ?_
    refine RQ.y rfl (Y.load (v := .int .i64 x8.kind) rfl (by kernel_rfl) (beC (blkCell B66 (i := 0) rfl))) ?_
    refine RQ.y rfl (Y.fieldAddr (off := 1) rfl (by kernel_rfl)) ?_
    refine RQ.y rfl (Y.load (v := .int .i64 x8.level) rfl (by kernel_rfl) (beC (blkCell B66 (i := 1) rfl))) ?_
    refine RQ.y rfl (Y.fieldAddr (off := 0) rfl (by kernel_rfl)) ?_
    refine RQ.y rfl (Y.load (v := .int .i64 x19.kind) rfl (by kernel_rfl) (beC (blkCell B69 (i := 0) rfl))) ?_
    refine RQ.y rfl (Y.fieldAddr (off := 1) rfl (by kernel_rfl)) ?_
    refine RQ.y rfl (Y.load (v := .int .i64 x19.level) rfl (by kernel_rfl) (beC (blkCell B69 (i := 1) rfl))) ?_
    refine RQ.call rfl (am4 rfl rfl rfl rfl) (by kernel_rfl) (v := .tuple #[.int .i64 (pairClass x8.kind x8.level x19.kind x19.level), .int .i64 (pairFirst x8.kind x8.level x19.kind x19.level)]) (bel (K := fun _ => True) fun w' hb' => (callB (impl_pairOf x8.kind x8.level x19.kind x19.level w'))) ?_
    refine RQ.y rfl (Y.move (v := .tuple #[.int .i64 (pairClass x8.kind x8.level x19.kind x19.level), .int .i64 (pairFirst x8.kind x8.level x19.kind x19.level)]) rfl) ?_
    refine RQ.y rfl (Y.extract (i := 0) rfl rfl) ?_
    refine RQ.y rfl (Y.extract (i := 1) rfl rfl) ?_
    refine RQ.y rfl (Y.assign (v := .int .i64 (pairClass x8.kind x8.level x19.kind x19.level)) rfl) ?_
    refine RQ.y rfl (Y.assign (v := .int .i64 (pairFirst x8.kind x8.level x19.kind x19.level)) rfl) ?_
    refine RQ.nil ?_
    intro w71 hb72
    have szw71 := hb72.size
    have B69 := blkT B69 hb72
    have B66 := blkT B66 hb72
    have T := Tt T hb72
    refine then_n ?_
    refine wp_seq ?_
    refine wp_seq ?_
    refine wp_rs rfl ?_
    refine RQ.y rfl (Y.move (v := .int .i64 (pairFirst x8.kind x8.level x19.kind x19.level)) rfl) ?_
    refine RQ.y rfl (Y.binI (v := .bool ((pairFirst x8.kind x8.level x19.kind x19.level) == 2)) rfl rfl rfl) ?_
    refine RQ.nil ?_
    refine then_n ?_
    rcases bcases ((pairFirst x8.kind x8.level x19.kind x19.level) == 2) with c73 | c73
    · replace hm := cF c73 hm
      refine cond_f rfl (vb rfl c73) ?_
      refine wp_skip ?_
      refine then_n ?_
      refine wp_seq ?_
      refine wp_seq ?_
      refine wp_rs rfl ?_
      refine RQ.y rfl (Y.move (v := .int .i64 (pairClass x8.kind x8.level x19.kind x19.level)) rfl) ?_
      refine RQ.y rfl (Y.binI (v := .bool ((pairClass x8.kind x8.level x19.kind x19.level) == 6)) rfl rfl rfl) ?_
      refine RQ.y rfl (Y.move (v := .bool ((pairClass x8.kind x8.level x19.kind x19.level) == 6)) rfl) ?_
      rcases bcases ((pairClass x8.kind x8.level x19.kind x19.level) == 6) with c74 | c74
      · replace hm := cF c74 hm
        refine RQ.skip (wantN (dj := 44) rfl (vb rfl c74) rfl) ?_
        refine RQ.skip (wantN (dj := 44) rfl (vb rfl c74) rfl) ?_
        refine RQ.skip (wantN (dj := 44) rfl (vb rfl c74) rfl) ?_
        refine RQ.y rfl (Y.pick (b := false) (v := .bool false) (vb rfl c74) rfl) ?_
        refine RQ.y rfl (Y.move (v := .bool false) rfl) ?_
        refine RQ.skip (wantN (dj := 49) rfl rfl rfl) ?_
        refine RQ.skip (wantN (dj := 49) rfl rfl rfl) ?_
        refine RQ.skip (wantN (dj := 49) rfl rfl rfl) ?_
        refine RQ.skip (wantN (dj := 49) rfl rfl rfl) ?_
        refine RQ.skip (wantN (dj := 49) rfl rfl rfl) ?_
        refine RQ.skip (wantN (dj := 49) rfl rfl rfl) ?_
        refine RQ.y rfl (Y.pick (b := false) (v := .bool false) rfl rfl) ?_
        refine RQ.nil ?_
        refine then_n ?_
        refine cond_f rfl rfl ?_
        refine wp_skip ?_
        refine then_n ?_
        refine wp_seq ?_
        refine wp_rs rfl ?_
        refine RQ.y rfl (Y.move (v := .int .i64 (pairClass x8.kind x8.level x19.kind x19.level)) rfl) ?_
        refine RQ.y rfl (Y.move (v := .int .i64 (pairFirst x8.kind x8.level x19.kind x19.level)) rfl) ?_
        refine RQ.y rfl (Y.binI (v := .bool ((pairFirst x8.kind x8.level x19.kind x19.level) == 2)) rfl rfl rfl) ?_
        refine RQ.y rfl (Y.assign (v := .int .i64 (pairClass x8.kind x8.level x19.kind x19.level)) rfl) ?_
        refine RQ.y rfl (Y.assign (v := .bool ((pairFirst x8.kind x8.level x19.kind x19.level) == 2)) rfl) ?_
        refine RQ.nil ?_
        refine then_n ?_
        refine wp_ret ?_
        obtain rfl := Option.some.inj hm
        exact (ret2 rfl rfl rfl rfl ⟨rfl, T⟩)
      · replace hm := cT c74 hm
        refine RQ.y (wantT (dj := 44) rfl (vb rfl c74)) (Y.fieldAddr (off := 0) rfl (by kernel_rfl)) ?_
        refine RQ.y (wantT (dj := 44) rfl (vb rfl c74)) (Y.load (v := .int .i64 x19.kind) rfl (by kernel_rfl) (eqC (blkCell B69 (i := 0) rfl))) ?_
        refine RQ.y (wantT (dj := 44) rfl (vb rfl c74)) (Y.binI (v := .bool (x19.kind == 10)) rfl rfl rfl) ?_
        refine RQ.y rfl (Y.pick (b := true) (v := .bool (x19.kind == 10)) (vb rfl c74) rfl) ?_
        refine RQ.y rfl (Y.move (v := .bool (x19.kind == 10)) rfl) ?_
        rcases bcases (x19.kind == 10) with c75 | c75
        · replace hm := cF c75 hm
          refine RQ.skip (wantN (dj := 49) rfl (vb rfl c75) rfl) ?_
          refine RQ.skip (wantN (dj := 49) rfl (vb rfl c75) rfl) ?_
          refine RQ.skip (wantN (dj := 49) rfl (vb rfl c75) rfl) ?_
          refine RQ.skip (wantN (dj := 49) rfl (vb rfl c75) rfl) ?_
          refine RQ.skip (wantN (dj := 49) rfl (vb rfl c75) rfl) ?_
          refine RQ.skip (wantN (dj := 49) rfl (vb rfl c75) rfl) ?_
          refine RQ.y rfl (Y.pick (b := false) (v := .bool false) (vb rfl c75) rfl) ?_
          refine RQ.nil ?_
          refine then_n ?_
          refine cond_f rfl rfl ?_
          refine wp_skip ?_
          refine then_n ?_
          refine wp_seq ?_
          refine wp_rs rfl ?_
          refine RQ.y rfl (Y.move (v := .int .i64 (pairClass x8.kind x8.level x19.kind x19.level)) rfl) ?_
          refine RQ.y rfl (Y.move (v := .int .i64 (pairFirst x8.kind x8.level x19.kind x19.level)) rfl) ?_
          refine RQ.y rfl (Y.binI (v := .bool ((pairFirst x8.kind x8.level x19.kind x19.level) == 2)) rfl rfl rfl) ?_
          refine RQ.y rfl (Y.assign (v := .int .i64 (pairClass x8.kind x8.level x19.kind x19.level)) rfl) ?_
          refine RQ.y rfl (Y.assign (v := .bool ((pairFirst x8.kind x8.level x19.kind x19.level) == 2)) rfl) ?_
          refine RQ.nil ?_
          refine then_n ?_
          refine wp_ret ?_
          obtain rfl := Option.some.inj hm
          exact (ret2 rfl rfl rfl rfl ⟨rfl, T⟩)
        · replace hm := cT c75 hm
          refine RQ.y (wantT (dj := 49) rfl (vb rfl c75)) (Y.fieldAddr (off := 2) rfl (by kernel_rfl)) ?_
          refine RQ.y (wantT (dj := 49) rfl (vb rfl c75)) (Y.load (v := .int .i64 x8.value) rfl (by kernel_rfl) (eqC (blkCell B66 (i := 2) rfl))) ?_
          refine RQ.y (wantT (dj := 49) rfl (vb rfl c75)) (Y.fieldAddr (off := 3) rfl (by kernel_rfl)) ?_
          refine RQ.y (wantT (dj := 49) rfl (vb rfl c75)) (Y.load (v := .slice A26 x19.data.length c26) rfl (by kernel_rfl) (eqC (blkCell B69 (i := 3) rfl))) ?_
          refine RQ.y (wantT (dj := 49) rfl (vb rfl c75)) (Y.len (by kernel_rfl) rfl) ?_
          refine RQ.y (wantT (dj := 49) rfl (vb rfl c75)) (Y.binI (v := .bool (decide (x8.value ≥ (x19.data.length : Int)))) rfl rfl rfl) ?_
          refine RQ.y rfl (Y.pick (b := true) (v := .bool (decide (x8.value ≥ (x19.data.length : Int)))) (vb rfl c75) rfl) ?_
          refine RQ.nil ?_
          refine then_n ?_
          rcases bcases (decide (x8.value ≥ (x19.data.length : Int))) with c76 | c76
          · replace hm := cF c76 hm
            have pc76 := of_decide_eq_false c76
            refine cond_f rfl (vb rfl c76) ?_
            refine wp_skip ?_
            refine then_n ?_
            refine wp_seq ?_
            refine wp_rs rfl ?_
            refine RQ.y rfl (Y.move (v := .int .i64 (pairClass x8.kind x8.level x19.kind x19.level)) rfl) ?_
            refine RQ.y rfl (Y.move (v := .int .i64 (pairFirst x8.kind x8.level x19.kind x19.level)) rfl) ?_
            refine RQ.y rfl (Y.binI (v := .bool ((pairFirst x8.kind x8.level x19.kind x19.level) == 2)) rfl rfl rfl) ?_
            refine RQ.y rfl (Y.assign (v := .int .i64 (pairClass x8.kind x8.level x19.kind x19.level)) rfl) ?_
            refine RQ.y rfl (Y.assign (v := .bool ((pairFirst x8.kind x8.level x19.kind x19.level) == 2)) rfl) ?_
            refine RQ.nil ?_
            refine then_n ?_
            refine wp_ret ?_
            obtain rfl := Option.some.inj hm
            exact (ret2 rfl rfl rfl rfl ⟨rfl, T⟩)
          · replace hm := cT c76 hm
            have pc76 := of_decide_eq_true c76
            refine cond_t rfl (vb rfl c76) ?_
            refine wp_seq ?_
            refine wp_rs rfl ?_
            refine RQ.y rfl (Y.assign (v := .int .i64 8) rfl) ?_
            refine RQ.y rfl (Y.assign (v := .bool false) rfl) ?_
            refine RQ.nil ?_
            refine then_n ?_
            refine wp_ret ?_
            obtain rfl := Option.some.inj hm
            exact (then_r (ret2 rfl rfl rfl rfl ⟨rfl, T⟩))
    · replace hm := cT c73 hm
      refine cond_t rfl (vb rfl c73) ?_
      refine wp_rl rfl ?_
      refine RL.y rfl (Y.loadN (cs := [.int .i64 x19.kind, .int .i64 x19.level, .int .i64 x19.value, .slice A26 x19.data.length c26, .slice A27 x19.ports.length c27]) rfl (by kernel_rfl) (cells5 (eqC (blkCell B69 (i := 0) rfl)) (eqC (blkCell B69 (i := 1) rfl)) (eqC (blkCell B69 (i := 2) rfl)) (eqC (blkCell B69 (i := 3) rfl)) (eqC (blkCell B69 (i := 4) rfl)))) ?_
      refine RL.y rfl (Y.loadN (cs := [.int .i64 x8.kind, .int .i64 x8.level, .int .i64 x8.value, .slice A17 x8.data.length c17, .slice A18 x8.ports.length c18]) rfl (by kernel_rfl) (cells5 (eqC (blkCell B66 (i := 0) rfl)) (eqC (blkCell B66 (i := 1) rfl)) (eqC (blkCell B66 (i := 2) rfl)) (eqC (blkCell B66 (i := 3) rfl)) (eqC (blkCell B66 (i := 4) rfl)))) ?_
      refine RL.store (v := .agg #[.int .i64 x19.kind, .int .i64 x19.level, .int .i64 x19.value, .slice A26 x19.data.length c26, .slice A27 x19.ports.length c27]) (cs' := #[.int .i64 x19.kind, .int .i64 x19.level, .int .i64 x19.value, .slice A26 x19.data.length c26, .slice A27 x19.ports.length c27]) rfl rfl rfl B66 (by kernel_rfl) (by rfl) (by rfl) (by rfl) (fun w77 B78 ho79 => ?_)
      have szw77 := ho79.size
      have B69 := B69.only_ ho79 (by intro hin; simp at hin; exact Eob64_ob60 hin)
      have T := T.trans (ho79.below (by first | (simp; done) | (simp; omega)))
      refine RL.store (v := .agg #[.int .i64 x8.kind, .int .i64 x8.level, .int .i64 x8.value, .slice A17 x8.data.length c17, .slice A18 x8.ports.length c18]) (cs' := #[.int .i64 x8.kind, .int .i64 x8.level, .int .i64 x8.value, .slice A17 x8.data.length c17, .slice A18 x8.ports.length c18]) rfl rfl rfl B69 (by kernel_rfl) (by rfl) (by rfl) (by rfl) (fun w80 B81 ho82 => ?_)
      have szw80 := ho82.size
      have B78 := B78.only_ ho82 (by intro hin; simp at hin; exact Eob64_ob60.symm hin)
      have T := T.trans (ho82.below (by first | (simp; done) | (simp; omega)))
      refine RL.nil ?_
      refine then_n ?_
      refine wp_seq ?_
      refine wp_seq ?_
      refine wp_rs rfl ?_
      refine RQ.y rfl (Y.move (v := .int .i64 (pairClass x8.kind x8.level x19.kind x19.level)) rfl) ?_
      refine RQ.y rfl (Y.binI (v := .bool ((pairClass x8.kind x8.level x19.kind x19.level) == 6)) rfl rfl rfl) ?_
      refine RQ.y rfl (Y.move (v := .bool ((pairClass x8.kind x8.level x19.kind x19.level) == 6)) rfl) ?_
      rcases bcases ((pairClass x8.kind x8.level x19.kind x19.level) == 6) with c83 | c83
      · replace hm := cF c83 hm
        refine RQ.skip (wantN (dj := 44) rfl (vb rfl c83) rfl) ?_
        refine RQ.skip (wantN (dj := 44) rfl (vb rfl c83) rfl) ?_
        refine RQ.skip (wantN (dj := 44) rfl (vb rfl c83) rfl) ?_
        refine RQ.y rfl (Y.pick (b := false) (v := .bool false) (vb rfl c83) rfl) ?_
        refine RQ.y rfl (Y.move (v := .bool false) rfl) ?_
        refine RQ.skip (wantN (dj := 49) rfl rfl rfl) ?_
        refine RQ.skip (wantN (dj := 49) rfl rfl rfl) ?_
        refine RQ.skip (wantN (dj := 49) rfl rfl rfl) ?_
        refine RQ.skip (wantN (dj := 49) rfl rfl rfl) ?_
        refine RQ.skip (wantN (dj := 49) rfl rfl rfl) ?_
        refine RQ.skip (wantN (dj := 49) rfl rfl rfl) ?_
        refine RQ.y rfl (Y.pick (b := false) (v := .bool false) rfl rfl) ?_
        refine RQ.nil ?_
        refine then_n ?_
        refine cond_f rfl rfl ?_
        refine wp_skip ?_
        refine then_n ?_
        refine wp_seq ?_
        refine wp_rs rfl ?_
        refine RQ.y rfl (Y.move (v := .int .i64 (pairClass x8.kind x8.level x19.kind x19.level)) rfl) ?_
        refine RQ.y rfl (Y.move (v := .int .i64 (pairFirst x8.kind x8.level x19.kind x19.level)) rfl) ?_
        refine RQ.y rfl (Y.binI (v := .bool ((pairFirst x8.kind x8.level x19.kind x19.level) == 2)) rfl rfl rfl) ?_
        refine RQ.y rfl (Y.assign (v := .int .i64 (pairClass x8.kind x8.level x19.kind x19.level)) rfl) ?_
        refine RQ.y rfl (Y.assign (v := .bool ((pairFirst x8.kind x8.level x19.kind x19.level) == 2)) rfl) ?_
        refine RQ.nil ?_
        refine then_n ?_
        refine wp_ret ?_
        obtain rfl := Option.some.inj hm
        exact (ret2 rfl rfl rfl rfl ⟨rfl, T⟩)
      · replace hm := cT c83 hm
        refine RQ.y (wantT (dj := 44) rfl (vb rfl c83)) (Y.fieldAddr (off := 0) rfl (by kernel_rfl)) ?_
        refine RQ.y (wantT (dj := 44) rfl (vb rfl c83)) (Y.load (v := .int .i64 x8.kind) rfl (by kernel_rfl) (eqC (blkCell B81 (i := 0) rfl))) ?_
        refine RQ.y (wantT (dj := 44) rfl (vb rfl c83)) (Y.binI (v := .bool (x8.kind == 10)) rfl rfl rfl) ?_
        refine RQ.y rfl (Y.pick (b := true) (v := .bool (x8.kind == 10)) (vb rfl c83) rfl) ?_
        refine RQ.y rfl (Y.move (v := .bool (x8.kind == 10)) rfl) ?_
        rcases bcases (x8.kind == 10) with c84 | c84
        · replace hm := cF c84 hm
          refine RQ.skip (wantN (dj := 49) rfl (vb rfl c84) rfl) ?_
          refine RQ.skip (wantN (dj := 49) rfl (vb rfl c84) rfl) ?_
          refine RQ.skip (wantN (dj := 49) rfl (vb rfl c84) rfl) ?_
          refine RQ.skip (wantN (dj := 49) rfl (vb rfl c84) rfl) ?_
          refine RQ.skip (wantN (dj := 49) rfl (vb rfl c84) rfl) ?_
          refine RQ.skip (wantN (dj := 49) rfl (vb rfl c84) rfl) ?_
          refine RQ.y rfl (Y.pick (b := false) (v := .bool false) (vb rfl c84) rfl) ?_
          refine RQ.nil ?_
          refine then_n ?_
          refine cond_f rfl rfl ?_
          refine wp_skip ?_
          refine then_n ?_
          refine wp_seq ?_
          refine wp_rs rfl ?_
          refine RQ.y rfl (Y.move (v := .int .i64 (pairClass x8.kind x8.level x19.kind x19.level)) rfl) ?_
          refine RQ.y rfl (Y.move (v := .int .i64 (pairFirst x8.kind x8.level x19.kind x19.level)) rfl) ?_
          refine RQ.y rfl (Y.binI (v := .bool ((pairFirst x8.kind x8.level x19.kind x19.level) == 2)) rfl rfl rfl) ?_
          refine RQ.y rfl (Y.assign (v := .int .i64 (pairClass x8.kind x8.level x19.kind x19.level)) rfl) ?_
          refine RQ.y rfl (Y.assign (v := .bool ((pairFirst x8.kind x8.level x19.kind x19.level) == 2)) rfl) ?_
          refine RQ.nil ?_
          refine then_n ?_
          refine wp_ret ?_
          obtain rfl := Option.some.inj hm
          exact (ret2 rfl rfl rfl rfl ⟨rfl, T⟩)
        · replace hm := cT c84 hm
          refine RQ.y (wantT (dj := 49) rfl (vb rfl c84)) (Y.fieldAddr (off := 2) rfl (by kernel_rfl)) ?_
          refine RQ.y (wantT (dj := 49) rfl (vb rfl c84)) (Y.load (v := .int .i64 x19.value) rfl (by kernel_rfl) (eqC (blkCell B78 (i := 2) rfl))) ?_
          refine RQ.y (wantT (dj := 49) rfl (vb rfl c84)) (Y.fieldAddr (off := 3) rfl (by kernel_rfl)) ?_
          refine RQ.y (wantT (dj := 49) rfl (vb rfl c84)) (Y.load (v := .slice A17 x8.data.length c17) rfl (by kernel_rfl) (eqC (blkCell B81 (i := 3) rfl))) ?_
          refine RQ.y (wantT (dj := 49) rfl (vb rfl c84)) (Y.len (by kernel_rfl) rfl) ?_
          refine RQ.y (wantT (dj := 49) rfl (vb rfl c84)) (Y.binI (v := .bool (decide (x19.value ≥ (x8.data.length : Int)))) rfl rfl rfl) ?_
          refine RQ.y rfl (Y.pick (b := true) (v := .bool (decide (x19.value ≥ (x8.data.length : Int)))) (vb rfl c84) rfl) ?_
          refine RQ.nil ?_
          refine then_n ?_
          rcases bcases (decide (x19.value ≥ (x8.data.length : Int))) with c85 | c85
          · replace hm := cF c85 hm
            have pc85 := of_decide_eq_false c85
            refine cond_f rfl (vb rfl c85) ?_
            refine wp_skip ?_
            refine then_n ?_
            refine wp_seq ?_
            refine wp_rs rfl ?_
            refine RQ.y rfl (Y.move (v := .int .i64 (pairClass x8.kind x8.level x19.kind x19.level)) rfl) ?_
            refine RQ.y rfl (Y.move (v := .int .i64 (pairFirst x8.kind x8.level x19.kind x19.level)) rfl) ?_
            refine RQ.y rfl (Y.binI (v := .bool ((pairFirst x8.kind x8.level x19.kind x19.level) == 2)) rfl rfl rfl) ?_
            refine RQ.y rfl (Y.assign (v := .int .i64 (pairClass x8.kind x8.level x19.kind x19.level)) rfl) ?_
            refine RQ.y rfl (Y.assign (v := .bool ((pairFirst x8.kind x8.level x19.kind x19.level) == 2)) rfl) ?_
            refine RQ.nil ?_
            refine then_n ?_
            refine wp_ret ?_
            obtain rfl := Option.some.inj hm
            exact (ret2 rfl rfl rfl rfl ⟨rfl, T⟩)
          · replace hm := cT c85 hm
            have pc85 := of_decide_eq_true c85
            refine cond_t rfl (vb rfl c85) ?_
            refine wp_seq ?_
            refine wp_rs rfl ?_
            refine RQ.y rfl (Y.assign (v := .int .i64 8) rfl) ?_
            refine RQ.y rfl (Y.assign (v := .bool false) rfl) ?_
            refine RQ.nil ?_
            refine then_n ?_
            refine wp_ret ?_
            obtain rfl := Option.some.inj hm
            exact (then_r (ret2 rfl rfl rfl rfl ⟨rfl, T⟩))
end
end Go.Proofs.Ytampijkiidjcmaa
