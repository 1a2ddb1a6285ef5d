/- Lemmas of the proof of RenumberNet, part 3. No condition. -/
import Derived.Test.YtampijkiidjcmaaZRenumberNet2
namespace Go.Proofs.Ytampijkiidjcmaa
section
open Go.RowKit
set_option linter.unusedVariables false
set_option linter.unusedSimpArgs false
set_option maxRecDepth 100000
def m_slices_IndexFunc_impl_Port_impl_Port_A1 : Option Int :=
  some (-1)
def m_slices_IndexFunc_impl_Port_impl_Port_B1 (d0 : List DPort) (d1 : DPort → Option Bool) (rec1 : Int → Option Int) (K1 : Option Int) (i2 : Int) : Option Int :=
  (bif (decide (i2 < (d0.length : Int))) then ((getI d0 i2).bind fun x5 => ((d1 x5).bind fun y14 => (bif y14 then some i2 else (rec1 (i2 + 1))))) else (K1))
def m_slices_IndexFunc_impl_Port_impl_Port_L1 (d0 : List DPort) (d1 : DPort → Option Bool) (K1 : Option Int) : Nat → Int → Option Int
  | 0, _ => none
  | g + 1, i2 => m_slices_IndexFunc_impl_Port_impl_Port_B1 d0 d1 (m_slices_IndexFunc_impl_Port_impl_Port_L1 d0 d1 K1 g) K1 i2
def m_slices_IndexFunc_impl_Port_impl_Port (d0 : List DPort) (d1 : DPort → Option Bool) : Option Int :=
  (m_slices_IndexFunc_impl_Port_impl_Port_L1 d0 d1 m_slices_IndexFunc_impl_Port_impl_Port_A1 (d0.length + 1) 0)
set_option maxHeartbeats 2000000 in
theorem c_m_slices_IndexFunc_impl_Port_impl_Port (d0 : List DPort) (d1 : DPort → Option Bool) (r : Int) (hm : m_slices_IndexFunc_impl_Port_impl_Port d0 d1 = some r) (v0 : Value) (gf1 : FuncId) (caps1 : Array Value) (w : World) (hv0 : Sl portRd 2 w v0 d0) (hgo1 : isGo Try.prog gf1 = true) (hf1 : ∀ (x0 : DPort) (b : Bool), d1 x0 = some b → ∀ w1, Below w.heap.size w w1 → Calls Try.prog gf1 (#[.agg #[.int .i64 x0.agent, .int .i64 x0.slot]] ++ caps1) w1 fun e w2 => e = .returned (.bool b) ∧ Below w1.heap.size w1 w2) :
    Calls Try.prog 167 #[v0, .func (.func gf1) #[] caps1] w fun e w' => e = .returned (.int .i64 r) ∧ Below w.heap.size w w' := by
  obtain ⟨Aa0, na0, ca0, rfl, ha0, ra0⟩ := hv0
  have ea0 := ha0.len; subst ea0
  have qa0 := len_le ra0
  have T := Below.refl w.heap.size w
  unfold m_slices_IndexFunc_impl_Port_impl_Port at hm
  refine enter 19 Try.func167 rfl rfl rfl ?_
  intro f hf
  have s0 : f 0 = .slice Aa0 d0.length ca0 := hf 0 _ rfl
  have s1 : f 1 = .func (.func gf1) #[] caps1 := hf 1 _ rfl
  refine wp_seq ?_
  refine wp_rs rfl ?_
  refine RQ.y rfl (Y.assign (v := .int .i64 0) rfl) ?_
  refine RQ.nil ?_
  refine then_n ?_
  refine wp_seq ?_
  refine wp_seq ?_
  refine wp_rs rfl ?_
  refine RQ.y rfl (Y.move (v := .slice Aa0 d0.length ca0) s0) ?_
  refine RQ.y rfl (Y.len (by kernel_rfl) rfl) ?_
  refine RQ.y rfl (Y.move (v := .int .i64 0) rfl) ?_
  refine RQ.nil ?_
  refine then_n ?_
  refine wp_block ?_
  obtain ⟨K1, hK1, hm⟩ : ∃ K, K = m_slices_IndexFunc_impl_Port_impl_Port_A1 ∧ m_slices_IndexFunc_impl_Port_impl_Port_L1 d0 d1 K (d0.length + 1) 0 = some r := ⟨_, rfl, hm⟩
  refine wp_loopX (fun g f w' => ∃ (i2 : Int), f 0 = .slice Aa0 d0.length ca0 ∧ f 1 = .func (.func gf1) #[] caps1 ∧ f 7 = .int .i64 (d0.length : Int) ∧ f 8 = .int .i64 i2 ∧ 0 ≤ i2 ∧ Below w.heap.size w w' ∧ m_slices_IndexFunc_impl_Port_impl_Port_L1 d0 d1 K1 g i2 = some r) 0 (fun f w' => Below w.heap.size w w' ∧ m_slices_IndexFunc_impl_Port_impl_Port_A1  = some r) (d0.length + 1) ⟨0, s0, s1, rfl, rfl, (by omega), T, hm⟩ ?_ ?_
  · rintro f w1 ⟨T, hm⟩
    unfold m_slices_IndexFunc_impl_Port_impl_Port_A1 at hm
    refine blk_hit (then_n ?_)
    refine wp_seq ?_
    refine wp_rs rfl ?_
    refine RQ.y rfl (Y.assign (v := .int .i64 (-1)) rfl) ?_
    refine RQ.nil ?_
    refine then_n ?_
    refine wp_ret ?_
    obtain rfl := Option.some.inj hm
    exact (ret1 rfl rfl rfl ⟨rfl, T⟩)
  · rintro g f w3 ⟨i2, s0_1, s1_1, s7_1, s8_1, nn8_1, T, hm⟩
    rcases g with _ | g
    · simp only [m_slices_IndexFunc_impl_Port_impl_Port_L1] at hm; cases hm
    obtain ⟨rec1, hrec1, hm⟩ : ∃ z, z = m_slices_IndexFunc_impl_Port_impl_Port_L1 d0 d1 K1 g ∧ m_slices_IndexFunc_impl_Port_impl_Port_B1 d0 d1 z K1 i2 = some r := ⟨_, rfl, hm⟩
    unfold m_slices_IndexFunc_impl_Port_impl_Port_B1 at hm
    refine wp_seq ?_
    refine wp_rs rfl ?_
    refine RQ.y rfl (Y.binI (v := .bool (decide (i2 < (d0.length : Int)))) s8_1 s7_1 rfl) ?_
    refine RQ.nil ?_
    refine then_n ?_
    refine wp_seq ?_
    rcases bcases (decide (i2 < (d0.length : Int))) with c4 | c4
    · replace hm := cF c4 hm
      have pc4 := of_decide_eq_false c4
      refine cond_f rfl (vb rfl c4) ?_
      refine wp_exit ?_
      exact (then_x (then_x (hit_x ⟨_, rfl, ⟨T, (by rw [hK1] at hm; exact hm)⟩⟩)))
    · replace hm := cT c4 hm
      have pc4 := of_decide_eq_true c4
      refine cond_t rfl (vb rfl c4) ?_
      refine wp_skip ?_
      refine then_n ?_
      refine wp_seq ?_
      refine wp_block ?_
      refine wp_seq ?_
      refine wp_rs rfl ?_
      refine RQ.y rfl (Y.move (v := .int .i64 i2) s8_1) ?_
      refine RQ.y rfl (Y.assign (v := .int .i64 i2) rfl) ?_
      refine RQ.nil ?_
      refine then_n ?_
      refine wp_seq ?_
      refine wp_rb rfl ?_
      refine RQ.y rfl (Y.move (v := .func (.func gf1) #[] caps1) s1_1) ?_
      refine RQ.y rfl (Y.move (v := .slice Aa0 d0.length ca0) s0_1) ?_
      refine RQ.y rfl (Y.move (v := .int .i64 i2) rfl) ?_
      obtain ⟨x5, hx8, hm⟩ := bnd hm
      obtain ⟨k6, hk9, hl10, hx8⟩ := getI_some hx8
      obtain ⟨b12, o13, rfl, hbb12⟩ := ha0.addr (by omega)
      obtain ⟨cs7, hRcs7, hc11⟩ := ha0.el hx8
      have hScs7 := hRcs7
      obtain rfl := hRcs7
      refine RQ.y rfl (Y.indexAddr (m := k6) (sz := 2) rfl rfl hk9 hl10 (by kernel_rfl)) ?_
      refine RQ.y rfl (Y.loadN (cs := [.int .i64 x5.agent, .int .i64 x5.slot]) rfl (by kernel_rfl) (cells2 (beC (cellT T (hc11 0 _ rfl))) (beC (cellT T (hc11 1 _ rfl))))) ?_
      obtain ⟨y14, e15, hm⟩ := bnd hm
      refine RQ.callV rfl rfl (am1 rfl) hgo1 (v := .bool y14) (bel (K := fun _ => True) fun w' hb' => hf1 x5 y14 e15 w' (Tt T hb')) ?_
      refine RQ.nil ?_
      intro w16 hb17
      have szw16 := hb17.size
      have T := Tt T hb17
      refine then_n ?_
      rcases bcases y14 with c18 | c18
      · replace hm := cF c18 hm
        refine cond_f rfl (vb rfl c18) ?_
        refine wp_skip ?_
        refine blk_n (then_n ?_)
        refine wp_rs rfl ?_
        refine RQ.y rfl (Y.binI s8_1 rfl (binI_add (m := i2) (by omega))) ?_
        refine RQ.y rfl (Y.move (v := .int .i64 (i2 + 1)) rfl) ?_
        refine RQ.nil ?_
        exact (then_n ⟨g, _, Nat.lt_succ_self _, rfl, ⟨(i2 + 1), s0_1, s1_1, s7_1, rfl, (by omega), T, (by rw [← hrec1]; exact hm)⟩⟩)
      · replace hm := cT c18 hm
        refine cond_t rfl (vb rfl c18) ?_
        refine wp_seq ?_
        refine wp_rs rfl ?_
        refine RQ.y rfl (Y.move (v := .int .i64 i2) rfl) ?_
        refine RQ.y rfl (Y.assign (v := .int .i64 i2) rfl) ?_
        refine RQ.nil ?_
        refine then_n ?_
        refine wp_ret ?_
        obtain rfl := Option.some.inj hm
        exact (blk_r (then_r (then_r (hit_r (blk_r (then_r (ret1 rfl rfl rfl ⟨rfl, T⟩)))))))
def m_slices_ContainsFunc_impl_Port_impl_Port (d0 : List DPort) (d1 : DPort → Option Bool) : Option Bool :=
  ((m_slices_IndexFunc_impl_Port_impl_Port d0 d1).bind fun y1 => some (decide (y1 ≥ 0)))
set_option maxHeartbeats 2000000 in
theorem c_m_slices_ContainsFunc_impl_Port_impl_Port (d0 : List DPort) (d1 : DPort → Option Bool) (r : Bool) (hm : m_slices_ContainsFunc_impl_Port_impl_Port d0 d1 = some r) (v0 : Value) (gf1 : FuncId) (caps1 : Array Value) (w : World) (hv0 : Sl portRd 2 w v0 d0) (hgo1 : isGo Try.prog gf1 = true) (hf1 : ∀ (x0 : DPort) (b : Bool), d1 x0 = some b → ∀ w1, Below w.heap.size w w1 → Calls Try.prog gf1 (#[.agg #[.int .i64 x0.agent, .int .i64 x0.slot]] ++ caps1) w1 fun e w2 => e = .returned (.bool b) ∧ Below w1.heap.size w1 w2) :
    Calls Try.prog 116 #[v0, .func (.func gf1) #[] caps1] w fun e w' => e = .returned (.bool r) ∧ Below w.heap.size w w' := by
  obtain ⟨Aa0, na0, ca0, rfl, ha0, ra0⟩ := hv0
  have ea0 := ha0.len; subst ea0
  have qa0 := len_le ra0
  have T := Below.refl w.heap.size w
  unfold m_slices_ContainsFunc_impl_Port_impl_Port at hm
  refine enter 9 Try.func116 rfl rfl rfl ?_
  intro f hf
  have s0 : f 0 = .slice Aa0 d0.length ca0 := hf 0 _ rfl
  have s1 : f 1 = .func (.func gf1) #[] caps1 := hf 1 _ rfl
  refine wp_seq ?_
  refine wp_rs rfl ?_
  refine RQ.y rfl (Y.assign (v := .bool false) rfl) ?_
  refine RQ.nil ?_
  refine then_n ?_
  refine wp_seq ?_
  refine wp_rb rfl ?_
  refine RQ.y rfl (Y.move (v := .slice Aa0 d0.length ca0) s0) ?_
  refine RQ.y rfl (Y.move (v := .func (.func gf1) #[] caps1) s1) ?_
  obtain ⟨y1, e2, hm⟩ := bnd hm
  refine RQ.call rfl (am2 rfl rfl) (by kernel_rfl) (v := .int .i64 y1) (bel (K := fun _ => True) fun w' hb' => (c_m_slices_IndexFunc_impl_Port_impl_Port d0 d1 _ e2 _ _ _ w' (slArg portRd_ok ha0 ra0 (Tt T hb')) hgo1 (fun x0 b hx w1 hb1 => hf1 x0 b hx w1 (Tt (Tt T hb') hb1)))) ?_
  refine RQ.y rfl (Y.binI (v := .bool (decide (y1 ≥ 0))) rfl rfl rfl) ?_
  refine RQ.y rfl (Y.assign (v := .bool (decide (y1 ≥ 0))) rfl) ?_
  refine RQ.nil ?_
  intro w3 hb4
  have szw3 := hb4.size
  have T := Tt T hb4
  refine then_n ?_
  refine wp_ret ?_
  obtain rfl := Option.some.inj hm
  exact (ret1 rfl rfl rfl ⟨rfl, T⟩)
def m_slices_IndexFunc_int64_int64_A1 : Option Int :=
  some (-1)
def m_slices_IndexFunc_int64_int64_B1 (d0 : List Int) (d1 : Int → Option Bool) (rec1 : Int → Option Int) (K1 : Option Int) (i2 : Int) : Option Int :=
  (bif (decide (i2 < (d0.length : Int))) then ((getI d0 i2).bind fun x5 => ((d1 x5).bind fun y14 => (bif y14 then some i2 else (rec1 (i2 + 1))))) else (K1))
def m_slices_IndexFunc_int64_int64_L1 (d0 : List Int) (d1 : Int → Option Bool) (K1 : Option Int) : Nat → Int → Option Int
  | 0, _ => none
  | g + 1, i2 => m_slices_IndexFunc_int64_int64_B1 d0 d1 (m_slices_IndexFunc_int64_int64_L1 d0 d1 K1 g) K1 i2
def m_slices_IndexFunc_int64_int64 (d0 : List Int) (d1 : Int → Option Bool) : Option Int :=
  (m_slices_IndexFunc_int64_int64_L1 d0 d1 m_slices_IndexFunc_int64_int64_A1 (d0.length + 1) 0)
set_option maxHeartbeats 2000000 in
theorem c_m_slices_IndexFunc_int64_int64 (d0 : List Int) (d1 : Int → Option Bool) (r : Int) (hm : m_slices_IndexFunc_int64_int64 d0 d1 = some r) (v0 : Value) (gf1 : FuncId) (caps1 : Array Value) (w : World) (hv0 : Sl intRd 1 w v0 d0) (hgo1 : isGo Try.prog gf1 = true) (hf1 : ∀ (x0 : Int) (b : Bool), d1 x0 = some b → ∀ w1, Below w.heap.size w w1 → Calls Try.prog gf1 (#[.int .i64 x0] ++ caps1) w1 fun e w2 => e = .returned (.bool b) ∧ Below w1.heap.size w1 w2) :
    Calls Try.prog 195 #[v0, .func (.func gf1) #[] caps1] w fun e w' => e = .returned (.int .i64 r) ∧ Below w.heap.size w w' := by
  obtain ⟨Aa0, na0, ca0, rfl, ha0, ra0⟩ := hv0
  have ea0 := ha0.len; subst ea0
  have qa0 := len_le ra0
  have T := Below.refl w.heap.size w
  unfold m_slices_IndexFunc_int64_int64 at hm
  refine enter 19 Try.func195 rfl rfl rfl ?_
  intro f hf
  have s0 : f 0 = .slice Aa0 d0.length ca0 := hf 0 _ rfl
  have s1 : f 1 = .func (.func gf1) #[] caps1 := hf 1 _ rfl
  refine wp_seq ?_
  refine wp_rs rfl ?_
  refine RQ.y rfl (Y.assign (v := .int .i64 0) rfl) ?_
  refine RQ.nil ?_
  refine then_n ?_
  refine wp_seq ?_
  refine wp_seq ?_
  refine wp_rs rfl ?_
  refine RQ.y rfl (Y.move (v := .slice Aa0 d0.length ca0) s0) ?_
  refine RQ.y rfl (Y.len (by kernel_rfl) rfl) ?_
  refine RQ.y rfl (Y.move (v := .int .i64 0) rfl) ?_
  refine RQ.nil ?_
  refine then_n ?_
  refine wp_block ?_
  obtain ⟨K1, hK1, hm⟩ : ∃ K, K = m_slices_IndexFunc_int64_int64_A1 ∧ m_slices_IndexFunc_int64_int64_L1 d0 d1 K (d0.length + 1) 0 = some r := ⟨_, rfl, hm⟩
  refine wp_loopX (fun g f w' => ∃ (i2 : Int), f 0 = .slice Aa0 d0.length ca0 ∧ f 1 = .func (.func gf1) #[] caps1 ∧ f 7 = .int .i64 (d0.length : Int) ∧ f 8 = .int .i64 i2 ∧ 0 ≤ i2 ∧ Below w.heap.size w w' ∧ m_slices_IndexFunc_int64_int64_L1 d0 d1 K1 g i2 = some r) 0 (fun f w' => Below w.heap.size w w' ∧ m_slices_IndexFunc_int64_int64_A1  = some r) (d0.length + 1) ⟨0, s0, s1, rfl, rfl, (by omega), T, hm⟩ ?_ ?_
  · rintro f w1 ⟨T, hm⟩
    unfold m_slices_IndexFunc_int64_int64_A1 at hm
    refine blk_hit (then_n ?_)
    refine wp_seq ?_
    refine wp_rs rfl ?_
    refine RQ.y rfl (Y.assign (v := .int .i64 (-1)) rfl) ?_
    refine RQ.nil ?_
    refine then_n ?_
    refine wp_ret ?_
    obtain rfl := Option.some.inj hm
    exact (ret1 rfl rfl rfl ⟨rfl, T⟩)
  · rintro g f w3 ⟨i2, s0_1, s1_1, s7_1, s8_1, nn8_1, T, hm⟩
    rcases g with _ | g
    · simp only [m_slices_IndexFunc_int64_int64_L1] at hm; cases hm
    obtain ⟨rec1, hrec1, hm⟩ : ∃ z, z = m_slices_IndexFunc_int64_int64_L1 d0 d1 K1 g ∧ m_slices_IndexFunc_int64_int64_B1 d0 d1 z K1 i2 = some r := ⟨_, rfl, hm⟩
    unfold m_slices_IndexFunc_int64_int64_B1 at hm
    refine wp_seq ?_
    refine wp_rs rfl ?_
    refine RQ.y rfl (Y.binI (v := .bool (decide (i2 < (d0.length : Int)))) s8_1 s7_1 rfl) ?_
    refine RQ.nil ?_
    refine then_n ?_
    refine wp_seq ?_
    rcases bcases (decide (i2 < (d0.length : Int))) with c4 | c4
    · replace hm := cF c4 hm
      have pc4 := of_decide_eq_false c4
      refine cond_f rfl (vb rfl c4) ?_
      refine wp_exit ?_
      exact (then_x (then_x (hit_x ⟨_, rfl, ⟨T, (by rw [hK1] at hm; exact hm)⟩⟩)))
    · replace hm := cT c4 hm
      have pc4 := of_decide_eq_true c4
      refine cond_t rfl (vb rfl c4) ?_
      refine wp_skip ?_
      refine then_n ?_
      refine wp_seq ?_
      refine wp_block ?_
      refine wp_seq ?_
      refine wp_rs rfl ?_
      refine RQ.y rfl (Y.move (v := .int .i64 i2) s8_1) ?_
      refine RQ.y rfl (Y.assign (v := .int .i64 i2) rfl) ?_
      refine RQ.nil ?_
      refine then_n ?_
      refine wp_seq ?_
      refine wp_rb rfl ?_
      refine RQ.y rfl (Y.move (v := .func (.func gf1) #[] caps1) s1_1) ?_
      refine RQ.y rfl (Y.move (v := .slice Aa0 d0.length ca0) s0_1) ?_
      refine RQ.y rfl (Y.move (v := .int .i64 i2) rfl) ?_
      obtain ⟨x5, hx8, hm⟩ := bnd hm
      obtain ⟨k6, hk9, hl10, hx8⟩ := getI_some hx8
      obtain ⟨b12, o13, rfl, hbb12⟩ := ha0.addr (by omega)
      obtain ⟨cs7, hRcs7, hc11⟩ := ha0.el hx8
      have hScs7 := hRcs7
      obtain rfl := hRcs7
      refine RQ.y rfl (Y.indexAddr (m := k6) (sz := 1) rfl rfl hk9 hl10 (by kernel_rfl)) ?_
      refine RQ.y rfl (Y.load (v := .int .i64 x5) rfl (by kernel_rfl) (beC (cellT T (hc11 0 _ rfl)))) ?_
      obtain ⟨y14, e15, hm⟩ := bnd hm
      refine RQ.callV rfl rfl (am1 rfl) hgo1 (v := .bool y14) (bel (K := fun _ => True) fun w' hb' => hf1 x5 y14 e15 w' (Tt T hb')) ?_
      refine RQ.nil ?_
      intro w16 hb17
      have szw16 := hb17.size
      have T := Tt T hb17
      refine then_n ?_
      rcases bcases y14 with c18 | c18
      · replace hm := cF c18 hm
        refine cond_f rfl (vb rfl c18) ?_
        refine wp_skip ?_
        refine blk_n (then_n ?_)
        refine wp_rs rfl ?_
        refine RQ.y rfl (Y.binI s8_1 rfl (binI_add (m := i2) (by omega))) ?_
        refine RQ.y rfl (Y.move (v := .int .i64 (i2 + 1)) rfl) ?_
        refine RQ.nil ?_
        exact (then_n ⟨g, _, Nat.lt_succ_self _, rfl, ⟨(i2 + 1), s0_1, s1_1, s7_1, rfl, (by omega), T, (by rw [← hrec1]; exact hm)⟩⟩)
      · replace hm := cT c18 hm
        refine cond_t rfl (vb rfl c18) ?_
        refine wp_seq ?_
        refine wp_rs rfl ?_
        refine RQ.y rfl (Y.move (v := .int .i64 i2) rfl) ?_
        refine RQ.y rfl (Y.assign (v := .int .i64 i2) rfl) ?_
        refine RQ.nil ?_
        refine then_n ?_
        refine wp_ret ?_
        obtain rfl := Option.some.inj hm
        exact (blk_r (then_r (then_r (hit_r (blk_r (then_r (ret1 rfl rfl rfl ⟨rfl, T⟩)))))))
def m_slices_ContainsFunc_int64_int64 (d0 : List Int) (d1 : Int → Option Bool) : Option Bool :=
  ((m_slices_IndexFunc_int64_int64 d0 d1).bind fun y1 => some (decide (y1 ≥ 0)))
set_option maxHeartbeats 2000000 in
theorem c_m_slices_ContainsFunc_int64_int64 (d0 : List Int) (d1 : Int → Option Bool) (r : Bool) (hm : m_slices_ContainsFunc_int64_int64 d0 d1 = some r) (v0 : Value) (gf1 : FuncId) (caps1 : Array Value) (w : World) (hv0 : Sl intRd 1 w v0 d0) (hgo1 : isGo Try.prog gf1 = true) (hf1 : ∀ (x0 : Int) (b : Bool), d1 x0 = some b → ∀ w1, Below w.heap.size w w1 → Calls Try.prog gf1 (#[.int .i64 x0] ++ caps1) w1 fun e w2 => e = .returned (.bool b) ∧ Below w1.heap.size w1 w2) :
    Calls Try.prog 186 #[v0, .func (.func gf1) #[] caps1] w fun e w' => e = .returned (.bool r) ∧ Below w.heap.size w w' := by
  obtain ⟨Aa0, na0, ca0, rfl, ha0, ra0⟩ := hv0
  have ea0 := ha0.len; subst ea0
  have qa0 := len_le ra0
  have T := Below.refl w.heap.size w
  unfold m_slices_ContainsFunc_int64_int64 at hm
  refine enter 9 Try.func186 rfl rfl rfl ?_
  intro f hf
  have s0 : f 0 = .slice Aa0 d0.length ca0 := hf 0 _ rfl
  have s1 : f 1 = .func (.func gf1) #[] caps1 := hf 1 _ rfl
  refine wp_seq ?_
  refine wp_rs rfl ?_
  refine RQ.y rfl (Y.assign (v := .bool false) rfl) ?_
  refine RQ.nil ?_
  refine then_n ?_
  refine wp_seq ?_
  refine wp_rb rfl ?_
  refine RQ.y rfl (Y.move (v := .slice Aa0 d0.length ca0) s0) ?_
  refine RQ.y rfl (Y.move (v := .func (.func gf1) #[] caps1) s1) ?_
  obtain ⟨y1, e2, hm⟩ := bnd hm
  refine RQ.call rfl (am2 rfl rfl) (by kernel_rfl) (v := .int .i64 y1) (bel (K := fun _ => True) fun w' hb' => (c_m_slices_IndexFunc_int64_int64 d0 d1 _ e2 _ _ _ w' (slArg intRd_ok ha0 ra0 (Tt T hb')) hgo1 (fun x0 b hx w1 hb1 => hf1 x0 b hx w1 (Tt (Tt T hb') hb1)))) ?_
  refine RQ.y rfl (Y.binI (v := .bool (decide (y1 ≥ 0))) rfl rfl rfl) ?_
  refine RQ.y rfl (Y.assign (v := .bool (decide (y1 ≥ 0))) rfl) ?_
  refine RQ.nil ?_
  intro w3 hb4
  have szw3 := hb4.size
  have T := Tt T hb4
  refine then_n ?_
  refine wp_ret ?_
  obtain rfl := Option.some.inj hm
  exact (ret1 rfl rfl rfl ⟨rfl, T⟩)
def m_impl_ValidNet_1 (d0 : DPort) (d1 : DNet) : Option Bool :=
  ((m_impl_Net_peer d1 d0).bind fun y6 => (bif (y6.agent == d0.agent && y6.slot == d0.slot) then some true else ((m_impl_hasPort d1.agents y6).bind fun y18 => (bif y18 then ((m_impl_Net_peer d1 y6).bind fun y23 => some (!(y23.agent == d0.agent && y23.slot == d0.slot))) else some true))))
set_option maxHeartbeats 2000000 in
theorem c_m_impl_ValidNet_1 (d0 : DPort) (d1 : DNet) (r : Bool) (hm : m_impl_ValidNet_1 d0 d1 = some r) (v1 : Value) (w : World) (hv1 : Pt netRd w v1 d1) :
    Calls Try.prog 118 #[.agg #[.int .i64 d0.agent, .int .i64 d0.slot], v1] w fun e w' => e = .returned (.bool r) ∧ Below w.heap.size w w' := by
  obtain ⟨ba1, oa1, csa1, rfl, hba1, hRa1, hca1⟩ := hv1
  have hSa1 := hRa1
  obtain ⟨A1, n1, c1, rfl, ⟨h1, r1⟩⟩ := hRa1
  have e1 := h1.len; subst e1
  have q1 := len_le r1
  have T := Below.refl w.heap.size w
  unfold m_impl_ValidNet_1 at hm
  refine enter 23 Try.func118 rfl rfl rfl ?_
  intro f hf
  have s0 : f 0 = .agg #[.int .i64 d0.agent, .int .i64 d0.slot] := hf 0 _ rfl
  have s1 : f 1 = .pointer (some ⟨ba1, oa1, none⟩) := hf 1 _ rfl
  refine wp_seq ?_
  refine wp_rl rfl ?_
  refine RL.box rfl s0 (fun w2 B3 hb4 szw2 => ?_)
  replace B3 : Blk w2 w.heap.size 53 #[.int .i64 d0.agent, .int .i64 d0.slot] := B3
  have GB3 : w.heap.size ≤ w.heap.size := T.size
  have T := Tt T hb4
  refine RL.y rfl (Y.assign (v := .bool false) rfl) ?_
  refine RL.nil ?_
  refine then_n ?_
  refine wp_seq ?_
  refine wp_rl rfl ?_
  refine RL.y rfl (Y.loadN (cs := [.int .i64 d0.agent, .int .i64 d0.slot]) rfl (by kernel_rfl) (cells2 (eqC (blkCell B3 (i := 0) rfl)) (eqC (blkCell B3 (i := 1) rfl)))) ?_
  obtain ⟨y6, e7, hm⟩ := bnd hm
  refine RL.call rfl (am2 s1 rfl) (by kernel_rfl) ((c_m_impl_Net_peer d1 d0 _ e7 _ _ (ptArg netRd_ok hba1 hSa1 hca1 T)).mono ?_)
  rintro _ w8 ⟨rfl, hb9⟩
  refine ⟨_, rfl, ?_⟩
  have szw8 := hb9.size
  have B3 := blkT B3 hb9
  have T := Tt T hb9
  refine RL.alloc (z := .agg #[.int .i64 0, .int .i64 0]) rfl (by kernel_rfl) (fun w10 B11 hb12 szw10 => ?_)
  replace B11 : Blk w10 w8.heap.size 53 #[.int .i64 0, .int .i64 0] := B11
  have GB11 : w.heap.size ≤ w8.heap.size := T.size
  have Eob13_ob5 := Nat.ne_of_lt B3.lt
  have B3 := blkT B3 hb12
  have T := Tt T hb12
  refine RL.store (v := .agg #[.int .i64 y6.agent, .int .i64 y6.slot]) (cs' := #[.int .i64 y6.agent, .int .i64 y6.slot]) rfl rfl rfl B11 (by kernel_rfl) (by rfl) (by rfl) (by rfl) (fun w14 B15 ho16 => ?_)
  have szw14 := ho16.size
  have B3 := B3.only_ ho16 (by intro hin; simp at hin; exact Eob13_ob5 hin)
  have T := T.trans (ho16.below (by simp; omega))
  refine RL.nil ?_
  refine then_n ?_
  refine wp_seq ?_
  refine wp_rbd (by kernel_rfl) (by kernel_rfl) ?_
  refine RQ.y rfl (Y.loadN (cs := [.int .i64 y6.agent, .int .i64 y6.slot]) rfl (by kernel_rfl) (cells2 (beC (blkCell B15 (i := 0) rfl)) (beC (blkCell B15 (i := 1) rfl)))) ?_
  refine RQ.y rfl (Y.loadN (cs := [.int .i64 d0.agent, .int .i64 d0.slot]) rfl (by kernel_rfl) (cells2 (beC (blkCell B3 (i := 0) rfl)) (beC (blkCell B3 (i := 1) rfl)))) ?_
  refine RQ.y rfl (Y.eqS (b := (y6.agent == d0.agent && y6.slot == d0.slot)) rfl rfl (eqPort_run _ _ _ _) (eqGuardPort_run _ _ _ _ _)) ?_
  refine RQ.y rfl (Y.move (v := .bool (y6.agent == d0.agent && y6.slot == d0.slot)) rfl) ?_
  rcases bcases (y6.agent == d0.agent && y6.slot == d0.slot) with c17 | c17
  · replace hm := cF c17 hm
    refine RQ.y (wantT (dj := 10) rfl (vb rfl c17)) (Y.fieldAddr (off := 0) s1 (by kernel_rfl)) ?_
    refine RQ.y (wantT (dj := 10) rfl (vb rfl c17)) (Y.load (v := .slice A1 d1.agents.length c1) rfl (by kernel_rfl) (beC (cellT T (hca1 0 _ rfl)))) ?_
    refine RQ.y (wantT (dj := 10) rfl (vb rfl c17)) (Y.loadN (cs := [.int .i64 y6.agent, .int .i64 y6.slot]) rfl (by kernel_rfl) (cells2 (beC (blkCell B15 (i := 0) rfl)) (beC (blkCell B15 (i := 1) rfl)))) ?_
    obtain ⟨y18, e19, hm⟩ := bnd hm
    refine RQ.call (wantT (dj := 10) rfl (vb rfl c17)) (am2 rfl rfl) (by kernel_rfl) (v := .bool y18) (bel (K := fun _ => True) fun w' hb' => (c_m_impl_hasPort d1.agents y6 _ e19 _ w' (slArg agentRd_ok h1 r1 (Tt T hb')))) ?_
    refine RQ.y (wantT (dj := 10) rfl (vb rfl c17)) (Y.not (b' := (!y18)) rfl rfl) ?_
    refine RQ.y rfl (Y.pick (b := false) (v := .bool (!y18)) (vb rfl c17) rfl) ?_
    refine RQ.y rfl (Y.move (v := .bool (!y18)) rfl) ?_
    rcases bcases y18 with c20 | c20
    · replace hm := cF c20 hm
      refine RQ.skip (wantN (dj := 17) rfl (vbn rfl c20 rfl) rfl) ?_
      refine RQ.skip (wantN (dj := 17) rfl (vbn rfl c20 rfl) rfl) ?_
      refine RQ.skip (wantN (dj := 17) rfl (vbn rfl c20 rfl) rfl) ?_
      refine RQ.skip (wantN (dj := 17) rfl (vbn rfl c20 rfl) rfl) ?_
      refine RQ.y rfl (Y.pick (b := true) (v := .bool true) (vbn rfl c20 rfl) rfl) ?_
      refine RQ.y rfl (Y.assign (v := .bool true) rfl) ?_
      refine RQ.nil ?_
      intro w21 hb22
      have szw21 := hb22.size
      have T := Tt T hb22
      refine then_n ?_
      refine wp_ret ?_
      obtain rfl := Option.some.inj hm
      exact (ret1 rfl rfl rfl ⟨rfl, T⟩)
    · replace hm := cT c20 hm
      refine RQ.y (wantT (dj := 17) rfl (vbn rfl c20 rfl)) (Y.loadN (cs := [.int .i64 y6.agent, .int .i64 y6.slot]) rfl (by kernel_rfl) (cells2 (beC (blkCell B15 (i := 0) rfl)) (beC (blkCell B15 (i := 1) rfl)))) ?_
      obtain ⟨y23, e24, hm⟩ := bnd hm
      refine RQ.call (wantT (dj := 17) rfl (vbn rfl c20 rfl)) (am2 s1 rfl) (by kernel_rfl) (v := .agg #[.int .i64 y23.agent, .int .i64 y23.slot]) (bel (K := fun _ => True) fun w' hb' => (c_m_impl_Net_peer d1 y6 _ e24 _ w' (ptArg netRd_ok hba1 hSa1 hca1 (Tt T hb')))) ?_
      refine RQ.y (wantT (dj := 17) rfl (vbn rfl c20 rfl)) (Y.loadN (cs := [.int .i64 d0.agent, .int .i64 d0.slot]) rfl (by kernel_rfl) (cells2 (beC (blkCell B3 (i := 0) rfl)) (beC (blkCell B3 (i := 1) rfl)))) ?_
      refine RQ.y (wantT (dj := 17) rfl (vbn rfl c20 rfl)) (Y.neS (b := (y23.agent == d0.agent && y23.slot == d0.slot)) rfl rfl (eqPort_run _ _ _ _) (eqGuardPort_run _ _ _ _ _)) ?_
      refine RQ.y rfl (Y.pick (b := false) (v := .bool (!(y23.agent == d0.agent && y23.slot == d0.slot))) (vbn rfl c20 rfl) rfl) ?_
      refine RQ.y rfl (Y.assign (v := .bool (!(y23.agent == d0.agent && y23.slot == d0.slot))) rfl) ?_
      refine RQ.nil ?_
      intro w25 hb26
      have szw25 := hb26.size
      have T := Tt T hb26
      refine then_n ?_
      refine wp_ret ?_
      obtain rfl := Option.some.inj hm
      exact (ret1 rfl rfl rfl ⟨rfl, T⟩)
  · replace hm := cT c17 hm
    refine RQ.skip (wantN (dj := 10) rfl (vb rfl c17) rfl) ?_
    refine RQ.skip (wantN (dj := 10) rfl (vb rfl c17) rfl) ?_
    refine RQ.skip (wantN (dj := 10) rfl (vb rfl c17) rfl) ?_
    refine RQ.skip (wantN (dj := 10) rfl (vb rfl c17) rfl) ?_
    refine RQ.skip (wantN (dj := 10) rfl (vb rfl c17) rfl) ?_
    refine RQ.y rfl (Y.pick (b := true) (v := .bool true) (vb rfl c17) rfl) ?_
    refine RQ.y rfl (Y.move (v := .bool true) rfl) ?_
    refine RQ.skip (wantN (dj := 17) rfl rfl rfl) ?_
    refine RQ.skip (wantN (dj := 17) rfl rfl rfl) ?_
    refine RQ.skip (wantN (dj := 17) rfl rfl rfl) ?_
    refine RQ.skip (wantN (dj := 17) rfl rfl rfl) ?_
    refine RQ.y rfl (Y.pick (b := true) (v := .bool true) rfl rfl) ?_
    refine RQ.y rfl (Y.assign (v := .bool true) rfl) ?_
    refine RQ.nil ?_
    intro w27 hb28
    have szw27 := hb28.size
    have T := Tt T hb28
    refine then_n ?_
    refine wp_ret ?_
    obtain rfl := Option.some.inj hm
    exact (ret1 rfl rfl rfl ⟨rfl, T⟩)
def m_impl_wellFormed (d0 : DAgent) : Option Bool :=
  (bif ((d0.ports.length : Int) == 0) then some false else ((m_impl_fieldsOf d0.kind (d0.ports.length : Int)).bind fun y8 => (bif ((portsOf d0.kind y8) != (d0.ports.length : Int)) then some false else (bif (allowed d0.kind d0.level) then ((m_slices_ContainsFunc_int64_int64 d0.data (fun x0 => m_impl_wellFormed_1 x0)).bind fun y16 => (bif (d0.kind == 6) then ((m_impl_isInt d0.value).bind fun y69 => (bif y69 then some ((d0.data.length : Int) == 0) else some false)) else (bif (d0.kind == 7) then ((m_impl_isOperator d0.value).bind fun y64 => (bif y64 then some ((d0.data.length : Int) == 0) else some false)) else (bif (d0.kind == 8) then ((m_impl_isOperator d0.value).bind fun y43 => (bif y43 then (bif ((d0.data.length : Int) == 1) then ((getI d0.data 0).bind fun x51 => ((m_impl_isInt x51).bind fun y60 => some y60)) else some false) else some false)) else (bif (d0.kind == 9) then (bif (decide (d0.value ≥ 0)) then (bif (decide (d0.value < 4)) then some ((d0.data.length : Int) == 0) else some false) else some false) else (bif (d0.kind == 10) then (bif (decide ((d0.data.length : Int) ≥ 1)) then (bif (decide ((d0.data.length : Int) ≤ 4)) then (bif (d0.value == 0) then some (!y16) else some false) else (bif (d0.value == 0) then some false else some false)) else (bif (d0.value == 0) then some false else some false)) else (bif (d0.kind == 11) then (bif ((d0.data.length : Int) == 2) then (bif (d0.value == 0) then some (!y16) else some false) else (bif (d0.value == 0) then some false else some false)) else (bif (d0.kind == 12) then ((m_impl_isDefIndex d0.value).bind fun y28 => (bif y28 then some ((d0.data.length : Int) == 0) else some false)) else (bif (d0.value == 0) then some ((d0.data.length : Int) == 0) else some false))))))))) else some false))))
set_option maxHeartbeats 2000000 in
theorem c_m_impl_wellFormed (d0 : DAgent) (r : Bool) (hm : m_impl_wellFormed d0 = some r) (v0 : Value) (w : World) (hv0 : St agentRd w v0 d0) :
    Calls Try.prog 166 #[v0] w fun e w' => e = .returned (.bool r) ∧ Below w.heap.size w w' := by
  obtain ⟨csa0, rfl, ⟨A1, n1, c1, A2, n2, c2, rfl, ⟨h1, r1⟩, ⟨h2, r2⟩⟩⟩ := hv0
  have e1 := h1.len; subst e1
  have q1 := len_le r1
  have e2 := h2.len; subst e2
  have q2 := len_le r2
  have T := Below.refl w.heap.size w
  unfold m_impl_wellFormed at hm
  refine enter 117 Try.func166 rfl rfl rfl ?_
  intro f hf
  have s0 : f 0 = .agg #[.int .i64 d0.kind, .int .i64 d0.level, .int .i64 d0.value, .slice A1 d0.data.length c1, .slice A2 d0.ports.length c2] := hf 0 _ rfl
  refine wp_seq ?_
  refine wp_rl rfl ?_
  refine RL.box rfl s0 (fun w3 B4 hb5 szw3 => ?_)
  replace B4 : Blk w3 w.heap.size 89 #[.int .i64 d0.kind, .int .i64 d0.level, .int .i64 d0.value, .slice A1 d0.data.length c1, .slice A2 d0.ports.length c2] := B4
  have GB4 : w.heap.size ≤ w.heap.size := T.size
  have T := Tt T hb5
  refine RL.y rfl (Y.assign (v := .bool false) rfl) ?_
  refine RL.nil ?_
  refine then_n ?_
  refine wp_seq ?_
  refine wp_seq ?_
  refine wp_rbd (by kernel_rfl) (by kernel_rfl) ?_
  refine RQ.y rfl (Y.fieldAddr (off := 4) rfl (by kernel_rfl)) ?_
  refine RQ.y rfl (Y.load (v := .slice A2 d0.ports.length c2) rfl (by kernel_rfl) (beC (blkCell B4 (i := 4) rfl))) ?_
  refine RQ.y rfl (Y.len (by kernel_rfl) rfl) ?_
  refine RQ.y rfl (Y.binI (v := .bool ((d0.ports.length : Int) == 0)) rfl rfl rfl) ?_
  refine RQ.y rfl (Y.move (v := .bool ((d0.ports.length : Int) == 0)) rfl) ?_
  rcases bcases ((d0.ports.length : Int) == 0) with c7 | c7
  · replace hm := cF c7 hm
    refine RQ.y (wantT (dj := 10) rfl (vb rfl c7)) (Y.fieldAddr (off := 0) rfl (by kernel_rfl)) ?_
    refine RQ.y (wantT (dj := 10) rfl (vb rfl c7)) (Y.load (v := .int .i64 d0.kind) rfl (by kernel_rfl) (beC (blkCell B4 (i := 0) rfl))) ?_
    refine RQ.y (wantT (dj := 10) rfl (vb rfl c7)) (Y.fieldAddr (off := 0) rfl (by kernel_rfl)) ?_
    refine RQ.y (wantT (dj := 10) rfl (vb rfl c7)) (Y.load (v := .int .i64 d0.kind) rfl (by kernel_rfl) (beC (blkCell B4 (i := 0) rfl))) ?_
    refine RQ.y (wantT (dj := 10) rfl (vb rfl c7)) (Y.fieldAddr (off := 4) rfl (by kernel_rfl)) ?_
    refine RQ.y (wantT (dj := 10) rfl (vb rfl c7)) (Y.load (v := .slice A2 d0.ports.length c2) rfl (by kernel_rfl) (beC (blkCell B4 (i := 4) rfl))) ?_
    refine RQ.y (wantT (dj := 10) rfl (vb rfl c7)) (Y.len (by kernel_rfl) rfl) ?_
    obtain ⟨y8, e9, hm⟩ := bnd hm
    refine RQ.call (wantT (dj := 10) rfl (vb rfl c7)) (am2 rfl rfl) (by kernel_rfl) (v := .int .i64 y8) (bel (K := fun _ => True) fun w' hb' => (c_m_impl_fieldsOf d0.kind (d0.ports.length : Int) _ e9  w' )) ?_
    refine RQ.call (wantT (dj := 10) rfl (vb rfl c7)) (am2 rfl rfl) (by kernel_rfl) (v := .int .i64 (portsOf d0.kind y8)) (bel (K := fun _ => True) fun w' hb' => (callB (impl_PortsOf d0.kind y8 w'))) ?_
    refine RQ.y (wantT (dj := 10) rfl (vb rfl c7)) (Y.fieldAddr (off := 4) rfl (by kernel_rfl)) ?_
    refine RQ.y (wantT (dj := 10) rfl (vb rfl c7)) (Y.load (v := .slice A2 d0.ports.length c2) rfl (by kernel_rfl) (beC (blkCell B4 (i := 4) rfl))) ?_
    refine RQ.y (wantT (dj := 10) rfl (vb rfl c7)) (Y.len (by kernel_rfl) rfl) ?_
    refine RQ.y (wantT (dj := 10) rfl (vb rfl c7)) (Y.binI (v := .bool ((portsOf d0.kind y8) != (d0.ports.length : Int))) rfl rfl rfl) ?_
    refine RQ.y rfl (Y.pick (b := false) (v := .bool ((portsOf d0.kind y8) != (d0.ports.length : Int))) (vb rfl c7) rfl) ?_
    refine RQ.y rfl (Y.move (v := .bool ((portsOf d0.kind y8) != (d0.ports.length : Int))) rfl) ?_
    rcases bcases ((portsOf d0.kind y8) != (d0.ports.length : Int)) with c10 | c10
    · replace hm := cF c10 hm
      refine RQ.y (wantT (dj := 25) rfl (vb rfl c10)) (Y.fieldAddr (off := 0) rfl (by kernel_rfl)) ?_
      refine RQ.y (wantT (dj := 25) rfl (vb rfl c10)) (Y.load (v := .int .i64 d0.kind) rfl (by kernel_rfl) (beC (blkCell B4 (i := 0) rfl))) ?_
      refine RQ.y (wantT (dj := 25) rfl (vb rfl c10)) (Y.fieldAddr (off := 1) rfl (by kernel_rfl)) ?_
      refine RQ.y (wantT (dj := 25) rfl (vb rfl c10)) (Y.load (v := .int .i64 d0.level) rfl (by kernel_rfl) (beC (blkCell B4 (i := 1) rfl))) ?_
      refine RQ.call (wantT (dj := 25) rfl (vb rfl c10)) (am2 rfl rfl) (by kernel_rfl) (v := .bool (allowed d0.kind d0.level)) (bel (K := fun _ => True) fun w' hb' => (callB (impl_isAllowed d0.kind d0.level w'))) ?_
      refine RQ.y (wantT (dj := 25) rfl (vb rfl c10)) (Y.not (b' := (!(allowed d0.kind d0.level))) rfl rfl) ?_
      refine RQ.y rfl (Y.pick (b := false) (v := .bool (!(allowed d0.kind d0.level))) (vb rfl c10) rfl) ?_
      refine RQ.nil ?_
      intro w11 hb12
      have szw11 := hb12.size
      have B4 := blkT B4 hb12
      have T := Tt T hb12
      refine then_n ?_
      rcases bcases (allowed d0.kind d0.level) with c13 | c13
      · replace hm := cF c13 hm
        refine cond_t rfl (vbn rfl c13 rfl) ?_
        refine wp_seq ?_
        refine wp_rs rfl ?_
        refine RQ.y rfl (Y.assign (v := .bool false) rfl) ?_
        refine RQ.nil ?_
        refine then_n ?_
        refine wp_ret ?_
        obtain rfl := Option.some.inj hm
        exact (then_r (ret1 rfl rfl rfl ⟨rfl, T⟩))
      · replace hm := cT c13 hm
        refine cond_f rfl (vbn rfl c13 rfl) ?_
        refine wp_skip ?_
        refine then_n ?_
        refine wp_seq ?_
        refine wp_rbd (by kernel_rfl) (by kernel_rfl) ?_
        refine RQ.y rfl (Y.fieldAddr (off := 2) rfl (by kernel_rfl)) ?_
        refine RQ.y rfl (Y.load (v := .int .i64 d0.value) rfl (by kernel_rfl) (beC (blkCell B4 (i := 2) rfl))) ?_
        refine RQ.y rfl (Y.binI (v := .bool (d0.value == 0)) rfl rfl rfl) ?_
        refine RQ.y rfl (Y.fieldAddr (off := 3) rfl (by kernel_rfl)) ?_
        refine RQ.y rfl (Y.load (v := .slice A1 d0.data.length c1) rfl (by kernel_rfl) (beC (blkCell B4 (i := 3) rfl))) ?_
        refine RQ.y rfl (Y.len (by kernel_rfl) rfl) ?_
        refine RQ.y rfl (Y.binI (v := .bool ((d0.data.length : Int) == 0)) rfl rfl rfl) ?_
        refine RQ.y rfl (Y.assign (v := .bool (d0.value == 0)) rfl) ?_
        refine RQ.y rfl (Y.assign (v := .bool ((d0.data.length : Int) == 0)) rfl) ?_
        refine RQ.nil ?_
        intro w14 hb15
        have szw14 := hb15.size
        have B4 := blkT B4 hb15
        have T := Tt T hb15
        refine then_n ?_
        refine wp_seq ?_
        refine wp_rb rfl ?_
        refine RQ.y rfl (Y.fieldAddr (off := 3) rfl (by kernel_rfl)) ?_
        refine RQ.y rfl (Y.load (v := .slice A1 d0.data.length c1) rfl (by kernel_rfl) (beC (blkCell B4 (i := 3) rfl))) ?_
        obtain ⟨y16, e17, hm⟩ := bnd hm
        refine RQ.call rfl (am2 rfl rfl) (by kernel_rfl) (v := .bool y16) (bel (K := fun _ => True) fun w' hb' => (c_m_slices_ContainsFunc_int64_int64 d0.data (fun x0 => m_impl_wellFormed_1 x0) _ e17 _ _ _ w' (slArg intRd_ok h1 r1 (Tt T hb')) (by kernel_rfl) (fun x0 b hx w1 hb1 => Calls.arr (by simp) (c_m_impl_wellFormed_1 x0 _ hx  w1 )))) ?_
        refine RQ.y rfl (Y.not (b' := (!y16)) rfl rfl) ?_
        refine RQ.y rfl (Y.assign (v := .bool (!y16)) rfl) ?_
        refine RQ.nil ?_
        intro w18 hb19
        have szw18 := hb19.size
        have B4 := blkT B4 hb19
        have T := Tt T hb19
        refine then_n ?_
        refine wp_seq ?_
        refine wp_seq ?_
        refine wp_rs rfl ?_
        refine RQ.y rfl (Y.fieldAddr (off := 0) rfl (by kernel_rfl)) ?_
        refine RQ.y rfl (Y.load (v := .int .i64 d0.kind) rfl (by kernel_rfl) (eqC (blkCell B4 (i := 0) rfl))) ?_
        refine RQ.nil ?_
        refine then_n ?_
        refine wp_block ?_
        refine wp_seq ?_
        refine wp_rs rfl ?_
        refine RQ.y rfl (Y.binI (v := .bool (d0.kind == 6)) rfl rfl rfl) ?_
        refine RQ.y rfl (Y.assign (v := .bool (d0.kind == 6)) rfl) ?_
        refine RQ.nil ?_
        refine then_n ?_
        rcases bcases (d0.kind == 6) with c20 | c20
        · replace hm := cF c20 hm
          refine cond_f rfl (vb rfl c20) ?_
          refine wp_seq ?_
          refine wp_rs rfl ?_
          refine RQ.y rfl (Y.binI (v := .bool (d0.kind == 7)) rfl rfl rfl) ?_
          refine RQ.y rfl (Y.assign (v := .bool (d0.kind == 7)) rfl) ?_
          refine RQ.nil ?_
          refine then_n ?_
          rcases bcases (d0.kind == 7) with c21 | c21
          · replace hm := cF c21 hm
            refine cond_f rfl (vb rfl c21) ?_
            refine wp_seq ?_
            refine wp_rs rfl ?_
            refine RQ.y rfl (Y.binI (v := .bool (d0.kind == 8)) rfl rfl rfl) ?_
            refine RQ.y rfl (Y.assign (v := .bool (d0.kind == 8)) rfl) ?_
            refine RQ.nil ?_
            refine then_n ?_
            rcases bcases (d0.kind == 8) with c22 | c22
            · replace hm := cF c22 hm
              refine cond_f rfl (vb rfl c22) ?_
              refine wp_seq ?_
              refine wp_rs rfl ?_
              refine RQ.y rfl (Y.binI (v := .bool (d0.kind == 9)) rfl rfl rfl) ?_
              refine RQ.y rfl (Y.assign (v := .bool (d0.kind == 9)) rfl) ?_
              refine RQ.nil ?_
              refine then_n ?_
              rcases bcases (d0.kind == 9) with c23 | c23
              · replace hm := cF c23 hm
                refine cond_f rfl (vb rfl c23) ?_
                refine wp_seq ?_
                refine wp_rs rfl ?_
                refine RQ.y rfl (Y.binI (v := .bool (d0.kind == 10)) rfl rfl rfl) ?_
                refine RQ.y rfl (Y.assign (v := .bool (d0.kind == 10)) rfl) ?_
                refine RQ.nil ?_
                refine then_n ?_
                rcases bcases (d0.kind == 10) with c24 | c24
                · replace hm := cF c24 hm
                  refine cond_f rfl (vb rfl c24) ?_
                  refine wp_seq ?_
                  refine wp_rs rfl ?_
                  refine RQ.y rfl (Y.binI (v := .bool (d0.kind == 11)) rfl rfl rfl) ?_
                  refine RQ.y rfl (Y.assign (v := .bool (d0.kind == 11)) rfl) ?_
                  refine RQ.nil ?_
                  refine then_n ?_
                  rcases bcases (d0.kind == 11) with c25 | c25
                  · replace hm := cF c25 hm
                    refine cond_f rfl (vb rfl c25) ?_
                    refine wp_seq ?_
                    refine wp_rs rfl ?_
                    refine RQ.y rfl (Y.binI (v := .bool (d0.kind == 12)) rfl rfl rfl) ?_
                    refine RQ.y rfl (Y.assign (v := .bool (d0.kind == 12)) rfl) ?_
                    refine RQ.nil ?_
                    refine then_n ?_
                    rcases bcases (d0.kind == 12) with c26 | c26
                    · replace hm := cF c26 hm
                      refine cond_f rfl (vb rfl c26) ?_
                      refine wp_skip ?_
                      refine blk_n (then_n ?_)
                      refine wp_seq ?_
                      refine wp_rs rfl ?_
                      refine RQ.y rfl (Y.move (v := .bool (d0.value == 0)) rfl) ?_
                      refine RQ.y rfl (Y.move (v := .bool (d0.value == 0)) rfl) ?_
                      rcases bcases (d0.value == 0) with c27 | c27
                      · replace hm := cF c27 hm
                        refine RQ.skip (wantN (dj := 114) rfl (vb rfl c27) rfl) ?_
                        refine RQ.y rfl (Y.pick (b := false) (v := .bool false) (vb rfl c27) rfl) ?_
                        refine RQ.y rfl (Y.assign (v := .bool false) rfl) ?_
                        refine RQ.nil ?_
                        refine then_n ?_
                        refine wp_ret ?_
                        obtain rfl := Option.some.inj hm
                        exact (ret1 rfl rfl rfl ⟨rfl, T⟩)
                      · replace hm := cT c27 hm
                        refine RQ.y (wantT (dj := 114) rfl (vb rfl c27)) (Y.move (v := .bool ((d0.data.length : Int) == 0)) rfl) ?_
                        refine RQ.y rfl (Y.pick (b := true) (v := .bool ((d0.data.length : Int) == 0)) (vb rfl c27) rfl) ?_
                        refine RQ.y rfl (Y.assign (v := .bool ((d0.data.length : Int) == 0)) rfl) ?_
                        refine RQ.nil ?_
                        refine then_n ?_
                        refine wp_ret ?_
                        obtain rfl := Option.some.inj hm
                        exact (ret1 rfl rfl rfl ⟨rfl, T⟩)
                    · replace hm := cT c26 hm
                      refine cond_t rfl (vb rfl c26) ?_
                      refine wp_rb rfl ?_
                      refine RQ.y rfl (Y.fieldAddr (off := 2) rfl (by kernel_rfl)) ?_
                      refine RQ.y rfl (Y.load (v := .int .i64 d0.value) rfl (by kernel_rfl) (beC (blkCell B4 (i := 2) rfl))) ?_
                      obtain ⟨y28, e29, hm⟩ := bnd hm
                      refine RQ.call rfl (am1 rfl) (by kernel_rfl) (v := .bool y28) (bel (K := fun _ => True) fun w' hb' => (c_m_impl_isDefIndex d0.value _ e29  w' )) ?_
                      refine RQ.y rfl (Y.assign (v := .bool y28) rfl) ?_
                      refine RQ.nil ?_
                      intro w30 hb31
                      have szw30 := hb31.size
                      have T := Tt T hb31
                      refine blk_n (then_n ?_)
                      refine wp_seq ?_
                      refine wp_rs rfl ?_
                      refine RQ.y rfl (Y.move (v := .bool y28) rfl) ?_
                      refine RQ.y rfl (Y.move (v := .bool y28) rfl) ?_
                      rcases bcases y28 with c32 | c32
                      · replace hm := cF c32 hm
                        refine RQ.skip (wantN (dj := 114) rfl (vb rfl c32) rfl) ?_
                        refine RQ.y rfl (Y.pick (b := false) (v := .bool false) (vb rfl c32) rfl) ?_
                        refine RQ.y rfl (Y.assign (v := .bool false) rfl) ?_
                        refine RQ.nil ?_
                        refine then_n ?_
                        refine wp_ret ?_
                        obtain rfl := Option.some.inj hm
                        exact (ret1 rfl rfl rfl ⟨rfl, T⟩)
                      · replace hm := cT c32 hm
                        refine RQ.y (wantT (dj := 114) rfl (vb rfl c32)) (Y.move (v := .bool ((d0.data.length : Int) == 0)) rfl) ?_
                        refine RQ.y rfl (Y.pick (b := true) (v := .bool ((d0.data.length : Int) == 0)) (vb rfl c32) rfl) ?_
                        refine RQ.y rfl (Y.assign (v := .bool ((d0.data.length : Int) == 0)) rfl) ?_
                        refine RQ.nil ?_
                        refine then_n ?_
                        refine wp_ret ?_
                        obtain rfl := Option.some.inj hm
                        exact (ret1 rfl rfl rfl ⟨rfl, T⟩)
                  · replace hm := cT c25 hm
                    refine cond_t rfl (vb rfl c25) ?_
                    refine wp_rs rfl ?_
                    refine RQ.y rfl (Y.fieldAddr (off := 3) rfl (by kernel_rfl)) ?_
                    refine RQ.y rfl (Y.load (v := .slice A1 d0.data.length c1) rfl (by kernel_rfl) (eqC (blkCell B4 (i := 3) rfl))) ?_
                    refine RQ.y rfl (Y.len (by kernel_rfl) rfl) ?_
                    refine RQ.y rfl (Y.binI (v := .bool ((d0.data.length : Int) == 2)) rfl rfl rfl) ?_
                    refine RQ.y rfl (Y.move (v := .bool ((d0.data.length : Int) == 2)) rfl) ?_
                    rcases bcases ((d0.data.length : Int) == 2) with c33 | c33
                    · replace hm := cF c33 hm
                      refine RQ.skip (wantN (dj := 105) rfl (vb rfl c33) rfl) ?_
                      refine RQ.y rfl (Y.pick (b := false) (v := .bool false) (vb rfl c33) rfl) ?_
                      refine RQ.y rfl (Y.assign (v := .bool false) rfl) ?_
                      refine RQ.nil ?_
                      refine blk_n (then_n ?_)
                      refine wp_seq ?_
                      refine wp_rs rfl ?_
                      refine RQ.y rfl (Y.move (v := .bool (d0.value == 0)) rfl) ?_
                      refine RQ.y rfl (Y.move (v := .bool (d0.value == 0)) rfl) ?_
                      rcases bcases (d0.value == 0) with c34 | c34
                      · replace hm := cF c34 hm
                        refine RQ.skip (wantN (dj := 114) rfl (vb rfl c34) rfl) ?_
                        refine RQ.y rfl (Y.pick (b := false) (v := .bool false) (vb rfl c34) rfl) ?_
                        refine RQ.y rfl (Y.assign (v := .bool false) rfl) ?_
                        refine RQ.nil ?_
                        refine then_n ?_
                        refine wp_ret ?_
                        obtain rfl := Option.some.inj hm
                        exact (ret1 rfl rfl rfl ⟨rfl, T⟩)
                      · replace hm := cT c34 hm
                        refine RQ.y (wantT (dj := 114) rfl (vb rfl c34)) (Y.move (v := .bool false) rfl) ?_
                        refine RQ.y rfl (Y.pick (b := true) (v := .bool false) (vb rfl c34) rfl) ?_
                        refine RQ.y rfl (Y.assign (v := .bool false) rfl) ?_
                        refine RQ.nil ?_
                        refine then_n ?_
                        refine wp_ret ?_
                        obtain rfl := Option.some.inj hm
                        exact (ret1 rfl rfl rfl ⟨rfl, T⟩)
                    · replace hm := cT c33 hm
                      refine RQ.y (wantT (dj := 105) rfl (vb rfl c33)) (Y.move (v := .bool (!y16)) rfl) ?_
                      refine RQ.y rfl (Y.pick (b := true) (v := .bool (!y16)) (vb rfl c33) rfl) ?_
                      refine RQ.y rfl (Y.assign (v := .bool (!y16)) rfl) ?_
                      refine RQ.nil ?_
                      refine blk_n (then_n ?_)
                      refine wp_seq ?_
                      refine wp_rs rfl ?_
                      refine RQ.y rfl (Y.move (v := .bool (d0.value == 0)) rfl) ?_
                      refine RQ.y rfl (Y.move (v := .bool (d0.value == 0)) rfl) ?_
                      rcases bcases (d0.value == 0) with c35 | c35
                      · replace hm := cF c35 hm
                        refine RQ.skip (wantN (dj := 114) rfl (vb rfl c35) rfl) ?_
                        refine RQ.y rfl (Y.pick (b := false) (v := .bool false) (vb rfl c35) rfl) ?_
                        refine RQ.y rfl (Y.assign (v := .bool false) rfl) ?_
                        refine RQ.nil ?_
                        refine then_n ?_
                        refine wp_ret ?_
                        obtain rfl := Option.some.inj hm
                        exact (ret1 rfl rfl rfl ⟨rfl, T⟩)
                      · replace hm := cT c35 hm
                        refine RQ.y (wantT (dj := 114) rfl (vb rfl c35)) (Y.move (v := .bool (!y16)) rfl) ?_
                        refine RQ.y rfl (Y.pick (b := true) (v := .bool (!y16)) (vb rfl c35) rfl) ?_
                        refine RQ.y rfl (Y.assign (v := .bool (!y16)) rfl) ?_
                        refine RQ.nil ?_
                        refine then_n ?_
                        refine wp_ret ?_
                        obtain rfl := Option.some.inj hm
                        exact (ret1 rfl rfl rfl ⟨rfl, T⟩)
                · replace hm := cT c24 hm
                  refine cond_t rfl (vb rfl c24) ?_
                  refine wp_rs rfl ?_
                  refine RQ.y rfl (Y.fieldAddr (off := 3) rfl (by kernel_rfl)) ?_
                  refine RQ.y rfl (Y.load (v := .slice A1 d0.data.length c1) rfl (by kernel_rfl) (eqC (blkCell B4 (i := 3) rfl))) ?_
                  refine RQ.y rfl (Y.len (by kernel_rfl) rfl) ?_
                  refine RQ.y rfl (Y.binI (v := .bool (decide ((d0.data.length : Int) ≥ 1))) rfl rfl rfl) ?_
                  refine RQ.y rfl (Y.move (v := .bool (decide ((d0.data.length : Int) ≥ 1))) rfl) ?_
                  rcases bcases (decide ((d0.data.length : Int) ≥ 1)) with c36 | c36
                  · replace hm := cF c36 hm
                    have pc36 := of_decide_eq_false c36
                    refine RQ.skip (wantN (dj := 90) rfl (vb rfl c36) rfl) ?_
                    refine RQ.skip (wantN (dj := 90) rfl (vb rfl c36) rfl) ?_
                    refine RQ.skip (wantN (dj := 90) rfl (vb rfl c36) rfl) ?_
                    refine RQ.skip (wantN (dj := 90) rfl (vb rfl c36) rfl) ?_
                    refine RQ.y rfl (Y.pick (b := false) (v := .bool false) (vb rfl c36) rfl) ?_
                    refine RQ.y rfl (Y.move (v := .bool false) rfl) ?_
                    refine RQ.skip (wantN (dj := 96) rfl rfl rfl) ?_
                    refine RQ.y rfl (Y.pick (b := false) (v := .bool false) rfl rfl) ?_
                    refine RQ.y rfl (Y.assign (v := .bool false) rfl) ?_
                    refine RQ.nil ?_
                    refine blk_n (then_n ?_)
                    refine wp_seq ?_
                    refine wp_rs rfl ?_
                    refine RQ.y rfl (Y.move (v := .bool (d0.value == 0)) rfl) ?_
                    refine RQ.y rfl (Y.move (v := .bool (d0.value == 0)) rfl) ?_
                    rcases bcases (d0.value == 0) with c37 | c37
                    · replace hm := cF c37 hm
                      refine RQ.skip (wantN (dj := 114) rfl (vb rfl c37) rfl) ?_
                      refine RQ.y rfl (Y.pick (b := false) (v := .bool false) (vb rfl c37) rfl) ?_
                      refine RQ.y rfl (Y.assign (v := .bool false) rfl) ?_
                      refine RQ.nil ?_
                      refine then_n ?_
                      refine wp_ret ?_
                      obtain rfl := Option.some.inj hm
                      exact (ret1 rfl rfl rfl ⟨rfl, T⟩)
                    · replace hm := cT c37 hm
                      refine RQ.y (wantT (dj := 114) rfl (vb rfl c37)) (Y.move (v := .bool false) rfl) ?_
                      refine RQ.y rfl (Y.pick (b := true) (v := .bool false) (vb rfl c37) rfl) ?_
                      refine RQ.y rfl (Y.assign (v := .bool false) rfl) ?_
                      refine RQ.nil ?_
                      refine then_n ?_
                      refine wp_ret ?_
                      obtain rfl := Option.some.inj hm
                      exact (ret1 rfl rfl rfl ⟨rfl, T⟩)
                  · replace hm := cT c36 hm
                    have pc36 := of_decide_eq_true c36
                    refine RQ.y (wantT (dj := 90) rfl (vb rfl c36)) (Y.fieldAddr (off := 3) rfl (by kernel_rfl)) ?_
                    refine RQ.y (wantT (dj := 90) rfl (vb rfl c36)) (Y.load (v := .slice A1 d0.data.length c1) rfl (by kernel_rfl) (eqC (blkCell B4 (i := 3) rfl))) ?_
                    refine RQ.y (wantT (dj := 90) rfl (vb rfl c36)) (Y.len (by kernel_rfl) rfl) ?_
                    refine RQ.y (wantT (dj := 90) rfl (vb rfl c36)) (Y.binI (v := .bool (decide ((d0.data.length : Int) ≤ 4))) rfl rfl rfl) ?_
                    refine RQ.y rfl (Y.pick (b := true) (v := .bool (decide ((d0.data.length : Int) ≤ 4))) (vb rfl c36) rfl) ?_
                    refine RQ.y rfl (Y.move (v := .bool (decide ((d0.data.length : Int) ≤ 4))) rfl) ?_
                    rcases bcases (decide ((d0.data.length : Int) ≤ 4)) with c38 | c38
                    · replace hm := cF c38 hm
                      have pc38 := of_decide_eq_false c38
                      refine RQ.skip (wantN (dj := 96) rfl (vb rfl c38) rfl) ?_
                      refine RQ.y rfl (Y.pick (b := false) (v := .bool false) (vb rfl c38) rfl) ?_
                      refine RQ.y rfl (Y.assign (v := .bool false) rfl) ?_
                      refine RQ.nil ?_
                      refine blk_n (then_n ?_)
                      refine wp_seq ?_
                      refine wp_rs rfl ?_
                      refine RQ.y rfl (Y.move (v := .bool (d0.value == 0)) rfl) ?_
                      refine RQ.y rfl (Y.move (v := .bool (d0.value == 0)) rfl) ?_
                      rcases bcases (d0.value == 0) with c39 | c39
                      · replace hm := cF c39 hm
                        refine RQ.skip (wantN (dj := 114) rfl (vb rfl c39) rfl) ?_
                        refine RQ.y rfl (Y.pick (b := false) (v := .bool false) (vb rfl c39) rfl) ?_
                        refine RQ.y rfl (Y.assign (v := .bool false) rfl) ?_
                        refine RQ.nil ?_
                        refine then_n ?_
                        refine wp_ret ?_
                        obtain rfl := Option.some.inj hm
                        exact (ret1 rfl rfl rfl ⟨rfl, T⟩)
                      · replace hm := cT c39 hm
                        refine RQ.y (wantT (dj := 114) rfl (vb rfl c39)) (Y.move (v := .bool false) rfl) ?_
                        refine RQ.y rfl (Y.pick (b := true) (v := .bool false) (vb rfl c39) rfl) ?_
                        refine RQ.y rfl (Y.assign (v := .bool false) rfl) ?_
                        refine RQ.nil ?_
                        refine then_n ?_
                        refine wp_ret ?_
                        obtain rfl := Option.some.inj hm
                        exact (ret1 rfl rfl rfl ⟨rfl, T⟩)
                    · replace hm := cT c38 hm
                      have pc38 := of_decide_eq_true c38
                      refine RQ.y (wantT (dj := 96) rfl (vb rfl c38)) (Y.move (v := .bool (!y16)) rfl) ?_
                      refine RQ.y rfl (Y.pick (b := true) (v := .bool (!y16)) (vb rfl c38) rfl) ?_
                      refine RQ.y rfl (Y.assign (v := .bool (!y16)) rfl) ?_
                      refine RQ.nil ?_
                      refine blk_n (then_n ?_)
                      refine wp_seq ?_
                      refine wp_rs rfl ?_
                      refine RQ.y rfl (Y.move (v := .bool (d0.value == 0)) rfl) ?_
                      refine RQ.y rfl (Y.move (v := .bool (d0.value == 0)) rfl) ?_
                      rcases bcases (d0.value == 0) with c40 | c40
                      · replace hm := cF c40 hm
                        refine RQ.skip (wantN (dj := 114) rfl (vb rfl c40) rfl) ?_
                        refine RQ.y rfl (Y.pick (b := false) (v := .bool false) (vb rfl c40) rfl) ?_
                        refine RQ.y rfl (Y.assign (v := .bool false) rfl) ?_
                        refine RQ.nil ?_
                        refine then_n ?_
                        refine wp_ret ?_
                        obtain rfl := Option.some.inj hm
                        exact (ret1 rfl rfl rfl ⟨rfl, T⟩)
                      · replace hm := cT c40 hm
                        refine RQ.y (wantT (dj := 114) rfl (vb rfl c40)) (Y.move (v := .bool (!y16)) rfl) ?_
                        refine RQ.y rfl (Y.pick (b := true) (v := .bool (!y16)) (vb rfl c40) rfl) ?_
                        refine RQ.y rfl (Y.assign (v := .bool (!y16)) rfl) ?_
                        refine RQ.nil ?_
                        refine then_n ?_
                        refine wp_ret ?_
                        obtain rfl := Option.some.inj hm
                        exact (ret1 rfl rfl rfl ⟨rfl, T⟩)
              · replace hm := cT c23 hm
                refine cond_t rfl (vb rfl c23) ?_
                refine wp_rs rfl ?_
                refine RQ.y rfl (Y.fieldAddr (off := 2) rfl (by kernel_rfl)) ?_
                refine RQ.y rfl (Y.load (v := .int .i64 d0.value) rfl (by kernel_rfl) (eqC (blkCell B4 (i := 2) rfl))) ?_
                refine RQ.y rfl (Y.binI (v := .bool (decide (d0.value ≥ 0))) rfl rfl rfl) ?_
                refine RQ.y rfl (Y.move (v := .bool (decide (d0.value ≥ 0))) rfl) ?_
                rcases bcases (decide (d0.value ≥ 0)) with c41 | c41
                · replace hm := cF c41 hm
                  have pc41 := of_decide_eq_false c41
                  refine RQ.skip (wantN (dj := 79) rfl (vb rfl c41) rfl) ?_
                  refine RQ.skip (wantN (dj := 79) rfl (vb rfl c41) rfl) ?_
                  refine RQ.skip (wantN (dj := 79) rfl (vb rfl c41) rfl) ?_
                  refine RQ.y rfl (Y.pick (b := false) (v := .bool false) (vb rfl c41) rfl) ?_
                  refine RQ.y rfl (Y.assign (v := .bool false) rfl) ?_
                  refine RQ.nil ?_
                  refine blk_n (then_n ?_)
                  refine wp_seq ?_
                  refine wp_rs rfl ?_
                  refine RQ.y rfl (Y.move (v := .bool false) rfl) ?_
                  refine RQ.y rfl (Y.move (v := .bool false) rfl) ?_
                  refine RQ.skip (wantN (dj := 114) rfl rfl rfl) ?_
                  refine RQ.y rfl (Y.pick (b := false) (v := .bool false) rfl rfl) ?_
                  refine RQ.y rfl (Y.assign (v := .bool false) rfl) ?_
                  refine RQ.nil ?_
                  refine then_n ?_
                  refine wp_ret ?_
                  obtain rfl := Option.some.inj hm
                  exact (ret1 rfl rfl rfl ⟨rfl, T⟩)
                · replace hm := cT c41 hm
                  have pc41 := of_decide_eq_true c41
                  refine RQ.y (wantT (dj := 79) rfl (vb rfl c41)) (Y.fieldAddr (off := 2) rfl (by kernel_rfl)) ?_
                  refine RQ.y (wantT (dj := 79) rfl (vb rfl c41)) (Y.load (v := .int .i64 d0.value) rfl (by kernel_rfl) (eqC (blkCell B4 (i := 2) rfl))) ?_
                  refine RQ.y (wantT (dj := 79) rfl (vb rfl c41)) (Y.binI (v := .bool (decide (d0.value < 4))) rfl rfl rfl) ?_
                  refine RQ.y rfl (Y.pick (b := true) (v := .bool (decide (d0.value < 4))) (vb rfl c41) rfl) ?_
                  refine RQ.y rfl (Y.assign (v := .bool (decide (d0.value < 4))) rfl) ?_
                  refine RQ.nil ?_
                  refine blk_n (then_n ?_)
                  refine wp_seq ?_
                  refine wp_rs rfl ?_
                  refine RQ.y rfl (Y.move (v := .bool (decide (d0.value < 4))) rfl) ?_
                  refine RQ.y rfl (Y.move (v := .bool (decide (d0.value < 4))) rfl) ?_
                  rcases bcases (decide (d0.value < 4)) with c42 | c42
                  · replace hm := cF c42 hm
                    have pc42 := of_decide_eq_false c42
                    refine RQ.skip (wantN (dj := 114) rfl (vb rfl c42) rfl) ?_
                    refine RQ.y rfl (Y.pick (b := false) (v := .bool false) (vb rfl c42) rfl) ?_
                    refine RQ.y rfl (Y.assign (v := .bool false) rfl) ?_
                    refine RQ.nil ?_
                    refine then_n ?_
                    refine wp_ret ?_
                    obtain rfl := Option.some.inj hm
                    exact (ret1 rfl rfl rfl ⟨rfl, T⟩)
                  · replace hm := cT c42 hm
                    have pc42 := of_decide_eq_true c42
                    refine RQ.y (wantT (dj := 114) rfl (vb rfl c42)) (Y.move (v := .bool ((d0.data.length : Int) == 0)) rfl) ?_
                    refine RQ.y rfl (Y.pick (b := true) (v := .bool ((d0.data.length : Int) == 0)) (vb rfl c42) rfl) ?_
                    refine RQ.y rfl (Y.assign (v := .bool ((d0.data.length : Int) == 0)) rfl) ?_
                    refine RQ.nil ?_
                    refine then_n ?_
                    refine wp_ret ?_
                    obtain rfl := Option.some.inj hm
                    exact (ret1 rfl rfl rfl ⟨rfl, T⟩)
            · replace hm := cT c22 hm
              refine cond_t rfl (vb rfl c22) ?_
              refine wp_seq ?_
              refine wp_rb rfl ?_
              refine RQ.y rfl (Y.fieldAddr (off := 2) rfl (by kernel_rfl)) ?_
              refine RQ.y rfl (Y.load (v := .int .i64 d0.value) rfl (by kernel_rfl) (beC (blkCell B4 (i := 2) rfl))) ?_
              obtain ⟨y43, e44, hm⟩ := bnd hm
              refine RQ.call rfl (am1 rfl) (by kernel_rfl) (v := .bool y43) (bel (K := fun _ => True) fun w' hb' => (c_m_impl_isOperator d0.value _ e44  w' )) ?_
              refine RQ.y rfl (Y.move (v := .bool y43) rfl) ?_
              rcases bcases y43 with c45 | c45
              · replace hm := cF c45 hm
                refine RQ.skip (wantN (dj := 61) rfl (vb rfl c45) rfl) ?_
                refine RQ.skip (wantN (dj := 61) rfl (vb rfl c45) rfl) ?_
                refine RQ.skip (wantN (dj := 61) rfl (vb rfl c45) rfl) ?_
                refine RQ.skip (wantN (dj := 61) rfl (vb rfl c45) rfl) ?_
                refine RQ.y rfl (Y.pick (b := false) (v := .bool false) (vb rfl c45) rfl) ?_
                refine RQ.y rfl (Y.move (v := .bool false) rfl) ?_
                refine RQ.skip (wantN (dj := 67) rfl rfl rfl) ?_
                refine RQ.skip (wantN (dj := 67) rfl rfl rfl) ?_
                refine RQ.skip (wantN (dj := 67) rfl rfl rfl) ?_
                refine RQ.skip (wantN (dj := 67) rfl rfl rfl) ?_
                refine RQ.skip (wantN (dj := 67) rfl rfl rfl) ?_
                refine RQ.y rfl (Y.pick (b := false) (v := .bool false) rfl rfl) ?_
                refine RQ.y rfl (Y.assign (v := .bool false) rfl) ?_
                refine RQ.nil ?_
                intro w46 hb47
                have szw46 := hb47.size
                have T := Tt T hb47
                refine then_n ?_
                refine wp_ret ?_
                obtain rfl := Option.some.inj hm
                exact (blk_r (then_r (ret1 rfl rfl rfl ⟨rfl, T⟩)))
              · replace hm := cT c45 hm
                refine RQ.y (wantT (dj := 61) rfl (vb rfl c45)) (Y.fieldAddr (off := 3) rfl (by kernel_rfl)) ?_
                refine RQ.y (wantT (dj := 61) rfl (vb rfl c45)) (Y.load (v := .slice A1 d0.data.length c1) rfl (by kernel_rfl) (beC (blkCell B4 (i := 3) rfl))) ?_
                refine RQ.y (wantT (dj := 61) rfl (vb rfl c45)) (Y.len (by kernel_rfl) rfl) ?_
                refine RQ.y (wantT (dj := 61) rfl (vb rfl c45)) (Y.binI (v := .bool ((d0.data.length : Int) == 1)) rfl rfl rfl) ?_
                refine RQ.y rfl (Y.pick (b := true) (v := .bool ((d0.data.length : Int) == 1)) (vb rfl c45) rfl) ?_
                refine RQ.y rfl (Y.move (v := .bool ((d0.data.length : Int) == 1)) rfl) ?_
                rcases bcases ((d0.data.length : Int) == 1) with c48 | c48
                · replace hm := cF c48 hm
                  refine RQ.skip (wantN (dj := 67) rfl (vb rfl c48) rfl) ?_
                  refine RQ.skip (wantN (dj := 67) rfl (vb rfl c48) rfl) ?_
                  refine RQ.skip (wantN (dj := 67) rfl (vb rfl c48) rfl) ?_
                  refine RQ.skip (wantN (dj := 67) rfl (vb rfl c48) rfl) ?_
                  refine RQ.skip (wantN (dj := 67) rfl (vb rfl c48) rfl) ?_
                  refine RQ.y rfl (Y.pick (b := false) (v := .bool false) (vb rfl c48) rfl) ?_
                  refine RQ.y rfl (Y.assign (v := .bool false) rfl) ?_
                  refine RQ.nil ?_
                  intro w49 hb50
                  have szw49 := hb50.size
                  have T := Tt T hb50
                  refine then_n ?_
                  refine wp_ret ?_
                  obtain rfl := Option.some.inj hm
                  exact (blk_r (then_r (ret1 rfl rfl rfl ⟨rfl, T⟩)))
                · replace hm := cT c48 hm
                  refine RQ.y (wantT (dj := 67) rfl (vb rfl c48)) (Y.fieldAddr (off := 3) rfl (by kernel_rfl)) ?_
                  refine RQ.y (wantT (dj := 67) rfl (vb rfl c48)) (Y.load (v := .slice A1 d0.data.length c1) rfl (by kernel_rfl) (beC (blkCell B4 (i := 3) rfl))) ?_
                  obtain ⟨x51, hx54, hm⟩ := bnd hm
                  obtain ⟨k52, hk55, hl56, hx54⟩ := getI_some hx54
                  obtain ⟨b58, o59, rfl, hbb58⟩ := h1.addr (by omega)
                  obtain ⟨cs53, hRcs53, hc57⟩ := h1.el hx54
                  have hScs53 := hRcs53
                  obtain rfl := hRcs53
                  refine RQ.y (wantT (dj := 67) rfl (vb rfl c48)) (Y.indexAddr (m := k52) (sz := 1) rfl rfl hk55 hl56 (by kernel_rfl)) ?_
                  refine RQ.y (wantT (dj := 67) rfl (vb rfl c48)) (Y.load (v := .int .i64 x51) rfl (by kernel_rfl) (beC (cellT T (hc57 0 _ rfl)))) ?_
                  obtain ⟨y60, e61, hm⟩ := bnd hm
                  refine RQ.call (wantT (dj := 67) rfl (vb rfl c48)) (am1 rfl) (by kernel_rfl) (v := .bool y60) (bel (K := fun _ => True) fun w' hb' => (c_m_impl_isInt x51 _ e61  w' )) ?_
                  refine RQ.y rfl (Y.pick (b := true) (v := .bool y60) (vb rfl c48) rfl) ?_
                  refine RQ.y rfl (Y.assign (v := .bool y60) rfl) ?_
                  refine RQ.nil ?_
                  intro w62 hb63
                  have szw62 := hb63.size
                  have T := Tt T hb63
                  refine then_n ?_
                  refine wp_ret ?_
                  obtain rfl := Option.some.inj hm
                  exact (blk_r (then_r (ret1 rfl rfl rfl ⟨rfl, T⟩)))
          · replace hm := cT c21 hm
            refine cond_t rfl (vb rfl c21) ?_
            refine wp_rb rfl ?_
            refine RQ.y rfl (Y.fieldAddr (off := 2) rfl (by kernel_rfl)) ?_
            refine RQ.y rfl (Y.load (v := .int .i64 d0.value) rfl (by kernel_rfl) (beC (blkCell B4 (i := 2) rfl))) ?_
            obtain ⟨y64, e65, hm⟩ := bnd hm
            refine RQ.call rfl (am1 rfl) (by kernel_rfl) (v := .bool y64) (bel (K := fun _ => True) fun w' hb' => (c_m_impl_isOperator d0.value _ e65  w' )) ?_
            refine RQ.y rfl (Y.assign (v := .bool y64) rfl) ?_
            refine RQ.nil ?_
            intro w66 hb67
            have szw66 := hb67.size
            have T := Tt T hb67
            refine blk_n (then_n ?_)
            refine wp_seq ?_
            refine wp_rs rfl ?_
            refine RQ.y rfl (Y.move (v := .bool y64) rfl) ?_
            refine RQ.y rfl (Y.move (v := .bool y64) rfl) ?_
            rcases bcases y64 with c68 | c68
            · replace hm := cF c68 hm
              refine RQ.skip (wantN (dj := 114) rfl (vb rfl c68) rfl) ?_
              refine RQ.y rfl (Y.pick (b := false) (v := .bool false) (vb rfl c68) rfl) ?_
              refine RQ.y rfl (Y.assign (v := .bool false) rfl) ?_
              refine RQ.nil ?_
              refine then_n ?_
              refine wp_ret ?_
              obtain rfl := Option.some.inj hm
              exact (ret1 rfl rfl rfl ⟨rfl, T⟩)
            · replace hm := cT c68 hm
              refine RQ.y (wantT (dj := 114) rfl (vb rfl c68)) (Y.move (v := .bool ((d0.data.length : Int) == 0)) rfl) ?_
              refine RQ.y rfl (Y.pick (b := true) (v := .bool ((d0.data.length : Int) == 0)) (vb rfl c68) rfl) ?_
              refine RQ.y rfl (Y.assign (v := .bool ((d0.data.length : Int) == 0)) rfl) ?_
              refine RQ.nil ?_
              refine then_n ?_
              refine wp_ret ?_
              obtain rfl := Option.some.inj hm
              exact (ret1 rfl rfl rfl ⟨rfl, T⟩)
        · replace hm := cT c20 hm
          refine cond_t rfl (vb rfl c20) ?_
          refine wp_rb rfl ?_
          refine RQ.y rfl (Y.fieldAddr (off := 2) rfl (by kernel_rfl)) ?_
          refine RQ.y rfl (Y.load (v := .int .i64 d0.value) rfl (by kernel_rfl) (beC (blkCell B4 (i := 2) rfl))) ?_
          obtain ⟨y69, e70, hm⟩ := bnd hm
          refine RQ.call rfl (am1 rfl) (by kernel_rfl) (v := .bool y69) (bel (K := fun _ => True) fun w' hb' => (c_m_impl_isInt d0.value _ e70  w' )) ?_
          refine RQ.y rfl (Y.assign (v := .bool y69) rfl) ?_
          refine RQ.nil ?_
          intro w71 hb72
          have szw71 := hb72.size
          have T := Tt T hb72
          refine blk_n (then_n ?_)
          refine wp_seq ?_
          refine wp_rs rfl ?_
          refine RQ.y rfl (Y.move (v := .bool y69) rfl) ?_
          refine RQ.y rfl (Y.move (v := .bool y69) rfl) ?_
          rcases bcases y69 with c73 | c73
          · replace hm := cF c73 hm
            refine RQ.skip (wantN (dj := 114) rfl (vb rfl c73) rfl) ?_
            refine RQ.y rfl (Y.pick (b := false) (v := .bool false) (vb rfl c73) rfl) ?_
            refine RQ.y rfl (Y.assign (v := .bool false) rfl) ?_
            refine RQ.nil ?_
            refine then_n ?_
            refine wp_ret ?_
            obtain rfl := Option.some.inj hm
            exact (ret1 rfl rfl rfl ⟨rfl, T⟩)
          · replace hm := cT c73 hm
            refine RQ.y (wantT (dj := 114) rfl (vb rfl c73)) (Y.move (v := .bool ((d0.data.length : Int) == 0)) rfl) ?_
            refine RQ.y rfl (Y.pick (b := true) (v := .bool ((d0.data.length : Int) == 0)) (vb rfl c73) rfl) ?_
            refine RQ.y rfl (Y.assign (v := .bool ((d0.data.length : Int) == 0)) rfl) ?_
            refine RQ.nil ?_
            refine then_n ?_
            refine wp_ret ?_
            obtain rfl := Option.some.inj hm
            exact (ret1 rfl rfl rfl ⟨rfl, T⟩)
    · replace hm := cT c10 hm
      refine RQ.skip (wantN (dj := 25) rfl (vb rfl c10) rfl) ?_
      refine RQ.skip (wantN (dj := 25) rfl (vb rfl c10) rfl) ?_
      refine RQ.skip (wantN (dj := 25) rfl (vb rfl c10) rfl) ?_
      refine RQ.skip (wantN (dj := 25) rfl (vb rfl c10) rfl) ?_
      refine RQ.skip (wantN (dj := 25) rfl (vb rfl c10) rfl) ?_
      refine RQ.skip (wantN (dj := 25) rfl (vb rfl c10) rfl) ?_
      refine RQ.y rfl (Y.pick (b := true) (v := .bool true) (vb rfl c10) rfl) ?_
      refine RQ.nil ?_
      intro w74 hb75
      have szw74 := hb75.size
      have B4 := blkT B4 hb75
      have T := Tt T hb75
      refine then_n ?_
      refine cond_t rfl rfl ?_
      refine wp_seq ?_
      refine wp_rs rfl ?_
      refine RQ.y rfl (Y.assign (v := .bool false) rfl) ?_
      refine RQ.nil ?_
      refine then_n ?_
      refine wp_ret ?_
      obtain rfl := Option.some.inj hm
      exact (then_r (ret1 rfl rfl rfl ⟨rfl, T⟩))
  · replace hm := cT c7 hm
    refine RQ.skip (wantN (dj := 10) rfl (vb rfl c7) rfl) ?_
    refine RQ.skip (wantN (dj := 10) rfl (vb rfl c7) rfl) ?_
    refine RQ.skip (wantN (dj := 10) rfl (vb rfl c7) rfl) ?_
    refine RQ.skip (wantN (dj := 10) rfl (vb rfl c7) rfl) ?_
    refine RQ.skip (wantN (dj := 10) rfl (vb rfl c7) rfl) ?_
    refine RQ.skip (wantN (dj := 10) rfl (vb rfl c7) rfl) ?_
    refine RQ.skip (wantN (dj := 10) rfl (vb rfl c7) rfl) ?_
    refine RQ.skip (wantN (dj := 10) rfl (vb rfl c7) rfl) ?_
    refine RQ.skip (wantN (dj := 10) rfl (vb rfl c7) rfl) ?_
    refine RQ.skip (wantN (dj := 10) rfl (vb rfl c7) rfl) ?_
    refine RQ.skip (wantN (dj := 10) rfl (vb rfl c7) rfl) ?_
    refine RQ.skip (wantN (dj := 10) rfl (vb rfl c7) rfl) ?_
    refine RQ.skip (wantN (dj := 10) rfl (vb rfl c7) rfl) ?_
    refine RQ.y rfl (Y.pick (b := true) (v := .bool true) (vb rfl c7) rfl) ?_
    refine RQ.y rfl (Y.move (v := .bool true) rfl) ?_
    refine RQ.skip (wantN (dj := 25) rfl rfl rfl) ?_
    refine RQ.skip (wantN (dj := 25) rfl rfl rfl) ?_
    refine RQ.skip (wantN (dj := 25) rfl rfl rfl) ?_
    refine RQ.skip (wantN (dj := 25) rfl rfl rfl) ?_
    refine RQ.skip (wantN (dj := 25) rfl rfl rfl) ?_
    refine RQ.skip (wantN (dj := 25) rfl rfl rfl) ?_
    refine RQ.y rfl (Y.pick (b := true) (v := .bool true) rfl rfl) ?_
    refine RQ.nil ?_
    intro w76 hb77
    have szw76 := hb77.size
    have B4 := blkT B4 hb77
    have T := Tt T hb77
    refine then_n ?_
    refine cond_t rfl rfl ?_
    refine wp_seq ?_
    refine wp_rs rfl ?_
    refine RQ.y rfl (Y.assign (v := .bool false) rfl) ?_
    refine RQ.nil ?_
    refine then_n ?_
    refine wp_ret ?_
    obtain rfl := Option.some.inj hm
    exact (then_r (ret1 rfl rfl rfl ⟨rfl, T⟩))
def m_impl_areAgents_A1 : Option Bool :=
  some true
def m_impl_areAgents_B1 (d0 : List DAgent) (rec1 : Int → Option Bool) (K1 : Option Bool) (i4 : Int) : Option Bool :=
  (bif (decide (i4 < (d0.length : Int))) then ((getI d0 i4).bind fun x7 => ((m_impl_wellFormed x7).bind fun y25 => (bif y25 then (bif ((x7.kind == 1) != (i4 == 0)) then some false else (rec1 (i4 + 1))) else some false))) else (K1))
def m_impl_areAgents_L1 (d0 : List DAgent) (K1 : Option Bool) : Nat → Int → Option Bool
  | 0, _ => none
  | g + 1, i4 => m_impl_areAgents_B1 d0 (m_impl_areAgents_L1 d0 K1 g) K1 i4
def m_impl_areAgents (d0 : List DAgent) : Option Bool :=
  (bif (decide ((d0.length : Int) < 1)) then some false else (bif (decide ((d0.length : Int) > 600)) then some false else (m_impl_areAgents_L1 d0 m_impl_areAgents_A1 (d0.length + 1) 0)))
set_option maxHeartbeats 2000000 in
theorem c_m_impl_areAgents (d0 : List DAgent) (r : Bool) (hm : m_impl_areAgents d0 = some r) (v0 : Value) (w : World) (hv0 : Sl agentRd 5 w v0 d0) :
    Calls Try.prog 115 #[v0] w fun e w' => e = .returned (.bool r) ∧ Below w.heap.size w w' := by
  obtain ⟨Aa0, na0, ca0, rfl, ha0, ra0⟩ := hv0
  have ea0 := ha0.len; subst ea0
  have qa0 := len_le ra0
  have T := Below.refl w.heap.size w
  unfold m_impl_areAgents at hm
  refine enter 32 Try.func115 rfl rfl rfl ?_
  intro f hf
  have s0 : f 0 = .slice Aa0 d0.length ca0 := hf 0 _ rfl
  refine wp_seq ?_
  refine wp_rs rfl ?_
  refine RQ.y rfl (Y.assign (v := .bool false) rfl) ?_
  refine RQ.nil ?_
  refine then_n ?_
  refine wp_seq ?_
  refine wp_seq ?_
  refine wp_rs rfl ?_
  refine RQ.y rfl (Y.move (v := .slice Aa0 d0.length ca0) s0) ?_
  refine RQ.y rfl (Y.len (by kernel_rfl) rfl) ?_
  refine RQ.y rfl (Y.binI (v := .bool (decide ((d0.length : Int) < 1))) rfl rfl rfl) ?_
  refine RQ.y rfl (Y.move (v := .bool (decide ((d0.length : Int) < 1))) rfl) ?_
  rcases bcases (decide ((d0.length : Int) < 1)) with c1 | c1
  · replace hm := cF c1 hm
    have pc1 := of_decide_eq_false c1
    refine RQ.y (wantT (dj := 8) rfl (vb rfl c1)) (Y.move (v := .slice Aa0 d0.length ca0) s0) ?_
    refine RQ.y (wantT (dj := 8) rfl (vb rfl c1)) (Y.len (by kernel_rfl) rfl) ?_
    refine RQ.y (wantT (dj := 8) rfl (vb rfl c1)) (Y.binI (v := .bool (decide ((d0.length : Int) > 600))) rfl rfl rfl) ?_
    refine RQ.y rfl (Y.pick (b := false) (v := .bool (decide ((d0.length : Int) > 600))) (vb rfl c1) rfl) ?_
    refine RQ.nil ?_
    refine then_n ?_
    rcases bcases (decide ((d0.length : Int) > 600)) with c2 | c2
    · replace hm := cF c2 hm
      have pc2 := of_decide_eq_false c2
      refine cond_f rfl (vb rfl c2) ?_
      refine wp_skip ?_
      refine then_n ?_
      refine wp_seq ?_
      refine wp_seq ?_
      refine wp_rs rfl ?_
      refine RQ.y rfl (Y.move (v := .slice Aa0 d0.length ca0) s0) ?_
      refine RQ.y rfl (Y.len (by kernel_rfl) rfl) ?_
      refine RQ.y rfl (Y.move (v := .int .i64 0) rfl) ?_
      refine RQ.nil ?_
      refine then_n ?_
      refine wp_block ?_
      obtain ⟨K1, hK1, hm⟩ : ∃ K, K = m_impl_areAgents_A1 ∧ m_impl_areAgents_L1 d0 K (d0.length + 1) 0 = some r := ⟨_, rfl, hm⟩
      refine wp_loopX (fun g f w' => ∃ (i4 : Int), f 13 = .slice Aa0 d0.length ca0 ∧ f 14 = .int .i64 (d0.length : Int) ∧ f 15 = .int .i64 i4 ∧ 0 ≤ i4 ∧ Below w.heap.size w w' ∧ m_impl_areAgents_L1 d0 K1 g i4 = some r) 0 (fun f w' => Below w.heap.size w w' ∧ m_impl_areAgents_A1  = some r) (d0.length + 1) ⟨0, rfl, rfl, rfl, (by omega), T, hm⟩ ?_ ?_
      · rintro f w3 ⟨T, hm⟩
        unfold m_impl_areAgents_A1 at hm
        refine blk_hit (then_n ?_)
        refine wp_seq ?_
        refine wp_rs rfl ?_
        refine RQ.y rfl (Y.assign (v := .bool true) rfl) ?_
        refine RQ.nil ?_
        refine then_n ?_
        refine wp_ret ?_
        obtain rfl := Option.some.inj hm
        exact (ret1 rfl rfl rfl ⟨rfl, T⟩)
      · rintro g f w5 ⟨i4, s13_1, s14_1, s15_1, nn15_1, T, hm⟩
        rcases g with _ | g
        · simp only [m_impl_areAgents_L1] at hm; cases hm
        obtain ⟨rec1, hrec1, hm⟩ : ∃ z, z = m_impl_areAgents_L1 d0 K1 g ∧ m_impl_areAgents_B1 d0 z K1 i4 = some r := ⟨_, rfl, hm⟩
        unfold m_impl_areAgents_B1 at hm
        refine wp_seq ?_
        refine wp_rs rfl ?_
        refine RQ.y rfl (Y.binI (v := .bool (decide (i4 < (d0.length : Int)))) s15_1 s14_1 rfl) ?_
        refine RQ.nil ?_
        refine then_n ?_
        refine wp_seq ?_
        rcases bcases (decide (i4 < (d0.length : Int))) with c6 | c6
        · replace hm := cF c6 hm
          have pc6 := of_decide_eq_false c6
          refine cond_f rfl (vb rfl c6) ?_
          refine wp_exit ?_
          exact (then_x (then_x (hit_x ⟨_, rfl, ⟨T, (by rw [hK1] at hm; exact hm)⟩⟩)))
        · replace hm := cT c6 hm
          have pc6 := of_decide_eq_true c6
          refine cond_t rfl (vb rfl c6) ?_
          refine wp_skip ?_
          refine then_n ?_
          refine wp_seq ?_
          refine wp_block ?_
          refine wp_seq ?_
          refine wp_rl rfl ?_
          refine RL.y rfl (Y.move (v := .int .i64 i4) s15_1) ?_
          obtain ⟨x7, hx10, hm⟩ := bnd hm
          obtain ⟨k8, hk11, hl12, hx10⟩ := getI_some hx10
          obtain ⟨b14, o15, rfl, hbb14⟩ := ha0.addr (by omega)
          obtain ⟨cs9, hRcs9, hc13⟩ := ha0.el hx10
          have hScs9 := hRcs9
          obtain ⟨A16, n16, c16, A17, n17, c17, rfl, ⟨h16, r16⟩, ⟨h17, r17⟩⟩ := hRcs9
          have e16 := h16.len; subst e16
          have q16 := len_le r16
          have e17 := h17.len; subst e17
          have q17 := len_le r17
          refine RL.y rfl (Y.indexAddr (m := k8) (sz := 5) s13_1 s15_1 hk11 hl12 (by kernel_rfl)) ?_
          refine RL.y rfl (Y.loadN (cs := [.int .i64 x7.kind, .int .i64 x7.level, .int .i64 x7.value, .slice A16 x7.data.length c16, .slice A17 x7.ports.length c17]) rfl (by kernel_rfl) (cells5 (eqC (cellT T (hc13 0 _ rfl))) (eqC (cellT T (hc13 1 _ rfl))) (eqC (cellT T (hc13 2 _ rfl))) (eqC (cellT T (hc13 3 _ rfl))) (eqC (cellT T (hc13 4 _ rfl))))) ?_
          refine RL.alloc (z := .agg #[.int .i64 0, .int .i64 0, .int .i64 0, .slice none 0 0, .slice none 0 0]) rfl (by kernel_rfl) (fun w18 B19 hb20 szw18 => ?_)
          replace B19 : Blk w18 w5.heap.size 89 #[.int .i64 0, .int .i64 0, .int .i64 0, .slice none 0 0, .slice none 0 0] := B19
          have GB19 : w.heap.size ≤ w5.heap.size := T.size
          have T := Tt T hb20
          refine RL.y rfl (Y.assign (v := .int .i64 i4) rfl) ?_
          refine RL.store (v := .agg #[.int .i64 x7.kind, .int .i64 x7.level, .int .i64 x7.value, .slice A16 x7.data.length c16, .slice A17 x7.ports.length c17]) (cs' := #[.int .i64 x7.kind, .int .i64 x7.level, .int .i64 x7.value, .slice A16 x7.data.length c16, .slice A17 x7.ports.length c17]) rfl rfl rfl B19 (by kernel_rfl) (by rfl) (by rfl) (by rfl) (fun w22 B23 ho24 => ?_)
          have szw22 := ho24.size
          have T := T.trans (ho24.below (by simp; omega))
          refine RL.nil ?_
          refine then_n ?_
          refine wp_seq ?_
          refine wp_rb rfl ?_
          refine RQ.y rfl (Y.loadN (cs := [.int .i64 x7.kind, .int .i64 x7.level, .int .i64 x7.value, .slice A16 x7.data.length c16, .slice A17 x7.ports.length c17]) rfl (by kernel_rfl) (cells5 (beC (blkCell B23 (i := 0) rfl)) (beC (blkCell B23 (i := 1) rfl)) (beC (blkCell B23 (i := 2) rfl)) (beC (blkCell B23 (i := 3) rfl)) (beC (blkCell B23 (i := 4) rfl)))) ?_
          obtain ⟨y25, e26, hm⟩ := bnd hm
          refine RQ.call rfl (am1 rfl) (by kernel_rfl) (v := .bool y25) (bel (K := fun _ => True) fun w' hb' => (c_m_impl_wellFormed x7 _ e26 _ w' (stArg (R := agentRd) ⟨_, _, _, _, _, _, rfl, ⟨SlAt.now intRd_ok h16 (Nat.le_refl _) (Tt T hb'), r16⟩, ⟨SlAt.now portRd_ok h17 (Nat.le_refl _) (Tt T hb'), r17⟩⟩))) ?_
          refine RQ.y rfl (Y.not (b' := (!y25)) rfl rfl) ?_
          refine RQ.y rfl (Y.move (v := .bool (!y25)) rfl) ?_
          rcases bcases y25 with c27 | c27
          · replace hm := cF c27 hm
            refine RQ.skip (wantN (dj := 23) rfl (vbn rfl c27 rfl) rfl) ?_
            refine RQ.skip (wantN (dj := 23) rfl (vbn rfl c27 rfl) rfl) ?_
            refine RQ.skip (wantN (dj := 23) rfl (vbn rfl c27 rfl) rfl) ?_
            refine RQ.skip (wantN (dj := 23) rfl (vbn rfl c27 rfl) rfl) ?_
            refine RQ.skip (wantN (dj := 23) rfl (vbn rfl c27 rfl) rfl) ?_
            refine RQ.skip (wantN (dj := 23) rfl (vbn rfl c27 rfl) rfl) ?_
            refine RQ.y rfl (Y.pick (b := true) (v := .bool true) (vbn rfl c27 rfl) rfl) ?_
            refine RQ.nil ?_
            intro w28 hb29
            have szw28 := hb29.size
            have T := Tt T hb29
            refine then_n ?_
            refine cond_t rfl rfl ?_
            refine wp_seq ?_
            refine wp_rs rfl ?_
            refine RQ.y rfl (Y.assign (v := .bool false) rfl) ?_
            refine RQ.nil ?_
            refine then_n ?_
            refine wp_ret ?_
            obtain rfl := Option.some.inj hm
            exact (blk_r (then_r (then_r (hit_r (blk_r (then_r (ret1 rfl rfl rfl ⟨rfl, T⟩)))))))
          · replace hm := cT c27 hm
            refine RQ.y (wantT (dj := 23) rfl (vbn rfl c27 rfl)) (Y.fieldAddr (off := 0) rfl (by kernel_rfl)) ?_
            refine RQ.y (wantT (dj := 23) rfl (vbn rfl c27 rfl)) (Y.load (v := .int .i64 x7.kind) rfl (by kernel_rfl) (beC (blkCell B23 (i := 0) rfl))) ?_
            refine RQ.y (wantT (dj := 23) rfl (vbn rfl c27 rfl)) (Y.binI (v := .bool (x7.kind == 1)) rfl rfl rfl) ?_
            refine RQ.y (wantT (dj := 23) rfl (vbn rfl c27 rfl)) (Y.move (v := .int .i64 i4) rfl) ?_
            refine RQ.y (wantT (dj := 23) rfl (vbn rfl c27 rfl)) (Y.binI (v := .bool (i4 == 0)) rfl rfl rfl) ?_
            refine RQ.y (wantT (dj := 23) rfl (vbn rfl c27 rfl)) (Y.beq (c := ((x7.kind == 1) != (i4 == 0))) (by kernel_rfl) rfl rfl (.inr ⟨rfl, rfl⟩)) ?_
            refine RQ.y rfl (Y.pick (b := false) (v := .bool ((x7.kind == 1) != (i4 == 0))) (vbn rfl c27 rfl) rfl) ?_
            refine RQ.nil ?_
            intro w30 hb31
            have szw30 := hb31.size
            have T := Tt T hb31
            refine then_n ?_
            rcases bcases ((x7.kind == 1) != (i4 == 0)) with c32 | c32
            · replace hm := cF c32 hm
              refine cond_f rfl (vb rfl c32) ?_
              refine wp_skip ?_
              refine blk_n (then_n ?_)
              refine wp_rs rfl ?_
              refine RQ.y rfl (Y.binI s15_1 rfl (binI_add (m := i4) (by omega))) ?_
              refine RQ.y rfl (Y.move (v := .int .i64 (i4 + 1)) rfl) ?_
              refine RQ.nil ?_
              exact (then_n ⟨g, _, Nat.lt_succ_self _, rfl, ⟨(i4 + 1), s13_1, s14_1, rfl, (by omega), T, (by rw [← hrec1]; exact hm)⟩⟩)
            · replace hm := cT c32 hm
              refine cond_t rfl (vb rfl c32) ?_
              refine wp_seq ?_
              refine wp_rs rfl ?_
              refine RQ.y rfl (Y.assign (v := .bool false) rfl) ?_
              refine RQ.nil ?_
              refine then_n ?_
              refine wp_ret ?_
              obtain rfl := Option.some.inj hm
              exact (blk_r (then_r (then_r (hit_r (blk_r (then_r (ret1 rfl rfl rfl ⟨rfl, T⟩)))))))
    · replace hm := cT c2 hm
      have pc2 := of_decide_eq_true c2
      refine cond_t rfl (vb rfl c2) ?_
      refine wp_seq ?_
      refine wp_rs rfl ?_
      refine RQ.y rfl (Y.assign (v := .bool false) rfl) ?_
      refine RQ.nil ?_
      refine then_n ?_
      refine wp_ret ?_
      obtain rfl := Option.some.inj hm
      exact (then_r (ret1 rfl rfl rfl ⟨rfl, T⟩))
  · replace hm := cT c1 hm
    have pc1 := of_decide_eq_true c1
    refine RQ.skip (wantN (dj := 8) rfl (vb rfl c1) rfl) ?_
    refine RQ.skip (wantN (dj := 8) rfl (vb rfl c1) rfl) ?_
    refine RQ.skip (wantN (dj := 8) rfl (vb rfl c1) rfl) ?_
    refine RQ.y rfl (Y.pick (b := true) (v := .bool true) (vb rfl c1) rfl) ?_
    refine RQ.nil ?_
    refine then_n ?_
    refine cond_t rfl rfl ?_
    refine wp_seq ?_
    refine wp_rs rfl ?_
    refine RQ.y rfl (Y.assign (v := .bool false) rfl) ?_
    refine RQ.nil ?_
    refine then_n ?_
    refine wp_ret ?_
    obtain rfl := Option.some.inj hm
    exact (then_r (ret1 rfl rfl rfl ⟨rfl, T⟩))
def m_impl_ValidNet (d0 : DNet) : Option Bool :=
  ((m_impl_areAgents d0.agents).bind fun y6 => (bif y6 then ((m_impl_Net_ports d0).bind fun y11 => ((m_slices_ContainsFunc_impl_Port_impl_Port y11 (fun x0 => m_impl_ValidNet_1 x0 d0)).bind fun y18 => some (!y18))) else some false))
set_option maxHeartbeats 2000000 in
theorem c_m_impl_ValidNet (d0 : DNet) (r : Bool) (hm : m_impl_ValidNet d0 = some r) (v0 : Value) (w : World) (hv0 : St netRd w v0 d0) :
    Calls Try.prog 68 #[v0] w fun e w' => e = .returned (.bool r) ∧ Below w.heap.size w w' := by
  obtain ⟨csa0, rfl, ⟨A1, n1, c1, rfl, ⟨h1, r1⟩⟩⟩ := hv0
  have e1 := h1.len; subst e1
  have q1 := len_le r1
  have T := Below.refl w.heap.size w
  unfold m_impl_ValidNet at hm
  refine enter 11 Try.func68 rfl rfl rfl ?_
  intro f hf
  have s0 : f 0 = .agg #[.slice A1 d0.agents.length c1] := hf 0 _ rfl
  refine wp_seq ?_
  refine wp_rl rfl ?_
  refine RL.box rfl s0 (fun w2 B3 hb4 szw2 => ?_)
  replace B3 : Blk w2 w.heap.size 30 #[.slice A1 d0.agents.length c1] := B3
  have GB3 : w.heap.size ≤ w.heap.size := T.size
  have T := Tt T hb4
  refine RL.y rfl (Y.assign (v := .bool false) rfl) ?_
  refine RL.nil ?_
  refine then_n ?_
  refine wp_seq ?_
  refine wp_seq ?_
  refine wp_rb rfl ?_
  refine RQ.y rfl (Y.fieldAddr (off := 0) rfl (by kernel_rfl)) ?_
  refine RQ.y rfl (Y.load (v := .slice A1 d0.agents.length c1) rfl (by kernel_rfl) (beC (blkCell B3 (i := 0) rfl))) ?_
  obtain ⟨y6, e7, hm⟩ := bnd hm
  refine RQ.call rfl (am1 rfl) (by kernel_rfl) (v := .bool y6) (bel (K := fun _ => True) fun w' hb' => (c_m_impl_areAgents d0.agents _ e7 _ w' (slArg agentRd_ok h1 r1 (Tt T hb')))) ?_
  refine RQ.y rfl (Y.not (b' := (!y6)) rfl rfl) ?_
  refine RQ.nil ?_
  intro w8 hb9
  have szw8 := hb9.size
  have B3 := blkT B3 hb9
  have T := Tt T hb9
  refine then_n ?_
  rcases bcases y6 with c10 | c10
  · replace hm := cF c10 hm
    refine cond_t rfl (vbn rfl c10 rfl) ?_
    refine wp_seq ?_
    refine wp_rs rfl ?_
    refine RQ.y rfl (Y.assign (v := .bool false) rfl) ?_
    refine RQ.nil ?_
    refine then_n ?_
    refine wp_ret ?_
    obtain rfl := Option.some.inj hm
    exact (then_r (ret1 rfl rfl rfl ⟨rfl, T⟩))
  · replace hm := cT c10 hm
    refine cond_f rfl (vbn rfl c10 rfl) ?_
    refine wp_skip ?_
    refine then_n ?_
    refine wp_seq ?_
    refine wp_rl rfl ?_
    obtain ⟨y11, e12, hm⟩ := bnd hm
    refine RL.call rfl (am1 rfl) (by kernel_rfl) ((c_m_impl_Net_ports d0 _ e12 _ _ (ptBox (R := netRd) B3 ⟨_, _, _, rfl, ⟨SlAt.now agentRd_ok h1 (Nat.le_refl _) T, r1⟩⟩)).mono ?_)
    rintro _ w16 ⟨⟨v13, rfl, G14⟩, hb17⟩
    refine ⟨_, rfl, ?_⟩
    have szw16 := hb17.size
    have T0w16 := T.size
    have No15_ob5 := OwF.ne G14 B3.lt
    have B3 := blkT B3 hb17
    have T := Tt T hb17
    replace G14 := OwF.mono G14 T0w16
    refine RL.y rfl (Y.makeFunc (vals := #[.pointer (some ⟨w.heap.size, 0, none⟩)]) (am1 rfl)) ?_
    obtain ⟨y18, e19, hm⟩ := bnd hm
    refine RL.call rfl (am2 rfl rfl) (by kernel_rfl) ((c_m_slices_ContainsFunc_impl_Port_impl_Port y11 (fun x0 => m_impl_ValidNet_1 x0 d0) _ e19 _ _ _ _ (OwF.arg fPort G14) (by kernel_rfl) (fun x0 b hx w1 hb1 => Calls.arr (by simp) (c_m_impl_ValidNet_1 x0 d0 _ hx _ w1 (ptBox (R := netRd) (blkT B3 hb1) ⟨_, _, _, rfl, ⟨SlAt.now agentRd_ok h1 (Nat.le_refl _) (Tt T hb1), r1⟩⟩)))).mono ?_)
    rintro _ w20 ⟨rfl, hb21⟩
    refine ⟨_, rfl, ?_⟩
    have szw20 := hb21.size
    have B3 := blkT B3 hb21
    have G14 := OwF.below G14 hb21
    have T := Tt T hb21
    refine RL.y rfl (Y.not (b' := (!y18)) rfl rfl) ?_
    refine RL.y rfl (Y.assign (v := .bool (!y18)) rfl) ?_
    refine RL.nil ?_
    refine then_n ?_
    refine wp_ret ?_
    obtain rfl := Option.some.inj hm
    exact (ret1 rfl rfl rfl ⟨rfl, T⟩)
end
section
open Go.RowKit
set_option linter.unusedVariables false
set_option linter.unusedSimpArgs false
theorem allDef {xs : List Int} : (∀ k, k < xs.length → ∃ x, xs[k]? = some x ∧ defIx x = true) ↔ xs.all defIx = true := by
  rw [List.all_eq_true]
  constructor
  · intro h x hx
    obtain ⟨k, hk, rfl⟩ := List.getElem_of_mem hx
    obtain ⟨y, hy, hd⟩ := h k hk
    rw [List.getElem?_eq_getElem hk] at hy
    injection hy with hy
    rw [hy]; exact hd
  · intro h k hk
    exact ⟨xs[k], List.getElem?_eq_getElem hk, h _ (List.getElem_mem _)⟩
theorem inR_def (x : Int) : inR x 0 23 = defIx x := rfl
theorem content_L1 (x : DAgent) (g : Nat) (hg : x.data.length < g) : m_spec_l11Content_L1 x m_spec_l11Content_A1 g 0 = some (x.data.all defIx) := by
  have h := allI (L := m_spec_l11Content_L1 x m_spec_l11Content_A1) (n := x.data.length) (p := fun k => ∃ y, x.data[k]? = some y ∧ defIx y = true) (no := some false) (K := some true)
    (fun g k hk ⟨y, hy, hd⟩ => by simp [m_spec_l11Content_L1, m_spec_l11Content_B1, hk, getI_nat hy, m_spec_l11Def, inR_def, hd])
    (fun g k hk hn => by
      have hd : defIx x.data[k] = false := by
        cases h : defIx x.data[k] with
        | false => rfl
        | true => exact absurd ⟨_, List.getElem?_eq_getElem hk, h⟩ hn
      simp [m_spec_l11Content_L1, m_spec_l11Content_B1, hk, getI_lt hk, m_spec_l11Def, inR_def, hd])
    (fun g => by simp [m_spec_l11Content_L1, m_spec_l11Content_B1, m_spec_l11Content_A1]) g hg
  rw [h]
  by_cases ha : x.data.all defIx = true
  · rw [if_pos (allDef.2 ha), ha]
  · rw [if_neg (fun hh => ha (allDef.1 hh))]; simp at ha ⊢; exact ha
theorem content_L2 (x : DAgent) (g : Nat) (hg : x.data.length < g) : m_spec_l11Content_L2 x m_spec_l11Content_A2 g 0 = some (x.data.all defIx) := by
  have h := allI (L := m_spec_l11Content_L2 x m_spec_l11Content_A2) (n := x.data.length) (p := fun k => ∃ y, x.data[k]? = some y ∧ defIx y = true) (no := some false) (K := some true)
    (fun g k hk ⟨y, hy, hd⟩ => by simp [m_spec_l11Content_L2, m_spec_l11Content_B2, hk, getI_nat hy, m_spec_l11Def, inR_def, hd])
    (fun g k hk hn => by
      have hd : defIx x.data[k] = false := by
        cases h : defIx x.data[k] with
        | false => rfl
        | true => exact absurd ⟨_, List.getElem?_eq_getElem hk, h⟩ hn
      simp [m_spec_l11Content_L2, m_spec_l11Content_B2, hk, getI_lt hk, m_spec_l11Def, inR_def, hd])
    (fun g => by simp [m_spec_l11Content_L2, m_spec_l11Content_B2, m_spec_l11Content_A2]) g hg
  rw [h]
  by_cases ha : x.data.all defIx = true
  · rw [if_pos (allDef.2 ha), ha]
  · rw [if_neg (fun hh => ha (allDef.1 hh))]; simp at ha ⊢; exact ha
theorem p_content (x : DAgent) : m_spec_l11Content x = some (content x.kind x.value x.data) := by
  have l1 := content_L1 x (x.data.length + 1) (by omega)
  have l2 := content_L2 x (x.data.length + 1) (by omega)
  have i2 : ((x.data.length : Int) = 2) ↔ x.data.length = 2 := by omega
  have i1 : ((x.data.length : Int) = 1) ↔ x.data.length = 1 := by omega
  have i14 : inR (x.data.length : Int) 1 4 = (decide (1 ≤ x.data.length) && decide (x.data.length ≤ 4)) := by
    rw [Bool.eq_iff_iff]; simp [inR]; omega
  have hI : ∀ y, inR y (-2147483648) 2147483647 = int32B y := fun _ => rfl
  have hO : inR x.value 1 6 = operB x.value := rfl
  unfold m_spec_l11Content content
  simp only [hI, hO, l1, l2, m_spec_l11Def, inR_def, Bool.cond_eq_ite, beq_iff_eq, bne_iff_ne, ne_eq, i14, i1, i2]
  by_cases h8 : x.kind = 8
  · by_cases h0 : x.data.length = 1
    · obtain ⟨y, hy⟩ : ∃ y, x.data = [y] := List.length_eq_one_iff.1 h0
      simp only [h8, hy]
      cases ho : operB x.value <;> simp [getI]
    · simp [h8, h0]
  by_cases h6 : x.kind = 6
  · by_cases h0 : x.data.length = 0 <;> simp [h6, h0]
  by_cases h7 : x.kind = 7
  · by_cases h0 : x.data.length = 0 <;> simp [h7, h0]
  by_cases h9 : x.kind = 9
  · by_cases h0 : x.data.length = 0 <;> simp [h9, h0, inR]
  by_cases h12 : x.kind = 12
  · by_cases h0 : x.data.length = 0 <;> simp [h12, h0]
  by_cases h10 : x.kind = 10
  · by_cases hv : x.value = 0 <;> by_cases n1 : 1 ≤ x.data.length <;> by_cases n4 : x.data.length ≤ 4 <;> simp [h10, hv, n1, n4]
  by_cases h11 : x.kind = 11
  · by_cases hv : x.value = 0 <;> by_cases hn : x.data.length = 2 <;> simp [h11, hv, hn]
  by_cases hv : x.value = 0 <;> by_cases h0 : x.data.length = 0 <;> simp [h6, h7, h8, h9, h10, h11, h12, hv, h0]
theorem p_fields (x : DAgent) (hp : x.ports.length ≤ 9223372036854775807) : m_spec_l11Fields x = some (fieldsN x.kind x.ports.length) := by
  unfold m_spec_l11Fields fieldsN
  simp only [Bool.cond_eq_ite, beq_iff_eq]
  by_cases h : x.kind = 9
  · simp [h, ck_ok (n := (x.ports.length : Int) - 1) (by omega)]
  · simp [h]
theorem p_agent (x : DAgent) (hp : x.ports.length ≤ 9223372036854775807) : m_spec_l11Agent x = some (agentOk x) := by
  unfold m_spec_l11Agent agentOk
  simp only [p_fields x hp, Option.bind_some, p_content, Bool.cond_eq_ite, beq_iff_eq, decide_eq_true_eq]
  generalize portsOf x.kind (fieldsN x.kind x.ports.length) = p
  by_cases h1 : p > 0
  · have h1' : 0 < p := h1
    by_cases h2 : (x.ports.length : Int) = p
    · cases h3 : allowed x.kind x.level <;> simp [h1, h1', h2]
    · simp [h1, h1', h2]
  · have h1' : ¬ 0 < p := h1
    simp [h1, h1']
theorem p_ifields (k : Int) (n : Nat) (hn : n ≤ 9223372036854775807) : m_impl_fieldsOf k (n : Int) = some (fieldsN k n) := by
  unfold m_impl_fieldsOf fieldsN
  simp only [Bool.cond_eq_ite, beq_iff_eq]
  by_cases h : k = 9
  · simp [h, ck_ok (n := (n : Int) - 1) (by omega)]
  · simp [h]
theorem p_isDef (n : Int) : m_impl_isDefIndex n = some (defIx n) := by
  unfold m_impl_isDefIndex defIx
  simp only [Bool.cond_eq_ite, decide_eq_true_eq]
  by_cases h : 0 ≤ n <;> simp [h] <;> omega
theorem p_isInt (n : Int) : m_impl_isInt n = some (int32B n) := by
  unfold m_impl_isInt int32B
  simp only [Bool.cond_eq_ite, decide_eq_true_eq]
  by_cases h : -2147483648 ≤ n <;> simp [h]
theorem p_isOper (n : Int) : m_impl_isOperator n = some (operB n) := by
  unfold m_impl_isOperator operB
  simp only [Bool.cond_eq_ite, decide_eq_true_eq]
  by_cases h : 1 ≤ n <;> simp [h]
theorem p_index_int (d : List Int) (p : Int → Option Bool) (q : Int → Bool) (h : ∀ x ∈ d, p x = some (q x)) : ∃ i, m_slices_IndexFunc_int64_int64 d p = some i ∧ decide (i ≥ 0) = d.any q := by
  unfold m_slices_IndexFunc_int64_int64
  by_cases ha : ∃ k, k < d.length ∧ ∃ x, d[k]? = some x ∧ q x = true
  · obtain ⟨m, ⟨hm, x, hx, hq⟩, hl⟩ : ∃ m, (m < d.length ∧ ∃ x, d[m]? = some x ∧ q x = true) ∧ ∀ k, k < m → ∀ y, d[k]? = some y → q y = false := by
      obtain ⟨k0, hk0⟩ := ha
      induction k0 using Nat.strongRecOn with
      | _ k0 ih =>
        by_cases hh : ∃ k, k < k0 ∧ k < d.length ∧ ∃ x, d[k]? = some x ∧ q x = true
        · obtain ⟨k, hk, hk1⟩ := hh; exact ih k hk hk1
        · exact ⟨k0, hk0, fun k hk y hy => by
            cases hq : q y with
            | false => rfl
            | true => exact absurd ⟨k, hk, lt_of_some hy, y, hy, hq⟩ hh⟩
    refine ⟨m, ?_, ?_⟩
    · refine trajI (n := m) (fun g k hk => ?_) (fun g => ?_) _ (by omega)
      · have hkl : k < d.length := by omega
        have hy := List.getElem?_eq_getElem hkl
        simp [m_slices_IndexFunc_int64_int64_L1, m_slices_IndexFunc_int64_int64_B1, hkl, getI_lt hkl, h _ (List.getElem_mem hkl), hl k hk _ hy]
      · have hmem := List.mem_of_getElem? hx
        simp [m_slices_IndexFunc_int64_int64_L1, m_slices_IndexFunc_int64_int64_B1, hm, getI_nat hx, h _ hmem, hq]
    · have : d.any q = true := List.any_eq_true.2 ⟨x, List.mem_of_getElem? hx, hq⟩
      rw [this]; simp
  · refine ⟨-1, ?_, ?_⟩
    · refine trajI (n := d.length) (fun g k hk => ?_) (fun g => ?_) _ (by omega)
      · have hq : q d[k] = false := by
          cases hq : q d[k] with
          | false => rfl
          | true => exact absurd ⟨k, hk, _, List.getElem?_eq_getElem hk, hq⟩ ha
        simp [m_slices_IndexFunc_int64_int64_L1, m_slices_IndexFunc_int64_int64_B1, hk, getI_lt hk, h _ (List.getElem_mem hk), hq]
      · simp [m_slices_IndexFunc_int64_int64_L1, m_slices_IndexFunc_int64_int64_B1, m_slices_IndexFunc_int64_int64_A1]
    · have : d.any q = false := List.any_eq_false.2 fun x hx hq => by
        obtain ⟨k, hk, rfl⟩ := List.getElem_of_mem hx
        exact ha ⟨k, hk, _, List.getElem?_eq_getElem hk, hq⟩
      rw [this]; simp
theorem p_contains_int (d : List Int) (p : Int → Option Bool) (q : Int → Bool) (h : ∀ x ∈ d, p x = some (q x)) : m_slices_ContainsFunc_int64_int64 d p = some (d.any q) := by
  obtain ⟨i, h1, h2⟩ := p_index_int d p q h
  simp -implicitDefEqProofs only [m_slices_ContainsFunc_int64_int64, h1, Option.bind_some, h2]
theorem p_wellFormed (x : DAgent) (hp : x.ports.length ≤ 9223372036854775807) : m_impl_wellFormed x = some (agentOk x) := by
  have hc := p_contains_int x.data (fun x0 => m_impl_wellFormed_1 x0) (fun x0 => !defIx x0) (fun y _ => by simp [m_impl_wellFormed_1, p_isDef])
  have hall : x.data.all defIx = !(x.data.any fun x0 => !defIx x0) := by rw [List.not_any_eq_all_not]; simp
  have e0 : ((x.data.length : Int) == 0) = decide (x.data.length = 0) := by rw [Bool.eq_iff_iff]; simp
  have i2 : ((x.data.length : Int) = 2) ↔ x.data.length = 2 := by omega
  have i1 : ((x.data.length : Int) = 1) ↔ x.data.length = 1 := by omega
  have g1 : ((x.data.length : Int) ≥ 1) ↔ 1 ≤ x.data.length := by omega
  have g4 : ((x.data.length : Int) ≤ 4) ↔ x.data.length ≤ 4 := by omega
  have ip : ((x.ports.length : Int) = 0) ↔ x.ports.length = 0 := by omega
  unfold m_impl_wellFormed agentOk
  simp only [p_ifields _ _ hp, Option.bind_some, hc, p_isInt, p_isOper, p_isDef, content, hall, e0, Bool.cond_eq_ite, beq_iff_eq, bne_iff_ne, ne_eq, decide_eq_true_eq, i1, i2, ip, g1, g4, ge_iff_le]
  generalize hp0 : portsOf x.kind (fieldsN x.kind x.ports.length) = p
  by_cases h0 : x.ports.length = 0
  · by_cases h1 : 0 < p
    · have : ¬ (x.ports.length : Int) = p := by omega
      simp [h0]; intro h2; omega
    · simp [h0, h1]
  by_cases h2 : p = (x.ports.length : Int)
  case neg =>
    have h2' : ¬ (x.ports.length : Int) = p := fun e => h2 e.symm
    simp [h0, h2, h2']
  have hpos : 0 < x.ports.length := by omega
  have v4 : x.value < 4 ↔ x.value ≤ 3 := by omega
  subst h2
  generalize hany : (x.data.any fun x0 => !defIx x0) = anyb
  cases h3 : allowed x.kind x.level
  · simp [h0]
  by_cases k6 : x.kind = 6
  · cases hi : int32B x.value <;> simp [h0, hpos, k6]
  by_cases k7 : x.kind = 7
  · cases hi : operB x.value <;> simp [h0, hpos, k7]
  by_cases k8 : x.kind = 8
  · by_cases hd : x.data.length = 1
    · obtain ⟨y, hy⟩ : ∃ y, x.data = [y] := List.length_eq_one_iff.1 hd
      cases hi : operB x.value <;> simp [h0, hpos, k8, hy, getI]
    · cases hi : operB x.value <;> simp [h0, hpos, k8, hd]
  by_cases k9 : x.kind = 9
  · by_cases v0 : 0 ≤ x.value <;> by_cases v3 : x.value ≤ 3
    all_goals simp [h0, hpos, k9, v0, v3, v4]
  by_cases k10 : x.kind = 10
  · by_cases v0 : x.value = 0 <;> by_cases n1 : 1 ≤ x.data.length <;> by_cases n4 : x.data.length ≤ 4 <;> simp [h0, hpos, k10, v0, n1, n4]
  by_cases k11 : x.kind = 11
  · by_cases v0 : x.value = 0 <;> by_cases n2 : x.data.length = 2 <;> simp [h0, hpos, k11, v0, n2]
  by_cases k12 : x.kind = 12
  · cases hi : defIx x.value <;> simp [h0, hpos, k12]
  by_cases v0 : x.value = 0 <;> simp [h0, hpos, k6, k7, k8, k9, k10, k11, k12, v0]
theorem agentsOk_iff {xs : List DAgent} : agentsOk xs = true ↔ AgentsOk xs := by unfold agentsOk; simp
theorem agents_p {xs : List DAgent} : (∀ k, k < xs.length → ∃ x, xs[k]? = some x ∧ agentOk x = true ∧ decide (x.kind = 1) = decide (k = 0)) ↔ ∀ (i : Nat) (x : DAgent), xs[i]? = some x → agentOk x = true ∧ decide (x.kind = 1) = decide (i = 0) := by
  constructor
  · intro h i x hx
    obtain ⟨y, hy, h1⟩ := h i (lt_of_some hx)
    rw [hx] at hy; injection hy with hy; subst hy; exact h1
  · intro h k hk
    exact ⟨xs[k], List.getElem?_eq_getElem hk, h k _ (List.getElem?_eq_getElem hk)⟩
theorem kind_ne (k : Int) (i : Nat) : ((k == 1) != ((i : Int) == 0)) = !(decide (decide (k = 1) = decide (i = 0))) := by
  have e1 : (k == 1) = decide (k = 1) := by rw [Bool.eq_iff_iff]; simp
  have e2 : ((i : Int) == 0) = decide (i = 0) := by rw [Bool.eq_iff_iff]; simp
  rw [e1, e2]
  cases decide (k = 1) <;> cases decide (i = 0) <;> rfl
open Classical in
theorem p_agents (xs : List DAgent) (hb : ∀ x ∈ xs, x.ports.length ≤ 9223372036854775807) : m_spec_l11Agents xs = some (agentsOk xs) := by
  unfold m_spec_l11Agents
  by_cases hl : 1 ≤ xs.length ∧ xs.length ≤ 600
  · have h0 : inR (xs.length : Int) 1 600 = true := by simp [inR]; omega
    rw [h0, cond_true]
    have h := allI (L := m_spec_l11Agents_L1 xs m_spec_l11Agents_A1) (n := xs.length) (p := fun k => ∃ x, xs[k]? = some x ∧ agentOk x = true ∧ decide (x.kind = 1) = decide (k = 0)) (no := some false) (K := some true)
      (fun g k hk ⟨x, hx, h1, h2⟩ => by
        have hm := hb x (List.mem_of_getElem? hx)
        simp [m_spec_l11Agents_L1, m_spec_l11Agents_B1, hk, getI_nat hx, p_agent x hm, h1, kind_ne, h2])
      (fun g k hk hn => by
        have hx := List.getElem?_eq_getElem hk
        have hm := hb _ (List.getElem_mem hk)
        cases h1 : agentOk xs[k] with
        | false => simp [m_spec_l11Agents_L1, m_spec_l11Agents_B1, hk, getI_lt hk, p_agent _ hm, h1]
        | true =>
          have h2 : ¬ decide (xs[k].kind = 1) = decide (k = 0) := fun h2 => hn ⟨_, hx, h1, h2⟩
          simp -implicitDefEqProofs only [m_spec_l11Agents_L1, m_spec_l11Agents_B1, dlt hk, cond_true, getI_lt hk, Option.bind_some, p_agent _ hm, h1, kind_ne, decide_eq_false h2, Bool.not_false, Bool.not_true, Bool.or_true, Bool.false_or, cond_false])
      (fun g => by simp [m_spec_l11Agents_L1, m_spec_l11Agents_B1, m_spec_l11Agents_A1]) (xs.length + 1) (by omega)
    rw [h]
    by_cases ha : ∀ k, k < xs.length → ∃ x, xs[k]? = some x ∧ agentOk x = true ∧ decide (x.kind = 1) = decide (k = 0)
    · rw [if_pos ha, agentsOk_iff.2 ⟨hl.1, hl.2, agents_p.1 ha⟩]
    · rw [if_neg ha]
      cases hc : agentsOk xs with
      | false => rfl
      | true => exact absurd (agents_p.2 (agentsOk_iff.1 hc).2.2) ha
  · have h0 : inR (xs.length : Int) 1 600 = false := by simp [inR]; omega
    rw [h0, cond_false]
    cases hc : agentsOk xs with
    | false => rfl
    | true => exact absurd ⟨(agentsOk_iff.1 hc).1, (agentsOk_iff.1 hc).2.1⟩ hl
open Classical in
theorem p_areAgents (xs : List DAgent) (hb : ∀ x ∈ xs, x.ports.length ≤ 9223372036854775807) : m_impl_areAgents xs = some (agentsOk xs) := by
  unfold m_impl_areAgents
  by_cases hl : 1 ≤ xs.length ∧ xs.length ≤ 600
  · have h0 : decide ((xs.length : Int) < 1) = false := by simp; omega
    have h0' : decide ((xs.length : Int) > 600) = false := by simp; omega
    rw [h0, h0', cond_false, cond_false]
    have h := allI (L := m_impl_areAgents_L1 xs m_impl_areAgents_A1) (n := xs.length) (p := fun k => ∃ x, xs[k]? = some x ∧ agentOk x = true ∧ decide (x.kind = 1) = decide (k = 0)) (no := some false) (K := some true)
      (fun g k hk ⟨x, hx, h1, h2⟩ => by
        have hm := hb x (List.mem_of_getElem? hx)
        simp [m_impl_areAgents_L1, m_impl_areAgents_B1, hk, getI_nat hx, p_wellFormed x hm, h1, kind_ne, h2])
      (fun g k hk hn => by
        have hx := List.getElem?_eq_getElem hk
        have hm := hb _ (List.getElem_mem hk)
        cases h1 : agentOk xs[k] with
        | false => simp [m_impl_areAgents_L1, m_impl_areAgents_B1, hk, getI_lt hk, p_wellFormed _ hm, h1]
        | true =>
          have h2 : ¬ decide (xs[k].kind = 1) = decide (k = 0) := fun h2 => hn ⟨_, hx, h1, h2⟩
          simp -implicitDefEqProofs only [m_impl_areAgents_L1, m_impl_areAgents_B1, dlt hk, cond_true, getI_lt hk, Option.bind_some, p_wellFormed _ hm, h1, kind_ne, decide_eq_false h2, Bool.not_false, Bool.not_true, Bool.or_true, Bool.false_or, cond_false])
      (fun g => by simp [m_impl_areAgents_L1, m_impl_areAgents_B1, m_impl_areAgents_A1]) (xs.length + 1) (by omega)
    rw [h]
    by_cases ha : ∀ k, k < xs.length → ∃ x, xs[k]? = some x ∧ agentOk x = true ∧ decide (x.kind = 1) = decide (k = 0)
    · rw [if_pos ha, agentsOk_iff.2 ⟨hl.1, hl.2, agents_p.1 ha⟩]
    · rw [if_neg ha]
      cases hc : agentsOk xs with
      | false => rfl
      | true => exact absurd (agents_p.2 (agentsOk_iff.1 hc).2.2) ha
  · have hc : agentsOk xs = false := by
      cases hc : agentsOk xs with
      | false => rfl
      | true => exact absurd ⟨(agentsOk_iff.1 hc).1, (agentsOk_iff.1 hc).2.1⟩ hl
    by_cases h1 : xs.length < 1
    · have h0 : decide ((xs.length : Int) < 1) = true := by simp; omega
      rw [h0, cond_true, hc]
    · have h0 : decide ((xs.length : Int) < 1) = false := by simp; omega
      have h0' : decide ((xs.length : Int) > 600) = true := by simp; omega
      rw [h0, h0', cond_false, cond_true, hc]
/-- No list is longer than what a net of the laws may hold. -/
def Small (xs : List DAgent) : Prop := szAgentS xs ≤ 1048576
theorem Small.len {xs : List DAgent} (h : Small xs) : xs.length ≤ 1048576 := by unfold Small szAgentS at h; omega
theorem sum_mem {α : Type} {f : α → Nat} {xs : List α} {x : α} (h : x ∈ xs) : f x ≤ (xs.map f).sum := by
  induction xs with
  | nil => cases h
  | cons y ys ih =>
    rcases List.mem_cons.1 h with rfl | h
    · simp
    · have := ih h; simp; omega
theorem Small.ports {xs : List DAgent} (h : Small xs) {x : DAgent} (hx : x ∈ xs) : x.ports.length ≤ 1048576 := by
  have := sum_mem (f := szAgent) hx
  have e : szAgent x = x.data.length + x.ports.length := rfl
  unfold Small szAgentS at h; omega
theorem Small.data {xs : List DAgent} (h : Small xs) {x : DAgent} (hx : x ∈ xs) : x.data.length ≤ 1048576 := by
  have := sum_mem (f := szAgent) hx
  have e : szAgent x = x.data.length + x.ports.length := rfl
  unfold Small szAgentS at h; omega
theorem Small.ports' {xs : List DAgent} (h : Small xs) : ∀ x ∈ xs, x.ports.length ≤ 9223372036854775807 := fun x hx => by have := h.ports hx; omega
theorem portsFrom_len : ∀ (i : Nat) (xs : List DAgent), (portsFrom i xs).length ≤ (xs.map szAgent).sum
  | _, [] => by simp [portsFrom]
  | i, x :: xs => by have := portsFrom_len (i + 1) xs; simp [portsFrom, agentPorts, szAgent]; omega
theorem Small.all {xs : List DAgent} (h : Small xs) : (allPorts xs).length ≤ 1048576 := by
  have := portsFrom_len 0 xs
  unfold Small szAgentS at h; unfold allPorts; omega
theorem agentAt_nat {xs : List DAgent} {k : Nat} {x : DAgent} (h : xs[k]? = some x) : agentAt xs (k : Int) = x := by simp [agentAt, List.getD, h]
theorem p_port (xs : List DAgent) (p : DPort) (h : Small xs) : m_spec_l11Port xs p = some (hasPort xs p) := by
  unfold m_spec_l11Port
  have hl := h.len
  rw [ck_ok (by omega), Option.bind_some]
  by_cases ha : 0 ≤ p.agent ∧ p.agent < xs.length
  · obtain ⟨k, hk⟩ := Int.eq_ofNat_of_zero_le ha.1
    have hkl : k < xs.length := by omega
    have h0 : inR p.agent 0 ((xs.length : Int) - 1) = true := by simp [inR]; omega
    have hx := List.getElem?_eq_getElem hkl
    have hp := h.ports (List.getElem_mem hkl)
    rw [h0, cond_true, hk, getI_nat hx, Option.bind_some, ck_ok (by omega), Option.bind_some]
    congr 1
    rw [Bool.eq_iff_iff]
    simp [inR, hasPort, hk, agentAt_nat hx]
    omega
  · have h0 : inR p.agent 0 ((xs.length : Int) - 1) = false := by simp [inR]; omega
    rw [h0, cond_false]
    congr 1
    simp [hasPort]
    omega
theorem p_hasPort (xs : List DAgent) (p : DPort) : m_impl_hasPort xs p = some (hasPort xs p) := by
  unfold m_impl_hasPort
  by_cases h1 : 0 ≤ p.agent
  · by_cases h2 : p.agent < xs.length
    · by_cases h3 : 0 ≤ p.slot
      · obtain ⟨k, hk⟩ := Int.eq_ofNat_of_zero_le h1
        have hkl : k < xs.length := by omega
        have hx := List.getElem?_eq_getElem hkl
        simp [h3, hk, hkl, hasPort, getI_nat hx, agentAt_nat hx]
      · simp [h1, h2, h3, hasPort]
    · simp [h1, h2, hasPort]
  · simp [h1, hasPort]
theorem p_peer {xs : List DAgent} {p : DPort} (h : hasPort xs p = true) : m_impl_Net_peer ⟨xs⟩ p = some (peer xs p) := by
  obtain ⟨i, k, x, rfl, hx, hk, ha⟩ := hasPort_at h
  have hy := List.getElem?_eq_getElem hk
  simp [m_impl_Net_peer, getI_nat hx, getI_nat hy, peer_of hx hy]
theorem port_eq (q p : DPort) : (q.agent == p.agent && q.slot == p.slot) = decide (q = p) := by
  rw [Bool.eq_iff_iff]
  cases q; cases p; simp
theorem badPort_at {xs : List DAgent} {i k : Nat} {x : DAgent} {q : DPort} (hx : xs[i]? = some x) (hq : x.ports[k]? = some q) : badPort xs ⟨i, k⟩ = (decide (q = ⟨i, k⟩) || !hasPort xs q || !decide (peer xs q = ⟨i, k⟩)) := by
  unfold badPort; rw [peer_of hx hq]
open Classical in
theorem p_ok_inner {xs : List DAgent} (hs : Small xs) {i : Nat} {x : DAgent} (hx : xs[i]? = some x) (rec : Int → Option Bool) (g : Nat) (hg : x.ports.length < g) :
    ((∀ k, k < x.ports.length → badPort xs ⟨i, k⟩ = false) ∧ m_spec_l11Ok_L2 ⟨xs⟩ (i : Int) x (m_spec_l11Ok_A2 rec (i : Int)) g 0 = rec ((i : Int) + 1)) ∨ ((¬ ∀ k, k < x.ports.length → badPort xs ⟨i, k⟩ = false) ∧ m_spec_l11Ok_L2 ⟨xs⟩ (i : Int) x (m_spec_l11Ok_A2 rec (i : Int)) g 0 = some false) := by
  have hi := lt_of_some hx
  have hl := hs.len
  refine (allO (L := m_spec_l11Ok_L2 ⟨xs⟩ (i : Int) x (m_spec_l11Ok_A2 rec (i : Int))) (n := x.ports.length) (p := fun k => badPort xs ⟨i, k⟩ = false) (no := some false) (K := rec ((i : Int) + 1)) ?_ ?_ ?_ g hg)
  · intro g k hk hb
    have hq := List.getElem?_eq_getElem hk
    rw [badPort_at hx hq] at hb
    simp only [Bool.or_eq_false_iff, Bool.not_eq_false', decide_eq_false_iff_not, decide_eq_true_eq] at hb
    obtain ⟨⟨h1, h2⟩, h3⟩ := hb
    obtain ⟨i2, k2, x2, he, hx2, hk2, _⟩ := hasPort_at h2
    have hq2 := List.getElem?_eq_getElem hk2
    have h1' : (x.ports[k].agent == (i : Int) && x.ports[k].slot == (k : Int)) = false := by
      have := port_eq x.ports[k] ⟨i, k⟩
      simp only at this
      rw [this]; simpa using h1
    have h3' : (x2.ports[k2].agent == (i : Int) && x2.ports[k2].slot == (k : Int)) = true := by
      have := port_eq x2.ports[k2] ⟨i, k⟩
      simp only at this
      rw [this]
      rw [he, peer_of hx2 hq2] at h3
      simpa using h3
    have ha : x.ports[k].agent = (i2 : Int) := by rw [he]
    have hsl : x.ports[k].slot = (k2 : Int) := by rw [he]
    have e1 : getI xs x.ports[k].agent = some x2 := by rw [ha]; exact getI_nat hx2
    have e2 : getI x2.ports x.ports[k].slot = some x2.ports[k2] := by rw [hsl]; exact getI_nat hq2
    simp -implicitDefEqProofs only [m_spec_l11Ok_L2, m_spec_l11Ok_B2, dlt hk, cond_true, getI_lt hk, Option.bind_some, h1', cond_false, p_port xs _ hs, h2, e1, e2, h3']
  · intro g k hk hb
    have hq := List.getElem?_eq_getElem hk
    have hb : badPort xs ⟨i, k⟩ = true := by simpa using hb
    rw [badPort_at hx hq] at hb
    have hE := port_eq x.ports[k] ⟨i, k⟩
    simp only at hE
    by_cases h1 : x.ports[k] = (⟨i, k⟩ : DPort)
    · have : (x.ports[k].agent == (i : Int) && x.ports[k].slot == (k : Int)) = true := by rw [hE]; simpa using h1
      simp -implicitDefEqProofs only [m_spec_l11Ok_L2, m_spec_l11Ok_B2, dlt hk, cond_true, getI_lt hk, Option.bind_some, this]
    · have h1' : (x.ports[k].agent == (i : Int) && x.ports[k].slot == (k : Int)) = false := by rw [hE]; simpa using h1
      cases h2 : hasPort xs x.ports[k] with
      | false => simp -implicitDefEqProofs only [m_spec_l11Ok_L2, m_spec_l11Ok_B2, dlt hk, cond_true, getI_lt hk, Option.bind_some, h1', cond_false, p_port xs _ hs, h2]
      | true =>
        have h3 : ¬ peer xs x.ports[k] = (⟨i, k⟩ : DPort) := by
          intro h3; rw [h2, h3] at hb; simp [h1] at hb
        obtain ⟨i2, k2, x2, he, hx2, hk2, _⟩ := hasPort_at h2
        have hq2 := List.getElem?_eq_getElem hk2
        have h3' : (x2.ports[k2].agent == (i : Int) && x2.ports[k2].slot == (k : Int)) = false := by
          have := port_eq x2.ports[k2] ⟨i, k⟩
          simp only at this
          rw [this]
          rw [he, peer_of hx2 hq2] at h3
          simpa using h3
        have ha : x.ports[k].agent = (i2 : Int) := by rw [he]
        have hsl : x.ports[k].slot = (k2 : Int) := by rw [he]
        have e1 : getI xs x.ports[k].agent = some x2 := by rw [ha]; exact getI_nat hx2
        have e2 : getI x2.ports x.ports[k].slot = some x2.ports[k2] := by rw [hsl]; exact getI_nat hq2
        simp -implicitDefEqProofs only [m_spec_l11Ok_L2, m_spec_l11Ok_B2, dlt hk, cond_true, getI_lt hk, Option.bind_some, h1', cond_false, p_port xs _ hs, h2, e1, e2, h3']
  · intro g
    simp -implicitDefEqProofs only [m_spec_l11Ok_L2, m_spec_l11Ok_B2, dge, cond_false, m_spec_l11Ok_A2]
    rw [ck_ok (by omega), Option.bind_some]
theorem portsOk_p {xs : List DAgent} : (∀ i, i < xs.length → ∃ x, xs[i]? = some x ∧ ∀ k, k < x.ports.length → badPort xs ⟨i, k⟩ = false) ↔ PortsOk xs := by
  constructor
  · intro h i x hx k hk
    obtain ⟨y, hy, h1⟩ := h i (lt_of_some hx)
    rw [hx] at hy; injection hy with hy; subst hy; exact h1 k hk
  · intro h i hi
    exact ⟨xs[i], List.getElem?_eq_getElem hi, fun k hk => h i _ (List.getElem?_eq_getElem hi) k hk⟩
theorem validNet_iff {x : DNet} : validNet x = true ↔ AgentsOk x.agents ∧ PortsOk x.agents := by unfold validNet; simp
open Classical in
theorem p_ok (d : DNet) (hs : Small d.agents) : m_spec_l11Ok d = some (validNet d) := by
  obtain ⟨xs⟩ := d
  have hs : Small xs := hs
  unfold m_spec_l11Ok
  rw [p_agents xs hs.ports', Option.bind_some]
  cases hag : agentsOk xs with
  | false =>
    rw [cond_false]
    cases hv : validNet ⟨xs⟩ with
    | false => rfl
    | true => rw [agentsOk_iff.2 (validNet_iff.1 hv).1] at hag; cases hag
  | true =>
    rw [cond_true]
    have h := allO (L := m_spec_l11Ok_L1 ⟨xs⟩ m_spec_l11Ok_A1) (n := xs.length) (p := fun i => ∃ x, xs[i]? = some x ∧ ∀ k, k < x.ports.length → badPort xs ⟨i, k⟩ = false) (no := some false) (K := some true)
      (fun g i hi ⟨x, hx, hp⟩ => by
        simp -implicitDefEqProofs only [m_spec_l11Ok_L1, m_spec_l11Ok_B1, dlt hi, cond_true, getI_nat hx, Option.bind_some]
        rcases p_ok_inner hs hx (m_spec_l11Ok_L1 ⟨xs⟩ m_spec_l11Ok_A1 g) _ (Nat.lt_succ_self _) with ⟨_, h⟩ | ⟨hn, _⟩
        · exact h
        · exact absurd hp hn)
      (fun g i hi hn => by
        have hx := List.getElem?_eq_getElem hi
        simp -implicitDefEqProofs only [m_spec_l11Ok_L1, m_spec_l11Ok_B1, dlt hi, cond_true, getI_lt hi, Option.bind_some]
        rcases p_ok_inner hs hx (m_spec_l11Ok_L1 ⟨xs⟩ m_spec_l11Ok_A1 g) _ (Nat.lt_succ_self _) with ⟨hp, _⟩ | ⟨_, h⟩
        · exact absurd ⟨_, hx, hp⟩ hn
        · exact h)
      (fun g => by simp -implicitDefEqProofs only [m_spec_l11Ok_L1, m_spec_l11Ok_B1, dge, cond_false, m_spec_l11Ok_A1]) (xs.length + 1) (Nat.lt_succ_self _)
    rcases h with ⟨ha, h⟩ | ⟨ha, h⟩
    · rw [validNet_iff.2 ⟨agentsOk_iff.1 hag, portsOk_p.1 ha⟩]; exact h
    · cases hv : validNet ⟨xs⟩ with
      | false => exact h
      | true => exact absurd (portsOk_p.2 (validNet_iff.1 hv).2) ha
theorem agentPorts_len (i : Nat) (x : DAgent) : (agentPorts i x).length = x.ports.length := by simp [agentPorts]
theorem p_ports_inner {i : Nat} {x : DAgent} (rec : List DPort → Int → Option (List DPort)) (acc : List DPort) (hb : acc.length + x.ports.length ≤ 4294967296) (hi : (i : Int) < 9223372036854775807) (g : Nat) (hg : x.ports.length < g) :
    m_impl_Net_ports_L2 (i : Int) x (m_impl_Net_ports_A2 rec (i : Int)) g acc 0 = rec (acc ++ agentPorts i x) ((i : Int) + 1) := by
  have h := traj (L := fun g (s : List DPort × Int) => m_impl_Net_ports_L2 (i : Int) x (m_impl_Net_ports_A2 rec (i : Int)) g s.1 s.2) (st := fun k => (acc ++ (List.range k).map (fun (j : Nat) => (⟨i, j⟩ : DPort)), (k : Int))) (n := x.ports.length) (r := rec (acc ++ agentPorts i x) ((i : Int) + 1))
    (fun g k hk => by
      simp -implicitDefEqProofs only [m_impl_Net_ports_L2, m_impl_Net_ports_B2, dlt hk, cond_true]
      rw [mustP_ok (by simp; omega), Option.bind_some]
      rw [List.range_succ, List.map_append, List.append_assoc]
      simp only [List.map_cons, List.map_nil, Int.natCast_add, Int.cast_ofNat_Int])
    (fun g => by
      simp -implicitDefEqProofs only [m_impl_Net_ports_L2, m_impl_Net_ports_B2, dge, cond_false, m_impl_Net_ports_A2]
      rw [ck_ok (by omega), Option.bind_some, agentPorts]) g hg
  simpa using h
theorem p_ports (d : DNet) (hs : Small d.agents) : m_impl_Net_ports d = some (allPorts d.agents) := by
  obtain ⟨xs⟩ := d
  have hs : Small xs := hs
  have hl := hs.len
  have ha := hs.all
  unfold m_impl_Net_ports
  have h := traj (L := fun g (s : List DPort × Int) => m_impl_Net_ports_L1 ⟨xs⟩ m_impl_Net_ports_A1 g s.1 s.2) (st := fun k => (allPorts (xs.take k), (k : Int))) (n := xs.length) (r := some (allPorts xs))
    (fun g k hk => by
      have hx := List.getElem?_eq_getElem hk
      have hlen : (allPorts (xs.take (k + 1))).length ≤ (allPorts xs).length := by
        have : allPorts xs = portsFrom 0 (xs.take (k + 1) ++ xs.drop (k + 1)) := by rw [List.take_append_drop]; rfl
        rw [this, portsFrom_append, List.length_append]
        exact Nat.le_add_right _ _
      rw [allPorts_take hx, List.length_append, agentPorts_len] at hlen
      simp -implicitDefEqProofs only [m_impl_Net_ports_L1, m_impl_Net_ports_B1, dlt hk, cond_true, getI_lt hk, Option.bind_some]
      rw [p_ports_inner (m_impl_Net_ports_L1 ⟨xs⟩ m_impl_Net_ports_A1 g) _ (by omega) (by omega) _ (Nat.lt_succ_self _), allPorts_take hx]
      simp only [Int.natCast_add, Int.cast_ofNat_Int])
    (fun g => by
      simp -implicitDefEqProofs only [m_impl_Net_ports_L1, m_impl_Net_ports_B1, dge, cond_false, m_impl_Net_ports_A1, List.take_length]) (xs.length + 1) (Nat.lt_succ_self _)
  exact h
theorem p_index_port (d : List DPort) (p : DPort → Option Bool) (q : DPort → Bool) (h : ∀ x ∈ d, p x = some (q x)) : ∃ i, m_slices_IndexFunc_impl_Port_impl_Port d p = some i ∧ decide (i ≥ 0) = d.any q := by
  unfold m_slices_IndexFunc_impl_Port_impl_Port
  by_cases ha : ∃ k, k < d.length ∧ ∃ x, d[k]? = some x ∧ q x = true
  · obtain ⟨m, ⟨hm, x, hx, hq⟩, hl⟩ : ∃ m, (m < d.length ∧ ∃ x, d[m]? = some x ∧ q x = true) ∧ ∀ k, k < m → ∀ y, d[k]? = some y → q y = false := by
      obtain ⟨k0, hk0⟩ := ha
      induction k0 using Nat.strongRecOn with
      | _ k0 ih =>
        by_cases hh : ∃ k, k < k0 ∧ k < d.length ∧ ∃ x, d[k]? = some x ∧ q x = true
        · obtain ⟨k, hk, hk1⟩ := hh; exact ih k hk hk1
        · exact ⟨k0, hk0, fun k hk y hy => by
            cases hq : q y with
            | false => rfl
            | true => exact absurd ⟨k, hk, lt_of_some hy, y, hy, hq⟩ hh⟩
    refine ⟨m, ?_, ?_⟩
    · refine trajI (n := m) (fun g k hk => ?_) (fun g => ?_) _ (by omega)
      · have hkl : k < d.length := by omega
        have hy := List.getElem?_eq_getElem hkl
        simp [m_slices_IndexFunc_impl_Port_impl_Port_L1, m_slices_IndexFunc_impl_Port_impl_Port_B1, hkl, getI_lt hkl, h _ (List.getElem_mem hkl), hl k hk _ hy]
      · have hmem := List.mem_of_getElem? hx
        simp [m_slices_IndexFunc_impl_Port_impl_Port_L1, m_slices_IndexFunc_impl_Port_impl_Port_B1, hm, getI_nat hx, h _ hmem, hq]
    · have : d.any q = true := List.any_eq_true.2 ⟨x, List.mem_of_getElem? hx, hq⟩
      rw [this]; simp
  · refine ⟨-1, ?_, ?_⟩
    · refine trajI (n := d.length) (fun g k hk => ?_) (fun g => ?_) _ (by omega)
      · have hq : q d[k] = false := by
          cases hq : q d[k] with
          | false => rfl
          | true => exact absurd ⟨k, hk, _, List.getElem?_eq_getElem hk, hq⟩ ha
        simp [m_slices_IndexFunc_impl_Port_impl_Port_L1, m_slices_IndexFunc_impl_Port_impl_Port_B1, hk, getI_lt hk, h _ (List.getElem_mem hk), hq]
      · simp [m_slices_IndexFunc_impl_Port_impl_Port_L1, m_slices_IndexFunc_impl_Port_impl_Port_B1, m_slices_IndexFunc_impl_Port_impl_Port_A1]
    · have : d.any q = false := List.any_eq_false.2 fun x hx hq => by
        obtain ⟨k, hk, rfl⟩ := List.getElem_of_mem hx
        exact ha ⟨k, hk, _, List.getElem?_eq_getElem hk, hq⟩
      rw [this]; simp
theorem p_contains_port (d : List DPort) (p : DPort → Option Bool) (q : DPort → Bool) (h : ∀ x ∈ d, p x = some (q x)) : m_slices_ContainsFunc_impl_Port_impl_Port d p = some (d.any q) := by
  obtain ⟨i, h1, h2⟩ := p_index_port d p q h
  simp -implicitDefEqProofs only [m_slices_ContainsFunc_impl_Port_impl_Port, h1, Option.bind_some, h2]
theorem p_valid1 {xs : List DAgent} {p : DPort} (h : hasPort xs p = true) : m_impl_ValidNet_1 p ⟨xs⟩ = some (badPort xs p) := by
  unfold m_impl_ValidNet_1 badPort
  rw [p_peer h, Option.bind_some, port_eq]
  by_cases h1 : peer xs p = p
  · simp [h1]
  · cases h2 : hasPort xs (peer xs p) with
    | false => simp [h1, p_hasPort, h2]
    | true => simp [h1, p_hasPort, h2, p_peer h2, port_eq]
theorem p_valid (d : DNet) (hs : Small d.agents) : m_impl_ValidNet d = some (validNet d) := by
  obtain ⟨xs⟩ := d
  have hs : Small xs := hs
  unfold m_impl_ValidNet
  rw [p_areAgents xs hs.ports', Option.bind_some]
  cases hag : agentsOk xs with
  | false =>
    rw [cond_false]
    cases hv : validNet ⟨xs⟩ with
    | false => rfl
    | true => rw [agentsOk_iff.2 (validNet_iff.1 hv).1] at hag; cases hag
  | true =>
    rw [cond_true, p_ports _ hs, Option.bind_some]
    have hc := p_contains_port (allPorts xs) (fun x0 => m_impl_ValidNet_1 x0 ⟨xs⟩) (badPort xs) (fun p hp => by
      obtain ⟨j, x, k, h1, h2, rfl⟩ := mem_portsFrom.1 hp
      have hh := hasPort_of h1 h2
      simp only [Nat.zero_add]
      exact p_valid1 hh)
    rw [hc, Option.bind_some]
    congr 1
    rw [Bool.eq_iff_iff, validNet_iff, Bool.not_eq_true', any_allPorts]
    exact ⟨fun h => ⟨agentsOk_iff.1 hag, h⟩, fun h => h.2⟩
end
section
open Go.RowKit
set_option linter.unusedVariables false
set_option linter.unusedSimpArgs false
theorem portsOf_kind {k f : Int} (h : 0 < portsOf k f) : 1 ≤ k ∧ k ≤ 12 := by
  unfold portsOf at h
  split at h
  · omega
  · split at h
    · omega
    · split at h
      · omega
      · split at h
        · omega
        · split at h <;> omega
structure Good (xs : List DAgent) : Prop where
  one : 1 ≤ xs.length
  len : xs.length ≤ 600
  ok : ∀ (i : Nat) (x : DAgent), xs[i]? = some x → agentOk x = true
  root : ∀ (i : Nat) (x : DAgent), xs[i]? = some x → (x.kind = 1 ↔ i = 0)
  ports : PortsOk xs
theorem good {d : DNet} (h : validNet d = true) : Good d.agents := by
  obtain ⟨⟨h1, h2, h3⟩, h4⟩ := validNet_iff.1 h
  exact ⟨h1, h2, fun i x hx => (h3 i x hx).1, fun i x hx => by have := (h3 i x hx).2; simpa using this, h4⟩
theorem agentOk_pos {x : DAgent} (h : agentOk x = true) : 0 < x.ports.length ∧ 1 ≤ x.kind ∧ x.kind ≤ 12 := by
  unfold agentOk at h
  simp only [Bool.and_eq_true, decide_eq_true_eq] at h
  have := portsOf_kind h.1.1.1
  omega
theorem Good.pos {xs : List DAgent} (G : Good xs) {i : Nat} {x : DAgent} (hx : xs[i]? = some x) : 0 < x.ports.length := (agentOk_pos (G.ok i x hx)).1
def before (p q : DPort) : Bool := decide (p.agent < q.agent) || (p.agent == q.agent && decide (p.slot < q.slot))
end
section
open Go.RowKit
set_option linter.unusedVariables false
set_option linter.unusedSimpArgs false
inductive OT where
  | nil | q (i : Nat) (r : OT) | a (i : Nat) (r : OT) | two (i : Nat) (r1 : OT) (j : Nat) (r2 : OT)
def OT.len : OT → Nat
  | .nil => 0
  | .q _ r => r.len + 1
  | .a _ r => r.len + 1
  | .two _ r1 _ _ => r1.len + 1
section
variable {P : Program} {ops : Array Oper} {S : World → Prop}
def ActAt (P : Program) (ops : Array Oper) (K : (Nat → Value) → World → Prop) (i : Nat) (f : Nat → Value) (w : World) : Prop :=
  match ops[i]? with
  | none => False
  | some o => (wantF f ops o = true ∧ OpX P (fun v w' => K (upo f o.dst v) w') ((execOp (ev f) o).run P w)) ∨ (wantF f ops o = false ∧ K (upo f o.dst undef) w)
def RT (P : Program) (ops : Array Oper) (S : World → Prop) (Q : (Nat → Value) → World → Prop) : OT → (Nat → Value) → World → Prop
  | .nil, f, w => Q f w
  | .q i r, f, w => match ops[i]? with
    | none => False
    | some o => ∃ v, ((wantF f ops o = true ∧ ∀ w, S w → (execOp (ev f) o).run P w = .ok (.value v) w) ∨ (wantF f ops o = false ∧ v = undef)) ∧ RT P ops S Q r (upo f o.dst v) w
  | .a i r, f, w => ActAt P ops (fun f' w' => S w' ∧ RT P ops S Q r f' w') i f w
  | .two i r1 j r2, f, w => ActAt P ops (fun f' w' => S w' ∧ RT P ops S Q r1 f' w') i f w ∧ ActAt P ops (fun f' w' => S w' ∧ RT P ops S Q r2 f' w') j f w
def ordT (ops : Array Oper) : OT → Array Bool → Bool
  | .nil, listed => (Region.ready .any ops listed).isEmpty
  | .q i r, listed => (Region.ready .any ops listed).contains i && Region.free .any ops listed i && ordT ops r (listed.setIfInBounds i true)
  | .a i r, listed => decide (Region.ready .any ops listed = [i]) && ordT ops r (listed.setIfInBounds i true)
  | .two i r1 j r2, listed => decide (Region.ready .any ops listed = [i, j]) && ordT ops r1 (listed.setIfInBounds i true) && ordT ops r2 (listed.setIfInBounds j true) && decide (r1.len = r2.len)
theorem actAt_op {n : Nat} {Q' : Exit → Act → World → Prop} (hok : ∀ (i : Nat) (o : Oper), ops[i]? = some o → okOp n ops o = true) {K : (Nat → Value) → World → Prop} {m : Nat} {listed : Array Bool} {f : Nat → Value} {w : World} {j : Nat}
    (hK : ∀ f w, K f w → S w ∧ wpAnyH P .any ops Q' S m (listed.setIfInBounds j true) (Fr n f) w) (h : ActAt P ops K j f w) :
    wpOp P ops Q' j (fun a w' => S w' ∧ wpAnyH P .any ops Q' S m (listed.setIfInBounds j true) a w') (Fr n f) w := by
  unfold ActAt at h
  cases ho : ops[j]? with
  | none => rw [ho] at h; exact h.elim
  | some o =>
    rw [ho] at h
    have hk := hok j o ho
    unfold wpOp
    rw [ho]
    simp only
    rw [Fr_wanted hk]
    have key : ∀ v w', K (upo f o.dst v) w' → S w' ∧ wpAnyH P .any ops Q' S m (listed.setIfInBounds j true) ((Fr n f).put o.dst v) w' := fun v w' h1 => by
      rw [Fr_put]; exact hK _ _ h1
    rcases h with ⟨hw, h⟩ | ⟨hw, h1⟩
    · rw [hw, if_pos rfl]
      left
      unfold Oper.wp
      rw [Fr_exec hk]
      refine OpX_wp ?_
      revert h
      generalize (execOp (ev f) o).run P w = r
      intro h
      cases r with
      | ok nx w' =>
        cases nx <;> simp only [OpX] at h ⊢ <;> try exact key _ _ h
        case enter g args => exact h.mono fun e w'' ⟨v, he, hk⟩ => ⟨v, he, key _ _ hk⟩
      | halt x w' => simp only [OpX] at h
    · rw [hw, if_neg (by decide)]
      exact key _ _ h1
theorem RT_H {n : Nat} {Q : (Nat → Value) → World → Prop} {Q' : Exit → Act → World → Prop} (hQ : ∀ f w, Q f w → Q' .normal (Fr n f) w) (hP : ∀ c a w, ¬ Q' (.panic c) a w) (hsel : Region.noSelect ops = true) (hok : ∀ (i : Nat) (o : Oper), ops[i]? = some o → okOp n ops o = true) :
    ∀ (l : OT) (listed : Array Bool) (f : Nat → Value) (w : World), ordT ops l listed = true → S w → RT P ops S Q l f w → wpAnyH P .any ops Q' S l.len listed (Fr n f) w
  | .nil, listed, f, w, hB, hS, h => ⟨by simpa [ordT] using hB, hQ f w h⟩
  | .q i rest, listed, f, w, hB, hS, h => by
    simp only [ordT, Bool.and_eq_true] at hB
    obtain ⟨⟨hr, hf⟩, hB⟩ := hB
    unfold RT at h
    cases ho : ops[i]? with
    | none => rw [ho] at h; exact h.elim
    | some o =>
      rw [ho] at h
      obtain ⟨v, h1, h2⟩ := h
      have hk := hok i o ho
      refine wpAnyH_take ho hsel hf hr (fun c a w h => absurd h (hP c _ w)) ?_ hS (v := v) ?_
      · rcases h1 with ⟨hw, h1⟩ | ⟨hw, e⟩
        · exact .inl ⟨by rw [Fr_wanted hk]; exact hw, fun w hw' => by rw [Fr_exec hk]; exact h1 w hw'⟩
        · exact .inr ⟨by rw [Fr_wanted hk]; exact hw, e⟩
      · rw [Fr_put]
        exact RT_H hQ hP hsel hok rest _ _ w hB hS h2
  | .a i rest, listed, f, w, hB, hS, h => by
    simp only [ordT, Bool.and_eq_true, decide_eq_true_eq] at hB
    obtain ⟨hr, hB⟩ := hB
    refine wpAnyH_all hr (by simp) fun j hj => ?_
    obtain rfl : j = i := by simpa using hj
    exact actAt_op hok (fun f w ⟨h1, h2⟩ => ⟨h1, RT_H hQ hP hsel hok rest _ _ w hB h1 h2⟩) h
  | .two i r1 j r2, listed, f, w, hB, hS, h => by
    simp only [ordT, Bool.and_eq_true, decide_eq_true_eq] at hB
    obtain ⟨⟨⟨hr, hB1⟩, hB2⟩, hl⟩ := hB
    refine wpAnyH_all hr (by simp) fun k hk => ?_
    have hk : k = i ∨ k = j := by simpa using hk
    rcases hk with rfl | rfl
    · exact actAt_op hok (fun f w ⟨h1, h2⟩ => ⟨h1, RT_H hQ hP hsel hok r1 _ _ w hB1 h1 h2⟩) h.1
    · refine actAt_op hok (fun f w ⟨h1, h2⟩ => ⟨h1, ?_⟩) h.2
      rw [hl]
      exact RT_H hQ hP hsel hok r2 _ _ w hB2 h1 h2
theorem wp_rgt {id n : Nat} {l : List Oper} {f : Nat → Value} {w : World} {Q : Exit → Act → World → Prop} (S : World → Prop) (ord : OT) (hm : P.follows .mixedOrders = true)
    (hin : (okAll n l && Region.noSelect l.toArray && decide (ord.len = l.length) && ordT l.toArray ord (Array.replicate l.length false)) = true)
    (h : ∀ w1, Below w.heap.size w w1 → w1.heap.size = w.heap.size → S w1 ∧ RT P l.toArray S (fun f' w' => Q .normal (Fr n f') w') ord f w1) : (Code.region id l.toArray true).wp P Q (Fr n f) w := by
  simp only [Bool.and_eq_true, decide_eq_true_eq] at hin
  obtain ⟨⟨⟨h1, h2⟩, h3⟩, h4⟩ := hin
  refine Code.wp_mono (Q := noP Q) (fun e a w hq => by cases e <;> first | exact hq | exact hq.elim) ?_
  refine wp_region_held (S := S) hm ?_
  obtain ⟨hS, hR⟩ := h { w with drawn := w.drawn + 1 } ⟨rfl, rfl, rfl, Nat.le_refl _, fun _ _ => rfl⟩ rfl
  have := RT_H (Q' := noP Q) (n := n) (fun f w h => h) (fun c a w h => h) h2 (fun i o ho => List.all_eq_true.1 h1 o (by
    have : l[i]? = some o := by simpa using ho
    exact List.mem_of_getElem? this)) ord _ f _ h4 hS hR
  rw [h3] at this
  simpa using this
variable {Q : (Nat → Value) → World → Prop} {rest r2 : OT} {f : Nat → Value} {w : World} {i j : Nat} {o o2 : Oper}
theorem RT.nil_ (h : Q f w) : RT P ops S Q .nil f w := h
theorem RT.y {v : Value} (ho : ops[i]? = some o) (hg : wantF f ops o = true) (hy : Y P S f o v) (h : RT P ops S Q rest (upo f o.dst v) w) : RT P ops S Q (.q i rest) f w := by
  unfold RT; rw [ho]; exact ⟨v, .inl ⟨hg, hy⟩, h⟩
theorem RT.skip (ho : ops[i]? = some o) (hg : wantF f ops o = false) (h : RT P ops S Q rest (upo f o.dst undef) w) : RT P ops S Q (.q i rest) f w := by
  unfold RT; rw [ho]; exact ⟨undef, .inr ⟨hg, rfl⟩, h⟩
theorem ActAt.of {K : (Nat → Value) → World → Prop} (ho : ops[i]? = some o) (h : RL P ops K [o] f w) : ActAt P ops K i f w := by
  unfold ActAt
  rw [ho]
  unfold RL at h
  exact h
theorem RT.act (ho : ops[i]? = some o) (h : RL P ops (fun f' w' => S w' ∧ RT P ops S Q rest f' w') [o] f w) : RT P ops S Q (.a i rest) f w := ActAt.of ho h
theorem RT.both (ho : ops[i]? = some o) (ho2 : ops[j]? = some o2) (h : RL P ops (fun f' w' => S w' ∧ RT P ops S Q rest f' w') [o] f w) (h2 : RL P ops (fun f' w' => S w' ∧ RT P ops S Q r2 f' w') [o2] f w) : RT P ops S Q (.two i rest j r2) f w :=
  ⟨ActAt.of ho h, ActAt.of ho2 h2⟩
end
end
section
open Go.RowKit
set_option linter.unusedVariables false
set_option linter.unusedSimpArgs false
/-- A loop over a list. -/
theorem foldL {α σ ρ : Type} {L : Nat → σ → Int → Option ρ} {d : List α} {f : σ → α → σ} {I : Nat → σ → Prop} {K : σ → Option ρ} (h : ∀ g (k : Nat) x s, d[k]? = some x → I k s → L (g + 1) s (k : Int) = L g (f s x) ((k : Int) + 1) ∧ I (k + 1) (f s x)) (he : ∀ g s, I d.length s → L (g + 1) s (d.length : Int) = K s) :
    ∀ (g : Nat) (s : σ), d.length < g → I 0 s → L g s 0 = K (d.foldl f s) ∧ I d.length (d.foldl f s) := by
  have key : ∀ (m k g : Nat) s, k + m = d.length → m < g → I k s → L g s (k : Int) = K ((d.drop k).foldl f s) ∧ I d.length ((d.drop k).foldl f s) := by
    intro m
    induction m with
    | zero =>
      intro k g s hk hg hI
      obtain ⟨g, rfl⟩ : ∃ g', g = g' + 1 := ⟨g - 1, by omega⟩
      obtain rfl : k = d.length := by omega
      rw [List.drop_length]
      exact ⟨he g s hI, hI⟩
    | succ m ih =>
      intro k g s hk hg hI
      obtain ⟨g, rfl⟩ : ∃ g', g = g' + 1 := ⟨g - 1, by omega⟩
      have hkl : k < d.length := by omega
      have hx := List.getElem?_eq_getElem hkl
      obtain ⟨h1, h2⟩ := h g k _ s hx hI
      rw [h1, List.drop_eq_getElem_cons hkl, List.foldl_cons]
      exact ih (k + 1) g _ (by omega) (by omega) h2
  intro g s hg hI
  have := key d.length 0 g s (by omega) hg hI
  simpa using this
end
section
open Go.RowKit Go.Maps
set_option linter.unusedVariables false
set_option linter.unusedSimpArgs false
set_option linter.unusedSectionVars false
/-- A map as data: how often it was written, and what it holds. -/
structure MapM (κ β : Type) where
  n : Nat
  get : κ → Option β
section
variable {κ β : Type}
def MapM.empty : MapM κ β := ⟨0, fun _ => none⟩
def MapM.put [DecidableEq κ] (m : MapM κ β) (x : κ) (v : β) : MapM κ β := ⟨m.n + 1, fun y => if y = x then some v else m.get y⟩
def MapM.look (m : MapM κ β) (x : κ) (z : β) : β := (m.get x).getD z
def rdVal (v : Value) : Option (DataW Value × List MemPlace) := some (.held v, [])
/-- A map type: its keys, its elements' zero value. -/
structure MapT (P : Program) (t k : TypeId) (key : κ → Value) (lit : κ → Lit) (good : κ → Prop) (z : Value) : Prop where
  keyed : Keyed P k
  ty : ∃ e, P.underlying t = some (.map k e) ∧ ∀ w, (zeroValue e).run P w = .ok z w
  of : ∀ x, good x → keyOf P k (key x) = some (lit x)
  inj : ∀ x y, lit x = lit y → x = y
def OwM (P : Program) (k : TypeId) (lit : κ → Lit) (enc : β → Value) (w : World) (lo b : Nat) (m : MapM κ β) : Prop :=
  lo ≤ b ∧ ∃ D, w.ownsMap P k rdVal b m.n D ∧ ∀ x zd, D.atKey (lit x) zd = match m.get x with | some v => .held (enc v) | none => zd
variable {P : Program} {t k : TypeId} {key : κ → Value} {lit : κ → Lit} {good : κ → Prop} {z : Value} {enc : β → Value} {w w' : World} {lo b : Nat} {m : MapM κ β}
theorem OwM.lt (h : OwM P k lit enc w lo b m) : b < w.heap.size := by obtain ⟨_, D, h, _⟩ := h; exact h.lt
theorem OwM.keep (h : OwM P k lit enc w lo b m) (hb : w'.heap[b]? = w.heap[b]?) : OwM P k lit enc w' lo b m := by
  obtain ⟨h0, D, ⟨es, clock, h1, F, hs, hD⟩, h2⟩ := h
  exact ⟨h0, D, ⟨es, clock, hb.trans h1, F, hs, hD⟩, h2⟩
theorem OwM.below (h : OwM P k lit enc w lo b m) (hb : Below w.heap.size w w') : OwM P k lit enc w' lo b m := h.keep (hb.block b h.lt)
theorem OwM.only {bs : List Nat} (h : OwM P k lit enc w lo b m) (ho : Only bs w w') (hn : b ∉ bs) : OwM P k lit enc w' lo b m := h.keep (ho.block b hn)
theorem OwM.grown {row : Option Nat} (h : OwM P k lit enc w lo b m) (hg : w.grownBy w' row) (hn : row ≠ some b) : OwM P k lit enc w' lo b m := h.keep (hg.block b h.lt (fun e => hn e.symm))
theorem OwM.lower {lo' : Nat} (h : OwM P k lit enc w lo b m) (hl : lo' ≤ lo) : OwM P k lit enc w lo' b m := ⟨Nat.le_trans hl h.1, h.2⟩
theorem OwM.new : OwM P k lit enc (w.alloc (.map #[] 0)) w.heap.size w.heap.size (MapM.empty : MapM κ β) :=
  ⟨Nat.le_refl _, .map [], World.ownsMap_made w P k rdVal, fun x zd => rfl⟩
theorem OwM.look {zb : β} (h : OwM P k lit enc w lo b m) (T : MapT P t k key lit good (enc zb)) {x : κ} (hx : good x) : (Instr.lookup t (.map (some b)) (key x) false).run P w = .ok (enc (m.look x zb)) w := by
  obtain ⟨_, D, h1, h2⟩ := h
  obtain ⟨e, ht, hz⟩ := T.ty
  obtain ⟨v, ps, hr, hv⟩ := h1.lookup T.keyed ht (hz w) (zd := .held (enc zb)) (zp := []) rfl (T.of x hx)
  rw [hr]
  have h3 := h2 x (.held (enc zb))
  rw [h3] at hv
  unfold MapM.look
  cases hg : m.get x with
  | none => rw [hg] at hv; simp only [rdVal, Option.some.injEq, Prod.mk.injEq, DataW.held.injEq] at hv; rw [hv.1]; rfl
  | some u => rw [hg] at hv; simp only [rdVal, Option.some.injEq, Prod.mk.injEq, DataW.held.injEq] at hv; rw [hv.1]; rfl
theorem OwM.set [DecidableEq κ] {v : β} (h : OwM P k lit enc w lo b m) (T : MapT P t k key lit good z) {x : κ} (hx : good x) (hn : m.n ≤ 4294967296) :
    ∃ w', (Instr.mapUpdate t (.map (some b)) (key x) (enc v)).run P w = .ok () w' ∧ OwM P k lit enc w' lo b (m.put x v) ∧ Only [b] w w' := by
  obtain ⟨h0, D, h1, h2⟩ := h
  obtain ⟨e, ht, hz⟩ := T.ty
  obtain ⟨w', hr, h3, h4⟩ := h1.store T.keyed ht (by unfold maxLen; omega) (T.of x hx) (d := .held (enc v)) (ps := []) rfl
  refine ⟨w', hr, ⟨h0, _, h3, fun y zd => ?_⟩, ?_⟩
  · unfold MapM.put
    by_cases hy : y = x
    · subst hy
      simp only [if_true]
      exact atKey_put_same h1.isMap (T.keyed.key (T.of y hx)) _ _
    · simp only [if_neg hy]
      rw [atKey_put_other (fun e => hy (T.inj _ _ e))]
      exact h2 y zd
  · obtain ⟨es, clock, es', clock', hb, rfl⟩ := h4
    refine ⟨rfl, rfl, rfl, by simp [ChangeMaps.setBlock], fun j hj => ?_⟩
    exact ChangeMaps.heap_setBlock_other hb _ (by simpa using hj)
end
section
variable {κ β : Type} [DecidableEq κ] {P : Program} {t k : TypeId} {key : κ → Value} {lit : κ → Lit} {good : κ → Prop} {enc : β → Value} {w : World} {lo b : Nat} {m : MapM κ β}
variable {C : World → Prop} {f : Nat → Value} {d : Option Tmp} {ty : TypeId} {pos : String} {af : Array Edge} {g : Option (Nat × Bool)} {x y u : Operand} {ops : Array Oper} {rest : List Oper} {Q : (Nat → Value) → World → Prop}
theorem Y.look {a : κ} {zb : β} (T : MapT P t k key lit good (enc zb)) (hx : ev f x = .map (some b)) (hy : ev f y = key a) (ha : good a) (hC : ∀ w, C w → OwM P k lit enc w lo b m) : Y P C f ⟨d, .lookup t x y false, ty, pos, af, g⟩ (enc (m.look a zb)) := fun w hw => by
  simp [execOp, hx, hy, (hC w hw).look T ha]
theorem RL.mapSet {a : κ} {v : β} {z : Value} (T : MapT P t k key lit good z) (hg : wantF f ops ⟨d, .mapUpdate t x y u, ty, pos, af, g⟩ = true) (hx : ev f x = .map (some b)) (hy : ev f y = key a) (hu : ev f u = enc v) (ha : good a) (hm : OwM P k lit enc w lo b m) (hn : m.n ≤ 4294967296)
    (h : ∀ w1, OwM P k lit enc w1 lo b (m.put a v) → Only [b] w w1 → RL P ops Q rest (upo f d undef) w1) : RL P ops Q (⟨d, .mapUpdate t x y u, ty, pos, af, g⟩ :: rest) f w := by
  refine .inl ⟨hg, ?_⟩
  obtain ⟨w1, hr, h1, h2⟩ := hm.set (v := v) T ha hn
  have hr : (execOp (ev f) ⟨d, .mapUpdate t x y u, ty, pos, af, g⟩).run P w = .ok .skip w1 := by simp [execOp, hx, hy, hu, hr]
  rw [hr]
  exact h _ h1 h2
theorem RL.makeMap (k : TypeId) (lit : κ → Lit) (enc : β → Value) (hg : wantF f ops ⟨d, .makeMap t none, ty, pos, af, g⟩ = true)
    (h : ∀ w1, OwM P k lit enc w1 w.heap.size w.heap.size (MapM.empty : MapM κ β) → Below w.heap.size w w1 → w1.heap.size = w.heap.size + 1 → RL P ops Q rest (upo f d (.map (some w.heap.size))) w1) : RL P ops Q (⟨d, .makeMap t none, ty, pos, af, g⟩ :: rest) f w := by
  refine .inl ⟨hg, ?_⟩
  have hr : (execOp (ev f) ⟨d, .makeMap t none, ty, pos, af, g⟩).run P w = .ok (.value (.map (some w.heap.size))) (w.alloc (.map #[] 0)) := by
    simp [execOp, run_makeMap]
  rw [hr]
  exact h _ OwM.new (below_alloc _ _) (World.size_alloc _ _)
end
/-- Keys that are numbers. -/
def keyI (x : Int) : Value := .int .i64 x
def litI (x : Int) : Lit := .int .i64 x
def goodI (x : Int) : Prop := -9223372036854775808 ≤ x ∧ x ≤ 9223372036854775807
theorem goodI_wf {x : Int} (h : goodI x) : (Lit.int .i64 x).wf = true := by
  unfold goodI at h
  have h1 : IntKind.min .i64 = -9223372036854775808 := by decide
  have h2 : IntKind.max .i64 = 9223372036854775807 := by decide
  simp only [Lit.wf, h1, h2, Bool.and_eq_true, decide_eq_true_eq]
  exact h
theorem mapTI {P : Program} {t k e : TypeId} {z : Value} (hk : P.underlying k = some (.int .i64)) (ht : P.underlying t = some (.map k e)) (hz : (P.info? e).bind (·.zero) = some z) : MapT P t k keyI litI goodI z :=
  ⟨int_keyed hk, ⟨e, ht, fun w => by
    cases hi : P.info? e with
    | none => rw [hi] at hz; cases hz
    | some inf =>
      rw [hi] at hz
      simp only [Option.bind_some] at hz
      simp [zeroValue, typeInfo, hi, hz]⟩, fun x hx => keyOf_int_mk hk (goodI_wf hx), fun x y h => by unfold litI at h; injection h⟩
end
section
open Go.RowKit
set_option maxRecDepth 100000
def encVI (x : Int) : Value := .int .i64 x
theorem mt_int64_int64 : MapT Try.prog 168 2 keyI litI goodI (.int .i64 0) := mapTI (e := 2) Try.underlying2 Try.underlying168 (by kernel_rfl)
end
section
open Go.RowKit
set_option linter.unusedVariables false
set_option linter.unusedSimpArgs false
theorem php : ∀ (n : Nat) (l : List Nat), l.Nodup → (∀ x ∈ l, x < n) → l.length ≤ n
  | 0, l, _, h => by
    cases l with
    | nil => simp
    | cons x l => have := h x (by simp); omega
  | n + 1, l, hn, h => by
    by_cases hm : n ∈ l
    · have h1 := php n (l.erase n) (hn.erase n) (fun x hx => by
        have h2 := (hn.mem_erase_iff).1 hx
        have := h x h2.2
        have := h2.1
        omega)
      have := List.length_erase_of_mem hm
      omega
    · have := php n l hn (fun x hx => by
        have h1 := h x hx
        have : x ≠ n := fun e => hm (by rw [← e]; exact hx)
        omega)
      omega
theorem Good.peer {xs : List DAgent} (G : Good xs) {p : DPort} (h : hasPort xs p = true) : hasPort xs (peer xs p) = true ∧ Go.Proofs.Ytampijkiidjcmaa.peer xs (Go.Proofs.Ytampijkiidjcmaa.peer xs p) = p ∧ Go.Proofs.Ytampijkiidjcmaa.peer xs p ≠ p := by
  obtain ⟨i, k, x, rfl, hx, hk, _⟩ := hasPort_at h
  have hb := G.ports i x hx k hk
  unfold badPort at hb
  simp only [Bool.or_eq_false_iff, Bool.not_eq_false', decide_eq_false_iff_not, decide_eq_true_eq] at hb
  exact ⟨hb.1.2, hb.2, hb.1.1⟩
theorem Good.zero {xs : List DAgent} (G : Good xs) {p : DPort} (h : hasPort xs p = true) : hasPort xs ⟨p.agent, 0⟩ = true := by
  obtain ⟨i, k, x, rfl, hx, hk, _⟩ := hasPort_at h
  exact hasPort_of (k := 0) hx (G.pos hx)
end
section
open Go.RowKit
set_option linter.unusedVariables false
set_option linter.unusedSimpArgs false
def posOf (l : List Int) (a : Int) : Int := if a ∈ l then (l.idxOf a : Int) else -1
structure GL (n : Nat) (l : List Int) : Prop where
  nd : l.Nodup
  inr : ∀ a ∈ l, 0 ≤ a ∧ a < n
theorem GL.len {n : Nat} {l : List Int} (h : GL n l) : l.length ≤ n := by
  have := php n (l.map Int.toNat) (by
    rw [List.nodup_iff_pairwise_ne, List.pairwise_map]
    refine (List.nodup_iff_pairwise_ne.1 h.nd).imp_of_mem ?_
    intro a b ha hb hab e
    have := h.inr a ha; have := h.inr b hb
    exact hab (by omega)) (fun x hx => by
    obtain ⟨a, ha, rfl⟩ := List.mem_map.1 hx
    have := h.inr a ha
    omega)
  simpa using this
theorem GL.add {n : Nat} {l : List Int} (h : GL n l) {a : Int} (h0 : 0 ≤ a) (h1 : a < n) (hn : a ∉ l) : GL n (l ++ [a]) :=
  ⟨List.nodup_append.2 ⟨h.nd, by simp, fun x hx y hy e => by simp at hy; subst hy; subst e; exact hn hx⟩, fun x hx => by
    rcases List.mem_append.1 hx with h2 | h2
    · exact h.inr x h2
    · simp at h2; subst h2; exact ⟨h0, h1⟩⟩
/-- The ports of a valid net lead to agents. -/
theorem Good.to {xs : List DAgent} (G : Good xs) {i : Nat} {x : DAgent} (hx : xs[i]? = some x) {k : Nat} {p : DPort} (hp : x.ports[k]? = some p) : 0 ≤ p.agent ∧ p.agent < xs.length := by
  have h := (G.peer (hasPort_of hx (lt_of_some hp))).1
  rw [peer_of hx hp] at h
  obtain ⟨j, s, y, rfl, hy, _⟩ := hasPort_at h
  have := lt_of_some hy
  simp only
  omega
end
section
open Go.RowKit
set_option linter.unusedVariables false
set_option linter.unusedSimpArgs false
/-- A loop that appends f of each element. -/
theorem appL {α β ρ : Type} {L : Nat → List β → Int → Option ρ} {d : List α} {f : α → List β} {B M : Nat} {K : List β → Option ρ} (hB : ∀ x ∈ d, (f x).length ≤ B) (h : ∀ g (k : Nat) x acc, d[k]? = some x → acc.length + (f x).length ≤ M → L (g + 1) acc (k : Int) = L g (acc ++ f x) ((k : Int) + 1)) (he : ∀ g acc, L (g + 1) acc (d.length : Int) = K acc)
    (acc : List β) (g : Nat) (hg : d.length < g) (hM : acc.length + d.length * B ≤ M) : L g acc 0 = K (acc ++ d.flatMap f) ∧ (acc ++ d.flatMap f).length ≤ acc.length + d.length * B := by
  have key := foldL (L := L) (d := d) (f := fun s x => s ++ f x) (I := fun k s => k ≤ d.length ∧ s.length ≤ acc.length + k * B) (K := K)
    (fun g k x s hx ⟨hk, hs⟩ => by
      have hkl := lt_of_some hx
      have hb := hB x (List.mem_of_getElem? hx)
      have h1 : k * B + B ≤ d.length * B := by rw [← Nat.succ_mul]; exact Nat.mul_le_mul_right _ hkl
      refine ⟨h g k x s hx (by omega), hkl, ?_⟩
      rw [List.length_append, Nat.succ_mul]; omega)
    (fun g s _ => he g s) g acc hg ⟨Nat.zero_le _, by omega⟩
  have e : ∀ (d : List α) (acc : List β), d.foldl (fun s x => s ++ f x) acc = acc ++ d.flatMap f := by
    intro d
    induction d with
    | nil => intro acc; simp
    | cons x d ih => intro acc; rw [List.foldl_cons, ih, List.flatMap_cons, List.append_assoc]
  rw [e] at key
  exact ⟨key.1, key.2.2⟩
def placeOf (l : List Int) : Nat → MapM Int Int
  | 0 => MapM.empty
  | k + 1 => (placeOf l k).put (l[k]?.getD 0) (k : Int)
theorem placeOf_n (l : List Int) : ∀ k, (placeOf l k).n = k
  | 0 => rfl
  | k + 1 => by show (placeOf l k).n + 1 = k + 1; rw [placeOf_n l k]
theorem placeOf_look {l : List Int} (hn : l.Nodup) : ∀ k, k ≤ l.length → ∀ i (hi : i < k) (hl : i < l.length), (placeOf l k).look l[i] 0 = (i : Int)
  | 0, _, i, hi, _ => by omega
  | k + 1, hk, i, hi, hl => by
    have hkl : k < l.length := hk
    have e : l[k]?.getD 0 = l[k] := by rw [List.getElem?_eq_getElem hkl]; rfl
    by_cases hik : i = k
    · subst hik
      simp [placeOf, MapM.look, MapM.put, e]
    · have hne : l[i] ≠ l[k] := List.pairwise_iff_getElem.1 (List.nodup_iff_pairwise_ne.1 hn) i k hl hkl (by omega)
      have ih := placeOf_look hn k (by omega) i (by omega) hl
      simp only [placeOf, MapM.look, MapM.put, e, if_neg hne] at ih ⊢
      exact ih
theorem placeOf_pos {l : List Int} (hn : l.Nodup) {a : Int} (ha : a ∈ l) : (placeOf l l.length).look a 0 = posOf l a := by
  have hi := List.idxOf_lt_length_of_mem ha
  have := placeOf_look hn l.length (Nat.le_refl _) (l.idxOf a) hi hi
  rw [List.getElem_idxOf] at this
  rw [this]
  unfold posOf
  rw [if_pos ha]
end
section
open Go.RowKit
set_option linter.unusedVariables false
set_option linter.unusedSimpArgs false
/-- The block of a slice's row. -/
def fb (v : Value) : List Nat := v.ownBlock.toList
/-- Two lists of blocks lie apart. -/
def Ap (l m : List Nat) : Prop := ∀ b ∈ l, b ∉ m
section
variable {l m x l' l2 : List Nat} {k g : Nat} {v u v' : Value}
theorem mem_fb {b : Nat} : b ∈ fb v ↔ v.ownBlock = some b := by simp [fb]
theorem Ap.symm (h : Ap l m) : Ap m l := fun b h1 h2 => h b h2 h1
theorem Ap.nil : Ap [] m := fun b h => by simp at h
theorem Ap.new (h1 : ∀ b ∈ l, k ≤ b) (h2 : ∀ b ∈ x, b < k) : Ap l x := fun b h h' => by have := h1 b h; have := h2 b h'; omega
theorem Ap.one (h : Ap l [g]) : g ∉ l := fun hg => h g hg (by simp)
theorem Ap.far (h : ∀ b ∈ l, b < g) : Ap l [g] := fun b hb h' => by simp at h'; subst h'; exact absurd (h b hb) (Nat.lt_irrefl _)
theorem Ap.farL (h : ∀ b ∈ l, b < g) : Ap [g] l := (Ap.far h).symm
theorem Ap.app (hn : ∀ b ∈ l', b ∈ l ∨ b ∈ l2 ∨ k ≤ b) (h1 : Ap l x) (h2 : Ap l2 x) (hi : ∀ b ∈ x, b < k) : Ap l' x := fun b hb h' => by
  rcases hn b hb with h3 | h3 | h3
  · exact h1 b h3 h'
  · exact h2 b h3 h'
  · have := hi b h'; omega
theorem Ap.cons (h1 : Ap [g] x) (h2 : Ap l x) : Ap (g :: l) x := fun b hb h' => by
  rcases List.mem_cons.1 hb with rfl | hb
  · exact h1 b (by simp) h'
  · exact h2 b hb h'
theorem Ap.append (h1 : Ap l x) (h2 : Ap m x) : Ap (l ++ m) x := fun b hb h' => by
  rcases List.mem_append.1 hb with hb | hb
  · exact h1 b hb h'
  · exact h2 b hb h'
theorem Dj.ap (h : Dj v u) : Ap (fb v) (fb u) := fun b h1 h2 => h b (mem_fb.1 h1) (mem_fb.1 h2)
theorem Ap.dj (h : Ap (fb v) (fb u)) : Dj v u := fun b h1 h2 => h b (mem_fb.2 h1) (mem_fb.2 h2)
theorem ne_ap (h : v.ownBlock ≠ some g) : Ap (fb v) [g] := fun b h1 h2 => by simp at h2; subst h2; exact h (mem_fb.1 h1)
theorem ap_ne (h : Ap (fb v) [g]) : v.ownBlock ≠ some g := fun h1 => h g (mem_fb.2 h1) (by simp)
end
/-- Elements one behind the other, with what they own. -/
def Parts {α : Type} (O : Ow α) (w : World) : List Value → List α → List Nat → Prop
  | cells, [], ib => cells = [] ∧ ib = []
  | cells, x :: xs, ib => ∃ cs rest b1 b2, cells = cs ++ rest ∧ O w cs x b1 ∧ ib = b1 ++ b2 ∧ Parts O w rest xs b2
/-- A slice of the call's own: its row from block lo on, its elements' blocks (no two alike, none the row's), all among bs. -/
def OwN {α : Type} (e : TypeId) (O : Ow α) (sz : Nat) (w : World) (lo : Nat) (v : Value) (xs : List α) (bs : List Nat) : Prop :=
  ∃ cells ib, w.ownsRow lo e sz v xs.length cells ∧ Parts O w cells xs ib ∧ ib.Nodup ∧ (∀ b ∈ ib, b ∈ bs) ∧ (∀ b, v.ownBlock = some b → b ∈ bs ∧ b ∉ ib) ∧ (∀ b ∈ bs, lo ≤ b ∧ b < w.heap.size)
/-- What an element's cells are: one value each. -/
def OneC {α : Type} (O : Ow α) : Prop := ∀ {w cs x bs}, O w cs x bs → ∀ u ∈ cs, u.oneCell' = true
theorem agentOw_one : OneC agentOw := fun ⟨A1, n1, c1, A2, n2, c2, b1, b2, e, _⟩ u hu => by rw [e] at hu; simp at hu; rcases hu with rfl | rfl | rfl | rfl | rfl <;> rfl
section
variable {α : Type} {O : Ow α} {R : Rd α} {sz : Nat} {w w' : World} {lo lo' : Nat} {v : Value} {xs ys : List α} {x : α} {bs : List Nat} {e : TypeId}
theorem Parts.keep (ok : OwOk O sz) : ∀ {xs : List α} {cells : List Value} {ib : List Nat}, (∀ b ∈ ib, w'.heap[b]? = w.heap[b]?) → Parts O w cells xs ib → Parts O w' cells xs ib
  | [], _, _, _, h => h
  | x :: xs, _, _, hb, ⟨cs, rest, b1, b2, e1, hO, e2, hr⟩ => by
    subst e1 e2
    exact ⟨cs, rest, b1, b2, rfl, ok.keep (fun b h => hb b (by simp [h])) hO, rfl, Parts.keep ok (fun b h => hb b (by simp [h])) hr⟩
theorem Parts.append : ∀ {xs ys : List α} {c1 c2 : List Value} {i1 i2 : List Nat}, Parts O w c1 xs i1 → Parts O w c2 ys i2 → Parts O w (c1 ++ c2) (xs ++ ys) (i1 ++ i2)
  | [], _, _, _, _, _, ⟨e1, e2⟩, h2 => by subst e1 e2; exact h2
  | x :: xs, _, _, _, _, _, ⟨cs, rest, b1, b2, e1, hO, e2, hr⟩, h2 => by
    subst e1 e2
    exact ⟨cs, _, b1, _, by rw [List.append_assoc], hO, by rw [List.append_assoc], Parts.append hr h2⟩
theorem Parts.one {cs : List Value} {b : List Nat} (h : O w cs x b) : Parts O w cs [x] b := ⟨cs, [], b, [], by simp, h, by simp, rfl, rfl⟩
theorem Parts.one_ (one : OneC O) : ∀ {xs : List α} {cells : List Value} {ib : List Nat}, Parts O w cells xs ib → ∀ u ∈ cells, u.oneCell' = true
  | [], _, _, ⟨e, _⟩, u, hu => by rw [e] at hu; simp at hu
  | x :: xs, _, _, ⟨cs, rest, b1, b2, e1, hO, e2, hr⟩, u, hu => by
    subst e1
    rcases List.mem_append.1 hu with h | h
    · exact one hO u h
    · exact Parts.one_ one hr u h
theorem Parts.len (ok : OwOk O sz) : ∀ {xs : List α} {cells : List Value} {ib : List Nat}, Parts O w cells xs ib → cells.length = xs.length * sz
  | [], _, _, ⟨e, _⟩ => by rw [e]; simp
  | x :: xs, _, _, ⟨cs, rest, b1, b2, e1, hO, e2, hr⟩ => by
    subst e1
    rw [List.length_append, ok.len hO, Parts.len ok hr, List.length_cons, Nat.add_mul]; omega
theorem Parts.elAt (ok : OwOk O sz) {g : Nat} {cur : Array Value} (hb : Blk w g e cur) : ∀ {xs : List α} {cells : List Value} {ib : List Nat} (o : Nat), (∀ (j : Nat) (u : Value), cells[j]? = some u → cur[o + j]? = some u) → Parts O w cells xs ib → ElAt O sz w g o xs ib
  | [], _, _, o, _, ⟨_, e⟩ => e
  | x :: xs, _, _, o, hc, ⟨cs, rest, b1, b2, e1, hO, e2, hr⟩ => by
    subst e1 e2
    have hl := ok.len hO
    refine ⟨cs, b1, b2, hO, hb.csAt (fun j u hj => hc j u ?_), rfl, Parts.elAt ok hb (o + sz) (fun j u hj => ?_) hr⟩
    · rw [List.getElem?_append_left (lt_of_some hj)]; exact hj
    · have := hc (sz + j) u (by rw [List.getElem?_append_right (by omega), hl, show sz + j - sz = j by omega]; exact hj)
      rwa [show o + (sz + j) = o + sz + j by omega] at this
/-- One element of many. -/
theorem Parts.split (ok : OwOk O sz) : ∀ {xs : List α} {cells : List Value} {ib : List Nat} {k : Nat} {x : α}, Parts O w cells xs ib → xs[k]? = some x →
    ∃ c1 cs c2 i1 b1 i2, cells = c1 ++ cs ++ c2 ∧ c1.length = k * sz ∧ O w cs x b1 ∧ ib = i1 ++ (b1 ++ i2) ∧ ∀ w' cs' x' b1', (∀ b ∈ i1 ++ i2, w'.heap[b]? = w.heap[b]?) → O w' cs' x' b1' → Parts O w' (c1 ++ cs' ++ c2) (xs.set k x') (i1 ++ (b1' ++ i2))
  | [], _, _, _, _, _, h => by simp at h
  | y :: ys, _, _, 0, x, ⟨cs, rest, b1, b2, e1, hO, e2, hr⟩, h => by
    have : y = x := by simpa using h
    subst this
    subst e1 e2
    exact ⟨[], cs, rest, [], b1, b2, by simp, by simp, hO, by simp, fun w' cs' x' b1' hb hO' => ⟨cs', rest, b1', b2, by simp, hO', by simp, Parts.keep ok (fun b h => hb b (by simp [h])) hr⟩⟩
  | y :: ys, _, _, k + 1, x, ⟨cs, rest, b1, b2, e1, hO, e2, hr⟩, h => by
    subst e1 e2
    obtain ⟨c1, cs2, c2, i1, b3, i2, f1, f2, f3, f4, f5⟩ := Parts.split ok hr (by simpa using h)
    subst f1 f4
    refine ⟨cs ++ c1, cs2, c2, b1 ++ i1, b3, i2, by simp, by rw [List.length_append, ok.len hO, f2, Nat.add_mul]; omega, f3, by simp, fun w' cs' x' b1' hb hO' => ?_⟩
    refine ⟨cs, _, b1, _, by simp [List.append_assoc], ok.keep (fun b h => hb b (by simp [h])) hO, by simp [List.append_assoc], f5 w' cs' x' b1' (fun b h => hb b (by simp at h ⊢; rcases h with h | h <;> simp [h])) hO'⟩
theorem OwN.keep (ok : OwOk O sz) (h : OwN e O sz w lo v xs bs) (hk : ∀ b ∈ bs, w'.heap[b]? = w.heap[b]?) (hs : w.heap.size ≤ w'.heap.size) : OwN e O sz w' lo v xs bs := by
  obtain ⟨cells, ib, h1, h2, h3, h4, h5, h6⟩ := h
  refine ⟨cells, ib, ?_, h2.keep ok (fun b hb => hk b (h4 b hb)), h3, h4, h5, fun b hb => by have := h6 b hb; omega⟩
  refine ⟨h1.1, ?_⟩
  rcases h1.2 with h | ⟨g, cap, cur, hv, hg, hh, r⟩
  · exact .inl h
  · exact .inr ⟨g, cap, cur, hv, hg, (hk g (h5 g (by rw [hv]; rfl)).1).trans hh, r⟩
theorem OwN.hi (h : OwN e O sz w lo v xs bs) : ∀ b ∈ bs, b < w.heap.size := by obtain ⟨cells, ib, h1, h2, h3, h4, h5, h6⟩ := h; exact fun b hb => (h6 b hb).2
theorem OwN.lo_ (h : OwN e O sz w lo v xs bs) : ∀ b ∈ bs, lo ≤ b := by obtain ⟨cells, ib, h1, h2, h3, h4, h5, h6⟩ := h; exact fun b hb => (h6 b hb).1
theorem OwN.row (h : OwN e O sz w lo v xs bs) {b : Nat} (hb : v.ownBlock = some b) : b ∈ bs := by obtain ⟨cells, ib, h1, h2, h3, h4, h5, h6⟩ := h; exact (h5 b hb).1
theorem OwN.below (ok : OwOk O sz) (h : OwN e O sz w lo v xs bs) (hb : Below w.heap.size w w') : OwN e O sz w' lo v xs bs := h.keep ok (fun b hin => hb.block b (h.hi b hin)) hb.size
theorem OwN.only {b : Nat} (ok : OwOk O sz) (h : OwN e O sz w lo v xs bs) (ho : Only [b] w w') (hn : b ∉ bs) : OwN e O sz w' lo v xs bs := h.keep ok (fun k hk => ho.block k (by intro hin; simp at hin; subst hin; exact hn hk)) (Nat.le_of_eq ho.size.symm)
theorem OwN.grown {row : Option Nat} (ok : OwOk O sz) (h : OwN e O sz w lo v xs bs) (hg : w.grownBy w' row) (hn : Ap bs row.toList) : OwN e O sz w' lo v xs bs := h.keep ok (fun k hk => hg.block k (h.hi k hk) (fun e => hn k hk (by simp [← e]))) hg.size
theorem OwN.mono (h : OwN e O sz w lo v xs bs) (hl : lo' ≤ lo) : OwN e O sz w lo' v xs bs := by
  obtain ⟨cells, ib, h1, h2, h3, h4, h5, h6⟩ := h
  refine ⟨cells, ib, ?_, h2, h3, h4, h5, fun b hb => by have := h6 b hb; omega⟩
  refine ⟨h1.1, ?_⟩
  rcases h1.2 with h | ⟨g, cap, cur, hv, hg, r⟩
  · exact .inl h
  · exact .inr ⟨g, cap, cur, hv, by omega, r⟩
theorem OwN.nil : OwN e O sz w lo (.slice none 0 0) ([] : List α) [] := ⟨[], [], ⟨by simp, .inl ⟨rfl, rfl⟩⟩, ⟨rfl, rfl⟩, List.nodup_nil, fun b hb => by simp at hb, fun b hb => by simp [Value.ownBlock] at hb, fun b hb => by simp at hb⟩
theorem OwN.form (h : OwN e O sz w lo v xs bs) : ∃ A c, v = .slice A xs.length c := by
  obtain ⟨cells, ib, h1, _⟩ := h
  rcases h1.2 with ⟨rfl, h0⟩ | ⟨g, cap, cur, hv, _⟩
  · exact ⟨none, 0, by rw [h0]⟩
  · exact ⟨_, _, hv⟩
theorem OwN.bound (h : OwN e O sz w lo v xs bs) : xs.length ≤ 9223372036854775807 := by
  obtain ⟨cells, ib, h1, _⟩ := h
  rcases h1.2 with ⟨_, h0⟩ | ⟨g, cap, cur, hv, hg, hh, h1, h2, _⟩
  · omega
  · unfold maxLen at h2; omega
theorem OwN.addr0 {A : Option Addr} {n c : Nat} (h : OwN e O sz w lo (.slice A n c) xs bs) (hn : 0 < n) : ∃ b, A = some ⟨b, 0, none⟩ := by
  obtain ⟨cells, ib, h1, _⟩ := h
  rcases h1.2 with ⟨h0, _⟩ | ⟨g, cap, cur, hv, _⟩
  · injection h0 with h1 h2; omega
  · injection hv with h1; exact ⟨g, h1⟩
theorem OwN.own1 (ok : OwOk O sz) (h : OwN e O sz w lo v xs bs) : ∃ A n c l, v = .slice A n c ∧ OwAt O sz w A n xs l ∧ l.Nodup ∧ (∀ b ∈ l, b ∈ bs) ∧ n ≤ c ∧ c ≤ maxLen := by
  obtain ⟨cells, ib, h1, h2, h3, h4, h5, h6⟩ := h
  rcases h1.2 with ⟨rfl, h0⟩ | ⟨g, cap, cur, rfl, hg, hh, k1, k2, k3, k4⟩
  · have : xs = [] := List.eq_nil_of_length_eq_zero h0
    subst this
    exact ⟨none, 0, 0, [], rfl, ⟨rfl, .inl ⟨rfl, rfl⟩⟩, List.nodup_nil, fun b hb => by simp at hb, Nat.le_refl _, Nat.zero_le _⟩
  · obtain ⟨hg1, hg2⟩ := h5 g rfl
    refine ⟨some ⟨g, 0, none⟩, _, cap, g :: ib, rfl, ⟨rfl, .inr ⟨g, 0, ib, rfl, rfl, ?_⟩⟩, List.nodup_cons.2 ⟨hg2, h3⟩, fun b hb => by
      rcases List.mem_cons.1 hb with rfl | hb
      · exact hg1
      · exact h4 b hb, k1, k2⟩
    refine h2.elAt (e := e) ok (cur := cur) hh 0 (fun j u hj => ?_)
    rw [← k4, List.getElem?_take] at hj
    split at hj
    · simpa using hj
    · cases hj
theorem OwN.own (ok : OwOk O sz) (h : OwN e O sz w lo v xs bs) : OwS O sz w v xs lo w.heap.size := by
  obtain ⟨A, n, c, l, e1, h1, h2, h3, r⟩ := h.own1 ok
  exact ⟨A, n, c, l, e1, h1, h2, fun b hb => ⟨h.lo_ b (h3 b hb), h.hi b (h3 b hb)⟩, r⟩
theorem OwN.rdS (ok : OwOk O sz) (hR : Gives O R w.heap.size) (h : OwN e O sz w lo v xs bs) : RdS R sz w w.heap.size v xs := (h.own ok).reads hR (Nat.le_refl _)
theorem OwN.arg (ok : OwOk O sz) (hR : Gives O R w.heap.size) (h : OwN e O sz w lo v xs bs) : Sl R sz w v xs := h.rdS ok hR
theorem OwN.sl {A : Option Addr} {n c : Nat} (ok : OwOk O sz) (hR : Gives O R w.heap.size) (h : OwN e O sz w lo (.slice A n c) xs bs) : SlAt R sz w w.heap.size A n xs ∧ n ≤ c ∧ c ≤ maxLen := by
  obtain ⟨A', n', c', he, h1, h2⟩ := h.rdS ok hR
  injection he with e1 e2 e3
  subst e1 e2 e3
  exact ⟨h1, h2⟩
/-- An element's cells. -/
theorem OwN.rd {b n c k : Nat} (ok : OwOk O sz) (hR : Gives O R w.heap.size) (h : OwN e O sz w lo (.slice (some ⟨b, 0, none⟩) n c) xs bs) (hx : xs[k]? = some x) : ∃ cs, R w w.heap.size cs x ∧ ∀ j v, cs[j]? = some v → w.cell? ⟨b, 0 + k * sz + j, none⟩ = some v := (h.sl ok hR).1.el hx
theorem OwN.lit1 {g : Nat} {cells : Array Value} {b1 l : List Nat} (B : Blk w g e cells) (hg : lo ≤ g) (hO : O w cells.toList x b1) (ok : OwOk O sz) (nd : b1.Nodup) (hs : ∀ b ∈ b1, b ∈ l) (hl : ∀ b ∈ l, lo ≤ b ∧ b < g) : OwN e O sz w lo (.slice (some ⟨g, 0, none⟩) 1 1) [x] (g :: l) := by
  have hc : cells.size = 1 * sz := by rw [← Array.length_toList, ok.len hO]; omega
  have hgl := B.lt
  refine ⟨cells.toList, b1, ⟨by simpa using hc, .inr ⟨g, 1, cells, rfl, hg, B, Nat.le_refl _, by unfold maxLen; omega, hc, ?_⟩⟩, Parts.one hO, nd, fun b hb => by simp [hs b hb], fun b hb => ?_, fun b hb => ?_⟩
  · rw [List.take_of_length_le]; simp [hc]
  · simp [Value.ownBlock] at hb; subst hb
    exact ⟨by simp, fun h => by have := hl _ (hs _ h); omega⟩
  · rcases List.mem_cons.1 hb with rfl | hb
    · exact ⟨hg, hgl⟩
    · have := hl b hb; omega
theorem nodup2 {l1 l2 m1 m2 : List Nat} (h1 : l1.Nodup) (h2 : l2.Nodup) (s1 : ∀ b ∈ l1, b ∈ m1) (s2 : ∀ b ∈ l2, b ∈ m2) (D : Ap m1 m2) : (l1 ++ l2).Nodup := List.nodup_append.2 ⟨h1, h2, fun a ha b hb e => by subst e; exact D a (s1 a ha) (s2 a hb)⟩
theorem sub2 {l1 l2 m1 m2 : List Nat} (s1 : ∀ b ∈ l1, b ∈ m1) (s2 : ∀ b ∈ l2, b ∈ m2) : ∀ b ∈ l1 ++ l2, b ∈ m1 ++ m2 := fun b hb => by
  rcases List.mem_append.1 hb with h | h
  · simp [s1 b h]
  · simp [s2 b h]
theorem all2 {p : Nat → Prop} {l1 l2 : List Nat} (s1 : ∀ b ∈ l1, p b) (s2 : ∀ b ∈ l2, p b) : ∀ b ∈ l1 ++ l2, p b := fun b hb => by
  rcases List.mem_append.1 hb with h | h
  · exact s1 b h
  · exact s2 b h
end
theorem toN {t : Int} {v : Value} (h : 0 ≤ t) (e : v = .int .i64 t) : v = .int .i64 (t.toNat : Int) := by rw [e, Int.toNat_of_nonneg h]
theorem setI_at {α : Type} {xs : List α} {i : Int} {k : Nat} {x : α} (hi : i = (k : Int)) (hk : k < xs.length) : (setI xs i x)[k]? = some x := by
  subst hi
  rw [setI_nat, List.getElem?_set_self hk]
theorem SlAt.nilOf {α : Type} {R : Rd α} {sz B n : Nat} {w : World} {A : Option Addr} {xs : List α} (h : SlAt R sz w B A n xs) (c : A.isNone = true) : xs = [] := by
  cases A with
  | some a => cases c
  | none =>
    rcases Nat.eq_zero_or_pos n with h0 | h0
    · exact List.eq_nil_of_length_eq_zero (by rw [← h.len]; exact h0)
    · obtain ⟨b, o, e, _⟩ := h.2 h0
      cases e
section
variable {P : Program} {C : World → Prop} {f : Nat → Value} {d : Option Tmp} {ty : TypeId} {pos : String} {af : Array Edge} {g : Option (Nat × Bool)} {x y : Operand} {t t' : TypeId} {A : Option Addr} {n c : Nat}
theorem Y.eqNil {e : TypeId} (hx : ev f x = .slice A n c) (hy : ev f y = .slice none 0 0) (ht : P.underlying t = some (.slice e)) : Y P C f ⟨d, .binOp .eql t x y t', ty, pos, af, g⟩ (.bool A.isNone) := fun w _ => by
  simp only [execOp, hx, hy, Sem.run_bind, eqGuard, Result.andThen_ok]
  simp [binOp, run_equal_slice_nil w t e A n c ht]
end
section
variable {α : Type} {R : Rd α} {O : Ow α} {enc : α → List Value} {sz : Nat} {w w' : World} {lo lo' : Nat} {v : Value} {xs ys : List α} {e : TypeId}
theorem OwF.own2 {A : Option Addr} {n c : Nat} (F : FlatT R O enc sz) (h : OwF e enc sz w lo (.slice A n c) xs) : ∃ l, OwAt O sz w A n xs l ∧ l.Nodup ∧ (∀ b ∈ l, b ∈ fb (.slice A n c)) ∧ n ≤ c ∧ c ≤ maxLen := by
  rcases h.2 with ⟨hv, h0⟩ | ⟨g, cap, cur, hv, hg, hh, h1, h2, h3, h4⟩
  · injection hv with e1 e2 e3
    subst e1 e2 e3
    have : xs = [] := List.eq_nil_of_length_eq_zero h0
    subst this
    exact ⟨[], ⟨rfl, .inl ⟨rfl, rfl⟩⟩, List.nodup_nil, fun b hb => by simp at hb, Nat.le_refl _, Nat.zero_le _⟩
  · injection hv with e1 e2 e3
    subst e1 e2 e3
    obtain ⟨A', n', c', l, he, hA, hn, hl, hc1, hc2⟩ := h.own F
    injection he with e1 e2 e3
    subst e1 e2 e3
    by_cases hx : xs = []
    · subst hx; exact ⟨[], ⟨rfl, .inl ⟨rfl, rfl⟩⟩, List.nodup_nil, fun b hb => by simp at hb, hc1, hc2⟩
    · rcases hA.2 with ⟨h5, _⟩ | ⟨b, o, b2, h5, h6, h7⟩
      · exact absurd h5 hx
      · injection h5 with h5
        injection h5 with h5
        subst h5
        have hflat : ∀ (l : List α) (o : Nat) (k : List Nat), ElAt O sz w g o l k → k = [] → True := fun _ _ _ _ _ => trivial
        refine ⟨[g], ⟨hA.1, .inr ⟨g, 0, [], rfl, rfl, ?_⟩⟩, by simp, fun b hb => by simpa [fb, Value.ownBlock] using hb, hc1, hc2⟩
        have hblk : Blk w g e cur := hh
        have key : ∀ (l : List α) (o : Nat), (∀ j u, (l.flatMap enc)[j]? = some u → cur[o + j]? = some u) → ElAt O sz w g o l [] := by
          intro l
          induction l with
          | nil => intro o _; rfl
          | cons x l ih =>
            intro o hl
            refine ⟨enc x, [], [], F.ow, hblk.csAt (fun j u hj => hl j u ?_), rfl, ih (o + sz) (fun j u hj => ?_)⟩
            · simp only [List.flatMap_cons]
              rw [List.getElem?_append_left (lt_of_some hj)]; exact hj
            · have := hl (sz + j) u (by
                simp only [List.flatMap_cons]
                rw [List.getElem?_append_right (by rw [F.len]; omega), F.len, show sz + j - sz = j by omega]; exact hj)
              rwa [show o + (sz + j) = o + sz + j by omega] at this
        refine key xs 0 (fun j u hj => ?_)
        rw [← h4, List.getElem?_take] at hj
        split at hj
        · simpa using hj
        · cases hj
theorem OwF.fhi (h : OwF e enc sz w lo v xs) : ∀ b ∈ fb v, b < w.heap.size := fun b hb => h.hi b (mem_fb.1 hb)
theorem OwF.flo (h : OwF e enc sz w lo v xs) : ∀ b ∈ fb v, lo ≤ b := fun b hb => h.lo_ b (mem_fb.1 hb)
theorem OwF.fboth (h : OwF e enc sz w lo v xs) {g : Nat} (hg : w.heap.size ≤ g) : ∀ b ∈ fb v, lo ≤ b ∧ b < g := fun b hb => ⟨h.flo b hb, Nat.lt_of_lt_of_le (h.fhi b hb) hg⟩
theorem one_hi {g : Nat} (h : g < w.heap.size) : ∀ b ∈ [g], b < w.heap.size := fun b hb => by simp at hb; subst hb; exact h
variable {O' : Ow α} {bs : List Nat} {u : Value}
/-- Another slice of the call's own, while the row of v grows or is written. -/
theorem OwN.dj (h : OwN e O' sz w lo v xs bs) (A : Ap bs (fb u)) : Dj u v := fun b h1 h2 => A b (h.row h2) (mem_fb.2 h1)
theorem OwN.neB {g : Nat} (h : OwN e O' sz w lo v xs bs) (A : Ap bs [g]) : v.ownBlock ≠ some g := fun h1 => A g (h.row h1) (by simp)
theorem OwN.both (h : OwN e O' sz w lo v xs bs) {g : Nat} (hg : w.heap.size ≤ g) : ∀ b ∈ bs, lo ≤ b ∧ b < g := fun b hb => ⟨h.lo_ b hb, Nat.lt_of_lt_of_le (h.hi b hb) hg⟩
end
section
variable {P : Program} {ops : Array Oper} {f : Nat → Value} {rest : List Oper} {Q : (Nat → Value) → World → Prop} {w : World} {d : Option Tmp} {ty : TypeId} {pos : String} {af : Array Edge} {g : Option (Nat × Bool)} {x y : Operand} {t e : TypeId} {z : Value} {sz bb : Nat}
theorem RL.appendN {α : Type} {O : Ow α} {v vy : Value} {xs ys : List α} {lo : Nat} {bs bs2 : List Nat} (ok : OwOk O sz) (one : OneC O) (hp : 0 < sz) (A : AppT P t e z sz bb) (hg : wantF f ops ⟨d, .call ⟨.builtin .append, #[x, y], #[t, t]⟩, ty, pos, af, g⟩ = true)
    (hx : ev f x = v) (hy : ev f y = vy) (hv : OwN e O sz w lo v xs bs) (hr : OwN e O sz w lo vy ys bs2) (D : Ap bs bs2) (hlo : lo ≤ w.heap.size) (hk : xs.length + ys.length ≤ 4294967296)
    (h : ∀ v' w1 bs', OwN e O sz w1 lo v' (xs ++ ys) bs' → w.grownBy w1 v.ownBlock → Below lo w w1 → (∀ b ∈ bs', b ∈ bs ∨ b ∈ bs2 ∨ w.heap.size ≤ b) → RL P ops Q rest (upo f d v') w1) : RL P ops Q (⟨d, .call ⟨.builtin .append, #[x, y], #[t, t]⟩, ty, pos, af, g⟩ :: rest) f w := by
  have hrun : ∀ v' w1, (Builtin.append_ #[t, t] ty #[v, vy]).run P w = .ok v' w1 → (execOp (ev f) ⟨d, .call ⟨.builtin .append, #[x, y], #[t, t]⟩, ty, pos, af, g⟩).run P w = .ok (.value v') w1 := fun v' w1 h0 => by
    simp [execOp, resolve, invoke, builtin, hx, hy, h0]
  have hv0 := hv
  obtain ⟨cells, ib, h1, h2, h3, h4, h5, h6⟩ := hv
  obtain ⟨cells2, ib2, k1, k2, k3, k4, k5, k6⟩ := hr
  have hdis : (ib ++ ib2).Nodup := List.nodup_append.2 ⟨h3, k3, fun a ha b hb e => by subst e; exact D a (h4 a ha) (k4 a hb)⟩
  rcases k1.2 with ⟨rfl, h0⟩ | ⟨g2, cap2, cur2, rfl, hg2, hh2, m1, m2, m3, m4⟩
  · have : ys = [] := List.eq_nil_of_length_eq_zero h0
    subst this
    refine .inl ⟨hg, ?_⟩
    rw [hrun v w (append_none A h1 ty)]
    exact h v w bs (by simpa using hv0) ⟨rfl, rfl, rfl, Nat.le_refl _, fun _ _ _ => rfl⟩ (Below.refl _ _) (fun b hb => .inl hb)
  · have hblk : Blk w g2 e cur2 := hh2
    have hcells : ∀ j u, cells2[j]? = some u → w.cell? ((⟨g2, 0, none⟩ : Addr).add j) = some u := fun j u hj => by
      rw [Addr.add_eq, Nat.zero_add, hblk.cell]
      rw [← m4, List.getElem?_take] at hj
      split at hj
      · simpa using hj
      · cases hj
    obtain ⟨v', w1, r1, r2, r3, r4⟩ := append_own2 A hp h1 hlo ⟨g2, 0, none⟩ ys.length cap2 cells2 (k2.len ok) hcells (k2.one_ one) hk ty
    refine .inl ⟨hg, ?_⟩
    rw [hrun v' w1 r1]
    have hkeep : ∀ b ∈ ib ++ ib2, b < w.heap.size ∧ some b ≠ v.ownBlock := fun b hb => by
      rcases List.mem_append.1 hb with hb | hb
      · exact ⟨(h6 b (h4 b hb)).2, fun e => (h5 b e.symm).2 hb⟩
      · exact ⟨(k6 b (k4 b hb)).2, fun e => D b (h5 b e.symm).1 (k4 b hb)⟩
    refine h v' w1 (fb v' ++ (ib ++ ib2)) ⟨cells ++ cells2, ib ++ ib2, ?_, ?_, hdis, fun b hb => by simp at hb ⊢; exact .inr hb, fun b hb => ⟨by simp [mem_fb.2 hb], fun hin => ?_⟩, fun b hb => ?_⟩ r3 ?_ ?_
    · rw [List.length_append]; exact r2
    · exact (h2.keep ok (fun b hb => r3.block b (hkeep b (by simp [hb])).1 (hkeep b (by simp [hb])).2)).append (k2.keep ok (fun b hb => r3.block b (hkeep b (by simp [hb])).1 (hkeep b (by simp [hb])).2))
    · rcases r4 b hb with h7 | h7
      · exact (hkeep b hin).2 h7.symm
      · have := (hkeep b hin).1; omega
    · rcases List.mem_append.1 hb with h7 | h7
      · exact ⟨(r2.lt b (mem_fb.1 h7)).1, (r2.lt b (mem_fb.1 h7)).2⟩
      · have h8 := (hkeep b h7).1
        have := r3.size
        rcases List.mem_append.1 h7 with h7 | h7
        · exact ⟨(h6 b (h4 b h7)).1, by omega⟩
        · exact ⟨(k6 b (k4 b h7)).1, by omega⟩
    · exact (Below.refl lo w).grown r3 hlo (fun b hb => (h6 b (h5 b hb).1).1)
    · intro b hb
      rcases List.mem_append.1 hb with h7 | h7
      · rcases r4 b (mem_fb.1 h7) with h8 | h8
        · exact .inl (h5 b h8).1
        · exact .inr (.inr h8)
      · rcases List.mem_append.1 h7 with h7 | h7
        · exact .inl (h4 b h7)
        · exact .inr (.inl (k4 b h7))
/-- A store of one cell of an element of plain cells. -/
theorem RL.storeFj {α : Type} {R : Rd α} {O : Ow α} {enc : α → List Value} {v : Value} {xs : List α} {lo k n c b j : Nat} {a a' : α} (F : FlatT R O enc sz) (hg : wantF f ops ⟨d, .store t x y, ty, pos, af, g⟩ = true) (hx : ev f x = .pointer (some ⟨b, 0 + k * sz + j, none⟩)) (hy : ev f y = v)
    (hv : OwF e enc sz w lo (.slice (some ⟨b, 0, none⟩) n c) xs) (hk : xs[k]? = some a) (hj : j < sz) (he : (enc a).set j v = enc a') (h1 : v.oneCell' = true) (hc : v.cells = #[v]) (hs : (P.info? t).map (·.size) = some 1)
    (h : ∀ w1, OwF e enc sz w1 lo (.slice (some ⟨b, 0, none⟩) n c) (xs.set k a') → Only [b] w w1 → RL P ops Q rest (upo f d undef) w1) : RL P ops Q (⟨d, .store t x y, ty, pos, af, g⟩ :: rest) f w := by
  refine .inl ⟨hg, ?_⟩
  cases hi : P.info? t with
  | none => rw [hi] at hs; cases hs
  | some inf =>
    rw [hi] at hs
    simp only [Option.map_some, Option.some.injEq] at hs
    obtain ⟨hl, hv2⟩ := hv
    rcases hv2 with ⟨h0, _⟩ | ⟨b', cap, cur, hv, hlo, hh, h1', h2, h3, h4⟩
    · cases h0
    · injection hv with e1 e2 e3
      injection e1 with e1
      injection e1 with e1
      subst e1 e2 e3
      have hkl := lt_of_some hk
      have hkc : k * sz + sz ≤ xs.length * sz := by
        have := Nat.mul_le_mul_right sz (show k + 1 ≤ xs.length from hkl)
        rw [Nat.add_mul] at this; omega
      have hcc : xs.length * sz ≤ cur.size := by rw [h3]; exact Nat.mul_le_mul_right _ h1'
      have hst := run_storeCells_at (P := P) b (k * sz + j) e [v] 0 cur w hh (by simp; omega) (fun u hu => by simp at hu; subst hu; exact h1)
      have hr : (execOp (ev f) ⟨d, .store t x y, ty, pos, af, g⟩).run P w = .ok .skip (w.setRow b (cur.toList.take (k * sz + j) ++ [v] ++ cur.toList.drop (k * sz + j + 1)).toArray) := by
        simp only [Nat.add_zero] at hst
        simp [execOp, hx, hy, Instr.storeAt, Instr.sureAddr, storeVar, sizeOf, typeInfo, hi, hc, hs, hst]
      rw [hr]
      refine h _ ⟨?_, .inr ⟨b, c, _, by rw [List.length_set], hlo, setRow_heap w b cur _ e _ hh, by rw [List.length_set]; exact h1', h2, ?_, ?_⟩⟩ (setRow_only _ _ _)
      · rw [F.flen]
      · simp only [List.size_toArray, List.length_append, List.length_take, List.length_drop, Array.length_toList, List.length_cons, List.length_nil]
        rw [← h3]; omega
      · rw [F.fset hkl, List.length_set, ← h4, ← he]
        have hsp := splice_take (A := cur.toList) (E := [v]) (p := k * sz + j) (L := xs.length * sz) (by simp; omega) (by simpa using hcc)
        simp only [List.length_cons, List.length_nil, Nat.zero_add] at hsp
        show List.take (xs.length * sz) (cur.toList.take (k * sz + j) ++ [v] ++ cur.toList.drop (k * sz + j + 1)) = _
        rw [hsp]
        have hel : (enc a).length = sz := F.len a
        -- the element's cells
        have hget : ((cur.toList.take (xs.length * sz)).drop (k * sz)).take sz = enc a := by
          rw [h4]
          apply List.ext_getElem?
          intro i
          rw [List.getElem?_take]
          split
          · rename_i hi
            rw [List.getElem?_drop]
            have hu := List.getElem?_eq_getElem (show i < (enc a).length by omega)
            rw [hu]
            exact F.fget hk hu
          · rw [List.getElem?_eq_none (by omega)]
        have hL : (cur.toList.take (xs.length * sz)).length = xs.length * sz := by rw [List.length_take]; simp; omega
        generalize cur.toList.take (xs.length * sz) = M at *
        have e7 : M.take (k * sz + j) = M.take (k * sz) ++ (enc a).take j := by
          rw [← hget, List.take_take, Nat.min_eq_left (by omega), List.take_add]
        have e8 : M.drop (k * sz + j + 1) = (enc a).drop (j + 1) ++ M.drop (k * sz + sz) := by
          rw [← hget, List.drop_take]
          have e9 : M.drop (k * sz + j + 1) = (M.drop (k * sz)).drop (j + 1) := by rw [List.drop_drop, Nat.add_assoc]
          have e10 : M.drop (k * sz + sz) = ((M.drop (k * sz)).drop (j + 1)).drop (sz - (j + 1)) := by rw [List.drop_drop, List.drop_drop]; congr 1; omega
          rw [e9, e10, List.take_append_drop]
        rw [e7, e8, List.set_eq_take_append_cons_drop, if_pos (by omega)]
        simp [List.append_assoc]
end
end
section
open Go.RowKit
set_option linter.unusedVariables false
set_option linter.unusedSimpArgs false
set_option maxRecDepth 100000
def m_spec_l00Own (d0 : List Int) : Option (List Int) :=
  ((mustP (([] : List Int).length + d0.length ≤ 4294967296)).bind fun _ => some (([] : List Int) ++ d0))
set_option maxHeartbeats 2000000 in
theorem c_m_spec_l00Own (d0 : List Int) (r : List Int) (hm : m_spec_l00Own d0 = some r) (v0 : Value) (w : World) (hv0 : Sl intRd 1 w v0 d0) :
    Calls Try.prog 135 #[v0] w fun e w' => (∃ (v0 : Value), e = .returned (v0) ∧ OwF 2 encI 1 w' w.heap.size v0 r) ∧ Below w.heap.size w w' := by
  obtain ⟨Aa0, na0, ca0, rfl, ha0, ra0⟩ := hv0
  have ea0 := ha0.len; subst ea0
  have qa0 := len_le ra0
  have T := Below.refl w.heap.size w
  unfold m_spec_l00Own at hm
  refine enter 6 Try.func135 rfl rfl rfl ?_
  intro f hf
  have s0 : f 0 = .slice Aa0 d0.length ca0 := hf 0 _ rfl
  refine wp_seq ?_
  refine wp_rs rfl ?_
  refine RQ.y rfl (Y.assign (v := .slice none 0 0) rfl) ?_
  refine RQ.nil ?_
  refine then_n ?_
  refine wp_seq ?_
  refine wp_rl rfl ?_
  refine RL.bslice (e := 2) (cells := #[]) rfl pm0 (by kernel_rfl) (fun w1 B2 hb3 szw1 => ?_)
  have ZB2 : w.heap.size ≤ w.heap.size := T.size
  have T := Tt T hb3
  have G5 := OwF.lit (enc := encI) (sz := 1) (xs := ([] : List Int)) B2 ZB2 rfl rfl rfl rfl
  refine RL.y rfl (Y.move (v := .slice Aa0 d0.length ca0) s0) ?_
  obtain ⟨_, m7, hm⟩ := bnd hm
  have hk8 := mustP_some m7
  refine RL.append fI app_int64 rfl rfl rfl G5 (slArg intRd_ok ha0 ra0 T) T.size hk8 (fun v9 w10 G11 hgr12 hbl13 hnb14 => ?_)
  have szw10 := hbl13.size
  have T := T.trans hbl13
  refine RL.y rfl (Y.assign (v := v9) rfl) ?_
  refine RL.nil ?_
  refine then_n ?_
  refine wp_ret ?_
  obtain rfl := Option.some.inj hm
  exact (ret1 rfl rfl rfl ⟨⟨_, rfl, G11⟩, T⟩)
def m_spec_l11OwnAgent (d0 : DAgent) : Option DAgent :=
  ((m_spec_l00Own d0.data).bind fun y9 => ((mustP (([] : List DPort).length + d0.ports.length ≤ 4294967296)).bind fun _ => some (⟨d0.kind, d0.level, d0.value, y9, (([] : List DPort) ++ d0.ports)⟩ : DAgent)))
set_option maxHeartbeats 2000000 in
theorem c_m_spec_l11OwnAgent (d0 : DAgent) (r : DAgent) (hm : m_spec_l11OwnAgent d0 = some r) (v0 : Value) (w : World) (hv0 : Pt agentRd w v0 d0) :
    Calls Try.prog 131 #[v0] w fun e w' => (∃ (v0 : Value) (v1 : Value), e = .returned (.agg #[.int .i64 r.kind, .int .i64 r.level, .int .i64 r.value, v0, v1]) ∧ OwF 2 encI 1 w' w.heap.size v0 r.data ∧ OwF 53 encPort 2 w' w.heap.size v1 r.ports ∧ Dj v0 v1) ∧ Below w.heap.size w w' := by
  obtain ⟨ba0, oa0, csa0, rfl, hba0, hRa0, hca0⟩ := hv0
  have hSa0 := hRa0
  obtain ⟨A1, n1, c1, A2, n2, c2, rfl, ⟨h1, r1⟩, ⟨h2, r2⟩⟩ := hRa0
  have e1 := h1.len; subst e1
  have q1 := len_le r1
  have e2 := h2.len; subst e2
  have q2 := len_le r2
  have T := Below.refl w.heap.size w
  unfold m_spec_l11OwnAgent at hm
  refine enter 27 Try.func131 rfl rfl rfl ?_
  intro f hf
  have s0 : f 0 = .pointer (some ⟨ba0, oa0, none⟩) := hf 0 _ rfl
  refine wp_seq ?_
  refine wp_rl rfl ?_
  refine RL.alloc (z := .agg #[.int .i64 0, .int .i64 0, .int .i64 0, .slice none 0 0, .slice none 0 0]) rfl (by kernel_rfl) (fun w3 B4 hb5 szw3 => ?_)
  replace B4 : Blk w3 w.heap.size 89 #[.int .i64 0, .int .i64 0, .int .i64 0, .slice none 0 0, .slice none 0 0] := B4
  have GB4 : w.heap.size ≤ w.heap.size := T.size
  have T := Tt T hb5
  refine RL.nil ?_
  refine then_n ?_
  refine wp_seq ?_
  refine wp_rgt (fun w' => Below w.heap.size w w') (.q 0 (.q 1 (.q 2 (.q 3 (.q 4 (.q 5 (.q 6 (.q 7 (.q 8 (.q 9 (.q 10 (.q 11 (.q 12 (.q 13 (.q 14 (.q 15 (.q 18 (.q 19 (.q 20 (.q 21 (.two 16 (.a 17 (.a 22 (.q 23 (.a 24 .nil)))) 17 (.a 16 (.a 22 (.q 23 (.a 24 .nil))))))))))))))))))))))))) (by kernel_rfl) (by kernel_rfl) (fun w7 hb8 szw7 => ?_)
  have B4 := blkT B4 hb8
  have T := Tt T hb8
  refine ⟨T, ?_⟩
  refine RT.y rfl rfl (Y.move (v := .pointer (some ⟨ba0, oa0, none⟩)) s0) ?_
  refine RT.y rfl rfl (Y.nilCheck rfl) ?_
  refine RT.y rfl rfl (Y.fieldAddr (off := 0) rfl (by kernel_rfl)) ?_
  refine RT.y rfl rfl (Y.load (v := .int .i64 d0.kind) rfl (by kernel_rfl) (fun w' hS => (cellT hS (hca0 0 _ rfl)))) ?_
  refine RT.y rfl rfl (Y.move (v := .pointer (some ⟨ba0, oa0, none⟩)) s0) ?_
  refine RT.y rfl rfl (Y.nilCheck rfl) ?_
  refine RT.y rfl rfl (Y.fieldAddr (off := 1) rfl (by kernel_rfl)) ?_
  refine RT.y rfl rfl (Y.load (v := .int .i64 d0.level) rfl (by kernel_rfl) (fun w' hS => (cellT hS (hca0 1 _ rfl)))) ?_
  refine RT.y rfl rfl (Y.move (v := .pointer (some ⟨ba0, oa0, none⟩)) s0) ?_
  refine RT.y rfl rfl (Y.nilCheck rfl) ?_
  refine RT.y rfl rfl (Y.fieldAddr (off := 2) rfl (by kernel_rfl)) ?_
  refine RT.y rfl rfl (Y.load (v := .int .i64 d0.value) rfl (by kernel_rfl) (fun w' hS => (cellT hS (hca0 2 _ rfl)))) ?_
  refine RT.y rfl rfl (Y.move (v := .pointer (some ⟨ba0, oa0, none⟩)) s0) ?_
  refine RT.y rfl rfl (Y.nilCheck rfl) ?_
  refine RT.y rfl rfl (Y.fieldAddr (off := 3) rfl (by kernel_rfl)) ?_
  refine RT.y rfl rfl (Y.load (v := .slice A1 d0.data.length c1) rfl (by kernel_rfl) (fun w' hS => (cellT hS (hca0 3 _ rfl)))) ?_
  refine RT.y rfl rfl (Y.move (v := .pointer (some ⟨ba0, oa0, none⟩)) s0) ?_
  refine RT.y rfl rfl (Y.nilCheck rfl) ?_
  refine RT.y rfl rfl (Y.fieldAddr (off := 4) rfl (by kernel_rfl)) ?_
  refine RT.y rfl rfl (Y.load (v := .slice A2 d0.ports.length c2) rfl (by kernel_rfl) (fun w' hS => (cellT hS (hca0 4 _ rfl)))) ?_
  refine RT.both rfl rfl ?_ ?_
  · obtain ⟨y9, e10, hm⟩ := bnd hm
    refine RL.call rfl (am1 rfl) (by kernel_rfl) ((c_m_spec_l00Own d0.data _ e10 _ _ (slArg intRd_ok h1 r1 T)).mono ?_)
    rintro _ w14 ⟨⟨v11, rfl, G12⟩, hb15⟩
    refine ⟨_, rfl, ?_⟩
    have szw14 := hb15.size
    have T0w14 := T.size
    have Zo13_ob6 := ap_ne (Ap.new (OwF.flo G12) (one_hi B4.lt))
    have B4 := blkT B4 hb15
    have T := Tt T hb15
    replace G12 := OwF.mono G12 T0w14
    refine RL.nil ⟨T, ?_⟩
    refine RT.act rfl ?_
    refine RL.bslice (e := 53) (cells := #[]) rfl pm0 (by kernel_rfl) (fun w16 B17 hb18 szw16 => ?_)
    have ZB17 : w.heap.size ≤ w14.heap.size := T.size
    have No19_ob6 := litNe (n := 0) (c := 0) B4.lt
    have Do19_o13 := Dj.new (v := .slice (some ⟨w14.heap.size, 0, none⟩) 0 0) litGe (OwF.hi G12)
    have B4 := blkT B4 hb18
    have G12 := OwF.below G12 hb18
    have T := Tt T hb18
    have G20 := OwF.lit (enc := encPort) (sz := 2) (xs := ([] : List DPort)) B17 ZB17 rfl rfl rfl rfl
    refine RL.nil ⟨T, ?_⟩
    refine RT.act rfl ?_
    obtain ⟨_, m22, hm⟩ := bnd hm
    have hk23 := mustP_some m22
    refine RL.append fPort app_impl_Port rfl rfl rfl G20 (slArg portRd_ok h2 r2 T) T.size hk23 (fun v24 w25 G26 hgr27 hbl28 hnb29 => ?_)
    have szw25 := hbl28.size
    have No30_ob6 := ne_app hnb29 No19_ob6 B4.lt
    have Do30_o13 := Dj.app Do19_o13 hnb29 (OwF.hi G12)
    have B4 := Blk.kept B4 hgr27 No19_ob6
    have G12 := OwF.keptD G12 hgr27 (Dj.symm Do19_o13)
    have T := T.trans hbl28
    refine RL.nil ⟨T, ?_⟩
    obtain ⟨A31, c32, rfl⟩ := OwF.form G12
    have qbA31 := OwF.bound G12
    obtain ⟨A33, c34, rfl⟩ := OwF.form G26
    have qbA33 := OwF.bound G26
    refine RT.y rfl rfl (Y.build5 (cells := #[.int .i64 d0.kind, .int .i64 d0.level, .int .i64 d0.value, .slice A31 y9.length c32, .slice A33 ((([] : List DPort) ++ d0.ports).length) c34]) rfl rfl rfl rfl rfl (by kernel_rfl) (by kernel_rfl)) ?_
    refine RT.act rfl ?_
    refine RL.store (v := .agg #[.int .i64 d0.kind, .int .i64 d0.level, .int .i64 d0.value, .slice A31 y9.length c32, .slice A33 ((([] : List DPort) ++ d0.ports).length) c34]) (cs' := #[.int .i64 d0.kind, .int .i64 d0.level, .int .i64 d0.value, .slice A31 y9.length c32, .slice A33 ((([] : List DPort) ++ d0.ports).length) c34]) rfl rfl rfl B4 (by kernel_rfl) (by rfl) (by rfl) (by rfl) (fun w35 B36 ho37 => ?_)
    have szw35 := ho37.size
    have G12 := OwF.only G12 ho37 Zo13_ob6
    have G26 := OwF.only G26 ho37 No30_ob6
    have T := T.trans (ho37.below (by first | (simp; done) | (simp; omega)))
    refine RL.nil ⟨T, ?_⟩
    refine RT.nil_ ?_
    refine then_n ?_
    refine wp_ret ?_
    obtain rfl := Option.some.inj hm
    exact (retc (cs := [.int .i64 d0.kind, .int .i64 d0.level, .int .i64 d0.value, .slice A31 y9.length c32, .slice A33 ((([] : List DPort) ++ d0.ports).length) c34]) rfl rfl rfl (by kernel_rfl) (blkCells B36) ⟨⟨_, _, rfl, G12, G26, (Ap.dj (Ap.symm (Dj.ap Do30_o13)))⟩, T⟩)
  · refine RL.bslice (e := 53) (cells := #[]) rfl pm0 (by kernel_rfl) (fun w38 B39 hb40 szw38 => ?_)
    have ZB39 : w.heap.size ≤ w7.heap.size := T.size
    have No41_ob6 := litNe (n := 0) (c := 0) B4.lt
    have B4 := blkT B4 hb40
    have T := Tt T hb40
    have G42 := OwF.lit (enc := encPort) (sz := 2) (xs := ([] : List DPort)) B39 ZB39 rfl rfl rfl rfl
    refine RL.nil ⟨T, ?_⟩
    refine RT.act rfl ?_
    obtain ⟨y44, e45, hm⟩ := bnd hm
    refine RL.call rfl (am1 rfl) (by kernel_rfl) ((c_m_spec_l00Own d0.data _ e45 _ _ (slArg intRd_ok h1 r1 T)).mono ?_)
    rintro _ w49 ⟨⟨v46, rfl, G47⟩, hb50⟩
    refine ⟨_, rfl, ?_⟩
    have szw49 := hb50.size
    have T0w49 := T.size
    have Zo48_ob6 := ap_ne (Ap.new (OwF.flo G47) (one_hi B4.lt))
    have Zo48_o41 := Ap.dj (Ap.new (OwF.flo G47) (OwF.fhi G42))
    have B4 := blkT B4 hb50
    have G42 := OwF.below G42 hb50
    have T := Tt T hb50
    replace G47 := OwF.mono G47 T0w49
    refine RL.nil ⟨T, ?_⟩
    refine RT.act rfl ?_
    obtain ⟨_, m51, hm⟩ := bnd hm
    have hk52 := mustP_some m51
    refine RL.append fPort app_impl_Port rfl rfl rfl G42 (slArg portRd_ok h2 r2 T) T.size hk52 (fun v53 w54 G55 hgr56 hbl57 hnb58 => ?_)
    have szw54 := hbl57.size
    have No59_ob6 := ne_app hnb58 No41_ob6 B4.lt
    have Do59_o48 := Dj.app (Dj.symm Zo48_o41) hnb58 (OwF.hi G47)
    have B4 := Blk.kept B4 hgr56 No41_ob6
    have G47 := OwF.keptD G47 hgr56 Zo48_o41
    have T := T.trans hbl57
    refine RL.nil ⟨T, ?_⟩
    obtain ⟨A60, c61, rfl⟩ := OwF.form G47
    have qbA60 := OwF.bound G47
    obtain ⟨A62, c63, rfl⟩ := OwF.form G55
    have qbA62 := OwF.bound G55
    refine RT.y rfl rfl (Y.build5 (cells := #[.int .i64 d0.kind, .int .i64 d0.level, .int .i64 d0.value, .slice A60 y44.length c61, .slice A62 ((([] : List DPort) ++ d0.ports).length) c63]) rfl rfl rfl rfl rfl (by kernel_rfl) (by kernel_rfl)) ?_
    refine RT.act rfl ?_
    refine RL.store (v := .agg #[.int .i64 d0.kind, .int .i64 d0.level, .int .i64 d0.value, .slice A60 y44.length c61, .slice A62 ((([] : List DPort) ++ d0.ports).length) c63]) (cs' := #[.int .i64 d0.kind, .int .i64 d0.level, .int .i64 d0.value, .slice A60 y44.length c61, .slice A62 ((([] : List DPort) ++ d0.ports).length) c63]) rfl rfl rfl B4 (by kernel_rfl) (by rfl) (by rfl) (by rfl) (fun w64 B65 ho66 => ?_)
    have szw64 := ho66.size
    have G47 := OwF.only G47 ho66 Zo48_ob6
    have G55 := OwF.only G55 ho66 No59_ob6
    have T := T.trans (ho66.below (by first | (simp; done) | (simp; omega)))
    refine RL.nil ⟨T, ?_⟩
    refine RT.nil_ ?_
    refine then_n ?_
    refine wp_ret ?_
    obtain rfl := Option.some.inj hm
    exact (retc (cs := [.int .i64 d0.kind, .int .i64 d0.level, .int .i64 d0.value, .slice A60 y44.length c61, .slice A62 ((([] : List DPort) ++ d0.ports).length) c63]) rfl rfl rfl (by kernel_rfl) (blkCells B65) ⟨⟨_, _, rfl, G47, G55, (Ap.dj (Ap.symm (Dj.ap Do59_o48)))⟩, T⟩)
def m_slices_Clone_int64_int64 (d0 : List Int) : Option (List Int) :=
  ((mustP (([] : List Int).length + d0.length ≤ 4294967296)).bind fun _ => some (([] : List Int) ++ d0))
set_option maxHeartbeats 2000000 in
theorem c_m_slices_Clone_int64_int64 (d0 : List Int) (r : List Int) (hm : m_slices_Clone_int64_int64 d0 = some r) (v0 : Value) (w : World) (hv0 : Sl intRd 1 w v0 d0) :
    Calls Try.prog 171 #[v0] w fun e w' => (∃ (v0 : Value), e = .returned (v0) ∧ OwF 2 encI 1 w' w.heap.size v0 r) ∧ Below w.heap.size w w' := by
  obtain ⟨Aa0, na0, ca0, rfl, ha0, ra0⟩ := hv0
  have ea0 := ha0.len; subst ea0
  have qa0 := len_le ra0
  have T := Below.refl w.heap.size w
  unfold m_slices_Clone_int64_int64 at hm
  refine enter 8 Try.func171 rfl rfl rfl ?_
  intro f hf
  have s0 : f 0 = .slice Aa0 d0.length ca0 := hf 0 _ rfl
  refine wp_seq ?_
  refine wp_rs rfl ?_
  refine RQ.y rfl (Y.assign (v := .slice none 0 0) rfl) ?_
  refine RQ.nil ?_
  refine then_n ?_
  refine wp_seq ?_
  refine wp_seq ?_
  refine wp_rs rfl ?_
  refine RQ.y rfl (Y.move (v := .slice Aa0 d0.length ca0) s0) ?_
  refine RQ.y rfl (Y.eqNil (e := 2) rfl rfl (by kernel_rfl)) ?_
  refine RQ.nil ?_
  refine then_n ?_
  rcases bcases Aa0.isNone with c1 | c1
  · refine cond_f rfl (vb rfl c1) ?_
    refine wp_skip ?_
    refine then_n ?_
    refine wp_seq ?_
    refine wp_rl rfl ?_
    refine RL.bslice (e := 2) (cells := #[]) rfl pm0 (by kernel_rfl) (fun w2 B3 hb4 szw2 => ?_)
    have ZB3 : w.heap.size ≤ w.heap.size := T.size
    have T := Tt T hb4
    have G6 := OwF.lit (enc := encI) (sz := 1) (xs := ([] : List Int)) B3 ZB3 rfl rfl rfl rfl
    refine RL.y rfl (Y.move (v := .slice Aa0 d0.length ca0) s0) ?_
    obtain ⟨_, m8, hm⟩ := bnd hm
    have hk9 := mustP_some m8
    refine RL.append fI app_int64 rfl rfl rfl G6 (slArg intRd_ok ha0 ra0 T) T.size hk9 (fun v10 w11 G12 hgr13 hbl14 hnb15 => ?_)
    have szw11 := hbl14.size
    have T := T.trans hbl14
    refine RL.y rfl (Y.assign (v := v10) rfl) ?_
    refine RL.nil ?_
    refine then_n ?_
    refine wp_ret ?_
    obtain rfl := Option.some.inj hm
    exact (ret1 rfl rfl rfl ⟨⟨_, rfl, G12⟩, T⟩)
  · have hd17 := SlAt.nilOf ha0 c1
    replace hm : some ([]) = some r := by rw [hd17] at hm; simpa [mustP] using hm
    refine cond_t rfl (vb rfl c1) ?_
    refine wp_seq ?_
    refine wp_rs rfl ?_
    refine RQ.y rfl (Y.assign (v := .slice none 0 0) rfl) ?_
    refine RQ.nil ?_
    refine then_n ?_
    refine wp_ret ?_
    obtain rfl := Option.some.inj hm
    exact (then_r (ret1 rfl rfl rfl ⟨⟨_, rfl, OwF.nil⟩, T⟩))
def m_slices_Clone_impl_Port_impl_Port (d0 : List DPort) : Option (List DPort) :=
  ((mustP (([] : List DPort).length + d0.length ≤ 4294967296)).bind fun _ => some (([] : List DPort) ++ d0))
set_option maxHeartbeats 2000000 in
theorem c_m_slices_Clone_impl_Port_impl_Port (d0 : List DPort) (r : List DPort) (hm : m_slices_Clone_impl_Port_impl_Port d0 = some r) (v0 : Value) (w : World) (hv0 : Sl portRd 2 w v0 d0) :
    Calls Try.prog 172 #[v0] w fun e w' => (∃ (v0 : Value), e = .returned (v0) ∧ OwF 53 encPort 2 w' w.heap.size v0 r) ∧ Below w.heap.size w w' := by
  obtain ⟨Aa0, na0, ca0, rfl, ha0, ra0⟩ := hv0
  have ea0 := ha0.len; subst ea0
  have qa0 := len_le ra0
  have T := Below.refl w.heap.size w
  unfold m_slices_Clone_impl_Port_impl_Port at hm
  refine enter 8 Try.func172 rfl rfl rfl ?_
  intro f hf
  have s0 : f 0 = .slice Aa0 d0.length ca0 := hf 0 _ rfl
  refine wp_seq ?_
  refine wp_rs rfl ?_
  refine RQ.y rfl (Y.assign (v := .slice none 0 0) rfl) ?_
  refine RQ.nil ?_
  refine then_n ?_
  refine wp_seq ?_
  refine wp_seq ?_
  refine wp_rs rfl ?_
  refine RQ.y rfl (Y.move (v := .slice Aa0 d0.length ca0) s0) ?_
  refine RQ.y rfl (Y.eqNil (e := 53) rfl rfl (by kernel_rfl)) ?_
  refine RQ.nil ?_
  refine then_n ?_
  rcases bcases Aa0.isNone with c1 | c1
  · refine cond_f rfl (vb rfl c1) ?_
    refine wp_skip ?_
    refine then_n ?_
    refine wp_seq ?_
    refine wp_rl rfl ?_
    refine RL.bslice (e := 53) (cells := #[]) rfl pm0 (by kernel_rfl) (fun w2 B3 hb4 szw2 => ?_)
    have ZB3 : w.heap.size ≤ w.heap.size := T.size
    have T := Tt T hb4
    have G6 := OwF.lit (enc := encPort) (sz := 2) (xs := ([] : List DPort)) B3 ZB3 rfl rfl rfl rfl
    refine RL.y rfl (Y.move (v := .slice Aa0 d0.length ca0) s0) ?_
    obtain ⟨_, m8, hm⟩ := bnd hm
    have hk9 := mustP_some m8
    refine RL.append fPort app_impl_Port rfl rfl rfl G6 (slArg portRd_ok ha0 ra0 T) T.size hk9 (fun v10 w11 G12 hgr13 hbl14 hnb15 => ?_)
    have szw11 := hbl14.size
    have T := T.trans hbl14
    refine RL.y rfl (Y.assign (v := v10) rfl) ?_
    refine RL.nil ?_
    refine then_n ?_
    refine wp_ret ?_
    obtain rfl := Option.some.inj hm
    exact (ret1 rfl rfl rfl ⟨⟨_, rfl, G12⟩, T⟩)
  · have hd17 := SlAt.nilOf ha0 c1
    replace hm : some ([]) = some r := by rw [hd17] at hm; simpa [mustP] using hm
    refine cond_t rfl (vb rfl c1) ?_
    refine wp_seq ?_
    refine wp_rs rfl ?_
    refine RQ.y rfl (Y.assign (v := .slice none 0 0) rfl) ?_
    refine RQ.nil ?_
    refine then_n ?_
    refine wp_ret ?_
    obtain rfl := Option.some.inj hm
    exact (then_r (ret1 rfl rfl rfl ⟨⟨_, rfl, OwF.nil⟩, T⟩))
def m_impl_copyAgent (d0 : DAgent) : Option DAgent :=
  ((m_slices_Clone_int64_int64 d0.data).bind fun y13 => ((m_slices_Clone_impl_Port_impl_Port d0.ports).bind fun y20 => some (⟨d0.kind, d0.level, d0.value, y13, y20⟩ : DAgent)))
set_option maxHeartbeats 2000000 in
theorem c_m_impl_copyAgent (d0 : DAgent) (r : DAgent) (hm : m_impl_copyAgent d0 = some r) (v0 : Value) (w : World) (hv0 : St agentRd w v0 d0) :
    Calls Try.prog 136 #[v0] w fun e w' => (∃ (v0 : Value) (v1 : Value), e = .returned (.agg #[.int .i64 r.kind, .int .i64 r.level, .int .i64 r.value, v0, v1]) ∧ OwF 2 encI 1 w' w.heap.size v0 r.data ∧ OwF 53 encPort 2 w' w.heap.size v1 r.ports ∧ Dj v0 v1) ∧ Below w.heap.size w w' := by
  obtain ⟨csa0, rfl, ⟨A1, n1, c1, A2, n2, c2, rfl, ⟨h1, r1⟩, ⟨h2, r2⟩⟩⟩ := hv0
  have e1 := h1.len; subst e1
  have q1 := len_le r1
  have e2 := h2.len; subst e2
  have q2 := len_le r2
  have T := Below.refl w.heap.size w
  unfold m_impl_copyAgent at hm
  refine enter 12 Try.func136 rfl rfl rfl ?_
  intro f hf
  have s0 : f 0 = .agg #[.int .i64 d0.kind, .int .i64 d0.level, .int .i64 d0.value, .slice A1 d0.data.length c1, .slice A2 d0.ports.length c2] := hf 0 _ rfl
  refine wp_seq ?_
  refine wp_rl rfl ?_
  refine RL.box rfl s0 (fun w3 B4 hb5 szw3 => ?_)
  replace B4 : Blk w3 w.heap.size 89 #[.int .i64 d0.kind, .int .i64 d0.level, .int .i64 d0.value, .slice A1 d0.data.length c1, .slice A2 d0.ports.length c2] := B4
  have GB4 : w.heap.size ≤ w.heap.size := T.size
  have T := Tt T hb5
  refine RL.alloc (z := .agg #[.int .i64 0, .int .i64 0, .int .i64 0, .slice none 0 0, .slice none 0 0]) rfl (by kernel_rfl) (fun w7 B8 hb9 szw7 => ?_)
  replace B8 : Blk w7 w3.heap.size 89 #[.int .i64 0, .int .i64 0, .int .i64 0, .slice none 0 0, .slice none 0 0] := B8
  have GB8 : w.heap.size ≤ w3.heap.size := T.size
  have Eob10_ob6 := Nat.ne_of_lt B4.lt
  have B4 := blkT B4 hb9
  have T := Tt T hb9
  refine RL.nil ?_
  refine then_n ?_
  refine wp_seq ?_
  refine wp_rgt (fun w' => Below w.heap.size w w') (.q 0 (.q 3 (.two 1 (.two 2 (.a 4 (.q 6 (.a 5 (.a 7 (.q 8 (.a 9 .nil)))))) 4 (.a 2 (.q 6 (.a 5 (.a 7 (.q 8 (.a 9 .nil))))))) 4 (.a 1 (.a 2 (.q 6 (.a 5 (.a 7 (.q 8 (.a 9 .nil)))))))))) (by kernel_rfl) (by kernel_rfl) (fun w11 hb12 szw11 => ?_)
  have B4 := blkT B4 hb12
  have B8 := blkT B8 hb12
  have T := Tt T hb12
  refine ⟨T, ?_⟩
  refine RT.y rfl rfl (Y.fieldAddr (off := 3) rfl (by kernel_rfl)) ?_
  refine RT.y rfl rfl (Y.fieldAddr (off := 4) rfl (by kernel_rfl)) ?_
  refine RT.both rfl rfl ?_ ?_
  · refine RL.y rfl (Y.load (v := .slice A1 d0.data.length c1) rfl (by kernel_rfl) (eqC (blkCell B4 (i := 3) rfl))) ?_
    refine RL.nil ⟨T, ?_⟩
    refine RT.both rfl rfl ?_ ?_
    · obtain ⟨y13, e14, hm⟩ := bnd hm
      refine RL.call rfl (am1 rfl) (by kernel_rfl) ((c_m_slices_Clone_int64_int64 d0.data _ e14 _ _ (slArg intRd_ok h1 r1 T)).mono ?_)
      rintro _ w18 ⟨⟨v15, rfl, G16⟩, hb19⟩
      refine ⟨_, rfl, ?_⟩
      have szw18 := hb19.size
      have T0w18 := T.size
      have Zo17_ob6 := ap_ne (Ap.new (OwF.flo G16) (one_hi B4.lt))
      have Zo17_ob10 := ap_ne (Ap.new (OwF.flo G16) (one_hi B8.lt))
      have B4 := blkT B4 hb19
      have B8 := blkT B8 hb19
      have T := Tt T hb19
      replace G16 := OwF.mono G16 T0w18
      refine RL.nil ⟨T, ?_⟩
      refine RT.act rfl ?_
      refine RL.y rfl (Y.load (v := .slice A2 d0.ports.length c2) rfl (by kernel_rfl) (eqC (blkCell B4 (i := 4) rfl))) ?_
      refine RL.nil ⟨T, ?_⟩
      refine RT.y rfl rfl (Y.fieldAddr (off := 3) rfl (by kernel_rfl)) ?_
      refine RT.act rfl ?_
      obtain ⟨y20, e21, hm⟩ := bnd hm
      refine RL.call rfl (am1 rfl) (by kernel_rfl) ((c_m_slices_Clone_impl_Port_impl_Port d0.ports _ e21 _ _ (slArg portRd_ok h2 r2 T)).mono ?_)
      rintro _ w25 ⟨⟨v22, rfl, G23⟩, hb26⟩
      refine ⟨_, rfl, ?_⟩
      have szw25 := hb26.size
      have T0w25 := T.size
      have Zo24_ob6 := ap_ne (Ap.new (OwF.flo G23) (one_hi B4.lt))
      have Zo24_ob10 := ap_ne (Ap.new (OwF.flo G23) (one_hi B8.lt))
      have Zo24_o17 := Ap.dj (Ap.new (OwF.flo G23) (OwF.fhi G16))
      have B4 := blkT B4 hb26
      have B8 := blkT B8 hb26
      have G16 := OwF.below G16 hb26
      have T := Tt T hb26
      replace G23 := OwF.mono G23 T0w25
      refine RL.nil ⟨T, ?_⟩
      refine RT.act rfl ?_
      obtain ⟨A27, c28, rfl⟩ := OwF.form G16
      have qbA27 := OwF.bound G16
      refine RL.store (v := .slice A27 y13.length c28) (cs' := #[.int .i64 d0.kind, .int .i64 d0.level, .int .i64 d0.value, .slice A27 y13.length c28, .slice A2 d0.ports.length c2]) rfl rfl rfl B4 (by kernel_rfl) (by rfl) (by rfl) (by rfl) (fun w29 B30 ho31 => ?_)
      have szw29 := ho31.size
      have B8 := B8.only_ ho31 (by intro hin; simp at hin; exact Eob10_ob6.symm hin)
      have G16 := OwF.only G16 ho31 Zo17_ob6
      have G23 := OwF.only G23 ho31 Zo24_ob6
      have T := T.trans (ho31.below (by first | (simp; done) | (simp; omega)))
      refine RL.nil ⟨T, ?_⟩
      refine RT.y rfl rfl (Y.fieldAddr (off := 4) rfl (by kernel_rfl)) ?_
      refine RT.act rfl ?_
      obtain ⟨A32, c33, rfl⟩ := OwF.form G23
      have qbA32 := OwF.bound G23
      refine RL.store (v := .slice A32 y20.length c33) (cs' := #[.int .i64 d0.kind, .int .i64 d0.level, .int .i64 d0.value, .slice A27 y13.length c28, .slice A32 y20.length c33]) rfl rfl rfl B30 (by kernel_rfl) (by rfl) (by rfl) (by rfl) (fun w34 B35 ho36 => ?_)
      have szw34 := ho36.size
      have B8 := B8.only_ ho36 (by intro hin; simp at hin; exact Eob10_ob6.symm hin)
      have G16 := OwF.only G16 ho36 Zo17_ob6
      have G23 := OwF.only G23 ho36 Zo24_ob6
      have T := T.trans (ho36.below (by first | (simp; done) | (simp; omega)))
      refine RL.nil ⟨T, ?_⟩
      refine RT.nil_ ?_
      refine then_n ?_
      refine wp_seq ?_
      refine wp_rl rfl ?_
      refine RL.y rfl (Y.loadN (cs := [.int .i64 d0.kind, .int .i64 d0.level, .int .i64 d0.value, .slice A27 y13.length c28, .slice A32 y20.length c33]) rfl (by kernel_rfl) (cells5 (eqC (blkCell B35 (i := 0) rfl)) (eqC (blkCell B35 (i := 1) rfl)) (eqC (blkCell B35 (i := 2) rfl)) (eqC (blkCell B35 (i := 3) rfl)) (eqC (blkCell B35 (i := 4) rfl)))) ?_
      refine RL.store (v := .agg #[.int .i64 d0.kind, .int .i64 d0.level, .int .i64 d0.value, .slice A27 y13.length c28, .slice A32 y20.length c33]) (cs' := #[.int .i64 d0.kind, .int .i64 d0.level, .int .i64 d0.value, .slice A27 y13.length c28, .slice A32 y20.length c33]) rfl rfl rfl B8 (by kernel_rfl) (by rfl) (by rfl) (by rfl) (fun w37 B38 ho39 => ?_)
      have szw37 := ho39.size
      have B35 := B35.only_ ho39 (by intro hin; simp at hin; exact Eob10_ob6 hin)
      have G16 := OwF.only G16 ho39 Zo17_ob10
      have G23 := OwF.only G23 ho39 Zo24_ob10
      have T := T.trans (ho39.below (by first | (simp; done) | (simp; omega)))
      refine RL.nil ?_
      refine then_n ?_
      refine wp_ret ?_
      obtain rfl := Option.some.inj hm
      exact (retc (cs := [.int .i64 d0.kind, .int .i64 d0.level, .int .i64 d0.value, .slice A27 y13.length c28, .slice A32 y20.length c33]) rfl rfl rfl (by kernel_rfl) (blkCells B38) ⟨⟨_, _, rfl, G16, G23, (Ap.dj (Ap.symm (Dj.ap Zo24_o17)))⟩, T⟩)
    · refine RL.y rfl (Y.load (v := .slice A2 d0.ports.length c2) rfl (by kernel_rfl) (eqC (blkCell B4 (i := 4) rfl))) ?_
      refine RL.nil ⟨T, ?_⟩
      refine RT.act rfl ?_
      obtain ⟨y40, e41, hm⟩ := bnd hm
      refine RL.call rfl (am1 rfl) (by kernel_rfl) ((c_m_slices_Clone_int64_int64 d0.data _ e41 _ _ (slArg intRd_ok h1 r1 T)).mono ?_)
      rintro _ w45 ⟨⟨v42, rfl, G43⟩, hb46⟩
      refine ⟨_, rfl, ?_⟩
      have szw45 := hb46.size
      have T0w45 := T.size
      have Zo44_ob6 := ap_ne (Ap.new (OwF.flo G43) (one_hi B4.lt))
      have Zo44_ob10 := ap_ne (Ap.new (OwF.flo G43) (one_hi B8.lt))
      have B4 := blkT B4 hb46
      have B8 := blkT B8 hb46
      have T := Tt T hb46
      replace G43 := OwF.mono G43 T0w45
      refine RL.nil ⟨T, ?_⟩
      refine RT.y rfl rfl (Y.fieldAddr (off := 3) rfl (by kernel_rfl)) ?_
      refine RT.act rfl ?_
      obtain ⟨y47, e48, hm⟩ := bnd hm
      refine RL.call rfl (am1 rfl) (by kernel_rfl) ((c_m_slices_Clone_impl_Port_impl_Port d0.ports _ e48 _ _ (slArg portRd_ok h2 r2 T)).mono ?_)
      rintro _ w52 ⟨⟨v49, rfl, G50⟩, hb53⟩
      refine ⟨_, rfl, ?_⟩
      have szw52 := hb53.size
      have T0w52 := T.size
      have Zo51_ob6 := ap_ne (Ap.new (OwF.flo G50) (one_hi B4.lt))
      have Zo51_ob10 := ap_ne (Ap.new (OwF.flo G50) (one_hi B8.lt))
      have Zo51_o44 := Ap.dj (Ap.new (OwF.flo G50) (OwF.fhi G43))
      have B4 := blkT B4 hb53
      have B8 := blkT B8 hb53
      have G43 := OwF.below G43 hb53
      have T := Tt T hb53
      replace G50 := OwF.mono G50 T0w52
      refine RL.nil ⟨T, ?_⟩
      refine RT.act rfl ?_
      obtain ⟨A54, c55, rfl⟩ := OwF.form G43
      have qbA54 := OwF.bound G43
      refine RL.store (v := .slice A54 y40.length c55) (cs' := #[.int .i64 d0.kind, .int .i64 d0.level, .int .i64 d0.value, .slice A54 y40.length c55, .slice A2 d0.ports.length c2]) rfl rfl rfl B4 (by kernel_rfl) (by rfl) (by rfl) (by rfl) (fun w56 B57 ho58 => ?_)
      have szw56 := ho58.size
      have B8 := B8.only_ ho58 (by intro hin; simp at hin; exact Eob10_ob6.symm hin)
      have G43 := OwF.only G43 ho58 Zo44_ob6
      have G50 := OwF.only G50 ho58 Zo51_ob6
      have T := T.trans (ho58.below (by first | (simp; done) | (simp; omega)))
      refine RL.nil ⟨T, ?_⟩
      refine RT.y rfl rfl (Y.fieldAddr (off := 4) rfl (by kernel_rfl)) ?_
      refine RT.act rfl ?_
      obtain ⟨A59, c60, rfl⟩ := OwF.form G50
      have qbA59 := OwF.bound G50
      refine RL.store (v := .slice A59 y47.length c60) (cs' := #[.int .i64 d0.kind, .int .i64 d0.level, .int .i64 d0.value, .slice A54 y40.length c55, .slice A59 y47.length c60]) rfl rfl rfl B57 (by kernel_rfl) (by rfl) (by rfl) (by rfl) (fun w61 B62 ho63 => ?_)
      have szw61 := ho63.size
      have B8 := B8.only_ ho63 (by intro hin; simp at hin; exact Eob10_ob6.symm hin)
      have G43 := OwF.only G43 ho63 Zo44_ob6
      have G50 := OwF.only G50 ho63 Zo51_ob6
      have T := T.trans (ho63.below (by first | (simp; done) | (simp; omega)))
      refine RL.nil ⟨T, ?_⟩
      refine RT.nil_ ?_
      refine then_n ?_
      refine wp_seq ?_
      refine wp_rl rfl ?_
      refine RL.y rfl (Y.loadN (cs := [.int .i64 d0.kind, .int .i64 d0.level, .int .i64 d0.value, .slice A54 y40.length c55, .slice A59 y47.length c60]) rfl (by kernel_rfl) (cells5 (eqC (blkCell B62 (i := 0) rfl)) (eqC (blkCell B62 (i := 1) rfl)) (eqC (blkCell B62 (i := 2) rfl)) (eqC (blkCell B62 (i := 3) rfl)) (eqC (blkCell B62 (i := 4) rfl)))) ?_
      refine RL.store (v := .agg #[.int .i64 d0.kind, .int .i64 d0.level, .int .i64 d0.value, .slice A54 y40.length c55, .slice A59 y47.length c60]) (cs' := #[.int .i64 d0.kind, .int .i64 d0.level, .int .i64 d0.value, .slice A54 y40.length c55, .slice A59 y47.length c60]) rfl rfl rfl B8 (by kernel_rfl) (by rfl) (by rfl) (by rfl) (fun w64 B65 ho66 => ?_)
      have szw64 := ho66.size
      have B62 := B62.only_ ho66 (by intro hin; simp at hin; exact Eob10_ob6 hin)
      have G43 := OwF.only G43 ho66 Zo44_ob10
      have G50 := OwF.only G50 ho66 Zo51_ob10
      have T := T.trans (ho66.below (by first | (simp; done) | (simp; omega)))
      refine RL.nil ?_
      refine then_n ?_
      refine wp_ret ?_
      obtain rfl := Option.some.inj hm
      exact (retc (cs := [.int .i64 d0.kind, .int .i64 d0.level, .int .i64 d0.value, .slice A54 y40.length c55, .slice A59 y47.length c60]) rfl rfl rfl (by kernel_rfl) (blkCells B65) ⟨⟨_, _, rfl, G43, G50, (Ap.dj (Ap.symm (Dj.ap Zo51_o44)))⟩, T⟩)
  · refine RL.y rfl (Y.load (v := .slice A2 d0.ports.length c2) rfl (by kernel_rfl) (eqC (blkCell B4 (i := 4) rfl))) ?_
    refine RL.nil ⟨T, ?_⟩
    refine RT.act rfl ?_
    refine RL.y rfl (Y.load (v := .slice A1 d0.data.length c1) rfl (by kernel_rfl) (eqC (blkCell B4 (i := 3) rfl))) ?_
    refine RL.nil ⟨T, ?_⟩
    refine RT.act rfl ?_
    obtain ⟨y67, e68, hm⟩ := bnd hm
    refine RL.call rfl (am1 rfl) (by kernel_rfl) ((c_m_slices_Clone_int64_int64 d0.data _ e68 _ _ (slArg intRd_ok h1 r1 T)).mono ?_)
    rintro _ w72 ⟨⟨v69, rfl, G70⟩, hb73⟩
    refine ⟨_, rfl, ?_⟩
    have szw72 := hb73.size
    have T0w72 := T.size
    have Zo71_ob6 := ap_ne (Ap.new (OwF.flo G70) (one_hi B4.lt))
    have Zo71_ob10 := ap_ne (Ap.new (OwF.flo G70) (one_hi B8.lt))
    have B4 := blkT B4 hb73
    have B8 := blkT B8 hb73
    have T := Tt T hb73
    replace G70 := OwF.mono G70 T0w72
    refine RL.nil ⟨T, ?_⟩
    refine RT.y rfl rfl (Y.fieldAddr (off := 3) rfl (by kernel_rfl)) ?_
    refine RT.act rfl ?_
    obtain ⟨y74, e75, hm⟩ := bnd hm
    refine RL.call rfl (am1 rfl) (by kernel_rfl) ((c_m_slices_Clone_impl_Port_impl_Port d0.ports _ e75 _ _ (slArg portRd_ok h2 r2 T)).mono ?_)
    rintro _ w79 ⟨⟨v76, rfl, G77⟩, hb80⟩
    refine ⟨_, rfl, ?_⟩
    have szw79 := hb80.size
    have T0w79 := T.size
    have Zo78_ob6 := ap_ne (Ap.new (OwF.flo G77) (one_hi B4.lt))
    have Zo78_ob10 := ap_ne (Ap.new (OwF.flo G77) (one_hi B8.lt))
    have Zo78_o71 := Ap.dj (Ap.new (OwF.flo G77) (OwF.fhi G70))
    have B4 := blkT B4 hb80
    have B8 := blkT B8 hb80
    have G70 := OwF.below G70 hb80
    have T := Tt T hb80
    replace G77 := OwF.mono G77 T0w79
    refine RL.nil ⟨T, ?_⟩
    refine RT.act rfl ?_
    obtain ⟨A81, c82, rfl⟩ := OwF.form G70
    have qbA81 := OwF.bound G70
    refine RL.store (v := .slice A81 y67.length c82) (cs' := #[.int .i64 d0.kind, .int .i64 d0.level, .int .i64 d0.value, .slice A81 y67.length c82, .slice A2 d0.ports.length c2]) rfl rfl rfl B4 (by kernel_rfl) (by rfl) (by rfl) (by rfl) (fun w83 B84 ho85 => ?_)
    have szw83 := ho85.size
    have B8 := B8.only_ ho85 (by intro hin; simp at hin; exact Eob10_ob6.symm hin)
    have G70 := OwF.only G70 ho85 Zo71_ob6
    have G77 := OwF.only G77 ho85 Zo78_ob6
    have T := T.trans (ho85.below (by first | (simp; done) | (simp; omega)))
    refine RL.nil ⟨T, ?_⟩
    refine RT.y rfl rfl (Y.fieldAddr (off := 4) rfl (by kernel_rfl)) ?_
    refine RT.act rfl ?_
    obtain ⟨A86, c87, rfl⟩ := OwF.form G77
    have qbA86 := OwF.bound G77
    refine RL.store (v := .slice A86 y74.length c87) (cs' := #[.int .i64 d0.kind, .int .i64 d0.level, .int .i64 d0.value, .slice A81 y67.length c82, .slice A86 y74.length c87]) rfl rfl rfl B84 (by kernel_rfl) (by rfl) (by rfl) (by rfl) (fun w88 B89 ho90 => ?_)
    have szw88 := ho90.size
    have B8 := B8.only_ ho90 (by intro hin; simp at hin; exact Eob10_ob6.symm hin)
    have G70 := OwF.only G70 ho90 Zo71_ob6
    have G77 := OwF.only G77 ho90 Zo78_ob6
    have T := T.trans (ho90.below (by first | (simp; done) | (simp; omega)))
    refine RL.nil ⟨T, ?_⟩
    refine RT.nil_ ?_
    refine then_n ?_
    refine wp_seq ?_
    refine wp_rl rfl ?_
    refine RL.y rfl (Y.loadN (cs := [.int .i64 d0.kind, .int .i64 d0.level, .int .i64 d0.value, .slice A81 y67.length c82, .slice A86 y74.length c87]) rfl (by kernel_rfl) (cells5 (eqC (blkCell B89 (i := 0) rfl)) (eqC (blkCell B89 (i := 1) rfl)) (eqC (blkCell B89 (i := 2) rfl)) (eqC (blkCell B89 (i := 3) rfl)) (eqC (blkCell B89 (i := 4) rfl)))) ?_
    refine RL.store (v := .agg #[.int .i64 d0.kind, .int .i64 d0.level, .int .i64 d0.value, .slice A81 y67.length c82, .slice A86 y74.length c87]) (cs' := #[.int .i64 d0.kind, .int .i64 d0.level, .int .i64 d0.value, .slice A81 y67.length c82, .slice A86 y74.length c87]) rfl rfl rfl B8 (by kernel_rfl) (by rfl) (by rfl) (by rfl) (fun w91 B92 ho93 => ?_)
    have szw91 := ho93.size
    have B89 := B89.only_ ho93 (by intro hin; simp at hin; exact Eob10_ob6 hin)
    have G70 := OwF.only G70 ho93 Zo71_ob10
    have G77 := OwF.only G77 ho93 Zo78_ob10
    have T := T.trans (ho93.below (by first | (simp; done) | (simp; omega)))
    refine RL.nil ?_
    refine then_n ?_
    refine wp_ret ?_
    obtain rfl := Option.some.inj hm
    exact (retc (cs := [.int .i64 d0.kind, .int .i64 d0.level, .int .i64 d0.value, .slice A81 y67.length c82, .slice A86 y74.length c87]) rfl rfl rfl (by kernel_rfl) (blkCells B92) ⟨⟨_, _, rfl, G70, G77, (Ap.dj (Ap.symm (Dj.ap Zo78_o71)))⟩, T⟩)
end
section
open Go.RowKit
set_option linter.unusedVariables false
set_option linter.unusedSimpArgs false
theorem small_sz {xs : List DAgent} (hs : Small xs) {i : Nat} {x : DAgent} (hx : xs[i]? = some x) : x.data.length ≤ 1048576 ∧ x.ports.length ≤ 1048576 :=
  ⟨hs.data (List.mem_of_getElem? hx), hs.ports (List.mem_of_getElem? hx)⟩
theorem p_ownAgent {x : DAgent} (h : x.data.length ≤ 1048576 ∧ x.ports.length ≤ 1048576) : m_spec_l11OwnAgent x = some x := by
  unfold m_spec_l11OwnAgent m_spec_l00Own
  rw [mustP_ok (by simp; omega), Option.bind_some, Option.bind_some, mustP_ok (by simp; omega), Option.bind_some]
  rfl
theorem flat_id {α : Type} : ∀ l : List α, l.flatMap (fun x => [x]) = l
  | [] => rfl
  | a :: l => by rw [List.flatMap_cons, flat_id l]; rfl
theorem p_copyAgent {x : DAgent} (h : x.data.length ≤ 1048576 ∧ x.ports.length ≤ 1048576) : m_impl_copyAgent x = some x := by
  unfold m_impl_copyAgent m_slices_Clone_int64_int64 m_slices_Clone_impl_Port_impl_Port
  rw [mustP_ok (by simp; omega), Option.bind_some, Option.bind_some, mustP_ok (by simp; omega), Option.bind_some, Option.bind_some]
  rfl
/-- In the middle of the loop. -/
def midL {α : Type} (f : α → α) (xs : List α) (k : Nat) : List α := (xs.take k).map f ++ xs.drop k
section
variable {α : Type} {f : α → α} {xs : List α} {k : Nat}
theorem midL_len (hk : k ≤ xs.length) : (midL f xs k).length = xs.length := by unfold midL; rw [List.length_append, List.length_map, List.length_take, List.length_drop]; omega
theorem midL_zero : midL f xs 0 = xs := by simp [midL]
theorem midL_end : midL f xs xs.length = xs.map f := by simp [midL]
theorem midL_get {x : α} (hx : xs[k]? = some x) : (midL f xs k)[k]? = some x := by
  have hk := lt_of_some hx
  unfold midL
  rw [List.getElem?_append_right (by simp; omega)]
  simp
  rw [Nat.min_eq_left (by omega)]
  simpa using hx
theorem midL_step {x : α} (hx : xs[k]? = some x) : (midL f xs k).set k (f x) = midL f xs (k + 1) := by
  have hk := lt_of_some hx
  unfold midL
  have hl : ((xs.take k).map f).length = k := by simp; omega
  rw [List.set_append_right _ _ (by omega), hl, Nat.sub_self, drop_some hx, List.set_cons_zero, take_succ_some hx, List.map_append, List.append_assoc]
  rfl
end
end
end Go.Proofs.Ytampijkiidjcmaa
