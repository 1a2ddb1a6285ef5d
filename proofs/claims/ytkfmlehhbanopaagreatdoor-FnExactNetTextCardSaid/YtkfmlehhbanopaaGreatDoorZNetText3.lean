/- Lemmas of the proof of NetText, part 3. No condition. -/
import Derived.Test.YtkfmlehhbanopaaGreatDoorZNetText2
namespace Go.Proofs.YtkfmlehhbanopaaGreatDoor
section
open Go.RowKit
set_option linter.unusedVariables false
set_option linter.unusedSimpArgs false
set_option maxRecDepth 100000
def m_slices_IndexFunc_impl_Port_impl_Port_A1 : Option Int :=
  some (-1)
def m_slices_IndexFunc_impl_Port_impl_Port_B1 (d0 : List DPort) (d1 : DPort → Option Bool) (rec1 : Int → Option Int) (K1 : Option Int) (i2 : Int) : Option Int :=
  (bif (decide (i2 < (d0.length : Int))) then ((getI d0 i2).bind fun x5 => ((d1 x5).bind fun y14 => (bif y14 then some i2 else (rec1 (i2 + 1))))) else (K1))
def m_slices_IndexFunc_impl_Port_impl_Port_L1 (d0 : List DPort) (d1 : DPort → Option Bool) (K1 : Option Int) : Nat → Int → Option Int
  | 0, _ => none
  | g + 1, i2 => m_slices_IndexFunc_impl_Port_impl_Port_B1 d0 d1 (m_slices_IndexFunc_impl_Port_impl_Port_L1 d0 d1 K1 g) K1 i2
def m_slices_IndexFunc_impl_Port_impl_Port (d0 : List DPort) (d1 : DPort → Option Bool) : Option Int :=
  (m_slices_IndexFunc_impl_Port_impl_Port_L1 d0 d1 m_slices_IndexFunc_impl_Port_impl_Port_A1 (d0.length + 1) 0)
set_option maxHeartbeats 2000000 in
theorem c_m_slices_IndexFunc_impl_Port_impl_Port (d0 : List DPort) (d1 : DPort → Option Bool) (r : Int) (hm : m_slices_IndexFunc_impl_Port_impl_Port d0 d1 = some r) (v0 : Value) (gf1 : FuncId) (caps1 : Array Value) (w : World) (hv0 : Sl portRd 2 w v0 d0) (hgo1 : isGo Tryz.prog gf1 = true) (hf1 : ∀ (x0 : DPort) (b : Bool), d1 x0 = some b → ∀ w1, Below w.heap.size w w1 → Calls Tryz.prog gf1 (#[.agg #[.int .i64 x0.agent, .int .i64 x0.slot]] ++ caps1) w1 fun e w2 => e = .returned (.bool b) ∧ Below w1.heap.size w1 w2) :
    Calls Tryz.prog 67 #[v0, .func (.func gf1) #[] caps1] w fun e w' => e = .returned (.int .i64 r) ∧ Below w.heap.size w w' := by
  obtain ⟨Aa0, na0, ca0, rfl, ha0, ra0⟩ := hv0
  have ea0 := ha0.len; subst ea0
  have qa0 := len_le ra0
  have T := Below.refl w.heap.size w
  unfold m_slices_IndexFunc_impl_Port_impl_Port at hm
  refine enter 19 Tryz.func67 rfl rfl rfl ?_
  intro f hf
  have s0 : f 0 = .slice Aa0 d0.length ca0 := hf 0 _ rfl
  have s1 : f 1 = .func (.func gf1) #[] caps1 := hf 1 _ rfl
  refine wp_seq ?_
  refine wp_rs rfl ?_
  refine RQ.y rfl (Y.assign (v := .int .i64 0) rfl) ?_
  refine RQ.nil ?_
  refine then_n ?_
  refine wp_seq ?_
  refine wp_seq ?_
  refine wp_rs rfl ?_
  refine RQ.y rfl (Y.move (v := .slice Aa0 d0.length ca0) s0) ?_
  refine RQ.y rfl (Y.len (by kernel_rfl) rfl) ?_
  refine RQ.y rfl (Y.move (v := .int .i64 0) rfl) ?_
  refine RQ.nil ?_
  refine then_n ?_
  refine wp_block ?_
  obtain ⟨K1, hK1, hm⟩ : ∃ K, K = m_slices_IndexFunc_impl_Port_impl_Port_A1 ∧ m_slices_IndexFunc_impl_Port_impl_Port_L1 d0 d1 K (d0.length + 1) 0 = some r := ⟨_, rfl, hm⟩
  refine wp_loopX (fun g f w' => ∃ (i2 : Int), f 0 = .slice Aa0 d0.length ca0 ∧ f 1 = .func (.func gf1) #[] caps1 ∧ f 7 = .int .i64 (d0.length : Int) ∧ f 8 = .int .i64 i2 ∧ 0 ≤ i2 ∧ Below w.heap.size w w' ∧ m_slices_IndexFunc_impl_Port_impl_Port_L1 d0 d1 K1 g i2 = some r) 0 (fun f w' => Below w.heap.size w w' ∧ m_slices_IndexFunc_impl_Port_impl_Port_A1  = some r) (d0.length + 1) ⟨0, s0, s1, rfl, rfl, (by omega), T, hm⟩ ?_ ?_
  · rintro f w1 ⟨T, hm⟩
    unfold m_slices_IndexFunc_impl_Port_impl_Port_A1 at hm
    refine blk_hit (then_n ?_)
    refine wp_seq ?_
    refine wp_rs rfl ?_
    refine RQ.y rfl (Y.assign (v := .int .i64 (-1)) rfl) ?_
    refine RQ.nil ?_
    refine then_n ?_
    refine wp_ret ?_
    obtain rfl := Option.some.inj hm
    exact (ret1 rfl rfl rfl ⟨rfl, T⟩)
  · rintro g f w3 ⟨i2, s0_1, s1_1, s7_1, s8_1, nn8_1, T, hm⟩
    rcases g with _ | g
    · simp only [m_slices_IndexFunc_impl_Port_impl_Port_L1] at hm; cases hm
    obtain ⟨rec1, hrec1, hm⟩ : ∃ z, z = m_slices_IndexFunc_impl_Port_impl_Port_L1 d0 d1 K1 g ∧ m_slices_IndexFunc_impl_Port_impl_Port_B1 d0 d1 z K1 i2 = some r := ⟨_, rfl, hm⟩
    unfold m_slices_IndexFunc_impl_Port_impl_Port_B1 at hm
    refine wp_seq ?_
    refine wp_rs rfl ?_
    refine RQ.y rfl (Y.binI (v := .bool (decide (i2 < (d0.length : Int)))) s8_1 s7_1 rfl) ?_
    refine RQ.nil ?_
    refine then_n ?_
    refine wp_seq ?_
    rcases bcases (decide (i2 < (d0.length : Int))) with c4 | c4
    · replace hm := cF c4 hm
      have pc4 := of_decide_eq_false c4
      refine cond_f rfl (vb rfl c4) ?_
      refine wp_exit ?_
      exact (then_x (then_x (hit_x ⟨_, rfl, ⟨T, (by rw [hK1] at hm; exact hm)⟩⟩)))
    · replace hm := cT c4 hm
      have pc4 := of_decide_eq_true c4
      refine cond_t rfl (vb rfl c4) ?_
      refine wp_skip ?_
      refine then_n ?_
      refine wp_seq ?_
      refine wp_block ?_
      refine wp_seq ?_
      refine wp_rs rfl ?_
      refine RQ.y rfl (Y.move (v := .int .i64 i2) s8_1) ?_
      refine RQ.y rfl (Y.assign (v := .int .i64 i2) rfl) ?_
      refine RQ.nil ?_
      refine then_n ?_
      refine wp_seq ?_
      refine wp_rb rfl ?_
      refine RQ.y rfl (Y.move (v := .func (.func gf1) #[] caps1) s1_1) ?_
      refine RQ.y rfl (Y.move (v := .slice Aa0 d0.length ca0) s0_1) ?_
      refine RQ.y rfl (Y.move (v := .int .i64 i2) rfl) ?_
      obtain ⟨x5, hx8, hm⟩ := bnd hm
      obtain ⟨k6, hk9, hl10, hx8⟩ := getI_some hx8
      obtain ⟨b12, o13, rfl, hbb12⟩ := ha0.addr (by omega)
      obtain ⟨cs7, hRcs7, hc11⟩ := ha0.el hx8
      have hScs7 := hRcs7
      obtain rfl := hRcs7
      refine RQ.y rfl (Y.indexAddr (m := k6) (sz := 2) rfl rfl hk9 hl10 (by kernel_rfl)) ?_
      refine RQ.y rfl (Y.loadN (cs := [.int .i64 x5.agent, .int .i64 x5.slot]) rfl (by kernel_rfl) (cells2 (beC (cellT T (hc11 0 _ rfl))) (beC (cellT T (hc11 1 _ rfl))))) ?_
      obtain ⟨y14, e15, hm⟩ := bnd hm
      refine RQ.callV rfl rfl (am1 rfl) hgo1 (v := .bool y14) (bel (K := fun _ => True) fun w' hb' => hf1 x5 y14 e15 w' (Tt T hb')) ?_
      refine RQ.nil ?_
      intro w16 hb17
      have szw16 := hb17.size
      have T := Tt T hb17
      refine then_n ?_
      rcases bcases y14 with c18 | c18
      · replace hm := cF c18 hm
        refine cond_f rfl (vb rfl c18) ?_
        refine wp_skip ?_
        refine blk_n (then_n ?_)
        refine wp_rs rfl ?_
        refine RQ.y rfl (Y.binI s8_1 rfl (binI_add (m := i2) (by omega))) ?_
        refine RQ.y rfl (Y.move (v := .int .i64 (i2 + 1)) rfl) ?_
        refine RQ.nil ?_
        exact (then_n ⟨g, _, Nat.lt_succ_self _, rfl, ⟨(i2 + 1), s0_1, s1_1, s7_1, rfl, (by omega), T, (by rw [← hrec1]; exact hm)⟩⟩)
      · replace hm := cT c18 hm
        refine cond_t rfl (vb rfl c18) ?_
        refine wp_seq ?_
        refine wp_rs rfl ?_
        refine RQ.y rfl (Y.move (v := .int .i64 i2) rfl) ?_
        refine RQ.y rfl (Y.assign (v := .int .i64 i2) rfl) ?_
        refine RQ.nil ?_
        refine then_n ?_
        refine wp_ret ?_
        obtain rfl := Option.some.inj hm
        exact (blk_r (then_r (then_r (hit_r (blk_r (then_r (ret1 rfl rfl rfl ⟨rfl, T⟩)))))))
def m_slices_ContainsFunc_impl_Port_impl_Port (d0 : List DPort) (d1 : DPort → Option Bool) : Option Bool :=
  ((m_slices_IndexFunc_impl_Port_impl_Port d0 d1).bind fun y1 => some (decide (y1 ≥ 0)))
set_option maxHeartbeats 2000000 in
theorem c_m_slices_ContainsFunc_impl_Port_impl_Port (d0 : List DPort) (d1 : DPort → Option Bool) (r : Bool) (hm : m_slices_ContainsFunc_impl_Port_impl_Port d0 d1 = some r) (v0 : Value) (gf1 : FuncId) (caps1 : Array Value) (w : World) (hv0 : Sl portRd 2 w v0 d0) (hgo1 : isGo Tryz.prog gf1 = true) (hf1 : ∀ (x0 : DPort) (b : Bool), d1 x0 = some b → ∀ w1, Below w.heap.size w w1 → Calls Tryz.prog gf1 (#[.agg #[.int .i64 x0.agent, .int .i64 x0.slot]] ++ caps1) w1 fun e w2 => e = .returned (.bool b) ∧ Below w1.heap.size w1 w2) :
    Calls Tryz.prog 33 #[v0, .func (.func gf1) #[] caps1] w fun e w' => e = .returned (.bool r) ∧ Below w.heap.size w w' := by
  obtain ⟨Aa0, na0, ca0, rfl, ha0, ra0⟩ := hv0
  have ea0 := ha0.len; subst ea0
  have qa0 := len_le ra0
  have T := Below.refl w.heap.size w
  unfold m_slices_ContainsFunc_impl_Port_impl_Port at hm
  refine enter 9 Tryz.func33 rfl rfl rfl ?_
  intro f hf
  have s0 : f 0 = .slice Aa0 d0.length ca0 := hf 0 _ rfl
  have s1 : f 1 = .func (.func gf1) #[] caps1 := hf 1 _ rfl
  refine wp_seq ?_
  refine wp_rs rfl ?_
  refine RQ.y rfl (Y.assign (v := .bool false) rfl) ?_
  refine RQ.nil ?_
  refine then_n ?_
  refine wp_seq ?_
  refine wp_rb rfl ?_
  refine RQ.y rfl (Y.move (v := .slice Aa0 d0.length ca0) s0) ?_
  refine RQ.y rfl (Y.move (v := .func (.func gf1) #[] caps1) s1) ?_
  obtain ⟨y1, e2, hm⟩ := bnd hm
  refine RQ.call rfl (am2 rfl rfl) (by kernel_rfl) (v := .int .i64 y1) (bel (K := fun _ => True) fun w' hb' => (c_m_slices_IndexFunc_impl_Port_impl_Port d0 d1 _ e2 _ _ _ w' (slArg portRd_ok ha0 ra0 (Tt T hb')) hgo1 (fun x0 b hx w1 hb1 => hf1 x0 b hx w1 (Tt (Tt T hb') hb1)))) ?_
  refine RQ.y rfl (Y.binI (v := .bool (decide (y1 ≥ 0))) rfl rfl rfl) ?_
  refine RQ.y rfl (Y.assign (v := .bool (decide (y1 ≥ 0))) rfl) ?_
  refine RQ.nil ?_
  intro w3 hb4
  have szw3 := hb4.size
  have T := Tt T hb4
  refine then_n ?_
  refine wp_ret ?_
  obtain rfl := Option.some.inj hm
  exact (ret1 rfl rfl rfl ⟨rfl, T⟩)
def m_slices_IndexFunc_int64_int64_A1 : Option Int :=
  some (-1)
def m_slices_IndexFunc_int64_int64_B1 (d0 : List Int) (d1 : Int → Option Bool) (rec1 : Int → Option Int) (K1 : Option Int) (i2 : Int) : Option Int :=
  (bif (decide (i2 < (d0.length : Int))) then ((getI d0 i2).bind fun x5 => ((d1 x5).bind fun y14 => (bif y14 then some i2 else (rec1 (i2 + 1))))) else (K1))
def m_slices_IndexFunc_int64_int64_L1 (d0 : List Int) (d1 : Int → Option Bool) (K1 : Option Int) : Nat → Int → Option Int
  | 0, _ => none
  | g + 1, i2 => m_slices_IndexFunc_int64_int64_B1 d0 d1 (m_slices_IndexFunc_int64_int64_L1 d0 d1 K1 g) K1 i2
def m_slices_IndexFunc_int64_int64 (d0 : List Int) (d1 : Int → Option Bool) : Option Int :=
  (m_slices_IndexFunc_int64_int64_L1 d0 d1 m_slices_IndexFunc_int64_int64_A1 (d0.length + 1) 0)
set_option maxHeartbeats 2000000 in
theorem c_m_slices_IndexFunc_int64_int64 (d0 : List Int) (d1 : Int → Option Bool) (r : Int) (hm : m_slices_IndexFunc_int64_int64 d0 d1 = some r) (v0 : Value) (gf1 : FuncId) (caps1 : Array Value) (w : World) (hv0 : Sl intRd 1 w v0 d0) (hgo1 : isGo Tryz.prog gf1 = true) (hf1 : ∀ (x0 : Int) (b : Bool), d1 x0 = some b → ∀ w1, Below w.heap.size w w1 → Calls Tryz.prog gf1 (#[.int .i64 x0] ++ caps1) w1 fun e w2 => e = .returned (.bool b) ∧ Below w1.heap.size w1 w2) :
    Calls Tryz.prog 117 #[v0, .func (.func gf1) #[] caps1] w fun e w' => e = .returned (.int .i64 r) ∧ Below w.heap.size w w' := by
  obtain ⟨Aa0, na0, ca0, rfl, ha0, ra0⟩ := hv0
  have ea0 := ha0.len; subst ea0
  have qa0 := len_le ra0
  have T := Below.refl w.heap.size w
  unfold m_slices_IndexFunc_int64_int64 at hm
  refine enter 19 Tryz.func117 rfl rfl rfl ?_
  intro f hf
  have s0 : f 0 = .slice Aa0 d0.length ca0 := hf 0 _ rfl
  have s1 : f 1 = .func (.func gf1) #[] caps1 := hf 1 _ rfl
  refine wp_seq ?_
  refine wp_rs rfl ?_
  refine RQ.y rfl (Y.assign (v := .int .i64 0) rfl) ?_
  refine RQ.nil ?_
  refine then_n ?_
  refine wp_seq ?_
  refine wp_seq ?_
  refine wp_rs rfl ?_
  refine RQ.y rfl (Y.move (v := .slice Aa0 d0.length ca0) s0) ?_
  refine RQ.y rfl (Y.len (by kernel_rfl) rfl) ?_
  refine RQ.y rfl (Y.move (v := .int .i64 0) rfl) ?_
  refine RQ.nil ?_
  refine then_n ?_
  refine wp_block ?_
  obtain ⟨K1, hK1, hm⟩ : ∃ K, K = m_slices_IndexFunc_int64_int64_A1 ∧ m_slices_IndexFunc_int64_int64_L1 d0 d1 K (d0.length + 1) 0 = some r := ⟨_, rfl, hm⟩
  refine wp_loopX (fun g f w' => ∃ (i2 : Int), f 0 = .slice Aa0 d0.length ca0 ∧ f 1 = .func (.func gf1) #[] caps1 ∧ f 7 = .int .i64 (d0.length : Int) ∧ f 8 = .int .i64 i2 ∧ 0 ≤ i2 ∧ Below w.heap.size w w' ∧ m_slices_IndexFunc_int64_int64_L1 d0 d1 K1 g i2 = some r) 0 (fun f w' => Below w.heap.size w w' ∧ m_slices_IndexFunc_int64_int64_A1  = some r) (d0.length + 1) ⟨0, s0, s1, rfl, rfl, (by omega), T, hm⟩ ?_ ?_
  · rintro f w1 ⟨T, hm⟩
    unfold m_slices_IndexFunc_int64_int64_A1 at hm
    refine blk_hit (then_n ?_)
    refine wp_seq ?_
    refine wp_rs rfl ?_
    refine RQ.y rfl (Y.assign (v := .int .i64 (-1)) rfl) ?_
    refine RQ.nil ?_
    refine then_n ?_
    refine wp_ret ?_
    obtain rfl := Option.some.inj hm
    exact (ret1 rfl rfl rfl ⟨rfl, T⟩)
  · rintro g f w3 ⟨i2, s0_1, s1_1, s7_1, s8_1, nn8_1, T, hm⟩
    rcases g with _ | g
    · simp only [m_slices_IndexFunc_int64_int64_L1] at hm; cases hm
    obtain ⟨rec1, hrec1, hm⟩ : ∃ z, z = m_slices_IndexFunc_int64_int64_L1 d0 d1 K1 g ∧ m_slices_IndexFunc_int64_int64_B1 d0 d1 z K1 i2 = some r := ⟨_, rfl, hm⟩
    unfold m_slices_IndexFunc_int64_int64_B1 at hm
    refine wp_seq ?_
    refine wp_rs rfl ?_
    refine RQ.y rfl (Y.binI (v := .bool (decide (i2 < (d0.length : Int)))) s8_1 s7_1 rfl) ?_
    refine RQ.nil ?_
    refine then_n ?_
    refine wp_seq ?_
    rcases bcases (decide (i2 < (d0.length : Int))) with c4 | c4
    · replace hm := cF c4 hm
      have pc4 := of_decide_eq_false c4
      refine cond_f rfl (vb rfl c4) ?_
      refine wp_exit ?_
      exact (then_x (then_x (hit_x ⟨_, rfl, ⟨T, (by rw [hK1] at hm; exact hm)⟩⟩)))
    · replace hm := cT c4 hm
      have pc4 := of_decide_eq_true c4
      refine cond_t rfl (vb rfl c4) ?_
      refine wp_skip ?_
      refine then_n ?_
      refine wp_seq ?_
      refine wp_block ?_
      refine wp_seq ?_
      refine wp_rs rfl ?_
      refine RQ.y rfl (Y.move (v := .int .i64 i2) s8_1) ?_
      refine RQ.y rfl (Y.assign (v := .int .i64 i2) rfl) ?_
      refine RQ.nil ?_
      refine then_n ?_
      refine wp_seq ?_
      refine wp_rb rfl ?_
      refine RQ.y rfl (Y.move (v := .func (.func gf1) #[] caps1) s1_1) ?_
      refine RQ.y rfl (Y.move (v := .slice Aa0 d0.length ca0) s0_1) ?_
      refine RQ.y rfl (Y.move (v := .int .i64 i2) rfl) ?_
      obtain ⟨x5, hx8, hm⟩ := bnd hm
      obtain ⟨k6, hk9, hl10, hx8⟩ := getI_some hx8
      obtain ⟨b12, o13, rfl, hbb12⟩ := ha0.addr (by omega)
      obtain ⟨cs7, hRcs7, hc11⟩ := ha0.el hx8
      have hScs7 := hRcs7
      obtain rfl := hRcs7
      refine RQ.y rfl (Y.indexAddr (m := k6) (sz := 1) rfl rfl hk9 hl10 (by kernel_rfl)) ?_
      refine RQ.y rfl (Y.load (v := .int .i64 x5) rfl (by kernel_rfl) (beC (cellT T (hc11 0 _ rfl)))) ?_
      obtain ⟨y14, e15, hm⟩ := bnd hm
      refine RQ.callV rfl rfl (am1 rfl) hgo1 (v := .bool y14) (bel (K := fun _ => True) fun w' hb' => hf1 x5 y14 e15 w' (Tt T hb')) ?_
      refine RQ.nil ?_
      intro w16 hb17
      have szw16 := hb17.size
      have T := Tt T hb17
      refine then_n ?_
      rcases bcases y14 with c18 | c18
      · replace hm := cF c18 hm
        refine cond_f rfl (vb rfl c18) ?_
        refine wp_skip ?_
        refine blk_n (then_n ?_)
        refine wp_rs rfl ?_
        refine RQ.y rfl (Y.binI s8_1 rfl (binI_add (m := i2) (by omega))) ?_
        refine RQ.y rfl (Y.move (v := .int .i64 (i2 + 1)) rfl) ?_
        refine RQ.nil ?_
        exact (then_n ⟨g, _, Nat.lt_succ_self _, rfl, ⟨(i2 + 1), s0_1, s1_1, s7_1, rfl, (by omega), T, (by rw [← hrec1]; exact hm)⟩⟩)
      · replace hm := cT c18 hm
        refine cond_t rfl (vb rfl c18) ?_
        refine wp_seq ?_
        refine wp_rs rfl ?_
        refine RQ.y rfl (Y.move (v := .int .i64 i2) rfl) ?_
        refine RQ.y rfl (Y.assign (v := .int .i64 i2) rfl) ?_
        refine RQ.nil ?_
        refine then_n ?_
        refine wp_ret ?_
        obtain rfl := Option.some.inj hm
        exact (blk_r (then_r (then_r (hit_r (blk_r (then_r (ret1 rfl rfl rfl ⟨rfl, T⟩)))))))
def m_slices_ContainsFunc_int64_int64 (d0 : List Int) (d1 : Int → Option Bool) : Option Bool :=
  ((m_slices_IndexFunc_int64_int64 d0 d1).bind fun y1 => some (decide (y1 ≥ 0)))
set_option maxHeartbeats 2000000 in
theorem c_m_slices_ContainsFunc_int64_int64 (d0 : List Int) (d1 : Int → Option Bool) (r : Bool) (hm : m_slices_ContainsFunc_int64_int64 d0 d1 = some r) (v0 : Value) (gf1 : FuncId) (caps1 : Array Value) (w : World) (hv0 : Sl intRd 1 w v0 d0) (hgo1 : isGo Tryz.prog gf1 = true) (hf1 : ∀ (x0 : Int) (b : Bool), d1 x0 = some b → ∀ w1, Below w.heap.size w w1 → Calls Tryz.prog gf1 (#[.int .i64 x0] ++ caps1) w1 fun e w2 => e = .returned (.bool b) ∧ Below w1.heap.size w1 w2) :
    Calls Tryz.prog 99 #[v0, .func (.func gf1) #[] caps1] w fun e w' => e = .returned (.bool r) ∧ Below w.heap.size w w' := by
  obtain ⟨Aa0, na0, ca0, rfl, ha0, ra0⟩ := hv0
  have ea0 := ha0.len; subst ea0
  have qa0 := len_le ra0
  have T := Below.refl w.heap.size w
  unfold m_slices_ContainsFunc_int64_int64 at hm
  refine enter 9 Tryz.func99 rfl rfl rfl ?_
  intro f hf
  have s0 : f 0 = .slice Aa0 d0.length ca0 := hf 0 _ rfl
  have s1 : f 1 = .func (.func gf1) #[] caps1 := hf 1 _ rfl
  refine wp_seq ?_
  refine wp_rs rfl ?_
  refine RQ.y rfl (Y.assign (v := .bool false) rfl) ?_
  refine RQ.nil ?_
  refine then_n ?_
  refine wp_seq ?_
  refine wp_rb rfl ?_
  refine RQ.y rfl (Y.move (v := .slice Aa0 d0.length ca0) s0) ?_
  refine RQ.y rfl (Y.move (v := .func (.func gf1) #[] caps1) s1) ?_
  obtain ⟨y1, e2, hm⟩ := bnd hm
  refine RQ.call rfl (am2 rfl rfl) (by kernel_rfl) (v := .int .i64 y1) (bel (K := fun _ => True) fun w' hb' => (c_m_slices_IndexFunc_int64_int64 d0 d1 _ e2 _ _ _ w' (slArg intRd_ok ha0 ra0 (Tt T hb')) hgo1 (fun x0 b hx w1 hb1 => hf1 x0 b hx w1 (Tt (Tt T hb') hb1)))) ?_
  refine RQ.y rfl (Y.binI (v := .bool (decide (y1 ≥ 0))) rfl rfl rfl) ?_
  refine RQ.y rfl (Y.assign (v := .bool (decide (y1 ≥ 0))) rfl) ?_
  refine RQ.nil ?_
  intro w3 hb4
  have szw3 := hb4.size
  have T := Tt T hb4
  refine then_n ?_
  refine wp_ret ?_
  obtain rfl := Option.some.inj hm
  exact (ret1 rfl rfl rfl ⟨rfl, T⟩)
def m_impl_ValidNet_1 (d0 : DPort) (d1 : DNet) : Option Bool :=
  ((m_impl_Net_peer d1 d0).bind fun y6 => (bif (y6.agent == d0.agent && y6.slot == d0.slot) then some true else ((m_impl_hasPort d1.agents y6).bind fun y18 => (bif y18 then ((m_impl_Net_peer d1 y6).bind fun y23 => some (!(y23.agent == d0.agent && y23.slot == d0.slot))) else some true))))
set_option maxHeartbeats 2000000 in
theorem c_m_impl_ValidNet_1 (d0 : DPort) (d1 : DNet) (r : Bool) (hm : m_impl_ValidNet_1 d0 d1 = some r) (v1 : Value) (w : World) (hv1 : Pt netRd w v1 d1) :
    Calls Tryz.prog 35 #[.agg #[.int .i64 d0.agent, .int .i64 d0.slot], v1] w fun e w' => e = .returned (.bool r) ∧ Below w.heap.size w w' := by
  obtain ⟨ba1, oa1, csa1, rfl, hba1, hRa1, hca1⟩ := hv1
  have hSa1 := hRa1
  obtain ⟨A1, n1, c1, rfl, ⟨h1, r1⟩⟩ := hRa1
  have e1 := h1.len; subst e1
  have q1 := len_le r1
  have T := Below.refl w.heap.size w
  unfold m_impl_ValidNet_1 at hm
  refine enter 23 Tryz.func35 rfl rfl rfl ?_
  intro f hf
  have s0 : f 0 = .agg #[.int .i64 d0.agent, .int .i64 d0.slot] := hf 0 _ rfl
  have s1 : f 1 = .pointer (some ⟨ba1, oa1, none⟩) := hf 1 _ rfl
  refine wp_seq ?_
  refine wp_rl rfl ?_
  refine RL.box rfl s0 (fun w2 B3 hb4 szw2 => ?_)
  replace B3 : Blk w2 w.heap.size 61 #[.int .i64 d0.agent, .int .i64 d0.slot] := B3
  have GB3 : w.heap.size ≤ w.heap.size := T.size
  have T := Tt T hb4
  refine RL.y rfl (Y.assign (v := .bool false) rfl) ?_
  refine RL.nil ?_
  refine then_n ?_
  refine wp_seq ?_
  refine wp_rl rfl ?_
  refine RL.y rfl (Y.loadN (cs := [.int .i64 d0.agent, .int .i64 d0.slot]) rfl (by kernel_rfl) (cells2 (eqC (blkCell B3 (i := 0) rfl)) (eqC (blkCell B3 (i := 1) rfl)))) ?_
  obtain ⟨y6, e7, hm⟩ := bnd hm
  refine RL.call rfl (am2 s1 rfl) (by kernel_rfl) ((c_m_impl_Net_peer d1 d0 _ e7 _ _ (ptArg netRd_ok hba1 hSa1 hca1 T)).mono ?_)
  rintro _ w8 ⟨rfl, hb9⟩
  refine ⟨_, rfl, ?_⟩
  have szw8 := hb9.size
  have B3 := blkT B3 hb9
  have T := Tt T hb9
  refine RL.alloc (z := .agg #[.int .i64 0, .int .i64 0]) rfl (by kernel_rfl) (fun w10 B11 hb12 szw10 => ?_)
  replace B11 : Blk w10 w8.heap.size 61 #[.int .i64 0, .int .i64 0] := B11
  have GB11 : w.heap.size ≤ w8.heap.size := T.size
  have Eob13_ob5 := Nat.ne_of_lt B3.lt
  have B3 := blkT B3 hb12
  have T := Tt T hb12
  refine RL.store (v := .agg #[.int .i64 y6.agent, .int .i64 y6.slot]) (cs' := #[.int .i64 y6.agent, .int .i64 y6.slot]) rfl rfl rfl B11 (by kernel_rfl) (by rfl) (by rfl) (by rfl) (fun w14 B15 ho16 => ?_)
  have szw14 := ho16.size
  have B3 := B3.only_ ho16 (by intro hin; simp at hin; exact Eob13_ob5 hin)
  have T := T.trans (ho16.below (by simp; omega))
  refine RL.nil ?_
  refine then_n ?_
  refine wp_seq ?_
  refine wp_rbd (by kernel_rfl) (by kernel_rfl) ?_
  refine RQ.y rfl (Y.loadN (cs := [.int .i64 y6.agent, .int .i64 y6.slot]) rfl (by kernel_rfl) (cells2 (beC (blkCell B15 (i := 0) rfl)) (beC (blkCell B15 (i := 1) rfl)))) ?_
  refine RQ.y rfl (Y.loadN (cs := [.int .i64 d0.agent, .int .i64 d0.slot]) rfl (by kernel_rfl) (cells2 (beC (blkCell B3 (i := 0) rfl)) (beC (blkCell B3 (i := 1) rfl)))) ?_
  refine RQ.y rfl (Y.eqS (b := (y6.agent == d0.agent && y6.slot == d0.slot)) rfl rfl (eqPort_run _ _ _ _) (eqGuardPort_run _ _ _ _ _)) ?_
  refine RQ.y rfl (Y.move (v := .bool (y6.agent == d0.agent && y6.slot == d0.slot)) rfl) ?_
  rcases bcases (y6.agent == d0.agent && y6.slot == d0.slot) with c17 | c17
  · replace hm := cF c17 hm
    refine RQ.y (wantT (dj := 10) rfl (vb rfl c17)) (Y.fieldAddr (off := 0) s1 (by kernel_rfl)) ?_
    refine RQ.y (wantT (dj := 10) rfl (vb rfl c17)) (Y.load (v := .slice A1 d1.agents.length c1) rfl (by kernel_rfl) (beC (cellT T (hca1 0 _ rfl)))) ?_
    refine RQ.y (wantT (dj := 10) rfl (vb rfl c17)) (Y.loadN (cs := [.int .i64 y6.agent, .int .i64 y6.slot]) rfl (by kernel_rfl) (cells2 (beC (blkCell B15 (i := 0) rfl)) (beC (blkCell B15 (i := 1) rfl)))) ?_
    obtain ⟨y18, e19, hm⟩ := bnd hm
    refine RQ.call (wantT (dj := 10) rfl (vb rfl c17)) (am2 rfl rfl) (by kernel_rfl) (v := .bool y18) (bel (K := fun _ => True) fun w' hb' => (c_m_impl_hasPort d1.agents y6 _ e19 _ w' (slArg agentRd_ok h1 r1 (Tt T hb')))) ?_
    refine RQ.y (wantT (dj := 10) rfl (vb rfl c17)) (Y.not (b' := (!y18)) rfl rfl) ?_
    refine RQ.y rfl (Y.pick (b := false) (v := .bool (!y18)) (vb rfl c17) rfl) ?_
    refine RQ.y rfl (Y.move (v := .bool (!y18)) rfl) ?_
    rcases bcases y18 with c20 | c20
    · replace hm := cF c20 hm
      refine RQ.skip (wantN (dj := 17) rfl (vbn rfl c20 rfl) rfl) ?_
      refine RQ.skip (wantN (dj := 17) rfl (vbn rfl c20 rfl) rfl) ?_
      refine RQ.skip (wantN (dj := 17) rfl (vbn rfl c20 rfl) rfl) ?_
      refine RQ.skip (wantN (dj := 17) rfl (vbn rfl c20 rfl) rfl) ?_
      refine RQ.y rfl (Y.pick (b := true) (v := .bool true) (vbn rfl c20 rfl) rfl) ?_
      refine RQ.y rfl (Y.assign (v := .bool true) rfl) ?_
      refine RQ.nil ?_
      intro w21 hb22
      have szw21 := hb22.size
      have T := Tt T hb22
      refine then_n ?_
      refine wp_ret ?_
      obtain rfl := Option.some.inj hm
      exact (ret1 rfl rfl rfl ⟨rfl, T⟩)
    · replace hm := cT c20 hm
      refine RQ.y (wantT (dj := 17) rfl (vbn rfl c20 rfl)) (Y.loadN (cs := [.int .i64 y6.agent, .int .i64 y6.slot]) rfl (by kernel_rfl) (cells2 (beC (blkCell B15 (i := 0) rfl)) (beC (blkCell B15 (i := 1) rfl)))) ?_
      obtain ⟨y23, e24, hm⟩ := bnd hm
      refine RQ.call (wantT (dj := 17) rfl (vbn rfl c20 rfl)) (am2 s1 rfl) (by kernel_rfl) (v := .agg #[.int .i64 y23.agent, .int .i64 y23.slot]) (bel (K := fun _ => True) fun w' hb' => (c_m_impl_Net_peer d1 y6 _ e24 _ w' (ptArg netRd_ok hba1 hSa1 hca1 (Tt T hb')))) ?_
      refine RQ.y (wantT (dj := 17) rfl (vbn rfl c20 rfl)) (Y.loadN (cs := [.int .i64 d0.agent, .int .i64 d0.slot]) rfl (by kernel_rfl) (cells2 (beC (blkCell B3 (i := 0) rfl)) (beC (blkCell B3 (i := 1) rfl)))) ?_
      refine RQ.y (wantT (dj := 17) rfl (vbn rfl c20 rfl)) (Y.neS (b := (y23.agent == d0.agent && y23.slot == d0.slot)) rfl rfl (eqPort_run _ _ _ _) (eqGuardPort_run _ _ _ _ _)) ?_
      refine RQ.y rfl (Y.pick (b := false) (v := .bool (!(y23.agent == d0.agent && y23.slot == d0.slot))) (vbn rfl c20 rfl) rfl) ?_
      refine RQ.y rfl (Y.assign (v := .bool (!(y23.agent == d0.agent && y23.slot == d0.slot))) rfl) ?_
      refine RQ.nil ?_
      intro w25 hb26
      have szw25 := hb26.size
      have T := Tt T hb26
      refine then_n ?_
      refine wp_ret ?_
      obtain rfl := Option.some.inj hm
      exact (ret1 rfl rfl rfl ⟨rfl, T⟩)
  · replace hm := cT c17 hm
    refine RQ.skip (wantN (dj := 10) rfl (vb rfl c17) rfl) ?_
    refine RQ.skip (wantN (dj := 10) rfl (vb rfl c17) rfl) ?_
    refine RQ.skip (wantN (dj := 10) rfl (vb rfl c17) rfl) ?_
    refine RQ.skip (wantN (dj := 10) rfl (vb rfl c17) rfl) ?_
    refine RQ.skip (wantN (dj := 10) rfl (vb rfl c17) rfl) ?_
    refine RQ.y rfl (Y.pick (b := true) (v := .bool true) (vb rfl c17) rfl) ?_
    refine RQ.y rfl (Y.move (v := .bool true) rfl) ?_
    refine RQ.skip (wantN (dj := 17) rfl rfl rfl) ?_
    refine RQ.skip (wantN (dj := 17) rfl rfl rfl) ?_
    refine RQ.skip (wantN (dj := 17) rfl rfl rfl) ?_
    refine RQ.skip (wantN (dj := 17) rfl rfl rfl) ?_
    refine RQ.y rfl (Y.pick (b := true) (v := .bool true) rfl rfl) ?_
    refine RQ.y rfl (Y.assign (v := .bool true) rfl) ?_
    refine RQ.nil ?_
    intro w27 hb28
    have szw27 := hb28.size
    have T := Tt T hb28
    refine then_n ?_
    refine wp_ret ?_
    obtain rfl := Option.some.inj hm
    exact (ret1 rfl rfl rfl ⟨rfl, T⟩)
def m_impl_wellFormed (d0 : DAgent) : Option Bool :=
  (bif ((d0.ports.length : Int) == 0) then some false else ((m_impl_fieldsOf d0.kind (d0.ports.length : Int)).bind fun y8 => (bif ((portsOf d0.kind y8) != (d0.ports.length : Int)) then some false else (bif (allowed d0.kind d0.level) then ((m_slices_ContainsFunc_int64_int64 d0.data (fun x0 => m_impl_wellFormed_1 x0)).bind fun y16 => (bif (d0.kind == 6) then ((m_impl_isInt d0.value).bind fun y69 => (bif y69 then some ((d0.data.length : Int) == 0) else some false)) else (bif (d0.kind == 7) then ((m_impl_isOperator d0.value).bind fun y64 => (bif y64 then some ((d0.data.length : Int) == 0) else some false)) else (bif (d0.kind == 8) then ((m_impl_isOperator d0.value).bind fun y43 => (bif y43 then (bif ((d0.data.length : Int) == 1) then ((getI d0.data 0).bind fun x51 => ((m_impl_isInt x51).bind fun y60 => some y60)) else some false) else some false)) else (bif (d0.kind == 9) then (bif (decide (d0.value ≥ 0)) then (bif (decide (d0.value < 4)) then some ((d0.data.length : Int) == 0) else some false) else some false) else (bif (d0.kind == 10) then (bif (decide ((d0.data.length : Int) ≥ 1)) then (bif (decide ((d0.data.length : Int) ≤ 4)) then (bif (d0.value == 0) then some (!y16) else some false) else (bif (d0.value == 0) then some false else some false)) else (bif (d0.value == 0) then some false else some false)) else (bif (d0.kind == 11) then (bif ((d0.data.length : Int) == 2) then (bif (d0.value == 0) then some (!y16) else some false) else (bif (d0.value == 0) then some false else some false)) else (bif (d0.kind == 12) then ((m_impl_isDefIndex d0.value).bind fun y28 => (bif y28 then some ((d0.data.length : Int) == 0) else some false)) else (bif (d0.value == 0) then some ((d0.data.length : Int) == 0) else some false))))))))) else some false))))
set_option maxHeartbeats 2000000 in
theorem c_m_impl_wellFormed (d0 : DAgent) (r : Bool) (hm : m_impl_wellFormed d0 = some r) (v0 : Value) (w : World) (hv0 : St agentRd w v0 d0) :
    Calls Tryz.prog 66 #[v0] w fun e w' => e = .returned (.bool r) ∧ Below w.heap.size w w' := by
  obtain ⟨csa0, rfl, ⟨A1, n1, c1, A2, n2, c2, rfl, ⟨h1, r1⟩, ⟨h2, r2⟩⟩⟩ := hv0
  have e1 := h1.len; subst e1
  have q1 := len_le r1
  have e2 := h2.len; subst e2
  have q2 := len_le r2
  have T := Below.refl w.heap.size w
  unfold m_impl_wellFormed at hm
  refine enter 117 Tryz.func66 rfl rfl rfl ?_
  intro f hf
  have s0 : f 0 = .agg #[.int .i64 d0.kind, .int .i64 d0.level, .int .i64 d0.value, .slice A1 d0.data.length c1, .slice A2 d0.ports.length c2] := hf 0 _ rfl
  refine wp_seq ?_
  refine wp_rl rfl ?_
  refine RL.box rfl s0 (fun w3 B4 hb5 szw3 => ?_)
  replace B4 : Blk w3 w.heap.size 49 #[.int .i64 d0.kind, .int .i64 d0.level, .int .i64 d0.value, .slice A1 d0.data.length c1, .slice A2 d0.ports.length c2] := B4
  have GB4 : w.heap.size ≤ w.heap.size := T.size
  have T := Tt T hb5
  refine RL.y rfl (Y.assign (v := .bool false) rfl) ?_
  refine RL.nil ?_
  refine then_n ?_
  refine wp_seq ?_
  refine wp_seq ?_
  refine wp_rbd (by kernel_rfl) (by kernel_rfl) ?_
  refine RQ.y rfl (Y.fieldAddr (off := 4) rfl (by kernel_rfl)) ?_
  refine RQ.y rfl (Y.load (v := .slice A2 d0.ports.length c2) rfl (by kernel_rfl) (beC (blkCell B4 (i := 4) rfl))) ?_
  refine RQ.y rfl (Y.len (by kernel_rfl) rfl) ?_
  refine RQ.y rfl (Y.binI (v := .bool ((d0.ports.length : Int) == 0)) rfl rfl rfl) ?_
  refine RQ.y rfl (Y.move (v := .bool ((d0.ports.length : Int) == 0)) rfl) ?_
  rcases bcases ((d0.ports.length : Int) == 0) with c7 | c7
  · replace hm := cF c7 hm
    refine RQ.y (wantT (dj := 10) rfl (vb rfl c7)) (Y.fieldAddr (off := 0) rfl (by kernel_rfl)) ?_
    refine RQ.y (wantT (dj := 10) rfl (vb rfl c7)) (Y.load (v := .int .i64 d0.kind) rfl (by kernel_rfl) (beC (blkCell B4 (i := 0) rfl))) ?_
    refine RQ.y (wantT (dj := 10) rfl (vb rfl c7)) (Y.fieldAddr (off := 0) rfl (by kernel_rfl)) ?_
    refine RQ.y (wantT (dj := 10) rfl (vb rfl c7)) (Y.load (v := .int .i64 d0.kind) rfl (by kernel_rfl) (beC (blkCell B4 (i := 0) rfl))) ?_
    refine RQ.y (wantT (dj := 10) rfl (vb rfl c7)) (Y.fieldAddr (off := 4) rfl (by kernel_rfl)) ?_
    refine RQ.y (wantT (dj := 10) rfl (vb rfl c7)) (Y.load (v := .slice A2 d0.ports.length c2) rfl (by kernel_rfl) (beC (blkCell B4 (i := 4) rfl))) ?_
    refine RQ.y (wantT (dj := 10) rfl (vb rfl c7)) (Y.len (by kernel_rfl) rfl) ?_
    obtain ⟨y8, e9, hm⟩ := bnd hm
    refine RQ.call (wantT (dj := 10) rfl (vb rfl c7)) (am2 rfl rfl) (by kernel_rfl) (v := .int .i64 y8) (bel (K := fun _ => True) fun w' hb' => (c_m_impl_fieldsOf d0.kind (d0.ports.length : Int) _ e9  w' )) ?_
    refine RQ.call (wantT (dj := 10) rfl (vb rfl c7)) (am2 rfl rfl) (by kernel_rfl) (v := .int .i64 (portsOf d0.kind y8)) (bel (K := fun _ => True) fun w' hb' => (callB (impl_PortsOf d0.kind y8 w'))) ?_
    refine RQ.y (wantT (dj := 10) rfl (vb rfl c7)) (Y.fieldAddr (off := 4) rfl (by kernel_rfl)) ?_
    refine RQ.y (wantT (dj := 10) rfl (vb rfl c7)) (Y.load (v := .slice A2 d0.ports.length c2) rfl (by kernel_rfl) (beC (blkCell B4 (i := 4) rfl))) ?_
    refine RQ.y (wantT (dj := 10) rfl (vb rfl c7)) (Y.len (by kernel_rfl) rfl) ?_
    refine RQ.y (wantT (dj := 10) rfl (vb rfl c7)) (Y.binI (v := .bool ((portsOf d0.kind y8) != (d0.ports.length : Int))) rfl rfl rfl) ?_
    refine RQ.y rfl (Y.pick (b := false) (v := .bool ((portsOf d0.kind y8) != (d0.ports.length : Int))) (vb rfl c7) rfl) ?_
    refine RQ.y rfl (Y.move (v := .bool ((portsOf d0.kind y8) != (d0.ports.length : Int))) rfl) ?_
    rcases bcases ((portsOf d0.kind y8) != (d0.ports.length : Int)) with c10 | c10
    · replace hm := cF c10 hm
      refine RQ.y (wantT (dj := 25) rfl (vb rfl c10)) (Y.fieldAddr (off := 0) rfl (by kernel_rfl)) ?_
      refine RQ.y (wantT (dj := 25) rfl (vb rfl c10)) (Y.load (v := .int .i64 d0.kind) rfl (by kernel_rfl) (beC (blkCell B4 (i := 0) rfl))) ?_
      refine RQ.y (wantT (dj := 25) rfl (vb rfl c10)) (Y.fieldAddr (off := 1) rfl (by kernel_rfl)) ?_
      refine RQ.y (wantT (dj := 25) rfl (vb rfl c10)) (Y.load (v := .int .i64 d0.level) rfl (by kernel_rfl) (beC (blkCell B4 (i := 1) rfl))) ?_
      refine RQ.call (wantT (dj := 25) rfl (vb rfl c10)) (am2 rfl rfl) (by kernel_rfl) (v := .bool (allowed d0.kind d0.level)) (bel (K := fun _ => True) fun w' hb' => (callB (impl_isAllowed d0.kind d0.level w'))) ?_
      refine RQ.y (wantT (dj := 25) rfl (vb rfl c10)) (Y.not (b' := (!(allowed d0.kind d0.level))) rfl rfl) ?_
      refine RQ.y rfl (Y.pick (b := false) (v := .bool (!(allowed d0.kind d0.level))) (vb rfl c10) rfl) ?_
      refine RQ.nil ?_
      intro w11 hb12
      have szw11 := hb12.size
      have B4 := blkT B4 hb12
      have T := Tt T hb12
      refine then_n ?_
      rcases bcases (allowed d0.kind d0.level) with c13 | c13
      · replace hm := cF c13 hm
        refine cond_t rfl (vbn rfl c13 rfl) ?_
        refine wp_seq ?_
        refine wp_rs rfl ?_
        refine RQ.y rfl (Y.assign (v := .bool false) rfl) ?_
        refine RQ.nil ?_
        refine then_n ?_
        refine wp_ret ?_
        obtain rfl := Option.some.inj hm
        exact (then_r (ret1 rfl rfl rfl ⟨rfl, T⟩))
      · replace hm := cT c13 hm
        refine cond_f rfl (vbn rfl c13 rfl) ?_
        refine wp_skip ?_
        refine then_n ?_
        refine wp_seq ?_
        refine wp_rbd (by kernel_rfl) (by kernel_rfl) ?_
        refine RQ.y rfl (Y.fieldAddr (off := 2) rfl (by kernel_rfl)) ?_
        refine RQ.y rfl (Y.load (v := .int .i64 d0.value) rfl (by kernel_rfl) (beC (blkCell B4 (i := 2) rfl))) ?_
        refine RQ.y rfl (Y.binI (v := .bool (d0.value == 0)) rfl rfl rfl) ?_
        refine RQ.y rfl (Y.fieldAddr (off := 3) rfl (by kernel_rfl)) ?_
        refine RQ.y rfl (Y.load (v := .slice A1 d0.data.length c1) rfl (by kernel_rfl) (beC (blkCell B4 (i := 3) rfl))) ?_
        refine RQ.y rfl (Y.len (by kernel_rfl) rfl) ?_
        refine RQ.y rfl (Y.binI (v := .bool ((d0.data.length : Int) == 0)) rfl rfl rfl) ?_
        refine RQ.y rfl (Y.assign (v := .bool (d0.value == 0)) rfl) ?_
        refine RQ.y rfl (Y.assign (v := .bool ((d0.data.length : Int) == 0)) rfl) ?_
        refine RQ.nil ?_
        intro w14 hb15
        have szw14 := hb15.size
        have B4 := blkT B4 hb15
        have T := Tt T hb15
        refine then_n ?_
        refine wp_seq ?_
        refine wp_rb rfl ?_
        refine RQ.y rfl (Y.fieldAddr (off := 3) rfl (by kernel_rfl)) ?_
        refine RQ.y rfl (Y.load (v := .slice A1 d0.data.length c1) rfl (by kernel_rfl) (beC (blkCell B4 (i := 3) rfl))) ?_
        obtain ⟨y16, e17, hm⟩ := bnd hm
        refine RQ.call rfl (am2 rfl rfl) (by kernel_rfl) (v := .bool y16) (bel (K := fun _ => True) fun w' hb' => (c_m_slices_ContainsFunc_int64_int64 d0.data (fun x0 => m_impl_wellFormed_1 x0) _ e17 _ _ _ w' (slArg intRd_ok h1 r1 (Tt T hb')) (by kernel_rfl) (fun x0 b hx w1 hb1 => Calls.arr (by simp) (c_m_impl_wellFormed_1 x0 _ hx  w1 )))) ?_
        refine RQ.y rfl (Y.not (b' := (!y16)) rfl rfl) ?_
        refine RQ.y rfl (Y.assign (v := .bool (!y16)) rfl) ?_
        refine RQ.nil ?_
        intro w18 hb19
        have szw18 := hb19.size
        have B4 := blkT B4 hb19
        have T := Tt T hb19
        refine then_n ?_
        refine wp_seq ?_
        refine wp_seq ?_
        refine wp_rs rfl ?_
        refine RQ.y rfl (Y.fieldAddr (off := 0) rfl (by kernel_rfl)) ?_
        refine RQ.y rfl (Y.load (v := .int .i64 d0.kind) rfl (by kernel_rfl) (eqC (blkCell B4 (i := 0) rfl))) ?_
        refine RQ.nil ?_
        refine then_n ?_
        refine wp_block ?_
        refine wp_seq ?_
        refine wp_rs rfl ?_
        refine RQ.y rfl (Y.binI (v := .bool (d0.kind == 6)) rfl rfl rfl) ?_
        refine RQ.y rfl (Y.assign (v := .bool (d0.kind == 6)) rfl) ?_
        refine RQ.nil ?_
        refine then_n ?_
        rcases bcases (d0.kind == 6) with c20 | c20
        · replace hm := cF c20 hm
          refine cond_f rfl (vb rfl c20) ?_
          refine wp_seq ?_
          refine wp_rs rfl ?_
          refine RQ.y rfl (Y.binI (v := .bool (d0.kind == 7)) rfl rfl rfl) ?_
          refine RQ.y rfl (Y.assign (v := .bool (d0.kind == 7)) rfl) ?_
          refine RQ.nil ?_
          refine then_n ?_
          rcases bcases (d0.kind == 7) with c21 | c21
          · replace hm := cF c21 hm
            refine cond_f rfl (vb rfl c21) ?_
            refine wp_seq ?_
            refine wp_rs rfl ?_
            refine RQ.y rfl (Y.binI (v := .bool (d0.kind == 8)) rfl rfl rfl) ?_
            refine RQ.y rfl (Y.assign (v := .bool (d0.kind == 8)) rfl) ?_
            refine RQ.nil ?_
            refine then_n ?_
            rcases bcases (d0.kind == 8) with c22 | c22
            · replace hm := cF c22 hm
              refine cond_f rfl (vb rfl c22) ?_
              refine wp_seq ?_
              refine wp_rs rfl ?_
              refine RQ.y rfl (Y.binI (v := .bool (d0.kind == 9)) rfl rfl rfl) ?_
              refine RQ.y rfl (Y.assign (v := .bool (d0.kind == 9)) rfl) ?_
              refine RQ.nil ?_
              refine then_n ?_
              rcases bcases (d0.kind == 9) with c23 | c23
              · replace hm := cF c23 hm
                refine cond_f rfl (vb rfl c23) ?_
                refine wp_seq ?_
                refine wp_rs rfl ?_
                refine RQ.y rfl (Y.binI (v := .bool (d0.kind == 10)) rfl rfl rfl) ?_
                refine RQ.y rfl (Y.assign (v := .bool (d0.kind == 10)) rfl) ?_
                refine RQ.nil ?_
                refine then_n ?_
                rcases bcases (d0.kind == 10) with c24 | c24
                · replace hm := cF c24 hm
                  refine cond_f rfl (vb rfl c24) ?_
                  refine wp_seq ?_
                  refine wp_rs rfl ?_
                  refine RQ.y rfl (Y.binI (v := .bool (d0.kind == 11)) rfl rfl rfl) ?_
                  refine RQ.y rfl (Y.assign (v := .bool (d0.kind == 11)) rfl) ?_
                  refine RQ.nil ?_
                  refine then_n ?_
                  rcases bcases (d0.kind == 11) with c25 | c25
                  · replace hm := cF c25 hm
                    refine cond_f rfl (vb rfl c25) ?_
                    refine wp_seq ?_
                    refine wp_rs rfl ?_
                    refine RQ.y rfl (Y.binI (v := .bool (d0.kind == 12)) rfl rfl rfl) ?_
                    refine RQ.y rfl (Y.assign (v := .bool (d0.kind == 12)) rfl) ?_
                    refine RQ.nil ?_
                    refine then_n ?_
                    rcases bcases (d0.kind == 12) with c26 | c26
                    · replace hm := cF c26 hm
                      refine cond_f rfl (vb rfl c26) ?_
                      refine wp_skip ?_
                      refine blk_n (then_n ?_)
                      refine wp_seq ?_
                      refine wp_rs rfl ?_
                      refine RQ.y rfl (Y.move (v := .bool (d0.value == 0)) rfl) ?_
                      refine RQ.y rfl (Y.move (v := .bool (d0.value == 0)) rfl) ?_
                      rcases bcases (d0.value == 0) with c27 | c27
                      · replace hm := cF c27 hm
                        refine RQ.skip (wantN (dj := 114) rfl (vb rfl c27) rfl) ?_
                        refine RQ.y rfl (Y.pick (b := false) (v := .bool false) (vb rfl c27) rfl) ?_
                        refine RQ.y rfl (Y.assign (v := .bool false) rfl) ?_
                        refine RQ.nil ?_
                        refine then_n ?_
                        refine wp_ret ?_
                        obtain rfl := Option.some.inj hm
                        exact (ret1 rfl rfl rfl ⟨rfl, T⟩)
                      · replace hm := cT c27 hm
                        refine RQ.y (wantT (dj := 114) rfl (vb rfl c27)) (Y.move (v := .bool ((d0.data.length : Int) == 0)) rfl) ?_
                        refine RQ.y rfl (Y.pick (b := true) (v := .bool ((d0.data.length : Int) == 0)) (vb rfl c27) rfl) ?_
                        refine RQ.y rfl (Y.assign (v := .bool ((d0.data.length : Int) == 0)) rfl) ?_
                        refine RQ.nil ?_
                        refine then_n ?_
                        refine wp_ret ?_
                        obtain rfl := Option.some.inj hm
                        exact (ret1 rfl rfl rfl ⟨rfl, T⟩)
                    · replace hm := cT c26 hm
                      refine cond_t rfl (vb rfl c26) ?_
                      refine wp_rb rfl ?_
                      refine RQ.y rfl (Y.fieldAddr (off := 2) rfl (by kernel_rfl)) ?_
                      refine RQ.y rfl (Y.load (v := .int .i64 d0.value) rfl (by kernel_rfl) (beC (blkCell B4 (i := 2) rfl))) ?_
                      obtain ⟨y28, e29, hm⟩ := bnd hm
                      refine RQ.call rfl (am1 rfl) (by kernel_rfl) (v := .bool y28) (bel (K := fun _ => True) fun w' hb' => (c_m_impl_isDefIndex d0.value _ e29  w' )) ?_
                      refine RQ.y rfl (Y.assign (v := .bool y28) rfl) ?_
                      refine RQ.nil ?_
                      intro w30 hb31
                      have szw30 := hb31.size
                      have T := Tt T hb31
                      refine blk_n (then_n ?_)
                      refine wp_seq ?_
                      refine wp_rs rfl ?_
                      refine RQ.y rfl (Y.move (v := .bool y28) rfl) ?_
                      refine RQ.y rfl (Y.move (v := .bool y28) rfl) ?_
                      rcases bcases y28 with c32 | c32
                      · replace hm := cF c32 hm
                        refine RQ.skip (wantN (dj := 114) rfl (vb rfl c32) rfl) ?_
                        refine RQ.y rfl (Y.pick (b := false) (v := .bool false) (vb rfl c32) rfl) ?_
                        refine RQ.y rfl (Y.assign (v := .bool false) rfl) ?_
                        refine RQ.nil ?_
                        refine then_n ?_
                        refine wp_ret ?_
                        obtain rfl := Option.some.inj hm
                        exact (ret1 rfl rfl rfl ⟨rfl, T⟩)
                      · replace hm := cT c32 hm
                        refine RQ.y (wantT (dj := 114) rfl (vb rfl c32)) (Y.move (v := .bool ((d0.data.length : Int) == 0)) rfl) ?_
                        refine RQ.y rfl (Y.pick (b := true) (v := .bool ((d0.data.length : Int) == 0)) (vb rfl c32) rfl) ?_
                        refine RQ.y rfl (Y.assign (v := .bool ((d0.data.length : Int) == 0)) rfl) ?_
                        refine RQ.nil ?_
                        refine then_n ?_
                        refine wp_ret ?_
                        obtain rfl := Option.some.inj hm
                        exact (ret1 rfl rfl rfl ⟨rfl, T⟩)
                  · replace hm := cT c25 hm
                    refine cond_t rfl (vb rfl c25) ?_
                    refine wp_rs rfl ?_
                    refine RQ.y rfl (Y.fieldAddr (off := 3) rfl (by kernel_rfl)) ?_
                    refine RQ.y rfl (Y.load (v := .slice A1 d0.data.length c1) rfl (by kernel_rfl) (eqC (blkCell B4 (i := 3) rfl))) ?_
                    refine RQ.y rfl (Y.len (by kernel_rfl) rfl) ?_
                    refine RQ.y rfl (Y.binI (v := .bool ((d0.data.length : Int) == 2)) rfl rfl rfl) ?_
                    refine RQ.y rfl (Y.move (v := .bool ((d0.data.length : Int) == 2)) rfl) ?_
                    rcases bcases ((d0.data.length : Int) == 2) with c33 | c33
                    · replace hm := cF c33 hm
                      refine RQ.skip (wantN (dj := 105) rfl (vb rfl c33) rfl) ?_
                      refine RQ.y rfl (Y.pick (b := false) (v := .bool false) (vb rfl c33) rfl) ?_
                      refine RQ.y rfl (Y.assign (v := .bool false) rfl) ?_
                      refine RQ.nil ?_
                      refine blk_n (then_n ?_)
                      refine wp_seq ?_
                      refine wp_rs rfl ?_
                      refine RQ.y rfl (Y.move (v := .bool (d0.value == 0)) rfl) ?_
                      refine RQ.y rfl (Y.move (v := .bool (d0.value == 0)) rfl) ?_
                      rcases bcases (d0.value == 0) with c34 | c34
                      · replace hm := cF c34 hm
                        refine RQ.skip (wantN (dj := 114) rfl (vb rfl c34) rfl) ?_
                        refine RQ.y rfl (Y.pick (b := false) (v := .bool false) (vb rfl c34) rfl) ?_
                        refine RQ.y rfl (Y.assign (v := .bool false) rfl) ?_
                        refine RQ.nil ?_
                        refine then_n ?_
                        refine wp_ret ?_
                        obtain rfl := Option.some.inj hm
                        exact (ret1 rfl rfl rfl ⟨rfl, T⟩)
                      · replace hm := cT c34 hm
                        refine RQ.y (wantT (dj := 114) rfl (vb rfl c34)) (Y.move (v := .bool false) rfl) ?_
                        refine RQ.y rfl (Y.pick (b := true) (v := .bool false) (vb rfl c34) rfl) ?_
                        refine RQ.y rfl (Y.assign (v := .bool false) rfl) ?_
                        refine RQ.nil ?_
                        refine then_n ?_
                        refine wp_ret ?_
                        obtain rfl := Option.some.inj hm
                        exact (ret1 rfl rfl rfl ⟨rfl, T⟩)
                    · replace hm := cT c33 hm
                      refine RQ.y (wantT (dj := 105) rfl (vb rfl c33)) (Y.move (v := .bool (!y16)) rfl) ?_
                      refine RQ.y rfl (Y.pick (b := true) (v := .bool (!y16)) (vb rfl c33) rfl) ?_
                      refine RQ.y rfl (Y.assign (v := .bool (!y16)) rfl) ?_
                      refine RQ.nil ?_
                      refine blk_n (then_n ?_)
                      refine wp_seq ?_
                      refine wp_rs rfl ?_
                      refine RQ.y rfl (Y.move (v := .bool (d0.value == 0)) rfl) ?_
                      refine RQ.y rfl (Y.move (v := .bool (d0.value == 0)) rfl) ?_
                      rcases bcases (d0.value == 0) with c35 | c35
                      · replace hm := cF c35 hm
                        refine RQ.skip (wantN (dj := 114) rfl (vb rfl c35) rfl) ?_
                        refine RQ.y rfl (Y.pick (b := false) (v := .bool false) (vb rfl c35) rfl) ?_
                        refine RQ.y rfl (Y.assign (v := .bool false) rfl) ?_
                        refine RQ.nil ?_
                        refine then_n ?_
                        refine wp_ret ?_
                        obtain rfl := Option.some.inj hm
                        exact (ret1 rfl rfl rfl ⟨rfl, T⟩)
                      · replace hm := cT c35 hm
                        refine RQ.y (wantT (dj := 114) rfl (vb rfl c35)) (Y.move (v := .bool (!y16)) rfl) ?_
                        refine RQ.y rfl (Y.pick (b := true) (v := .bool (!y16)) (vb rfl c35) rfl) ?_
                        refine RQ.y rfl (Y.assign (v := .bool (!y16)) rfl) ?_
                        refine RQ.nil ?_
                        refine then_n ?_
                        refine wp_ret ?_
                        obtain rfl := Option.some.inj hm
                        exact (ret1 rfl rfl rfl ⟨rfl, T⟩)
                · replace hm := cT c24 hm
                  refine cond_t rfl (vb rfl c24) ?_
                  refine wp_rs rfl ?_
                  refine RQ.y rfl (Y.fieldAddr (off := 3) rfl (by kernel_rfl)) ?_
                  refine RQ.y rfl (Y.load (v := .slice A1 d0.data.length c1) rfl (by kernel_rfl) (eqC (blkCell B4 (i := 3) rfl))) ?_
                  refine RQ.y rfl (Y.len (by kernel_rfl) rfl) ?_
                  refine RQ.y rfl (Y.binI (v := .bool (decide ((d0.data.length : Int) ≥ 1))) rfl rfl rfl) ?_
                  refine RQ.y rfl (Y.move (v := .bool (decide ((d0.data.length : Int) ≥ 1))) rfl) ?_
                  rcases bcases (decide ((d0.data.length : Int) ≥ 1)) with c36 | c36
                  · replace hm := cF c36 hm
                    have pc36 := of_decide_eq_false c36
                    refine RQ.skip (wantN (dj := 90) rfl (vb rfl c36) rfl) ?_
                    refine RQ.skip (wantN (dj := 90) rfl (vb rfl c36) rfl) ?_
                    refine RQ.skip (wantN (dj := 90) rfl (vb rfl c36) rfl) ?_
                    refine RQ.skip (wantN (dj := 90) rfl (vb rfl c36) rfl) ?_
                    refine RQ.y rfl (Y.pick (b := false) (v := .bool false) (vb rfl c36) rfl) ?_
                    refine RQ.y rfl (Y.move (v := .bool false) rfl) ?_
                    refine RQ.skip (wantN (dj := 96) rfl rfl rfl) ?_
                    refine RQ.y rfl (Y.pick (b := false) (v := .bool false) rfl rfl) ?_
                    refine RQ.y rfl (Y.assign (v := .bool false) rfl) ?_
                    refine RQ.nil ?_
                    refine blk_n (then_n ?_)
                    refine wp_seq ?_
                    refine wp_rs rfl ?_
                    refine RQ.y rfl (Y.move (v := .bool (d0.value == 0)) rfl) ?_
                    refine RQ.y rfl (Y.move (v := .bool (d0.value == 0)) rfl) ?_
                    rcases bcases (d0.value == 0) with c37 | c37
                    · replace hm := cF c37 hm
                      refine RQ.skip (wantN (dj := 114) rfl (vb rfl c37) rfl) ?_
                      refine RQ.y rfl (Y.pick (b := false) (v := .bool false) (vb rfl c37) rfl) ?_
                      refine RQ.y rfl (Y.assign (v := .bool false) rfl) ?_
                      refine RQ.nil ?_
                      refine then_n ?_
                      refine wp_ret ?_
                      obtain rfl := Option.some.inj hm
                      exact (ret1 rfl rfl rfl ⟨rfl, T⟩)
                    · replace hm := cT c37 hm
                      refine RQ.y (wantT (dj := 114) rfl (vb rfl c37)) (Y.move (v := .bool false) rfl) ?_
                      refine RQ.y rfl (Y.pick (b := true) (v := .bool false) (vb rfl c37) rfl) ?_
                      refine RQ.y rfl (Y.assign (v := .bool false) rfl) ?_
                      refine RQ.nil ?_
                      refine then_n ?_
                      refine wp_ret ?_
                      obtain rfl := Option.some.inj hm
                      exact (ret1 rfl rfl rfl ⟨rfl, T⟩)
                  · replace hm := cT c36 hm
                    have pc36 := of_decide_eq_true c36
                    refine RQ.y (wantT (dj := 90) rfl (vb rfl c36)) (Y.fieldAddr (off := 3) rfl (by kernel_rfl)) ?_
                    refine RQ.y (wantT (dj := 90) rfl (vb rfl c36)) (Y.load (v := .slice A1 d0.data.length c1) rfl (by kernel_rfl) (eqC (blkCell B4 (i := 3) rfl))) ?_
                    refine RQ.y (wantT (dj := 90) rfl (vb rfl c36)) (Y.len (by kernel_rfl) rfl) ?_
                    refine RQ.y (wantT (dj := 90) rfl (vb rfl c36)) (Y.binI (v := .bool (decide ((d0.data.length : Int) ≤ 4))) rfl rfl rfl) ?_
                    refine RQ.y rfl (Y.pick (b := true) (v := .bool (decide ((d0.data.length : Int) ≤ 4))) (vb rfl c36) rfl) ?_
                    refine RQ.y rfl (Y.move (v := .bool (decide ((d0.data.length : Int) ≤ 4))) rfl) ?_
                    rcases bcases (decide ((d0.data.length : Int) ≤ 4)) with c38 | c38
                    · replace hm := cF c38 hm
                      have pc38 := of_decide_eq_false c38
                      refine RQ.skip (wantN (dj := 96) rfl (vb rfl c38) rfl) ?_
                      refine RQ.y rfl (Y.pick (b := false) (v := .bool false) (vb rfl c38) rfl) ?_
                      refine RQ.y rfl (Y.assign (v := .bool false) rfl) ?_
                      refine RQ.nil ?_
                      refine blk_n (then_n ?_)
                      refine wp_seq ?_
                      refine wp_rs rfl ?_
                      refine RQ.y rfl (Y.move (v := .bool (d0.value == 0)) rfl) ?_
                      refine RQ.y rfl (Y.move (v := .bool (d0.value == 0)) rfl) ?_
                      rcases bcases (d0.value == 0) with c39 | c39
                      · replace hm := cF c39 hm
                        refine RQ.skip (wantN (dj := 114) rfl (vb rfl c39) rfl) ?_
                        refine RQ.y rfl (Y.pick (b := false) (v := .bool false) (vb rfl c39) rfl) ?_
                        refine RQ.y rfl (Y.assign (v := .bool false) rfl) ?_
                        refine RQ.nil ?_
                        refine then_n ?_
                        refine wp_ret ?_
                        obtain rfl := Option.some.inj hm
                        exact (ret1 rfl rfl rfl ⟨rfl, T⟩)
                      · replace hm := cT c39 hm
                        refine RQ.y (wantT (dj := 114) rfl (vb rfl c39)) (Y.move (v := .bool false) rfl) ?_
                        refine RQ.y rfl (Y.pick (b := true) (v := .bool false) (vb rfl c39) rfl) ?_
                        refine RQ.y rfl (Y.assign (v := .bool false) rfl) ?_
                        refine RQ.nil ?_
                        refine then_n ?_
                        refine wp_ret ?_
                        obtain rfl := Option.some.inj hm
                        exact (ret1 rfl rfl rfl ⟨rfl, T⟩)
                    · replace hm := cT c38 hm
                      have pc38 := of_decide_eq_true c38
                      refine RQ.y (wantT (dj := 96) rfl (vb rfl c38)) (Y.move (v := .bool (!y16)) rfl) ?_
                      refine RQ.y rfl (Y.pick (b := true) (v := .bool (!y16)) (vb rfl c38) rfl) ?_
                      refine RQ.y rfl (Y.assign (v := .bool (!y16)) rfl) ?_
                      refine RQ.nil ?_
                      refine blk_n (then_n ?_)
                      refine wp_seq ?_
                      refine wp_rs rfl ?_
                      refine RQ.y rfl (Y.move (v := .bool (d0.value == 0)) rfl) ?_
                      refine RQ.y rfl (Y.move (v := .bool (d0.value == 0)) rfl) ?_
                      rcases bcases (d0.value == 0) with c40 | c40
                      · replace hm := cF c40 hm
                        refine RQ.skip (wantN (dj := 114) rfl (vb rfl c40) rfl) ?_
                        refine RQ.y rfl (Y.pick (b := false) (v := .bool false) (vb rfl c40) rfl) ?_
                        refine RQ.y rfl (Y.assign (v := .bool false) rfl) ?_
                        refine RQ.nil ?_
                        refine then_n ?_
                        refine wp_ret ?_
                        obtain rfl := Option.some.inj hm
                        exact (ret1 rfl rfl rfl ⟨rfl, T⟩)
                      · replace hm := cT c40 hm
                        refine RQ.y (wantT (dj := 114) rfl (vb rfl c40)) (Y.move (v := .bool (!y16)) rfl) ?_
                        refine RQ.y rfl (Y.pick (b := true) (v := .bool (!y16)) (vb rfl c40) rfl) ?_
                        refine RQ.y rfl (Y.assign (v := .bool (!y16)) rfl) ?_
                        refine RQ.nil ?_
                        refine then_n ?_
                        refine wp_ret ?_
                        obtain rfl := Option.some.inj hm
                        exact (ret1 rfl rfl rfl ⟨rfl, T⟩)
              · replace hm := cT c23 hm
                refine cond_t rfl (vb rfl c23) ?_
                refine wp_rs rfl ?_
                refine RQ.y rfl (Y.fieldAddr (off := 2) rfl (by kernel_rfl)) ?_
                refine RQ.y rfl (Y.load (v := .int .i64 d0.value) rfl (by kernel_rfl) (eqC (blkCell B4 (i := 2) rfl))) ?_
                refine RQ.y rfl (Y.binI (v := .bool (decide (d0.value ≥ 0))) rfl rfl rfl) ?_
                refine RQ.y rfl (Y.move (v := .bool (decide (d0.value ≥ 0))) rfl) ?_
                rcases bcases (decide (d0.value ≥ 0)) with c41 | c41
                · replace hm := cF c41 hm
                  have pc41 := of_decide_eq_false c41
                  refine RQ.skip (wantN (dj := 79) rfl (vb rfl c41) rfl) ?_
                  refine RQ.skip (wantN (dj := 79) rfl (vb rfl c41) rfl) ?_
                  refine RQ.skip (wantN (dj := 79) rfl (vb rfl c41) rfl) ?_
                  refine RQ.y rfl (Y.pick (b := false) (v := .bool false) (vb rfl c41) rfl) ?_
                  refine RQ.y rfl (Y.assign (v := .bool false) rfl) ?_
                  refine RQ.nil ?_
                  refine blk_n (then_n ?_)
                  refine wp_seq ?_
                  refine wp_rs rfl ?_
                  refine RQ.y rfl (Y.move (v := .bool false) rfl) ?_
                  refine RQ.y rfl (Y.move (v := .bool false) rfl) ?_
                  refine RQ.skip (wantN (dj := 114) rfl rfl rfl) ?_
                  refine RQ.y rfl (Y.pick (b := false) (v := .bool false) rfl rfl) ?_
                  refine RQ.y rfl (Y.assign (v := .bool false) rfl) ?_
                  refine RQ.nil ?_
                  refine then_n ?_
                  refine wp_ret ?_
                  obtain rfl := Option.some.inj hm
                  exact (ret1 rfl rfl rfl ⟨rfl, T⟩)
                · replace hm := cT c41 hm
                  have pc41 := of_decide_eq_true c41
                  refine RQ.y (wantT (dj := 79) rfl (vb rfl c41)) (Y.fieldAddr (off := 2) rfl (by kernel_rfl)) ?_
                  refine RQ.y (wantT (dj := 79) rfl (vb rfl c41)) (Y.load (v := .int .i64 d0.value) rfl (by kernel_rfl) (eqC (blkCell B4 (i := 2) rfl))) ?_
                  refine RQ.y (wantT (dj := 79) rfl (vb rfl c41)) (Y.binI (v := .bool (decide (d0.value < 4))) rfl rfl rfl) ?_
                  refine RQ.y rfl (Y.pick (b := true) (v := .bool (decide (d0.value < 4))) (vb rfl c41) rfl) ?_
                  refine RQ.y rfl (Y.assign (v := .bool (decide (d0.value < 4))) rfl) ?_
                  refine RQ.nil ?_
                  refine blk_n (then_n ?_)
                  refine wp_seq ?_
                  refine wp_rs rfl ?_
                  refine RQ.y rfl (Y.move (v := .bool (decide (d0.value < 4))) rfl) ?_
                  refine RQ.y rfl (Y.move (v := .bool (decide (d0.value < 4))) rfl) ?_
                  rcases bcases (decide (d0.value < 4)) with c42 | c42
                  · replace hm := cF c42 hm
                    have pc42 := of_decide_eq_false c42
                    refine RQ.skip (wantN (dj := 114) rfl (vb rfl c42) rfl) ?_
                    refine RQ.y rfl (Y.pick (b := false) (v := .bool false) (vb rfl c42) rfl) ?_
                    refine RQ.y rfl (Y.assign (v := .bool false) rfl) ?_
                    refine RQ.nil ?_
                    refine then_n ?_
                    refine wp_ret ?_
                    obtain rfl := Option.some.inj hm
                    exact (ret1 rfl rfl rfl ⟨rfl, T⟩)
                  · replace hm := cT c42 hm
                    have pc42 := of_decide_eq_true c42
                    refine RQ.y (wantT (dj := 114) rfl (vb rfl c42)) (Y.move (v := .bool ((d0.data.length : Int) == 0)) rfl) ?_
                    refine RQ.y rfl (Y.pick (b := true) (v := .bool ((d0.data.length : Int) == 0)) (vb rfl c42) rfl) ?_
                    refine RQ.y rfl (Y.assign (v := .bool ((d0.data.length : Int) == 0)) rfl) ?_
                    refine RQ.nil ?_
                    refine then_n ?_
                    refine wp_ret ?_
                    obtain rfl := Option.some.inj hm
                    exact (ret1 rfl rfl rfl ⟨rfl, T⟩)
            · replace hm := cT c22 hm
              refine cond_t rfl (vb rfl c22) ?_
              refine wp_seq ?_
              refine wp_rb rfl ?_
              refine RQ.y rfl (Y.fieldAddr (off := 2) rfl (by kernel_rfl)) ?_
              refine RQ.y rfl (Y.load (v := .int .i64 d0.value) rfl (by kernel_rfl) (beC (blkCell B4 (i := 2) rfl))) ?_
              obtain ⟨y43, e44, hm⟩ := bnd hm
              refine RQ.call rfl (am1 rfl) (by kernel_rfl) (v := .bool y43) (bel (K := fun _ => True) fun w' hb' => (c_m_impl_isOperator d0.value _ e44  w' )) ?_
              refine RQ.y rfl (Y.move (v := .bool y43) rfl) ?_
              rcases bcases y43 with c45 | c45
              · replace hm := cF c45 hm
                refine RQ.skip (wantN (dj := 61) rfl (vb rfl c45) rfl) ?_
                refine RQ.skip (wantN (dj := 61) rfl (vb rfl c45) rfl) ?_
                refine RQ.skip (wantN (dj := 61) rfl (vb rfl c45) rfl) ?_
                refine RQ.skip (wantN (dj := 61) rfl (vb rfl c45) rfl) ?_
                refine RQ.y rfl (Y.pick (b := false) (v := .bool false) (vb rfl c45) rfl) ?_
                refine RQ.y rfl (Y.move (v := .bool false) rfl) ?_
                refine RQ.skip (wantN (dj := 67) rfl rfl rfl) ?_
                refine RQ.skip (wantN (dj := 67) rfl rfl rfl) ?_
                refine RQ.skip (wantN (dj := 67) rfl rfl rfl) ?_
                refine RQ.skip (wantN (dj := 67) rfl rfl rfl) ?_
                refine RQ.skip (wantN (dj := 67) rfl rfl rfl) ?_
                refine RQ.y rfl (Y.pick (b := false) (v := .bool false) rfl rfl) ?_
                refine RQ.y rfl (Y.assign (v := .bool false) rfl) ?_
                refine RQ.nil ?_
                intro w46 hb47
                have szw46 := hb47.size
                have T := Tt T hb47
                refine then_n ?_
                refine wp_ret ?_
                obtain rfl := Option.some.inj hm
                exact (blk_r (then_r (ret1 rfl rfl rfl ⟨rfl, T⟩)))
              · replace hm := cT c45 hm
                refine RQ.y (wantT (dj := 61) rfl (vb rfl c45)) (Y.fieldAddr (off := 3) rfl (by kernel_rfl)) ?_
                refine RQ.y (wantT (dj := 61) rfl (vb rfl c45)) (Y.load (v := .slice A1 d0.data.length c1) rfl (by kernel_rfl) (beC (blkCell B4 (i := 3) rfl))) ?_
                refine RQ.y (wantT (dj := 61) rfl (vb rfl c45)) (Y.len (by kernel_rfl) rfl) ?_
                refine RQ.y (wantT (dj := 61) rfl (vb rfl c45)) (Y.binI (v := .bool ((d0.data.length : Int) == 1)) rfl rfl rfl) ?_
                refine RQ.y rfl (Y.pick (b := true) (v := .bool ((d0.data.length : Int) == 1)) (vb rfl c45) rfl) ?_
                refine RQ.y rfl (Y.move (v := .bool ((d0.data.length : Int) == 1)) rfl) ?_
                rcases bcases ((d0.data.length : Int) == 1) with c48 | c48
                · replace hm := cF c48 hm
                  refine RQ.skip (wantN (dj := 67) rfl (vb rfl c48) rfl) ?_
                  refine RQ.skip (wantN (dj := 67) rfl (vb rfl c48) rfl) ?_
                  refine RQ.skip (wantN (dj := 67) rfl (vb rfl c48) rfl) ?_
                  refine RQ.skip (wantN (dj := 67) rfl (vb rfl c48) rfl) ?_
                  refine RQ.skip (wantN (dj := 67) rfl (vb rfl c48) rfl) ?_
                  refine RQ.y rfl (Y.pick (b := false) (v := .bool false) (vb rfl c48) rfl) ?_
                  refine RQ.y rfl (Y.assign (v := .bool false) rfl) ?_
                  refine RQ.nil ?_
                  intro w49 hb50
                  have szw49 := hb50.size
                  have T := Tt T hb50
                  refine then_n ?_
                  refine wp_ret ?_
                  obtain rfl := Option.some.inj hm
                  exact (blk_r (then_r (ret1 rfl rfl rfl ⟨rfl, T⟩)))
                · replace hm := cT c48 hm
                  refine RQ.y (wantT (dj := 67) rfl (vb rfl c48)) (Y.fieldAddr (off := 3) rfl (by kernel_rfl)) ?_
                  refine RQ.y (wantT (dj := 67) rfl (vb rfl c48)) (Y.load (v := .slice A1 d0.data.length c1) rfl (by kernel_rfl) (beC (blkCell B4 (i := 3) rfl))) ?_
                  obtain ⟨x51, hx54, hm⟩ := bnd hm
                  obtain ⟨k52, hk55, hl56, hx54⟩ := getI_some hx54
                  obtain ⟨b58, o59, rfl, hbb58⟩ := h1.addr (by omega)
                  obtain ⟨cs53, hRcs53, hc57⟩ := h1.el hx54
                  have hScs53 := hRcs53
                  obtain rfl := hRcs53
                  refine RQ.y (wantT (dj := 67) rfl (vb rfl c48)) (Y.indexAddr (m := k52) (sz := 1) rfl rfl hk55 hl56 (by kernel_rfl)) ?_
                  refine RQ.y (wantT (dj := 67) rfl (vb rfl c48)) (Y.load (v := .int .i64 x51) rfl (by kernel_rfl) (beC (cellT T (hc57 0 _ rfl)))) ?_
                  obtain ⟨y60, e61, hm⟩ := bnd hm
                  refine RQ.call (wantT (dj := 67) rfl (vb rfl c48)) (am1 rfl) (by kernel_rfl) (v := .bool y60) (bel (K := fun _ => True) fun w' hb' => (c_m_impl_isInt x51 _ e61  w' )) ?_
                  refine RQ.y rfl (Y.pick (b := true) (v := .bool y60) (vb rfl c48) rfl) ?_
                  refine RQ.y rfl (Y.assign (v := .bool y60) rfl) ?_
                  refine RQ.nil ?_
                  intro w62 hb63
                  have szw62 := hb63.size
                  have T := Tt T hb63
                  refine then_n ?_
                  refine wp_ret ?_
                  obtain rfl := Option.some.inj hm
                  exact (blk_r (then_r (ret1 rfl rfl rfl ⟨rfl, T⟩)))
          · replace hm := cT c21 hm
            refine cond_t rfl (vb rfl c21) ?_
            refine wp_rb rfl ?_
            refine RQ.y rfl (Y.fieldAddr (off := 2) rfl (by kernel_rfl)) ?_
            refine RQ.y rfl (Y.load (v := .int .i64 d0.value) rfl (by kernel_rfl) (beC (blkCell B4 (i := 2) rfl))) ?_
            obtain ⟨y64, e65, hm⟩ := bnd hm
            refine RQ.call rfl (am1 rfl) (by kernel_rfl) (v := .bool y64) (bel (K := fun _ => True) fun w' hb' => (c_m_impl_isOperator d0.value _ e65  w' )) ?_
            refine RQ.y rfl (Y.assign (v := .bool y64) rfl) ?_
            refine RQ.nil ?_
            intro w66 hb67
            have szw66 := hb67.size
            have T := Tt T hb67
            refine blk_n (then_n ?_)
            refine wp_seq ?_
            refine wp_rs rfl ?_
            refine RQ.y rfl (Y.move (v := .bool y64) rfl) ?_
            refine RQ.y rfl (Y.move (v := .bool y64) rfl) ?_
            rcases bcases y64 with c68 | c68
            · replace hm := cF c68 hm
              refine RQ.skip (wantN (dj := 114) rfl (vb rfl c68) rfl) ?_
              refine RQ.y rfl (Y.pick (b := false) (v := .bool false) (vb rfl c68) rfl) ?_
              refine RQ.y rfl (Y.assign (v := .bool false) rfl) ?_
              refine RQ.nil ?_
              refine then_n ?_
              refine wp_ret ?_
              obtain rfl := Option.some.inj hm
              exact (ret1 rfl rfl rfl ⟨rfl, T⟩)
            · replace hm := cT c68 hm
              refine RQ.y (wantT (dj := 114) rfl (vb rfl c68)) (Y.move (v := .bool ((d0.data.length : Int) == 0)) rfl) ?_
              refine RQ.y rfl (Y.pick (b := true) (v := .bool ((d0.data.length : Int) == 0)) (vb rfl c68) rfl) ?_
              refine RQ.y rfl (Y.assign (v := .bool ((d0.data.length : Int) == 0)) rfl) ?_
              refine RQ.nil ?_
              refine then_n ?_
              refine wp_ret ?_
              obtain rfl := Option.some.inj hm
              exact (ret1 rfl rfl rfl ⟨rfl, T⟩)
        · replace hm := cT c20 hm
          refine cond_t rfl (vb rfl c20) ?_
          refine wp_rb rfl ?_
          refine RQ.y rfl (Y.fieldAddr (off := 2) rfl (by kernel_rfl)) ?_
          refine RQ.y rfl (Y.load (v := .int .i64 d0.value) rfl (by kernel_rfl) (beC (blkCell B4 (i := 2) rfl))) ?_
          obtain ⟨y69, e70, hm⟩ := bnd hm
          refine RQ.call rfl (am1 rfl) (by kernel_rfl) (v := .bool y69) (bel (K := fun _ => True) fun w' hb' => (c_m_impl_isInt d0.value _ e70  w' )) ?_
          refine RQ.y rfl (Y.assign (v := .bool y69) rfl) ?_
          refine RQ.nil ?_
          intro w71 hb72
          have szw71 := hb72.size
          have T := Tt T hb72
          refine blk_n (then_n ?_)
          refine wp_seq ?_
          refine wp_rs rfl ?_
          refine RQ.y rfl (Y.move (v := .bool y69) rfl) ?_
          refine RQ.y rfl (Y.move (v := .bool y69) rfl) ?_
          rcases bcases y69 with c73 | c73
          · replace hm := cF c73 hm
            refine RQ.skip (wantN (dj := 114) rfl (vb rfl c73) rfl) ?_
            refine RQ.y rfl (Y.pick (b := false) (v := .bool false) (vb rfl c73) rfl) ?_
            refine RQ.y rfl (Y.assign (v := .bool false) rfl) ?_
            refine RQ.nil ?_
            refine then_n ?_
            refine wp_ret ?_
            obtain rfl := Option.some.inj hm
            exact (ret1 rfl rfl rfl ⟨rfl, T⟩)
          · replace hm := cT c73 hm
            refine RQ.y (wantT (dj := 114) rfl (vb rfl c73)) (Y.move (v := .bool ((d0.data.length : Int) == 0)) rfl) ?_
            refine RQ.y rfl (Y.pick (b := true) (v := .bool ((d0.data.length : Int) == 0)) (vb rfl c73) rfl) ?_
            refine RQ.y rfl (Y.assign (v := .bool ((d0.data.length : Int) == 0)) rfl) ?_
            refine RQ.nil ?_
            refine then_n ?_
            refine wp_ret ?_
            obtain rfl := Option.some.inj hm
            exact (ret1 rfl rfl rfl ⟨rfl, T⟩)
    · replace hm := cT c10 hm
      refine RQ.skip (wantN (dj := 25) rfl (vb rfl c10) rfl) ?_
      refine RQ.skip (wantN (dj := 25) rfl (vb rfl c10) rfl) ?_
      refine RQ.skip (wantN (dj := 25) rfl (vb rfl c10) rfl) ?_
      refine RQ.skip (wantN (dj := 25) rfl (vb rfl c10) rfl) ?_
      refine RQ.skip (wantN (dj := 25) rfl (vb rfl c10) rfl) ?_
      refine RQ.skip (wantN (dj := 25) rfl (vb rfl c10) rfl) ?_
      refine RQ.y rfl (Y.pick (b := true) (v := .bool true) (vb rfl c10) rfl) ?_
      refine RQ.nil ?_
      intro w74 hb75
      have szw74 := hb75.size
      have B4 := blkT B4 hb75
      have T := Tt T hb75
      refine then_n ?_
      refine cond_t rfl rfl ?_
      refine wp_seq ?_
      refine wp_rs rfl ?_
      refine RQ.y rfl (Y.assign (v := .bool false) rfl) ?_
      refine RQ.nil ?_
      refine then_n ?_
      refine wp_ret ?_
      obtain rfl := Option.some.inj hm
      exact (then_r (ret1 rfl rfl rfl ⟨rfl, T⟩))
  · replace hm := cT c7 hm
    refine RQ.skip (wantN (dj := 10) rfl (vb rfl c7) rfl) ?_
    refine RQ.skip (wantN (dj := 10) rfl (vb rfl c7) rfl) ?_
    refine RQ.skip (wantN (dj := 10) rfl (vb rfl c7) rfl) ?_
    refine RQ.skip (wantN (dj := 10) rfl (vb rfl c7) rfl) ?_
    refine RQ.skip (wantN (dj := 10) rfl (vb rfl c7) rfl) ?_
    refine RQ.skip (wantN (dj := 10) rfl (vb rfl c7) rfl) ?_
    refine RQ.skip (wantN (dj := 10) rfl (vb rfl c7) rfl) ?_
    refine RQ.skip (wantN (dj := 10) rfl (vb rfl c7) rfl) ?_
    refine RQ.skip (wantN (dj := 10) rfl (vb rfl c7) rfl) ?_
    refine RQ.skip (wantN (dj := 10) rfl (vb rfl c7) rfl) ?_
    refine RQ.skip (wantN (dj := 10) rfl (vb rfl c7) rfl) ?_
    refine RQ.skip (wantN (dj := 10) rfl (vb rfl c7) rfl) ?_
    refine RQ.skip (wantN (dj := 10) rfl (vb rfl c7) rfl) ?_
    refine RQ.y rfl (Y.pick (b := true) (v := .bool true) (vb rfl c7) rfl) ?_
    refine RQ.y rfl (Y.move (v := .bool true) rfl) ?_
    refine RQ.skip (wantN (dj := 25) rfl rfl rfl) ?_
    refine RQ.skip (wantN (dj := 25) rfl rfl rfl) ?_
    refine RQ.skip (wantN (dj := 25) rfl rfl rfl) ?_
    refine RQ.skip (wantN (dj := 25) rfl rfl rfl) ?_
    refine RQ.skip (wantN (dj := 25) rfl rfl rfl) ?_
    refine RQ.skip (wantN (dj := 25) rfl rfl rfl) ?_
    refine RQ.y rfl (Y.pick (b := true) (v := .bool true) rfl rfl) ?_
    refine RQ.nil ?_
    intro w76 hb77
    have szw76 := hb77.size
    have B4 := blkT B4 hb77
    have T := Tt T hb77
    refine then_n ?_
    refine cond_t rfl rfl ?_
    refine wp_seq ?_
    refine wp_rs rfl ?_
    refine RQ.y rfl (Y.assign (v := .bool false) rfl) ?_
    refine RQ.nil ?_
    refine then_n ?_
    refine wp_ret ?_
    obtain rfl := Option.some.inj hm
    exact (then_r (ret1 rfl rfl rfl ⟨rfl, T⟩))
def m_impl_areAgents_A1 : Option Bool :=
  some true
def m_impl_areAgents_B1 (d0 : List DAgent) (rec1 : Int → Option Bool) (K1 : Option Bool) (i4 : Int) : Option Bool :=
  (bif (decide (i4 < (d0.length : Int))) then ((getI d0 i4).bind fun x7 => ((m_impl_wellFormed x7).bind fun y25 => (bif y25 then (bif ((x7.kind == 1) != (i4 == 0)) then some false else (rec1 (i4 + 1))) else some false))) else (K1))
def m_impl_areAgents_L1 (d0 : List DAgent) (K1 : Option Bool) : Nat → Int → Option Bool
  | 0, _ => none
  | g + 1, i4 => m_impl_areAgents_B1 d0 (m_impl_areAgents_L1 d0 K1 g) K1 i4
def m_impl_areAgents (d0 : List DAgent) : Option Bool :=
  (bif (decide ((d0.length : Int) < 1)) then some false else (bif (decide ((d0.length : Int) > 600)) then some false else (m_impl_areAgents_L1 d0 m_impl_areAgents_A1 (d0.length + 1) 0)))
set_option maxHeartbeats 2000000 in
theorem c_m_impl_areAgents (d0 : List DAgent) (r : Bool) (hm : m_impl_areAgents d0 = some r) (v0 : Value) (w : World) (hv0 : Sl agentRd 5 w v0 d0) :
    Calls Tryz.prog 32 #[v0] w fun e w' => e = .returned (.bool r) ∧ Below w.heap.size w w' := by
  obtain ⟨Aa0, na0, ca0, rfl, ha0, ra0⟩ := hv0
  have ea0 := ha0.len; subst ea0
  have qa0 := len_le ra0
  have T := Below.refl w.heap.size w
  unfold m_impl_areAgents at hm
  refine enter 32 Tryz.func32 rfl rfl rfl ?_
  intro f hf
  have s0 : f 0 = .slice Aa0 d0.length ca0 := hf 0 _ rfl
  refine wp_seq ?_
  refine wp_rs rfl ?_
  refine RQ.y rfl (Y.assign (v := .bool false) rfl) ?_
  refine RQ.nil ?_
  refine then_n ?_
  refine wp_seq ?_
  refine wp_seq ?_
  refine wp_rs rfl ?_
  refine RQ.y rfl (Y.move (v := .slice Aa0 d0.length ca0) s0) ?_
  refine RQ.y rfl (Y.len (by kernel_rfl) rfl) ?_
  refine RQ.y rfl (Y.binI (v := .bool (decide ((d0.length : Int) < 1))) rfl rfl rfl) ?_
  refine RQ.y rfl (Y.move (v := .bool (decide ((d0.length : Int) < 1))) rfl) ?_
  rcases bcases (decide ((d0.length : Int) < 1)) with c1 | c1
  · replace hm := cF c1 hm
    have pc1 := of_decide_eq_false c1
    refine RQ.y (wantT (dj := 8) rfl (vb rfl c1)) (Y.move (v := .slice Aa0 d0.length ca0) s0) ?_
    refine RQ.y (wantT (dj := 8) rfl (vb rfl c1)) (Y.len (by kernel_rfl) rfl) ?_
    refine RQ.y (wantT (dj := 8) rfl (vb rfl c1)) (Y.binI (v := .bool (decide ((d0.length : Int) > 600))) rfl rfl rfl) ?_
    refine RQ.y rfl (Y.pick (b := false) (v := .bool (decide ((d0.length : Int) > 600))) (vb rfl c1) rfl) ?_
    refine RQ.nil ?_
    refine then_n ?_
    rcases bcases (decide ((d0.length : Int) > 600)) with c2 | c2
    · replace hm := cF c2 hm
      have pc2 := of_decide_eq_false c2
      refine cond_f rfl (vb rfl c2) ?_
      refine wp_skip ?_
      refine then_n ?_
      refine wp_seq ?_
      refine wp_seq ?_
      refine wp_rs rfl ?_
      refine RQ.y rfl (Y.move (v := .slice Aa0 d0.length ca0) s0) ?_
      refine RQ.y rfl (Y.len (by kernel_rfl) rfl) ?_
      refine RQ.y rfl (Y.move (v := .int .i64 0) rfl) ?_
      refine RQ.nil ?_
      refine then_n ?_
      refine wp_block ?_
      obtain ⟨K1, hK1, hm⟩ : ∃ K, K = m_impl_areAgents_A1 ∧ m_impl_areAgents_L1 d0 K (d0.length + 1) 0 = some r := ⟨_, rfl, hm⟩
      refine wp_loopX (fun g f w' => ∃ (i4 : Int), f 13 = .slice Aa0 d0.length ca0 ∧ f 14 = .int .i64 (d0.length : Int) ∧ f 15 = .int .i64 i4 ∧ 0 ≤ i4 ∧ Below w.heap.size w w' ∧ m_impl_areAgents_L1 d0 K1 g i4 = some r) 0 (fun f w' => Below w.heap.size w w' ∧ m_impl_areAgents_A1  = some r) (d0.length + 1) ⟨0, rfl, rfl, rfl, (by omega), T, hm⟩ ?_ ?_
      · rintro f w3 ⟨T, hm⟩
        unfold m_impl_areAgents_A1 at hm
        refine blk_hit (then_n ?_)
        refine wp_seq ?_
        refine wp_rs rfl ?_
        refine RQ.y rfl (Y.assign (v := .bool true) rfl) ?_
        refine RQ.nil ?_
        refine then_n ?_
        refine wp_ret ?_
        obtain rfl := Option.some.inj hm
        exact (ret1 rfl rfl rfl ⟨rfl, T⟩)
      · rintro g f w5 ⟨i4, s13_1, s14_1, s15_1, nn15_1, T, hm⟩
        rcases g with _ | g
        · simp only [m_impl_areAgents_L1] at hm; cases hm
        obtain ⟨rec1, hrec1, hm⟩ : ∃ z, z = m_impl_areAgents_L1 d0 K1 g ∧ m_impl_areAgents_B1 d0 z K1 i4 = some r := ⟨_, rfl, hm⟩
        unfold m_impl_areAgents_B1 at hm
        refine wp_seq ?_
        refine wp_rs rfl ?_
        refine RQ.y rfl (Y.binI (v := .bool (decide (i4 < (d0.length : Int)))) s15_1 s14_1 rfl) ?_
        refine RQ.nil ?_
        refine then_n ?_
        refine wp_seq ?_
        rcases bcases (decide (i4 < (d0.length : Int))) with c6 | c6
        · replace hm := cF c6 hm
          have pc6 := of_decide_eq_false c6
          refine cond_f rfl (vb rfl c6) ?_
          refine wp_exit ?_
          exact (then_x (then_x (hit_x ⟨_, rfl, ⟨T, (by rw [hK1] at hm; exact hm)⟩⟩)))
        · replace hm := cT c6 hm
          have pc6 := of_decide_eq_true c6
          refine cond_t rfl (vb rfl c6) ?_
          refine wp_skip ?_
          refine then_n ?_
          refine wp_seq ?_
          refine wp_block ?_
          refine wp_seq ?_
          refine wp_rl rfl ?_
          refine RL.y rfl (Y.move (v := .int .i64 i4) s15_1) ?_
          obtain ⟨x7, hx10, hm⟩ := bnd hm
          obtain ⟨k8, hk11, hl12, hx10⟩ := getI_some hx10
          obtain ⟨b14, o15, rfl, hbb14⟩ := ha0.addr (by omega)
          obtain ⟨cs9, hRcs9, hc13⟩ := ha0.el hx10
          have hScs9 := hRcs9
          obtain ⟨A16, n16, c16, A17, n17, c17, rfl, ⟨h16, r16⟩, ⟨h17, r17⟩⟩ := hRcs9
          have e16 := h16.len; subst e16
          have q16 := len_le r16
          have e17 := h17.len; subst e17
          have q17 := len_le r17
          refine RL.y rfl (Y.indexAddr (m := k8) (sz := 5) s13_1 s15_1 hk11 hl12 (by kernel_rfl)) ?_
          refine RL.y rfl (Y.loadN (cs := [.int .i64 x7.kind, .int .i64 x7.level, .int .i64 x7.value, .slice A16 x7.data.length c16, .slice A17 x7.ports.length c17]) rfl (by kernel_rfl) (cells5 (eqC (cellT T (hc13 0 _ rfl))) (eqC (cellT T (hc13 1 _ rfl))) (eqC (cellT T (hc13 2 _ rfl))) (eqC (cellT T (hc13 3 _ rfl))) (eqC (cellT T (hc13 4 _ rfl))))) ?_
          refine RL.alloc (z := .agg #[.int .i64 0, .int .i64 0, .int .i64 0, .slice none 0 0, .slice none 0 0]) rfl (by kernel_rfl) (fun w18 B19 hb20 szw18 => ?_)
          replace B19 : Blk w18 w5.heap.size 49 #[.int .i64 0, .int .i64 0, .int .i64 0, .slice none 0 0, .slice none 0 0] := B19
          have GB19 : w.heap.size ≤ w5.heap.size := T.size
          have T := Tt T hb20
          refine RL.y rfl (Y.assign (v := .int .i64 i4) rfl) ?_
          refine RL.store (v := .agg #[.int .i64 x7.kind, .int .i64 x7.level, .int .i64 x7.value, .slice A16 x7.data.length c16, .slice A17 x7.ports.length c17]) (cs' := #[.int .i64 x7.kind, .int .i64 x7.level, .int .i64 x7.value, .slice A16 x7.data.length c16, .slice A17 x7.ports.length c17]) rfl rfl rfl B19 (by kernel_rfl) (by rfl) (by rfl) (by rfl) (fun w22 B23 ho24 => ?_)
          have szw22 := ho24.size
          have T := T.trans (ho24.below (by simp; omega))
          refine RL.nil ?_
          refine then_n ?_
          refine wp_seq ?_
          refine wp_rb rfl ?_
          refine RQ.y rfl (Y.loadN (cs := [.int .i64 x7.kind, .int .i64 x7.level, .int .i64 x7.value, .slice A16 x7.data.length c16, .slice A17 x7.ports.length c17]) rfl (by kernel_rfl) (cells5 (beC (blkCell B23 (i := 0) rfl)) (beC (blkCell B23 (i := 1) rfl)) (beC (blkCell B23 (i := 2) rfl)) (beC (blkCell B23 (i := 3) rfl)) (beC (blkCell B23 (i := 4) rfl)))) ?_
          obtain ⟨y25, e26, hm⟩ := bnd hm
          refine RQ.call rfl (am1 rfl) (by kernel_rfl) (v := .bool y25) (bel (K := fun _ => True) fun w' hb' => (c_m_impl_wellFormed x7 _ e26 _ w' (stArg (R := agentRd) ⟨_, _, _, _, _, _, rfl, ⟨SlAt.now intRd_ok h16 (Nat.le_refl _) (Tt T hb'), r16⟩, ⟨SlAt.now portRd_ok h17 (Nat.le_refl _) (Tt T hb'), r17⟩⟩))) ?_
          refine RQ.y rfl (Y.not (b' := (!y25)) rfl rfl) ?_
          refine RQ.y rfl (Y.move (v := .bool (!y25)) rfl) ?_
          rcases bcases y25 with c27 | c27
          · replace hm := cF c27 hm
            refine RQ.skip (wantN (dj := 23) rfl (vbn rfl c27 rfl) rfl) ?_
            refine RQ.skip (wantN (dj := 23) rfl (vbn rfl c27 rfl) rfl) ?_
            refine RQ.skip (wantN (dj := 23) rfl (vbn rfl c27 rfl) rfl) ?_
            refine RQ.skip (wantN (dj := 23) rfl (vbn rfl c27 rfl) rfl) ?_
            refine RQ.skip (wantN (dj := 23) rfl (vbn rfl c27 rfl) rfl) ?_
            refine RQ.skip (wantN (dj := 23) rfl (vbn rfl c27 rfl) rfl) ?_
            refine RQ.y rfl (Y.pick (b := true) (v := .bool true) (vbn rfl c27 rfl) rfl) ?_
            refine RQ.nil ?_
            intro w28 hb29
            have szw28 := hb29.size
            have T := Tt T hb29
            refine then_n ?_
            refine cond_t rfl rfl ?_
            refine wp_seq ?_
            refine wp_rs rfl ?_
            refine RQ.y rfl (Y.assign (v := .bool false) rfl) ?_
            refine RQ.nil ?_
            refine then_n ?_
            refine wp_ret ?_
            obtain rfl := Option.some.inj hm
            exact (blk_r (then_r (then_r (hit_r (blk_r (then_r (ret1 rfl rfl rfl ⟨rfl, T⟩)))))))
          · replace hm := cT c27 hm
            refine RQ.y (wantT (dj := 23) rfl (vbn rfl c27 rfl)) (Y.fieldAddr (off := 0) rfl (by kernel_rfl)) ?_
            refine RQ.y (wantT (dj := 23) rfl (vbn rfl c27 rfl)) (Y.load (v := .int .i64 x7.kind) rfl (by kernel_rfl) (beC (blkCell B23 (i := 0) rfl))) ?_
            refine RQ.y (wantT (dj := 23) rfl (vbn rfl c27 rfl)) (Y.binI (v := .bool (x7.kind == 1)) rfl rfl rfl) ?_
            refine RQ.y (wantT (dj := 23) rfl (vbn rfl c27 rfl)) (Y.move (v := .int .i64 i4) rfl) ?_
            refine RQ.y (wantT (dj := 23) rfl (vbn rfl c27 rfl)) (Y.binI (v := .bool (i4 == 0)) rfl rfl rfl) ?_
            refine RQ.y (wantT (dj := 23) rfl (vbn rfl c27 rfl)) (Y.beq (c := ((x7.kind == 1) != (i4 == 0))) (by kernel_rfl) rfl rfl (.inr ⟨rfl, rfl⟩)) ?_
            refine RQ.y rfl (Y.pick (b := false) (v := .bool ((x7.kind == 1) != (i4 == 0))) (vbn rfl c27 rfl) rfl) ?_
            refine RQ.nil ?_
            intro w30 hb31
            have szw30 := hb31.size
            have T := Tt T hb31
            refine then_n ?_
            rcases bcases ((x7.kind == 1) != (i4 == 0)) with c32 | c32
            · replace hm := cF c32 hm
              refine cond_f rfl (vb rfl c32) ?_
              refine wp_skip ?_
              refine blk_n (then_n ?_)
              refine wp_rs rfl ?_
              refine RQ.y rfl (Y.binI s15_1 rfl (binI_add (m := i4) (by omega))) ?_
              refine RQ.y rfl (Y.move (v := .int .i64 (i4 + 1)) rfl) ?_
              refine RQ.nil ?_
              exact (then_n ⟨g, _, Nat.lt_succ_self _, rfl, ⟨(i4 + 1), s13_1, s14_1, rfl, (by omega), T, (by rw [← hrec1]; exact hm)⟩⟩)
            · replace hm := cT c32 hm
              refine cond_t rfl (vb rfl c32) ?_
              refine wp_seq ?_
              refine wp_rs rfl ?_
              refine RQ.y rfl (Y.assign (v := .bool false) rfl) ?_
              refine RQ.nil ?_
              refine then_n ?_
              refine wp_ret ?_
              obtain rfl := Option.some.inj hm
              exact (blk_r (then_r (then_r (hit_r (blk_r (then_r (ret1 rfl rfl rfl ⟨rfl, T⟩)))))))
    · replace hm := cT c2 hm
      have pc2 := of_decide_eq_true c2
      refine cond_t rfl (vb rfl c2) ?_
      refine wp_seq ?_
      refine wp_rs rfl ?_
      refine RQ.y rfl (Y.assign (v := .bool false) rfl) ?_
      refine RQ.nil ?_
      refine then_n ?_
      refine wp_ret ?_
      obtain rfl := Option.some.inj hm
      exact (then_r (ret1 rfl rfl rfl ⟨rfl, T⟩))
  · replace hm := cT c1 hm
    have pc1 := of_decide_eq_true c1
    refine RQ.skip (wantN (dj := 8) rfl (vb rfl c1) rfl) ?_
    refine RQ.skip (wantN (dj := 8) rfl (vb rfl c1) rfl) ?_
    refine RQ.skip (wantN (dj := 8) rfl (vb rfl c1) rfl) ?_
    refine RQ.y rfl (Y.pick (b := true) (v := .bool true) (vb rfl c1) rfl) ?_
    refine RQ.nil ?_
    refine then_n ?_
    refine cond_t rfl rfl ?_
    refine wp_seq ?_
    refine wp_rs rfl ?_
    refine RQ.y rfl (Y.assign (v := .bool false) rfl) ?_
    refine RQ.nil ?_
    refine then_n ?_
    refine wp_ret ?_
    obtain rfl := Option.some.inj hm
    exact (then_r (ret1 rfl rfl rfl ⟨rfl, T⟩))
def m_impl_ValidNet (d0 : DNet) : Option Bool :=
  ((m_impl_areAgents d0.agents).bind fun y6 => (bif y6 then ((m_impl_Net_ports d0).bind fun y11 => ((m_slices_ContainsFunc_impl_Port_impl_Port y11 (fun x0 => m_impl_ValidNet_1 x0 d0)).bind fun y18 => some (!y18))) else some false))
set_option maxHeartbeats 2000000 in
theorem c_m_impl_ValidNet (d0 : DNet) (r : Bool) (hm : m_impl_ValidNet d0 = some r) (v0 : Value) (w : World) (hv0 : St netRd w v0 d0) :
    Calls Tryz.prog 18 #[v0] w fun e w' => e = .returned (.bool r) ∧ Below w.heap.size w w' := by
  obtain ⟨csa0, rfl, ⟨A1, n1, c1, rfl, ⟨h1, r1⟩⟩⟩ := hv0
  have e1 := h1.len; subst e1
  have q1 := len_le r1
  have T := Below.refl w.heap.size w
  unfold m_impl_ValidNet at hm
  refine enter 11 Tryz.func18 rfl rfl rfl ?_
  intro f hf
  have s0 : f 0 = .agg #[.slice A1 d0.agents.length c1] := hf 0 _ rfl
  refine wp_seq ?_
  refine wp_rl rfl ?_
  refine RL.box rfl s0 (fun w2 B3 hb4 szw2 => ?_)
  replace B3 : Blk w2 w.heap.size 29 #[.slice A1 d0.agents.length c1] := B3
  have GB3 : w.heap.size ≤ w.heap.size := T.size
  have T := Tt T hb4
  refine RL.y rfl (Y.assign (v := .bool false) rfl) ?_
  refine RL.nil ?_
  refine then_n ?_
  refine wp_seq ?_
  refine wp_seq ?_
  refine wp_rb rfl ?_
  refine RQ.y rfl (Y.fieldAddr (off := 0) rfl (by kernel_rfl)) ?_
  refine RQ.y rfl (Y.load (v := .slice A1 d0.agents.length c1) rfl (by kernel_rfl) (beC (blkCell B3 (i := 0) rfl))) ?_
  obtain ⟨y6, e7, hm⟩ := bnd hm
  refine RQ.call rfl (am1 rfl) (by kernel_rfl) (v := .bool y6) (bel (K := fun _ => True) fun w' hb' => (c_m_impl_areAgents d0.agents _ e7 _ w' (slArg agentRd_ok h1 r1 (Tt T hb')))) ?_
  refine RQ.y rfl (Y.not (b' := (!y6)) rfl rfl) ?_
  refine RQ.nil ?_
  intro w8 hb9
  have szw8 := hb9.size
  have B3 := blkT B3 hb9
  have T := Tt T hb9
  refine then_n ?_
  rcases bcases y6 with c10 | c10
  · replace hm := cF c10 hm
    refine cond_t rfl (vbn rfl c10 rfl) ?_
    refine wp_seq ?_
    refine wp_rs rfl ?_
    refine RQ.y rfl (Y.assign (v := .bool false) rfl) ?_
    refine RQ.nil ?_
    refine then_n ?_
    refine wp_ret ?_
    obtain rfl := Option.some.inj hm
    exact (then_r (ret1 rfl rfl rfl ⟨rfl, T⟩))
  · replace hm := cT c10 hm
    refine cond_f rfl (vbn rfl c10 rfl) ?_
    refine wp_skip ?_
    refine then_n ?_
    refine wp_seq ?_
    refine wp_rl rfl ?_
    obtain ⟨y11, e12, hm⟩ := bnd hm
    refine RL.call rfl (am1 rfl) (by kernel_rfl) ((c_m_impl_Net_ports d0 _ e12 _ _ (ptBox (R := netRd) B3 ⟨_, _, _, rfl, ⟨SlAt.now agentRd_ok h1 (Nat.le_refl _) T, r1⟩⟩)).mono ?_)
    rintro _ w16 ⟨⟨v13, rfl, G14⟩, hb17⟩
    refine ⟨_, rfl, ?_⟩
    have szw16 := hb17.size
    have T0w16 := T.size
    have No15_ob5 := OwF.ne G14 B3.lt
    have B3 := blkT B3 hb17
    have T := Tt T hb17
    replace G14 := OwF.mono G14 T0w16
    refine RL.y rfl (Y.makeFunc (vals := #[.pointer (some ⟨w.heap.size, 0, none⟩)]) (am1 rfl)) ?_
    obtain ⟨y18, e19, hm⟩ := bnd hm
    refine RL.call rfl (am2 rfl rfl) (by kernel_rfl) ((c_m_slices_ContainsFunc_impl_Port_impl_Port y11 (fun x0 => m_impl_ValidNet_1 x0 d0) _ e19 _ _ _ _ (OwF.arg fPort G14) (by kernel_rfl) (fun x0 b hx w1 hb1 => Calls.arr (by simp) (c_m_impl_ValidNet_1 x0 d0 _ hx _ w1 (ptBox (R := netRd) (blkT B3 hb1) ⟨_, _, _, rfl, ⟨SlAt.now agentRd_ok h1 (Nat.le_refl _) (Tt T hb1), r1⟩⟩)))).mono ?_)
    rintro _ w20 ⟨rfl, hb21⟩
    refine ⟨_, rfl, ?_⟩
    have szw20 := hb21.size
    have B3 := blkT B3 hb21
    have G14 := OwF.below G14 hb21
    have T := Tt T hb21
    refine RL.y rfl (Y.not (b' := (!y18)) rfl rfl) ?_
    refine RL.y rfl (Y.assign (v := .bool (!y18)) rfl) ?_
    refine RL.nil ?_
    refine then_n ?_
    refine wp_ret ?_
    obtain rfl := Option.some.inj hm
    exact (ret1 rfl rfl rfl ⟨rfl, T⟩)
end
section
open Go.RowKit
set_option linter.unusedVariables false
set_option linter.unusedSimpArgs false
theorem allDef {xs : List Int} : (∀ k, k < xs.length → ∃ x, xs[k]? = some x ∧ defIx x = true) ↔ xs.all defIx = true := by
  rw [List.all_eq_true]
  constructor
  · intro h x hx
    obtain ⟨k, hk, rfl⟩ := List.getElem_of_mem hx
    obtain ⟨y, hy, hd⟩ := h k hk
    rw [List.getElem?_eq_getElem hk] at hy
    injection hy with hy
    rw [hy]; exact hd
  · intro h k hk
    exact ⟨xs[k], List.getElem?_eq_getElem hk, h _ (List.getElem_mem _)⟩
theorem inR_def (x : Int) : inR x 0 23 = defIx x := rfl
theorem content_L1 (x : DAgent) (g : Nat) (hg : x.data.length < g) : m_spec_l11Content_L1 x m_spec_l11Content_A1 g 0 = some (x.data.all defIx) := by
  have h := allI (L := m_spec_l11Content_L1 x m_spec_l11Content_A1) (n := x.data.length) (p := fun k => ∃ y, x.data[k]? = some y ∧ defIx y = true) (no := some false) (K := some true)
    (fun g k hk ⟨y, hy, hd⟩ => by simp [m_spec_l11Content_L1, m_spec_l11Content_B1, hk, getI_nat hy, m_spec_l11Def, inR_def, hd])
    (fun g k hk hn => by
      have hd : defIx x.data[k] = false := by
        cases h : defIx x.data[k] with
        | false => rfl
        | true => exact absurd ⟨_, List.getElem?_eq_getElem hk, h⟩ hn
      simp [m_spec_l11Content_L1, m_spec_l11Content_B1, hk, getI_lt hk, m_spec_l11Def, inR_def, hd])
    (fun g => by simp [m_spec_l11Content_L1, m_spec_l11Content_B1, m_spec_l11Content_A1]) g hg
  rw [h]
  by_cases ha : x.data.all defIx = true
  · rw [if_pos (allDef.2 ha), ha]
  · rw [if_neg (fun hh => ha (allDef.1 hh))]; simp at ha ⊢; exact ha
theorem content_L2 (x : DAgent) (g : Nat) (hg : x.data.length < g) : m_spec_l11Content_L2 x m_spec_l11Content_A2 g 0 = some (x.data.all defIx) := by
  have h := allI (L := m_spec_l11Content_L2 x m_spec_l11Content_A2) (n := x.data.length) (p := fun k => ∃ y, x.data[k]? = some y ∧ defIx y = true) (no := some false) (K := some true)
    (fun g k hk ⟨y, hy, hd⟩ => by simp [m_spec_l11Content_L2, m_spec_l11Content_B2, hk, getI_nat hy, m_spec_l11Def, inR_def, hd])
    (fun g k hk hn => by
      have hd : defIx x.data[k] = false := by
        cases h : defIx x.data[k] with
        | false => rfl
        | true => exact absurd ⟨_, List.getElem?_eq_getElem hk, h⟩ hn
      simp [m_spec_l11Content_L2, m_spec_l11Content_B2, hk, getI_lt hk, m_spec_l11Def, inR_def, hd])
    (fun g => by simp [m_spec_l11Content_L2, m_spec_l11Content_B2, m_spec_l11Content_A2]) g hg
  rw [h]
  by_cases ha : x.data.all defIx = true
  · rw [if_pos (allDef.2 ha), ha]
  · rw [if_neg (fun hh => ha (allDef.1 hh))]; simp at ha ⊢; exact ha
theorem p_content (x : DAgent) : m_spec_l11Content x = some (content x.kind x.value x.data) := by
  have l1 := content_L1 x (x.data.length + 1) (by omega)
  have l2 := content_L2 x (x.data.length + 1) (by omega)
  have i2 : ((x.data.length : Int) = 2) ↔ x.data.length = 2 := by omega
  have i1 : ((x.data.length : Int) = 1) ↔ x.data.length = 1 := by omega
  have i14 : inR (x.data.length : Int) 1 4 = (decide (1 ≤ x.data.length) && decide (x.data.length ≤ 4)) := by
    rw [Bool.eq_iff_iff]; simp [inR]; omega
  have hI : ∀ y, inR y (-2147483648) 2147483647 = int32B y := fun _ => rfl
  have hO : inR x.value 1 6 = operB x.value := rfl
  unfold m_spec_l11Content content
  simp only [hI, hO, l1, l2, m_spec_l11Def, inR_def, Bool.cond_eq_ite, beq_iff_eq, bne_iff_ne, ne_eq, i14, i1, i2]
  by_cases h8 : x.kind = 8
  · by_cases h0 : x.data.length = 1
    · obtain ⟨y, hy⟩ : ∃ y, x.data = [y] := List.length_eq_one_iff.1 h0
      simp only [h8, hy]
      cases ho : operB x.value <;> simp [getI]
    · simp [h8, h0]
  by_cases h6 : x.kind = 6
  · by_cases h0 : x.data.length = 0 <;> simp [h6, h0]
  by_cases h7 : x.kind = 7
  · by_cases h0 : x.data.length = 0 <;> simp [h7, h0]
  by_cases h9 : x.kind = 9
  · by_cases h0 : x.data.length = 0 <;> simp [h9, h0, inR]
  by_cases h12 : x.kind = 12
  · by_cases h0 : x.data.length = 0 <;> simp [h12, h0]
  by_cases h10 : x.kind = 10
  · by_cases hv : x.value = 0 <;> by_cases n1 : 1 ≤ x.data.length <;> by_cases n4 : x.data.length ≤ 4 <;> simp [h10, hv, n1, n4]
  by_cases h11 : x.kind = 11
  · by_cases hv : x.value = 0 <;> by_cases hn : x.data.length = 2 <;> simp [h11, hv, hn]
  by_cases hv : x.value = 0 <;> by_cases h0 : x.data.length = 0 <;> simp [h6, h7, h8, h9, h10, h11, h12, hv, h0]
theorem p_fields (x : DAgent) (hp : x.ports.length ≤ 9223372036854775807) : m_spec_l11Fields x = some (fieldsN x.kind x.ports.length) := by
  unfold m_spec_l11Fields fieldsN
  simp only [Bool.cond_eq_ite, beq_iff_eq]
  by_cases h : x.kind = 9
  · simp [h, ck_ok (n := (x.ports.length : Int) - 1) (by omega)]
  · simp [h]
theorem p_agent (x : DAgent) (hp : x.ports.length ≤ 9223372036854775807) : m_spec_l11Agent x = some (agentOk x) := by
  unfold m_spec_l11Agent agentOk
  simp only [p_fields x hp, Option.bind_some, p_content, Bool.cond_eq_ite, beq_iff_eq, decide_eq_true_eq]
  generalize portsOf x.kind (fieldsN x.kind x.ports.length) = p
  by_cases h1 : p > 0
  · have h1' : 0 < p := h1
    by_cases h2 : (x.ports.length : Int) = p
    · cases h3 : allowed x.kind x.level <;> simp [h1, h1', h2]
    · simp [h1, h1', h2]
  · have h1' : ¬ 0 < p := h1
    simp [h1, h1']
theorem p_ifields (k : Int) (n : Nat) (hn : n ≤ 9223372036854775807) : m_impl_fieldsOf k (n : Int) = some (fieldsN k n) := by
  unfold m_impl_fieldsOf fieldsN
  simp only [Bool.cond_eq_ite, beq_iff_eq]
  by_cases h : k = 9
  · simp [h, ck_ok (n := (n : Int) - 1) (by omega)]
  · simp [h]
theorem p_isDef (n : Int) : m_impl_isDefIndex n = some (defIx n) := by
  unfold m_impl_isDefIndex defIx
  simp only [Bool.cond_eq_ite, decide_eq_true_eq]
  by_cases h : 0 ≤ n <;> simp [h] <;> omega
theorem p_isInt (n : Int) : m_impl_isInt n = some (int32B n) := by
  unfold m_impl_isInt int32B
  simp only [Bool.cond_eq_ite, decide_eq_true_eq]
  by_cases h : -2147483648 ≤ n <;> simp [h]
theorem p_isOper (n : Int) : m_impl_isOperator n = some (operB n) := by
  unfold m_impl_isOperator operB
  simp only [Bool.cond_eq_ite, decide_eq_true_eq]
  by_cases h : 1 ≤ n <;> simp [h]
theorem p_index_int (d : List Int) (p : Int → Option Bool) (q : Int → Bool) (h : ∀ x ∈ d, p x = some (q x)) : ∃ i, m_slices_IndexFunc_int64_int64 d p = some i ∧ decide (i ≥ 0) = d.any q := by
  unfold m_slices_IndexFunc_int64_int64
  by_cases ha : ∃ k, k < d.length ∧ ∃ x, d[k]? = some x ∧ q x = true
  · obtain ⟨m, ⟨hm, x, hx, hq⟩, hl⟩ : ∃ m, (m < d.length ∧ ∃ x, d[m]? = some x ∧ q x = true) ∧ ∀ k, k < m → ∀ y, d[k]? = some y → q y = false := by
      obtain ⟨k0, hk0⟩ := ha
      induction k0 using Nat.strongRecOn with
      | _ k0 ih =>
        by_cases hh : ∃ k, k < k0 ∧ k < d.length ∧ ∃ x, d[k]? = some x ∧ q x = true
        · obtain ⟨k, hk, hk1⟩ := hh; exact ih k hk hk1
        · exact ⟨k0, hk0, fun k hk y hy => by
            cases hq : q y with
            | false => rfl
            | true => exact absurd ⟨k, hk, lt_of_some hy, y, hy, hq⟩ hh⟩
    refine ⟨m, ?_, ?_⟩
    · refine trajI (n := m) (fun g k hk => ?_) (fun g => ?_) _ (by omega)
      · have hkl : k < d.length := by omega
        have hy := List.getElem?_eq_getElem hkl
        simp [m_slices_IndexFunc_int64_int64_L1, m_slices_IndexFunc_int64_int64_B1, hkl, getI_lt hkl, h _ (List.getElem_mem hkl), hl k hk _ hy]
      · have hmem := List.mem_of_getElem? hx
        simp [m_slices_IndexFunc_int64_int64_L1, m_slices_IndexFunc_int64_int64_B1, hm, getI_nat hx, h _ hmem, hq]
    · have : d.any q = true := List.any_eq_true.2 ⟨x, List.mem_of_getElem? hx, hq⟩
      rw [this]; simp
  · refine ⟨-1, ?_, ?_⟩
    · refine trajI (n := d.length) (fun g k hk => ?_) (fun g => ?_) _ (by omega)
      · have hq : q d[k] = false := by
          cases hq : q d[k] with
          | false => rfl
          | true => exact absurd ⟨k, hk, _, List.getElem?_eq_getElem hk, hq⟩ ha
        simp [m_slices_IndexFunc_int64_int64_L1, m_slices_IndexFunc_int64_int64_B1, hk, getI_lt hk, h _ (List.getElem_mem hk), hq]
      · simp [m_slices_IndexFunc_int64_int64_L1, m_slices_IndexFunc_int64_int64_B1, m_slices_IndexFunc_int64_int64_A1]
    · have : d.any q = false := List.any_eq_false.2 fun x hx hq => by
        obtain ⟨k, hk, rfl⟩ := List.getElem_of_mem hx
        exact ha ⟨k, hk, _, List.getElem?_eq_getElem hk, hq⟩
      rw [this]; simp
theorem p_contains_int (d : List Int) (p : Int → Option Bool) (q : Int → Bool) (h : ∀ x ∈ d, p x = some (q x)) : m_slices_ContainsFunc_int64_int64 d p = some (d.any q) := by
  obtain ⟨i, h1, h2⟩ := p_index_int d p q h
  simp -implicitDefEqProofs only [m_slices_ContainsFunc_int64_int64, h1, Option.bind_some, h2]
theorem p_wellFormed (x : DAgent) (hp : x.ports.length ≤ 9223372036854775807) : m_impl_wellFormed x = some (agentOk x) := by
  have hc := p_contains_int x.data (fun x0 => m_impl_wellFormed_1 x0) (fun x0 => !defIx x0) (fun y _ => by simp [m_impl_wellFormed_1, p_isDef])
  have hall : x.data.all defIx = !(x.data.any fun x0 => !defIx x0) := by rw [List.not_any_eq_all_not]; simp
  have e0 : ((x.data.length : Int) == 0) = decide (x.data.length = 0) := by rw [Bool.eq_iff_iff]; simp
  have i2 : ((x.data.length : Int) = 2) ↔ x.data.length = 2 := by omega
  have i1 : ((x.data.length : Int) = 1) ↔ x.data.length = 1 := by omega
  have g1 : ((x.data.length : Int) ≥ 1) ↔ 1 ≤ x.data.length := by omega
  have g4 : ((x.data.length : Int) ≤ 4) ↔ x.data.length ≤ 4 := by omega
  have ip : ((x.ports.length : Int) = 0) ↔ x.ports.length = 0 := by omega
  unfold m_impl_wellFormed agentOk
  simp only [p_ifields _ _ hp, Option.bind_some, hc, p_isInt, p_isOper, p_isDef, content, hall, e0, Bool.cond_eq_ite, beq_iff_eq, bne_iff_ne, ne_eq, decide_eq_true_eq, i1, i2, ip, g1, g4, ge_iff_le]
  generalize hp0 : portsOf x.kind (fieldsN x.kind x.ports.length) = p
  by_cases h0 : x.ports.length = 0
  · by_cases h1 : 0 < p
    · have : ¬ (x.ports.length : Int) = p := by omega
      simp [h0]; intro h2; omega
    · simp [h0, h1]
  by_cases h2 : p = (x.ports.length : Int)
  case neg =>
    have h2' : ¬ (x.ports.length : Int) = p := fun e => h2 e.symm
    simp [h0, h2, h2']
  have hpos : 0 < x.ports.length := by omega
  have v4 : x.value < 4 ↔ x.value ≤ 3 := by omega
  subst h2
  generalize hany : (x.data.any fun x0 => !defIx x0) = anyb
  cases h3 : allowed x.kind x.level
  · simp [h0]
  by_cases k6 : x.kind = 6
  · cases hi : int32B x.value <;> simp [h0, hpos, k6]
  by_cases k7 : x.kind = 7
  · cases hi : operB x.value <;> simp [h0, hpos, k7]
  by_cases k8 : x.kind = 8
  · by_cases hd : x.data.length = 1
    · obtain ⟨y, hy⟩ : ∃ y, x.data = [y] := List.length_eq_one_iff.1 hd
      cases hi : operB x.value <;> simp [h0, hpos, k8, hy, getI]
    · cases hi : operB x.value <;> simp [h0, hpos, k8, hd]
  by_cases k9 : x.kind = 9
  · by_cases v0 : 0 ≤ x.value <;> by_cases v3 : x.value ≤ 3
    all_goals simp [h0, hpos, k9, v0, v3, v4]
  by_cases k10 : x.kind = 10
  · by_cases v0 : x.value = 0 <;> by_cases n1 : 1 ≤ x.data.length <;> by_cases n4 : x.data.length ≤ 4 <;> simp [h0, hpos, k10, v0, n1, n4]
  by_cases k11 : x.kind = 11
  · by_cases v0 : x.value = 0 <;> by_cases n2 : x.data.length = 2 <;> simp [h0, hpos, k11, v0, n2]
  by_cases k12 : x.kind = 12
  · cases hi : defIx x.value <;> simp [h0, hpos, k12]
  by_cases v0 : x.value = 0 <;> simp [h0, hpos, k6, k7, k8, k9, k10, k11, k12, v0]
theorem agentsOk_iff {xs : List DAgent} : agentsOk xs = true ↔ AgentsOk xs := by unfold agentsOk; simp
theorem agents_p {xs : List DAgent} : (∀ k, k < xs.length → ∃ x, xs[k]? = some x ∧ agentOk x = true ∧ decide (x.kind = 1) = decide (k = 0)) ↔ ∀ (i : Nat) (x : DAgent), xs[i]? = some x → agentOk x = true ∧ decide (x.kind = 1) = decide (i = 0) := by
  constructor
  · intro h i x hx
    obtain ⟨y, hy, h1⟩ := h i (lt_of_some hx)
    rw [hx] at hy; injection hy with hy; subst hy; exact h1
  · intro h k hk
    exact ⟨xs[k], List.getElem?_eq_getElem hk, h k _ (List.getElem?_eq_getElem hk)⟩
theorem kind_ne (k : Int) (i : Nat) : ((k == 1) != ((i : Int) == 0)) = !(decide (decide (k = 1) = decide (i = 0))) := by
  have e1 : (k == 1) = decide (k = 1) := by rw [Bool.eq_iff_iff]; simp
  have e2 : ((i : Int) == 0) = decide (i = 0) := by rw [Bool.eq_iff_iff]; simp
  rw [e1, e2]
  cases decide (k = 1) <;> cases decide (i = 0) <;> rfl
open Classical in
theorem p_agents (xs : List DAgent) (hb : ∀ x ∈ xs, x.ports.length ≤ 9223372036854775807) : m_spec_l11Agents xs = some (agentsOk xs) := by
  unfold m_spec_l11Agents
  by_cases hl : 1 ≤ xs.length ∧ xs.length ≤ 600
  · have h0 : inR (xs.length : Int) 1 600 = true := by simp [inR]; omega
    rw [h0, cond_true]
    have h := allI (L := m_spec_l11Agents_L1 xs m_spec_l11Agents_A1) (n := xs.length) (p := fun k => ∃ x, xs[k]? = some x ∧ agentOk x = true ∧ decide (x.kind = 1) = decide (k = 0)) (no := some false) (K := some true)
      (fun g k hk ⟨x, hx, h1, h2⟩ => by
        have hm := hb x (List.mem_of_getElem? hx)
        simp [m_spec_l11Agents_L1, m_spec_l11Agents_B1, hk, getI_nat hx, p_agent x hm, h1, kind_ne, h2])
      (fun g k hk hn => by
        have hx := List.getElem?_eq_getElem hk
        have hm := hb _ (List.getElem_mem hk)
        cases h1 : agentOk xs[k] with
        | false => simp [m_spec_l11Agents_L1, m_spec_l11Agents_B1, hk, getI_lt hk, p_agent _ hm, h1]
        | true =>
          have h2 : ¬ decide (xs[k].kind = 1) = decide (k = 0) := fun h2 => hn ⟨_, hx, h1, h2⟩
          simp -implicitDefEqProofs only [m_spec_l11Agents_L1, m_spec_l11Agents_B1, dlt hk, cond_true, getI_lt hk, Option.bind_some, p_agent _ hm, h1, kind_ne, decide_eq_false h2, Bool.not_false, Bool.not_true, Bool.or_true, Bool.false_or, cond_false])
      (fun g => by simp [m_spec_l11Agents_L1, m_spec_l11Agents_B1, m_spec_l11Agents_A1]) (xs.length + 1) (by omega)
    rw [h]
    by_cases ha : ∀ k, k < xs.length → ∃ x, xs[k]? = some x ∧ agentOk x = true ∧ decide (x.kind = 1) = decide (k = 0)
    · rw [if_pos ha, agentsOk_iff.2 ⟨hl.1, hl.2, agents_p.1 ha⟩]
    · rw [if_neg ha]
      cases hc : agentsOk xs with
      | false => rfl
      | true => exact absurd (agents_p.2 (agentsOk_iff.1 hc).2.2) ha
  · have h0 : inR (xs.length : Int) 1 600 = false := by simp [inR]; omega
    rw [h0, cond_false]
    cases hc : agentsOk xs with
    | false => rfl
    | true => exact absurd ⟨(agentsOk_iff.1 hc).1, (agentsOk_iff.1 hc).2.1⟩ hl
open Classical in
theorem p_areAgents (xs : List DAgent) (hb : ∀ x ∈ xs, x.ports.length ≤ 9223372036854775807) : m_impl_areAgents xs = some (agentsOk xs) := by
  unfold m_impl_areAgents
  by_cases hl : 1 ≤ xs.length ∧ xs.length ≤ 600
  · have h0 : decide ((xs.length : Int) < 1) = false := by simp; omega
    have h0' : decide ((xs.length : Int) > 600) = false := by simp; omega
    rw [h0, h0', cond_false, cond_false]
    have h := allI (L := m_impl_areAgents_L1 xs m_impl_areAgents_A1) (n := xs.length) (p := fun k => ∃ x, xs[k]? = some x ∧ agentOk x = true ∧ decide (x.kind = 1) = decide (k = 0)) (no := some false) (K := some true)
      (fun g k hk ⟨x, hx, h1, h2⟩ => by
        have hm := hb x (List.mem_of_getElem? hx)
        simp [m_impl_areAgents_L1, m_impl_areAgents_B1, hk, getI_nat hx, p_wellFormed x hm, h1, kind_ne, h2])
      (fun g k hk hn => by
        have hx := List.getElem?_eq_getElem hk
        have hm := hb _ (List.getElem_mem hk)
        cases h1 : agentOk xs[k] with
        | false => simp [m_impl_areAgents_L1, m_impl_areAgents_B1, hk, getI_lt hk, p_wellFormed _ hm, h1]
        | true =>
          have h2 : ¬ decide (xs[k].kind = 1) = decide (k = 0) := fun h2 => hn ⟨_, hx, h1, h2⟩
          simp -implicitDefEqProofs only [m_impl_areAgents_L1, m_impl_areAgents_B1, dlt hk, cond_true, getI_lt hk, Option.bind_some, p_wellFormed _ hm, h1, kind_ne, decide_eq_false h2, Bool.not_false, Bool.not_true, Bool.or_true, Bool.false_or, cond_false])
      (fun g => by simp [m_impl_areAgents_L1, m_impl_areAgents_B1, m_impl_areAgents_A1]) (xs.length + 1) (by omega)
    rw [h]
    by_cases ha : ∀ k, k < xs.length → ∃ x, xs[k]? = some x ∧ agentOk x = true ∧ decide (x.kind = 1) = decide (k = 0)
    · rw [if_pos ha, agentsOk_iff.2 ⟨hl.1, hl.2, agents_p.1 ha⟩]
    · rw [if_neg ha]
      cases hc : agentsOk xs with
      | false => rfl
      | true => exact absurd (agents_p.2 (agentsOk_iff.1 hc).2.2) ha
  · have hc : agentsOk xs = false := by
      cases hc : agentsOk xs with
      | false => rfl
      | true => exact absurd ⟨(agentsOk_iff.1 hc).1, (agentsOk_iff.1 hc).2.1⟩ hl
    by_cases h1 : xs.length < 1
    · have h0 : decide ((xs.length : Int) < 1) = true := by simp; omega
      rw [h0, cond_true, hc]
    · have h0 : decide ((xs.length : Int) < 1) = false := by simp; omega
      have h0' : decide ((xs.length : Int) > 600) = true := by simp; omega
      rw [h0, h0', cond_false, cond_true, hc]
/-- No list is longer than what a net of the laws may hold. -/
def Small (xs : List DAgent) : Prop := szAgentS xs ≤ 1048576
theorem Small.len {xs : List DAgent} (h : Small xs) : xs.length ≤ 1048576 := by unfold Small szAgentS at h; omega
theorem sum_mem {α : Type} {f : α → Nat} {xs : List α} {x : α} (h : x ∈ xs) : f x ≤ (xs.map f).sum := by
  induction xs with
  | nil => cases h
  | cons y ys ih =>
    rcases List.mem_cons.1 h with rfl | h
    · simp
    · have := ih h; simp; omega
theorem Small.ports {xs : List DAgent} (h : Small xs) {x : DAgent} (hx : x ∈ xs) : x.ports.length ≤ 1048576 := by
  have := sum_mem (f := szAgent) hx
  have e : szAgent x = x.data.length + x.ports.length := rfl
  unfold Small szAgentS at h; omega
theorem Small.data {xs : List DAgent} (h : Small xs) {x : DAgent} (hx : x ∈ xs) : x.data.length ≤ 1048576 := by
  have := sum_mem (f := szAgent) hx
  have e : szAgent x = x.data.length + x.ports.length := rfl
  unfold Small szAgentS at h; omega
theorem Small.ports' {xs : List DAgent} (h : Small xs) : ∀ x ∈ xs, x.ports.length ≤ 9223372036854775807 := fun x hx => by have := h.ports hx; omega
theorem portsFrom_len : ∀ (i : Nat) (xs : List DAgent), (portsFrom i xs).length ≤ (xs.map szAgent).sum
  | _, [] => by simp [portsFrom]
  | i, x :: xs => by have := portsFrom_len (i + 1) xs; simp [portsFrom, agentPorts, szAgent]; omega
theorem Small.all {xs : List DAgent} (h : Small xs) : (allPorts xs).length ≤ 1048576 := by
  have := portsFrom_len 0 xs
  unfold Small szAgentS at h; unfold allPorts; omega
theorem agentAt_nat {xs : List DAgent} {k : Nat} {x : DAgent} (h : xs[k]? = some x) : agentAt xs (k : Int) = x := by simp [agentAt, List.getD, h]
theorem p_port (xs : List DAgent) (p : DPort) (h : Small xs) : m_spec_l11Port xs p = some (hasPort xs p) := by
  unfold m_spec_l11Port
  have hl := h.len
  rw [ck_ok (by omega), Option.bind_some]
  by_cases ha : 0 ≤ p.agent ∧ p.agent < xs.length
  · obtain ⟨k, hk⟩ := Int.eq_ofNat_of_zero_le ha.1
    have hkl : k < xs.length := by omega
    have h0 : inR p.agent 0 ((xs.length : Int) - 1) = true := by simp [inR]; omega
    have hx := List.getElem?_eq_getElem hkl
    have hp := h.ports (List.getElem_mem hkl)
    rw [h0, cond_true, hk, getI_nat hx, Option.bind_some, ck_ok (by omega), Option.bind_some]
    congr 1
    rw [Bool.eq_iff_iff]
    simp [inR, hasPort, hk, agentAt_nat hx]
    omega
  · have h0 : inR p.agent 0 ((xs.length : Int) - 1) = false := by simp [inR]; omega
    rw [h0, cond_false]
    congr 1
    simp [hasPort]
    omega
theorem p_hasPort (xs : List DAgent) (p : DPort) : m_impl_hasPort xs p = some (hasPort xs p) := by
  unfold m_impl_hasPort
  by_cases h1 : 0 ≤ p.agent
  · by_cases h2 : p.agent < xs.length
    · by_cases h3 : 0 ≤ p.slot
      · obtain ⟨k, hk⟩ := Int.eq_ofNat_of_zero_le h1
        have hkl : k < xs.length := by omega
        have hx := List.getElem?_eq_getElem hkl
        simp [h3, hk, hkl, hasPort, getI_nat hx, agentAt_nat hx]
      · simp [h1, h2, h3, hasPort]
    · simp [h1, h2, hasPort]
  · simp [h1, hasPort]
theorem p_peer {xs : List DAgent} {p : DPort} (h : hasPort xs p = true) : m_impl_Net_peer ⟨xs⟩ p = some (peer xs p) := by
  obtain ⟨i, k, x, rfl, hx, hk, ha⟩ := hasPort_at h
  have hy := List.getElem?_eq_getElem hk
  simp [m_impl_Net_peer, getI_nat hx, getI_nat hy, peer_of hx hy]
theorem port_eq (q p : DPort) : (q.agent == p.agent && q.slot == p.slot) = decide (q = p) := by
  rw [Bool.eq_iff_iff]
  cases q; cases p; simp
theorem badPort_at {xs : List DAgent} {i k : Nat} {x : DAgent} {q : DPort} (hx : xs[i]? = some x) (hq : x.ports[k]? = some q) : badPort xs ⟨i, k⟩ = (decide (q = ⟨i, k⟩) || !hasPort xs q || !decide (peer xs q = ⟨i, k⟩)) := by
  unfold badPort; rw [peer_of hx hq]
open Classical in
theorem p_ok_inner {xs : List DAgent} (hs : Small xs) {i : Nat} {x : DAgent} (hx : xs[i]? = some x) (rec : Int → Option Bool) (g : Nat) (hg : x.ports.length < g) :
    ((∀ k, k < x.ports.length → badPort xs ⟨i, k⟩ = false) ∧ m_spec_l11Ok_L2 ⟨xs⟩ (i : Int) x (m_spec_l11Ok_A2 rec (i : Int)) g 0 = rec ((i : Int) + 1)) ∨ ((¬ ∀ k, k < x.ports.length → badPort xs ⟨i, k⟩ = false) ∧ m_spec_l11Ok_L2 ⟨xs⟩ (i : Int) x (m_spec_l11Ok_A2 rec (i : Int)) g 0 = some false) := by
  have hi := lt_of_some hx
  have hl := hs.len
  refine (allO (L := m_spec_l11Ok_L2 ⟨xs⟩ (i : Int) x (m_spec_l11Ok_A2 rec (i : Int))) (n := x.ports.length) (p := fun k => badPort xs ⟨i, k⟩ = false) (no := some false) (K := rec ((i : Int) + 1)) ?_ ?_ ?_ g hg)
  · intro g k hk hb
    have hq := List.getElem?_eq_getElem hk
    rw [badPort_at hx hq] at hb
    simp only [Bool.or_eq_false_iff, Bool.not_eq_false', decide_eq_false_iff_not, decide_eq_true_eq] at hb
    obtain ⟨⟨h1, h2⟩, h3⟩ := hb
    obtain ⟨i2, k2, x2, he, hx2, hk2, _⟩ := hasPort_at h2
    have hq2 := List.getElem?_eq_getElem hk2
    have h1' : (x.ports[k].agent == (i : Int) && x.ports[k].slot == (k : Int)) = false := by
      have := port_eq x.ports[k] ⟨i, k⟩
      simp only at this
      rw [this]; simpa using h1
    have h3' : (x2.ports[k2].agent == (i : Int) && x2.ports[k2].slot == (k : Int)) = true := by
      have := port_eq x2.ports[k2] ⟨i, k⟩
      simp only at this
      rw [this]
      rw [he, peer_of hx2 hq2] at h3
      simpa using h3
    have ha : x.ports[k].agent = (i2 : Int) := by rw [he]
    have hsl : x.ports[k].slot = (k2 : Int) := by rw [he]
    have e1 : getI xs x.ports[k].agent = some x2 := by rw [ha]; exact getI_nat hx2
    have e2 : getI x2.ports x.ports[k].slot = some x2.ports[k2] := by rw [hsl]; exact getI_nat hq2
    simp -implicitDefEqProofs only [m_spec_l11Ok_L2, m_spec_l11Ok_B2, dlt hk, cond_true, getI_lt hk, Option.bind_some, h1', cond_false, p_port xs _ hs, h2, e1, e2, h3']
  · intro g k hk hb
    have hq := List.getElem?_eq_getElem hk
    have hb : badPort xs ⟨i, k⟩ = true := by simpa using hb
    rw [badPort_at hx hq] at hb
    have hE := port_eq x.ports[k] ⟨i, k⟩
    simp only at hE
    by_cases h1 : x.ports[k] = (⟨i, k⟩ : DPort)
    · have : (x.ports[k].agent == (i : Int) && x.ports[k].slot == (k : Int)) = true := by rw [hE]; simpa using h1
      simp -implicitDefEqProofs only [m_spec_l11Ok_L2, m_spec_l11Ok_B2, dlt hk, cond_true, getI_lt hk, Option.bind_some, this]
    · have h1' : (x.ports[k].agent == (i : Int) && x.ports[k].slot == (k : Int)) = false := by rw [hE]; simpa using h1
      cases h2 : hasPort xs x.ports[k] with
      | false => simp -implicitDefEqProofs only [m_spec_l11Ok_L2, m_spec_l11Ok_B2, dlt hk, cond_true, getI_lt hk, Option.bind_some, h1', cond_false, p_port xs _ hs, h2]
      | true =>
        have h3 : ¬ peer xs x.ports[k] = (⟨i, k⟩ : DPort) := by
          intro h3; rw [h2, h3] at hb; simp [h1] at hb
        obtain ⟨i2, k2, x2, he, hx2, hk2, _⟩ := hasPort_at h2
        have hq2 := List.getElem?_eq_getElem hk2
        have h3' : (x2.ports[k2].agent == (i : Int) && x2.ports[k2].slot == (k : Int)) = false := by
          have := port_eq x2.ports[k2] ⟨i, k⟩
          simp only at this
          rw [this]
          rw [he, peer_of hx2 hq2] at h3
          simpa using h3
        have ha : x.ports[k].agent = (i2 : Int) := by rw [he]
        have hsl : x.ports[k].slot = (k2 : Int) := by rw [he]
        have e1 : getI xs x.ports[k].agent = some x2 := by rw [ha]; exact getI_nat hx2
        have e2 : getI x2.ports x.ports[k].slot = some x2.ports[k2] := by rw [hsl]; exact getI_nat hq2
        simp -implicitDefEqProofs only [m_spec_l11Ok_L2, m_spec_l11Ok_B2, dlt hk, cond_true, getI_lt hk, Option.bind_some, h1', cond_false, p_port xs _ hs, h2, e1, e2, h3']
  · intro g
    simp -implicitDefEqProofs only [m_spec_l11Ok_L2, m_spec_l11Ok_B2, dge, cond_false, m_spec_l11Ok_A2]
    rw [ck_ok (by omega), Option.bind_some]
theorem portsOk_p {xs : List DAgent} : (∀ i, i < xs.length → ∃ x, xs[i]? = some x ∧ ∀ k, k < x.ports.length → badPort xs ⟨i, k⟩ = false) ↔ PortsOk xs := by
  constructor
  · intro h i x hx k hk
    obtain ⟨y, hy, h1⟩ := h i (lt_of_some hx)
    rw [hx] at hy; injection hy with hy; subst hy; exact h1 k hk
  · intro h i hi
    exact ⟨xs[i], List.getElem?_eq_getElem hi, fun k hk => h i _ (List.getElem?_eq_getElem hi) k hk⟩
theorem validNet_iff {x : DNet} : validNet x = true ↔ AgentsOk x.agents ∧ PortsOk x.agents := by unfold validNet; simp
open Classical in
theorem p_ok (d : DNet) (hs : Small d.agents) : m_spec_l11Ok d = some (validNet d) := by
  obtain ⟨xs⟩ := d
  have hs : Small xs := hs
  unfold m_spec_l11Ok
  rw [p_agents xs hs.ports', Option.bind_some]
  cases hag : agentsOk xs with
  | false =>
    rw [cond_false]
    cases hv : validNet ⟨xs⟩ with
    | false => rfl
    | true => rw [agentsOk_iff.2 (validNet_iff.1 hv).1] at hag; cases hag
  | true =>
    rw [cond_true]
    have h := allO (L := m_spec_l11Ok_L1 ⟨xs⟩ m_spec_l11Ok_A1) (n := xs.length) (p := fun i => ∃ x, xs[i]? = some x ∧ ∀ k, k < x.ports.length → badPort xs ⟨i, k⟩ = false) (no := some false) (K := some true)
      (fun g i hi ⟨x, hx, hp⟩ => by
        simp -implicitDefEqProofs only [m_spec_l11Ok_L1, m_spec_l11Ok_B1, dlt hi, cond_true, getI_nat hx, Option.bind_some]
        rcases p_ok_inner hs hx (m_spec_l11Ok_L1 ⟨xs⟩ m_spec_l11Ok_A1 g) _ (Nat.lt_succ_self _) with ⟨_, h⟩ | ⟨hn, _⟩
        · exact h
        · exact absurd hp hn)
      (fun g i hi hn => by
        have hx := List.getElem?_eq_getElem hi
        simp -implicitDefEqProofs only [m_spec_l11Ok_L1, m_spec_l11Ok_B1, dlt hi, cond_true, getI_lt hi, Option.bind_some]
        rcases p_ok_inner hs hx (m_spec_l11Ok_L1 ⟨xs⟩ m_spec_l11Ok_A1 g) _ (Nat.lt_succ_self _) with ⟨hp, _⟩ | ⟨_, h⟩
        · exact absurd ⟨_, hx, hp⟩ hn
        · exact h)
      (fun g => by simp -implicitDefEqProofs only [m_spec_l11Ok_L1, m_spec_l11Ok_B1, dge, cond_false, m_spec_l11Ok_A1]) (xs.length + 1) (Nat.lt_succ_self _)
    rcases h with ⟨ha, h⟩ | ⟨ha, h⟩
    · rw [validNet_iff.2 ⟨agentsOk_iff.1 hag, portsOk_p.1 ha⟩]; exact h
    · cases hv : validNet ⟨xs⟩ with
      | false => exact h
      | true => exact absurd (portsOk_p.2 (validNet_iff.1 hv).2) ha
theorem agentPorts_len (i : Nat) (x : DAgent) : (agentPorts i x).length = x.ports.length := by simp [agentPorts]
theorem p_ports_inner {i : Nat} {x : DAgent} (rec : List DPort → Int → Option (List DPort)) (acc : List DPort) (hb : acc.length + x.ports.length ≤ 4294967296) (hi : (i : Int) < 9223372036854775807) (g : Nat) (hg : x.ports.length < g) :
    m_impl_Net_ports_L2 (i : Int) x (m_impl_Net_ports_A2 rec (i : Int)) g acc 0 = rec (acc ++ agentPorts i x) ((i : Int) + 1) := by
  have h := traj (L := fun g (s : List DPort × Int) => m_impl_Net_ports_L2 (i : Int) x (m_impl_Net_ports_A2 rec (i : Int)) g s.1 s.2) (st := fun k => (acc ++ (List.range k).map (fun (j : Nat) => (⟨i, j⟩ : DPort)), (k : Int))) (n := x.ports.length) (r := rec (acc ++ agentPorts i x) ((i : Int) + 1))
    (fun g k hk => by
      simp -implicitDefEqProofs only [m_impl_Net_ports_L2, m_impl_Net_ports_B2, dlt hk, cond_true]
      rw [mustP_ok (by simp; omega), Option.bind_some]
      rw [List.range_succ, List.map_append, List.append_assoc]
      simp only [List.map_cons, List.map_nil, Int.natCast_add, Int.cast_ofNat_Int])
    (fun g => by
      simp -implicitDefEqProofs only [m_impl_Net_ports_L2, m_impl_Net_ports_B2, dge, cond_false, m_impl_Net_ports_A2]
      rw [ck_ok (by omega), Option.bind_some, agentPorts]) g hg
  simpa using h
theorem p_ports (d : DNet) (hs : Small d.agents) : m_impl_Net_ports d = some (allPorts d.agents) := by
  obtain ⟨xs⟩ := d
  have hs : Small xs := hs
  have hl := hs.len
  have ha := hs.all
  unfold m_impl_Net_ports
  have h := traj (L := fun g (s : List DPort × Int) => m_impl_Net_ports_L1 ⟨xs⟩ m_impl_Net_ports_A1 g s.1 s.2) (st := fun k => (allPorts (xs.take k), (k : Int))) (n := xs.length) (r := some (allPorts xs))
    (fun g k hk => by
      have hx := List.getElem?_eq_getElem hk
      have hlen : (allPorts (xs.take (k + 1))).length ≤ (allPorts xs).length := by
        have : allPorts xs = portsFrom 0 (xs.take (k + 1) ++ xs.drop (k + 1)) := by rw [List.take_append_drop]; rfl
        rw [this, portsFrom_append, List.length_append]
        exact Nat.le_add_right _ _
      rw [allPorts_take hx, List.length_append, agentPorts_len] at hlen
      simp -implicitDefEqProofs only [m_impl_Net_ports_L1, m_impl_Net_ports_B1, dlt hk, cond_true, getI_lt hk, Option.bind_some]
      rw [p_ports_inner (m_impl_Net_ports_L1 ⟨xs⟩ m_impl_Net_ports_A1 g) _ (by omega) (by omega) _ (Nat.lt_succ_self _), allPorts_take hx]
      simp only [Int.natCast_add, Int.cast_ofNat_Int])
    (fun g => by
      simp -implicitDefEqProofs only [m_impl_Net_ports_L1, m_impl_Net_ports_B1, dge, cond_false, m_impl_Net_ports_A1, List.take_length]) (xs.length + 1) (Nat.lt_succ_self _)
  exact h
theorem p_index_port (d : List DPort) (p : DPort → Option Bool) (q : DPort → Bool) (h : ∀ x ∈ d, p x = some (q x)) : ∃ i, m_slices_IndexFunc_impl_Port_impl_Port d p = some i ∧ decide (i ≥ 0) = d.any q := by
  unfold m_slices_IndexFunc_impl_Port_impl_Port
  by_cases ha : ∃ k, k < d.length ∧ ∃ x, d[k]? = some x ∧ q x = true
  · obtain ⟨m, ⟨hm, x, hx, hq⟩, hl⟩ : ∃ m, (m < d.length ∧ ∃ x, d[m]? = some x ∧ q x = true) ∧ ∀ k, k < m → ∀ y, d[k]? = some y → q y = false := by
      obtain ⟨k0, hk0⟩ := ha
      induction k0 using Nat.strongRecOn with
      | _ k0 ih =>
        by_cases hh : ∃ k, k < k0 ∧ k < d.length ∧ ∃ x, d[k]? = some x ∧ q x = true
        · obtain ⟨k, hk, hk1⟩ := hh; exact ih k hk hk1
        · exact ⟨k0, hk0, fun k hk y hy => by
            cases hq : q y with
            | false => rfl
            | true => exact absurd ⟨k, hk, lt_of_some hy, y, hy, hq⟩ hh⟩
    refine ⟨m, ?_, ?_⟩
    · refine trajI (n := m) (fun g k hk => ?_) (fun g => ?_) _ (by omega)
      · have hkl : k < d.length := by omega
        have hy := List.getElem?_eq_getElem hkl
        simp [m_slices_IndexFunc_impl_Port_impl_Port_L1, m_slices_IndexFunc_impl_Port_impl_Port_B1, hkl, getI_lt hkl, h _ (List.getElem_mem hkl), hl k hk _ hy]
      · have hmem := List.mem_of_getElem? hx
        simp [m_slices_IndexFunc_impl_Port_impl_Port_L1, m_slices_IndexFunc_impl_Port_impl_Port_B1, hm, getI_nat hx, h _ hmem, hq]
    · have : d.any q = true := List.any_eq_true.2 ⟨x, List.mem_of_getElem? hx, hq⟩
      rw [this]; simp
  · refine ⟨-1, ?_, ?_⟩
    · refine trajI (n := d.length) (fun g k hk => ?_) (fun g => ?_) _ (by omega)
      · have hq : q d[k] = false := by
          cases hq : q d[k] with
          | false => rfl
          | true => exact absurd ⟨k, hk, _, List.getElem?_eq_getElem hk, hq⟩ ha
        simp [m_slices_IndexFunc_impl_Port_impl_Port_L1, m_slices_IndexFunc_impl_Port_impl_Port_B1, hk, getI_lt hk, h _ (List.getElem_mem hk), hq]
      · simp [m_slices_IndexFunc_impl_Port_impl_Port_L1, m_slices_IndexFunc_impl_Port_impl_Port_B1, m_slices_IndexFunc_impl_Port_impl_Port_A1]
    · have : d.any q = false := List.any_eq_false.2 fun x hx hq => by
        obtain ⟨k, hk, rfl⟩ := List.getElem_of_mem hx
        exact ha ⟨k, hk, _, List.getElem?_eq_getElem hk, hq⟩
      rw [this]; simp
theorem p_contains_port (d : List DPort) (p : DPort → Option Bool) (q : DPort → Bool) (h : ∀ x ∈ d, p x = some (q x)) : m_slices_ContainsFunc_impl_Port_impl_Port d p = some (d.any q) := by
  obtain ⟨i, h1, h2⟩ := p_index_port d p q h
  simp -implicitDefEqProofs only [m_slices_ContainsFunc_impl_Port_impl_Port, h1, Option.bind_some, h2]
theorem p_valid1 {xs : List DAgent} {p : DPort} (h : hasPort xs p = true) : m_impl_ValidNet_1 p ⟨xs⟩ = some (badPort xs p) := by
  unfold m_impl_ValidNet_1 badPort
  rw [p_peer h, Option.bind_some, port_eq]
  by_cases h1 : peer xs p = p
  · simp [h1]
  · cases h2 : hasPort xs (peer xs p) with
    | false => simp [h1, p_hasPort, h2]
    | true => simp [h1, p_hasPort, h2, p_peer h2, port_eq]
theorem p_valid (d : DNet) (hs : Small d.agents) : m_impl_ValidNet d = some (validNet d) := by
  obtain ⟨xs⟩ := d
  have hs : Small xs := hs
  unfold m_impl_ValidNet
  rw [p_areAgents xs hs.ports', Option.bind_some]
  cases hag : agentsOk xs with
  | false =>
    rw [cond_false]
    cases hv : validNet ⟨xs⟩ with
    | false => rfl
    | true => rw [agentsOk_iff.2 (validNet_iff.1 hv).1] at hag; cases hag
  | true =>
    rw [cond_true, p_ports _ hs, Option.bind_some]
    have hc := p_contains_port (allPorts xs) (fun x0 => m_impl_ValidNet_1 x0 ⟨xs⟩) (badPort xs) (fun p hp => by
      obtain ⟨j, x, k, h1, h2, rfl⟩ := mem_portsFrom.1 hp
      have hh := hasPort_of h1 h2
      simp only [Nat.zero_add]
      exact p_valid1 hh)
    rw [hc, Option.bind_some]
    congr 1
    rw [Bool.eq_iff_iff, validNet_iff, Bool.not_eq_true', any_allPorts]
    exact ⟨fun h => ⟨agentsOk_iff.1 hag, h⟩, fun h => h.2⟩
end
section
open Go.RowKit
set_option linter.unusedVariables false
set_option linter.unusedSimpArgs false
theorem cutRest {P : Program} {c1 rest : Code} {Q : Exit → Act → World → Prop} {n : Nat} {f : Nat → Value} {w : World} (K : (Nat → Value) → World → Prop) (hK : ∀ f' w', K f' w' → rest.wp P Q (Fr n f') w')
    (hreg : (∀ f' w', K f' w' → rest.wp P Q (Fr n f') w') → (Code.seq c1 rest).wp P Q (Fr n f) w) : (Code.seq c1 rest).wp P Q (Fr n f) w := hreg hK
end
section
open Go.RowKit
set_option linter.unusedVariables false
set_option linter.unusedSimpArgs false
set_option maxRecDepth 100000
def m_spec_Decimal_A2 (xs22 : List Int) : Option ByteArray :=
  some (ofNums xs22)
def m_spec_Decimal_B2 (xs11 : List Int) (rec2 : List Int → Int → Option ByteArray) (K2 : List Int → Option ByteArray) (xs24 : List Int) (i25 : Int) : Option ByteArray :=
  (bif (decide (i25 ≥ 0)) then ((getI xs11 i25).bind fun x28 => ((mustP (xs24.length + ([x28]).length ≤ 4294967296)).bind fun _ => ((ck (i25 - 1)).bind fun s49 => (rec2 (xs24 ++ [x28]) s49)))) else (K2 xs24))
def m_spec_Decimal_L2 (xs11 : List Int) (K2 : List Int → Option ByteArray) : Nat → List Int → Int → Option ByteArray
  | 0, _, _ => none
  | g + 1, xs24, i25 => m_spec_Decimal_B2 xs11 (m_spec_Decimal_L2 xs11 K2 g) K2 xs24 i25
def m_spec_Decimal_Aj2 (xs11 : List Int) : Option ByteArray :=
  ((ck ((xs11.length : Int) - 1)).bind fun s21 => (m_spec_Decimal_L2 xs11 m_spec_Decimal_A2 (30) ([] : List Int) s21))
def m_spec_Decimal_Aj1 (d0 : Int) (xs9 : List Int) : Option ByteArray :=
  (bif (decide (d0 < 0)) then ((mustP (xs9.length + ([45]).length ≤ 4294967296)).bind fun _ => (m_spec_Decimal_Aj2 (xs9 ++ [45]))) else (m_spec_Decimal_Aj2 xs9))
def m_spec_Decimal_A1 (d0 : Int) (xs7 : List Int) : Option ByteArray :=
  (bif (d0 == 0) then ((mustP (xs7.length + ([48]).length ≤ 4294967296)).bind fun _ => (m_spec_Decimal_Aj1 d0 (xs7 ++ [48]))) else (m_spec_Decimal_Aj1 d0 xs7))
def m_spec_Decimal_B1 (rec1 : List Int → Int → Option ByteArray) (K1 : List Int → Option ByteArray) (xs83 : List Int) (i84 : Int) : Option ByteArray :=
  (bif (i84 != 0) then (bif (decide ((i84.tmod 10) < 0)) then ((negI (i84.tmod 10)).bind fun s105 => ((ck (48 + s105)).bind fun s107 => ((mustP (xs83.length + ([(u8w s107)]).length ≤ 4294967296)).bind fun _ => ((ck (i84.tdiv 10)).bind fun s123 => (rec1 (xs83 ++ [(u8w s107)]) (i84.tdiv 10)))))) else ((ck (48 + (i84.tmod 10))).bind fun s88 => ((mustP (xs83.length + ([(u8w s88)]).length ≤ 4294967296)).bind fun _ => ((ck (i84.tdiv 10)).bind fun s104 => (rec1 (xs83 ++ [(u8w s88)]) (i84.tdiv 10)))))) else (K1 xs83))
def m_spec_Decimal_L1 (K1 : List Int → Option ByteArray) : Nat → List Int → Int → Option ByteArray
  | 0, _, _ => none
  | g + 1, xs83, i84 => m_spec_Decimal_B1 (m_spec_Decimal_L1 K1 g) K1 xs83 i84
def m_spec_Decimal (d0 : Int) : Option ByteArray :=
  (m_spec_Decimal_L1 (m_spec_Decimal_A1 d0) (21) ([] : List Int) d0)
set_option maxHeartbeats 2000000 in
theorem c_m_spec_Decimal (d0 : Int) (r : ByteArray) (hm : m_spec_Decimal d0 = some r)  (w : World)  :
    Calls Tryz.prog 61 #[.int .i64 d0] w fun e w' => e = .returned (.string r) ∧ Below w.heap.size w w' := by
  have T := Below.refl w.heap.size w
  unfold m_spec_Decimal at hm
  refine enter 53 Tryz.func61 rfl rfl rfl ?_
  intro f hf
  have s0 : f 0 = .int .i64 d0 := hf 0 _ rfl
  refine wp_seq ?_
  refine wp_rs rfl ?_
  refine RQ.y rfl (Y.assign (v := .string (ByteArray.mk #[])) rfl) ?_
  refine RQ.nil ?_
  refine then_n ?_
  refine wp_seq ?_
  refine wp_rl rfl ?_
  refine RL.bslice (e := 5) (cells := #[]) rfl pm0 (by kernel_rfl) (fun w1 B2 hb3 szw1 => ?_)
  have ZB2 : w.heap.size ≤ w.heap.size := T.size
  have T := Tt T hb3
  have G5 := OwF.lit (enc := encU) (sz := 1) (xs := ([] : List Int)) B2 ZB2 rfl rfl rfl rfl
  refine RL.y rfl (Y.assign (v := .slice (some ⟨w.heap.size, 0, none⟩) 0 0) rfl) ?_
  refine RL.nil ?_
  refine then_n ?_
  refine wp_seq ?_
  refine wp_rs rfl ?_
  refine RQ.y rfl (Y.move (v := .int .i64 d0) s0) ?_
  refine RQ.y rfl (Y.assign (v := .int .i64 d0) rfl) ?_
  refine RQ.nil ?_
  refine then_n ?_
  refine wp_seq ?_
  refine wp_block ?_
  obtain ⟨K1, hK1, hm⟩ : ∃ K, K = (m_spec_Decimal_A1 d0) ∧ m_spec_Decimal_L1 K (21) ([] : List Int) d0 = some r := ⟨_, rfl, hm⟩
  refine wp_loopX (fun g f w' => ∃ (xs83 : List Int) (i84 : Int) (uxs83 : Value), f 0 = .int .i64 d0 ∧ f 3 = uxs83 ∧ OwF 5 encU 1 w' w.heap.size uxs83 xs83 ∧ f 4 = .int .i64 i84 ∧ Below w.heap.size w w' ∧ m_spec_Decimal_L1 K1 g xs83 i84 = some r) 0 (fun f w' => ∃ (xs7 : List Int) (uxs7 : Value), f 0 = .int .i64 d0 ∧ f 3 = uxs7 ∧ OwF 5 encU 1 w' w.heap.size uxs7 xs7 ∧ Below w.heap.size w w' ∧ m_spec_Decimal_A1 d0 xs7 = some r) (21) ⟨([] : List Int), d0, (.slice (some ⟨w.heap.size, 0, none⟩) 0 0), s0, rfl, G5, rfl, T, hm⟩ ?_ ?_
  · rintro f w8 ⟨xs7, uxs7, s0_1x, s3_1x, Guxs7, T, hm⟩
    unfold m_spec_Decimal_A1 at hm
    refine blk_hit (then_n ?_)
    refine cutRest (K := (fun f w' => ∃ (xs9 : List Int) (uxs9 : Value), f 0 = .int .i64 d0 ∧ f 3 = uxs9 ∧ OwF 5 encU 1 w' w.heap.size uxs9 xs9 ∧ Below w.heap.size w w' ∧ m_spec_Decimal_Aj1 d0 xs9 = some r)) ?_ ?_
    · rintro f w10 ⟨xs9, uxs9, s0_j1x, s3_j1x, Guxs9, T, hm⟩
      unfold m_spec_Decimal_Aj1 at hm
      refine cutRest (K := (fun f w' => ∃ (xs11 : List Int) (uxs11 : Value), f 3 = uxs11 ∧ OwF 5 encU 1 w' w.heap.size uxs11 xs11 ∧ Below w.heap.size w w' ∧ m_spec_Decimal_Aj2 xs11 = some r)) ?_ ?_
      · rintro f w12 ⟨xs11, uxs11, s3_j2x, Guxs11, T, hm⟩
        unfold m_spec_Decimal_Aj2 at hm
        refine wp_seq ?_
        refine wp_rl rfl ?_
        refine RL.bslice (e := 5) (cells := #[]) rfl pm0 (by kernel_rfl) (fun w13 B14 hb15 szw13 => ?_)
        have ZB14 : w.heap.size ≤ w12.heap.size := T.size
        have Do16_oxs11 := Dj.new (v := .slice (some ⟨w12.heap.size, 0, none⟩) 0 0) litGe (OwF.hi Guxs11)
        have Guxs11 := OwF.below Guxs11 hb15
        have T := Tt T hb15
        have G17 := OwF.lit (enc := encU) (sz := 1) (xs := ([] : List Int)) B14 ZB14 rfl rfl rfl rfl
        refine RL.y rfl (Y.assign (v := .slice (some ⟨w12.heap.size, 0, none⟩) 0 0) rfl) ?_
        refine RL.nil ?_
        refine then_n ?_
        refine wp_seq ?_
        refine wp_seq ?_
        refine wp_rs rfl ?_
        refine RQ.y rfl (Y.move (v := uxs11) s3_j2x) ?_
        obtain ⟨A19, c20, rfl⟩ := OwF.form Guxs11
        have qbA19 := OwF.bound Guxs11
        refine RQ.y rfl (Y.len (by kernel_rfl) rfl) ?_
        obtain ⟨s21, ks21, hm⟩ := bnd hm
        replace ks21 := ck_some ks21
        refine RQ.y rfl (Y.binI (v := .int .i64 s21) rfl rfl (by rw [binI_sub ks21.2, ks21.1])) ?_
        refine RQ.y rfl (Y.assign (v := .int .i64 s21) rfl) ?_
        refine RQ.nil ?_
        refine then_n ?_
        refine wp_block ?_
        obtain ⟨K2, hK2, hm⟩ : ∃ K, K = m_spec_Decimal_A2 ∧ m_spec_Decimal_L2 xs11 K (30) ([] : List Int) s21 = some r := ⟨_, rfl, hm⟩
        refine wp_loopX (fun g f w' => ∃ (xs24 : List Int) (i25 : Int) (uxs24 : Value), f 3 = .slice A19 xs11.length c20 ∧ f 6 = uxs24 ∧ OwF 5 encU 1 w' w.heap.size uxs24 xs24 ∧ f 7 = .int .i64 i25 ∧ Dj uxs24 (.slice A19 xs11.length c20) ∧ OwF 5 encU 1 w' w.heap.size (.slice A19 xs11.length c20) xs11 ∧ Below w.heap.size w w' ∧ m_spec_Decimal_L2 xs11 K2 g xs24 i25 = some r) 2 (fun f w' => ∃ (xs22 : List Int) (uxs22 : Value), f 6 = uxs22 ∧ OwF 5 encU 1 w' w.heap.size uxs22 xs22 ∧ Below w.heap.size w w' ∧ m_spec_Decimal_A2 xs22 = some r) (30) ⟨([] : List Int), s21, (.slice (some ⟨w12.heap.size, 0, none⟩) 0 0), s3_j2x, rfl, G17, rfl, (Ap.dj (Dj.ap Do16_oxs11)), Guxs11, T, hm⟩ ?_ ?_
        · rintro f w23 ⟨xs22, uxs22, s6_2x, Guxs22, T, hm⟩
          unfold m_spec_Decimal_A2 at hm
          refine blk_hit (then_n ?_)
          refine wp_seq ?_
          refine wp_rs rfl ?_
          refine RQ.y rfl (Y.move (v := uxs22) s6_2x) ?_
          refine RQ.y rfl (Y.b2s (e := 5) (xs := xs22) (lo := w.heap.size) rfl (by kernel_rfl) (by kernel_rfl) (by kernel_rfl) (fun w' e => by rw [e]; exact Guxs22)) ?_
          refine RQ.y rfl (Y.assign (v := .string (ofNums xs22)) rfl) ?_
          refine RQ.nil ?_
          refine then_n ?_
          refine wp_ret ?_
          obtain rfl := Option.some.inj hm
          exact (ret1 rfl rfl rfl ⟨rfl, T⟩)
        · rintro g f w26 ⟨xs24, i25, uxs24, s3_2, s6_2, Guxs24, s7_2, Doxs24_oxs11, Guxs11, T, hm⟩
          rcases g with _ | g
          · simp only [m_spec_Decimal_L2] at hm; cases hm
          obtain ⟨rec2, hrec2, hm⟩ : ∃ z, z = m_spec_Decimal_L2 xs11 K2 g ∧ m_spec_Decimal_B2 xs11 z K2 xs24 i25 = some r := ⟨_, rfl, hm⟩
          unfold m_spec_Decimal_B2 at hm
          refine wp_seq ?_
          refine wp_seq ?_
          refine wp_rs rfl ?_
          refine RQ.y rfl (Y.move (v := .int .i64 i25) s7_2) ?_
          refine RQ.y rfl (Y.binI (v := .bool (decide (i25 ≥ 0))) rfl rfl rfl) ?_
          refine RQ.nil ?_
          refine then_n ?_
          rcases bcases (decide (i25 ≥ 0)) with c27 | c27
          · replace hm := cF c27 hm
            have pc27 := of_decide_eq_false c27
            refine cond_f rfl (vb rfl c27) ?_
            refine wp_exit ?_
            exact (then_x (then_x (hit_x ⟨_, rfl, ⟨xs24, (uxs24), s6_2, Guxs24, T, (by rw [hK2] at hm; exact hm)⟩⟩)))
          · replace hm := cT c27 hm
            have pc27 := of_decide_eq_true c27
            refine cond_t rfl (vb rfl c27) ?_
            refine wp_skip ?_
            refine then_n ?_
            refine wp_seq ?_
            refine wp_block ?_
            refine wp_rl rfl ?_
            refine RL.y rfl (Y.move (v := uxs24) s6_2) ?_
            refine RL.y rfl (Y.move (v := .slice A19 xs11.length c20) s3_2) ?_
            refine RL.y rfl (Y.move (v := .int .i64 i25) s7_2) ?_
            obtain ⟨x28, hx30, hm⟩ := bnd hm
            obtain ⟨k29, hk31, hl32, hx30⟩ := getI_some hx30
            obtain ⟨b33, rfl⟩ := OwF.addr0 Guxs11 (by omega)
            refine RL.y rfl (Y.indexAddr (m := k29) (sz := 1) rfl rfl hk31 hl32 (by kernel_rfl)) ?_
            refine RL.y rfl (Y.load (v := .int .u8 x28) rfl (by kernel_rfl) (eqC (OwF.cell fU Guxs11 hx30 (j := 0) rfl))) ?_
            refine RL.bslice (e := 5) (cells := #[.int .u8 x28]) rfl (pm1 rfl) (by kernel_rfl) (fun w34 B35 hb36 szw34 => ?_)
            have ZB35 : w.heap.size ≤ w26.heap.size := T.size
            have Do37_oxs11 := Dj.new (v := .slice (some ⟨w26.heap.size, 0, none⟩) 1 1) litGe (OwF.hi Guxs11)
            have Do37_oxs24 := Dj.new (v := .slice (some ⟨w26.heap.size, 0, none⟩) 1 1) litGe (OwF.hi Guxs24)
            have Guxs11 := OwF.below Guxs11 hb36
            have Guxs24 := OwF.below Guxs24 hb36
            have T := Tt T hb36
            have G38 := OwF.lit (enc := encU) (sz := 1) (xs := [x28]) B35 ZB35 rfl rfl rfl rfl
            obtain ⟨_, m40, hm⟩ := bnd hm
            have hk41 := mustP_some m40
            refine RL.append fU app_uint8 rfl rfl rfl Guxs24 (OwF.arg fU G38) T.size hk41 (fun v42 w43 G44 hgr45 hbl46 hnb47 => ?_)
            have szw43 := hbl46.size
            have Do48_oxs11 := Dj.app Doxs24_oxs11 hnb47 (OwF.hi Guxs11)
            have Guxs11 := OwF.keptD Guxs11 hgr45 (Dj.symm Doxs24_oxs11)
            have T := T.trans hbl46
            refine RL.y rfl (Y.assign (v := v42) rfl) ?_
            refine RL.nil ?_
            refine blk_n (then_n ?_)
            refine wp_rs rfl ?_
            refine RQ.y rfl (Y.move (v := .int .i64 i25) s7_2) ?_
            obtain ⟨s49, ks49, hm⟩ := bnd hm
            replace ks49 := ck_some ks49
            refine RQ.y rfl (Y.binI (v := .int .i64 s49) rfl rfl (by rw [binI_sub ks49.2, ks49.1])) ?_
            refine RQ.y rfl (Y.assign (v := .int .i64 s49) rfl) ?_
            refine RQ.nil ?_
            exact (then_n ⟨g, _, Nat.lt_succ_self _, rfl, ⟨(xs24 ++ [x28]), s49, (v42), s3_2, rfl, G44, rfl, (Ap.dj (Dj.ap Do48_oxs11)), Guxs11, T, (by rw [← hrec2]; exact hm)⟩⟩)
      · intro hJj2
        refine wp_seq ?_
        refine wp_seq ?_
        refine wp_rs rfl ?_
        refine RQ.y rfl (Y.move (v := .int .i64 d0) s0_j1x) ?_
        refine RQ.y rfl (Y.binI (v := .bool (decide (d0 < 0))) rfl rfl rfl) ?_
        refine RQ.nil ?_
        refine then_n ?_
        rcases bcases (decide (d0 < 0)) with c51 | c51
        · replace hm := cF c51 hm
          have pc51 := of_decide_eq_false c51
          refine cond_f rfl (vb rfl c51) ?_
          refine wp_skip ?_
          refine then_n ?_
          exact hJj2 _ _ ⟨xs9, (uxs9), s3_j1x, Guxs9, T, hm⟩
        · replace hm := cT c51 hm
          have pc51 := of_decide_eq_true c51
          refine cond_t rfl (vb rfl c51) ?_
          refine wp_rl rfl ?_
          refine RL.y rfl (Y.move (v := uxs9) s3_j1x) ?_
          refine RL.bslice (e := 5) (cells := #[.int .u8 45]) rfl (pm1 rfl) (by kernel_rfl) (fun w52 B53 hb54 szw52 => ?_)
          have ZB53 : w.heap.size ≤ w10.heap.size := T.size
          have Do55_oxs9 := Dj.new (v := .slice (some ⟨w10.heap.size, 0, none⟩) 1 1) litGe (OwF.hi Guxs9)
          have Guxs9 := OwF.below Guxs9 hb54
          have T := Tt T hb54
          have G56 := OwF.lit (enc := encU) (sz := 1) (xs := [45]) B53 ZB53 rfl rfl rfl rfl
          obtain ⟨_, m58, hm⟩ := bnd hm
          have hk59 := mustP_some m58
          refine RL.append fU app_uint8 rfl rfl rfl Guxs9 (OwF.arg fU G56) T.size hk59 (fun v60 w61 G62 hgr63 hbl64 hnb65 => ?_)
          have szw61 := hbl64.size
          have T := T.trans hbl64
          refine RL.y rfl (Y.assign (v := v60) rfl) ?_
          refine RL.nil ?_
          refine then_n ?_
          exact hJj2 _ _ ⟨(xs9 ++ [45]), (v60), rfl, G62, T, hm⟩
    · intro hJj1
      refine wp_seq ?_
      refine wp_seq ?_
      refine wp_rs rfl ?_
      refine RQ.y rfl (Y.move (v := .int .i64 d0) s0_1x) ?_
      refine RQ.y rfl (Y.binI (v := .bool (d0 == 0)) rfl rfl rfl) ?_
      refine RQ.nil ?_
      refine then_n ?_
      rcases bcases (d0 == 0) with c67 | c67
      · replace hm := cF c67 hm
        refine cond_f rfl (vb rfl c67) ?_
        refine wp_skip ?_
        refine then_n ?_
        exact hJj1 _ _ ⟨xs7, (uxs7), s0_1x, s3_1x, Guxs7, T, hm⟩
      · replace hm := cT c67 hm
        refine cond_t rfl (vb rfl c67) ?_
        refine wp_rl rfl ?_
        refine RL.y rfl (Y.move (v := uxs7) s3_1x) ?_
        refine RL.bslice (e := 5) (cells := #[.int .u8 48]) rfl (pm1 rfl) (by kernel_rfl) (fun w68 B69 hb70 szw68 => ?_)
        have ZB69 : w.heap.size ≤ w8.heap.size := T.size
        have Do71_oxs7 := Dj.new (v := .slice (some ⟨w8.heap.size, 0, none⟩) 1 1) litGe (OwF.hi Guxs7)
        have Guxs7 := OwF.below Guxs7 hb70
        have T := Tt T hb70
        have G72 := OwF.lit (enc := encU) (sz := 1) (xs := [48]) B69 ZB69 rfl rfl rfl rfl
        obtain ⟨_, m74, hm⟩ := bnd hm
        have hk75 := mustP_some m74
        refine RL.append fU app_uint8 rfl rfl rfl Guxs7 (OwF.arg fU G72) T.size hk75 (fun v76 w77 G78 hgr79 hbl80 hnb81 => ?_)
        have szw77 := hbl80.size
        have T := T.trans hbl80
        refine RL.y rfl (Y.assign (v := v76) rfl) ?_
        refine RL.nil ?_
        refine then_n ?_
        exact hJj1 _ _ ⟨(xs7 ++ [48]), (v76), s0_1x, rfl, G78, T, hm⟩
  · rintro g f w85 ⟨xs83, i84, uxs83, s0_1, s3_1, Guxs83, s4_1, T, hm⟩
    rcases g with _ | g
    · simp only [m_spec_Decimal_L1] at hm; cases hm
    obtain ⟨rec1, hrec1, hm⟩ : ∃ z, z = m_spec_Decimal_L1 K1 g ∧ m_spec_Decimal_B1 z K1 xs83 i84 = some r := ⟨_, rfl, hm⟩
    unfold m_spec_Decimal_B1 at hm
    refine wp_seq ?_
    refine wp_seq ?_
    refine wp_rs rfl ?_
    refine RQ.y rfl (Y.move (v := .int .i64 i84) s4_1) ?_
    refine RQ.y rfl (Y.binI (v := .bool (i84 != 0)) rfl rfl rfl) ?_
    refine RQ.nil ?_
    refine then_n ?_
    rcases bcases (i84 != 0) with c86 | c86
    · replace hm := cF c86 hm
      refine cond_f rfl (vb rfl c86) ?_
      refine wp_exit ?_
      exact (then_x (then_x (hit_x ⟨_, rfl, ⟨xs83, (uxs83), s0_1, s3_1, Guxs83, T, (by rw [hK1] at hm; exact hm)⟩⟩)))
    · replace hm := cT c86 hm
      refine cond_t rfl (vb rfl c86) ?_
      refine wp_skip ?_
      refine then_n ?_
      refine wp_block ?_
      refine wp_seq ?_
      refine wp_rs rfl ?_
      refine RQ.y rfl (Y.move (v := .int .i64 i84) s4_1) ?_
      refine RQ.y rfl (Y.rem rfl rfl (by decide)) ?_
      refine RQ.y rfl (Y.assign (v := .int .i64 (i84.tmod 10)) rfl) ?_
      refine RQ.nil ?_
      refine then_n ?_
      refine wp_seq ?_
      refine wp_seq ?_
      refine wp_rs rfl ?_
      refine RQ.y rfl (Y.move (v := .int .i64 (i84.tmod 10)) rfl) ?_
      refine RQ.y rfl (Y.binI (v := .bool (decide ((i84.tmod 10) < 0))) rfl rfl rfl) ?_
      refine RQ.nil ?_
      refine then_n ?_
      rcases bcases (decide ((i84.tmod 10) < 0)) with c87 | c87
      · replace hm := cF c87 hm
        have pc87 := of_decide_eq_false c87
        refine cond_f rfl (vb rfl c87) ?_
        refine wp_skip ?_
        refine then_n ?_
        refine wp_seq ?_
        refine wp_rl rfl ?_
        refine RL.y rfl (Y.move (v := uxs83) s3_1) ?_
        refine RL.y rfl (Y.move (v := .int .i64 (i84.tmod 10)) rfl) ?_
        obtain ⟨s88, ks88, hm⟩ := bnd hm
        replace ks88 := ck_some ks88
        refine RL.y rfl (Y.binI (v := .int .i64 s88) rfl rfl (by rw [binI_add ks88.2, ks88.1])) ?_
        refine RL.y rfl (Y.toU8 (n := s88) rfl (by kernel_rfl) (by kernel_rfl)) ?_
        refine RL.bslice (e := 5) (cells := #[.int .u8 (u8w s88)]) rfl (pm1 rfl) (by kernel_rfl) (fun w89 B90 hb91 szw89 => ?_)
        have ZB90 : w.heap.size ≤ w85.heap.size := T.size
        have Do92_oxs83 := Dj.new (v := .slice (some ⟨w85.heap.size, 0, none⟩) 1 1) litGe (OwF.hi Guxs83)
        have Guxs83 := OwF.below Guxs83 hb91
        have T := Tt T hb91
        have G93 := OwF.lit (enc := encU) (sz := 1) (xs := [(u8w s88)]) B90 ZB90 rfl rfl rfl rfl
        obtain ⟨_, m95, hm⟩ := bnd hm
        have hk96 := mustP_some m95
        refine RL.append fU app_uint8 rfl rfl rfl Guxs83 (OwF.arg fU G93) T.size hk96 (fun v97 w98 G99 hgr100 hbl101 hnb102 => ?_)
        have szw98 := hbl101.size
        have T := T.trans hbl101
        refine RL.y rfl (Y.assign (v := v97) rfl) ?_
        refine RL.nil ?_
        refine then_n ?_
        refine wp_rs rfl ?_
        refine RQ.y rfl (Y.move (v := .int .i64 i84) s4_1) ?_
        obtain ⟨s104, ks104, hm⟩ := bnd hm
        replace ks104 := ck_some ks104
        refine RQ.y rfl (Y.quo rfl rfl (by decide) ks104.2) ?_
        refine RQ.y rfl (Y.assign (v := .int .i64 (i84.tdiv 10)) rfl) ?_
        refine RQ.nil ?_
        exact (blk_n (then_n ⟨g, _, Nat.lt_succ_self _, rfl, ⟨(xs83 ++ [(u8w s88)]), (i84.tdiv 10), (v97), s0_1, rfl, G99, rfl, T, (by rw [← hrec1]; exact hm)⟩⟩))
      · replace hm := cT c87 hm
        have pc87 := of_decide_eq_true c87
        refine cond_t rfl (vb rfl c87) ?_
        refine wp_rs rfl ?_
        refine RQ.y rfl (Y.move (v := .int .i64 (i84.tmod 10)) rfl) ?_
        obtain ⟨s105, k106, hm⟩ := bnd hm
        refine RQ.y rfl (Y.neg (n := (i84.tmod 10)) (m := s105) rfl k106) ?_
        refine RQ.y rfl (Y.assign (v := .int .i64 s105) rfl) ?_
        refine RQ.nil ?_
        refine then_n ?_
        refine wp_seq ?_
        refine wp_rl rfl ?_
        refine RL.y rfl (Y.move (v := uxs83) s3_1) ?_
        refine RL.y rfl (Y.move (v := .int .i64 s105) rfl) ?_
        obtain ⟨s107, ks107, hm⟩ := bnd hm
        replace ks107 := ck_some ks107
        refine RL.y rfl (Y.binI (v := .int .i64 s107) rfl rfl (by rw [binI_add ks107.2, ks107.1])) ?_
        refine RL.y rfl (Y.toU8 (n := s107) rfl (by kernel_rfl) (by kernel_rfl)) ?_
        refine RL.bslice (e := 5) (cells := #[.int .u8 (u8w s107)]) rfl (pm1 rfl) (by kernel_rfl) (fun w108 B109 hb110 szw108 => ?_)
        have ZB109 : w.heap.size ≤ w85.heap.size := T.size
        have Do111_oxs83 := Dj.new (v := .slice (some ⟨w85.heap.size, 0, none⟩) 1 1) litGe (OwF.hi Guxs83)
        have Guxs83 := OwF.below Guxs83 hb110
        have T := Tt T hb110
        have G112 := OwF.lit (enc := encU) (sz := 1) (xs := [(u8w s107)]) B109 ZB109 rfl rfl rfl rfl
        obtain ⟨_, m114, hm⟩ := bnd hm
        have hk115 := mustP_some m114
        refine RL.append fU app_uint8 rfl rfl rfl Guxs83 (OwF.arg fU G112) T.size hk115 (fun v116 w117 G118 hgr119 hbl120 hnb121 => ?_)
        have szw117 := hbl120.size
        have T := T.trans hbl120
        refine RL.y rfl (Y.assign (v := v116) rfl) ?_
        refine RL.nil ?_
        refine then_n ?_
        refine wp_rs rfl ?_
        refine RQ.y rfl (Y.move (v := .int .i64 i84) s4_1) ?_
        obtain ⟨s123, ks123, hm⟩ := bnd hm
        replace ks123 := ck_some ks123
        refine RQ.y rfl (Y.quo rfl rfl (by decide) ks123.2) ?_
        refine RQ.y rfl (Y.assign (v := .int .i64 (i84.tdiv 10)) rfl) ?_
        refine RQ.nil ?_
        exact (blk_n (then_n ⟨g, _, Nat.lt_succ_self _, rfl, ⟨(xs83 ++ [(u8w s107)]), (i84.tdiv 10), (v116), s0_1, rfl, G118, rfl, T, (by rw [← hrec1]; exact hm)⟩⟩))
def m_spec_l01Operators  : Option (List ByteArray) :=
  some ([(ByteArray.mk #[43]), (ByteArray.mk #[45]), (ByteArray.mk #[42]), (ByteArray.mk #[47]), (ByteArray.mk #[60]), (ByteArray.mk #[61])])
set_option maxHeartbeats 2000000 in
theorem c_m_spec_l01Operators  (r : List ByteArray) (hm : m_spec_l01Operators  = some r)  (w : World)  :
    Calls Tryz.prog 94 #[] w fun e w' => (∃ (v0 : Value), e = .returned (v0) ∧ OwF 9 encS 1 w' w.heap.size v0 r) ∧ Below w.heap.size w w' := by
  have T := Below.refl w.heap.size w
  unfold m_spec_l01Operators at hm
  refine enter 2 Tryz.func94 rfl rfl rfl ?_
  intro f hf
  refine wp_seq ?_
  refine wp_rs rfl ?_
  refine RQ.y rfl (Y.assign (v := .slice none 0 0) rfl) ?_
  refine RQ.nil ?_
  refine then_n ?_
  refine wp_seq ?_
  refine wp_rl rfl ?_
  refine RL.bslice (e := 9) (cells := #[.string (ByteArray.mk #[43]), .string (ByteArray.mk #[45]), .string (ByteArray.mk #[42]), .string (ByteArray.mk #[47]), .string (ByteArray.mk #[60]), .string (ByteArray.mk #[61])]) rfl (pm6 rfl rfl rfl rfl rfl rfl) (by kernel_rfl) (fun w1 B2 hb3 szw1 => ?_)
  have ZB2 : w.heap.size ≤ w.heap.size := T.size
  have T := Tt T hb3
  have G5 := OwF.lit (enc := encS) (sz := 1) (xs := [(ByteArray.mk #[43]), (ByteArray.mk #[45]), (ByteArray.mk #[42]), (ByteArray.mk #[47]), (ByteArray.mk #[60]), (ByteArray.mk #[61])]) B2 ZB2 rfl rfl rfl rfl
  refine RL.y rfl (Y.assign (v := .slice (some ⟨w.heap.size, 0, none⟩) 6 6) rfl) ?_
  refine RL.nil ?_
  refine then_n ?_
  refine wp_ret ?_
  obtain rfl := Option.some.inj hm
  exact (ret1 rfl rfl rfl ⟨⟨_, rfl, G5⟩, T⟩)
def m_spec_OperatorText (d0 : Int) : Option ByteArray :=
  (bif (inR d0 1 6) then ((m_spec_l01Operators ).bind fun y4 => ((ck (d0 - 1)).bind fun s11 => ((getI y4 s11).bind fun x14 => some x14))) else some (ByteArray.mk #[]))
set_option maxHeartbeats 2000000 in
theorem c_m_spec_OperatorText (d0 : Int) (r : ByteArray) (hm : m_spec_OperatorText d0 = some r)  (w : World)  :
    Calls Tryz.prog 62 #[.int .i64 d0] w fun e w' => e = .returned (.string r) ∧ Below w.heap.size w w' := by
  have T := Below.refl w.heap.size w
  unfold m_spec_OperatorText at hm
  refine enter 11 Tryz.func62 rfl rfl rfl ?_
  intro f hf
  have s0 : f 0 = .int .i64 d0 := hf 0 _ rfl
  refine wp_seq ?_
  refine wp_rs rfl ?_
  refine RQ.y rfl (Y.assign (v := .string (ByteArray.mk #[])) rfl) ?_
  refine RQ.nil ?_
  refine then_n ?_
  refine wp_seq ?_
  refine wp_seq ?_
  refine wp_rb rfl ?_
  refine RQ.y rfl (Y.move (v := .int .i64 d0) s0) ?_
  refine RQ.call rfl (am3 rfl rfl rfl) (by kernel_rfl) (v := .bool (inR d0 1 6)) (bel (K := fun _ => True) fun w' hb' => (callB (spec_l00In d0 1 6 w'))) ?_
  refine RQ.y rfl (Y.not (b' := (!(inR d0 1 6))) rfl rfl) ?_
  refine RQ.nil ?_
  intro w1 hb2
  have szw1 := hb2.size
  have T := Tt T hb2
  refine then_n ?_
  rcases bcases (inR d0 1 6) with c3 | c3
  · replace hm := cF c3 hm
    refine cond_t rfl (vbn rfl c3 rfl) ?_
    refine wp_seq ?_
    refine wp_rs rfl ?_
    refine RQ.y rfl (Y.assign (v := .string (ByteArray.mk #[])) rfl) ?_
    refine RQ.nil ?_
    refine then_n ?_
    refine wp_ret ?_
    obtain rfl := Option.some.inj hm
    exact (then_r (ret1 rfl rfl rfl ⟨rfl, T⟩))
  · replace hm := cT c3 hm
    refine cond_f rfl (vbn rfl c3 rfl) ?_
    refine wp_skip ?_
    refine then_n ?_
    refine wp_seq ?_
    refine wp_rl rfl ?_
    obtain ⟨y4, e5, hm⟩ := bnd hm
    refine RL.call rfl (am0) (by kernel_rfl) ((c_m_spec_l01Operators  _ e5  _ ).mono ?_)
    rintro _ w9 ⟨⟨v6, rfl, G7⟩, hb10⟩
    refine ⟨_, rfl, ?_⟩
    have szw9 := hb10.size
    have T0w9 := T.size
    have T := Tt T hb10
    replace G7 := OwF.mono G7 T0w9
    refine RL.y rfl (Y.move (v := .int .i64 d0) s0) ?_
    obtain ⟨s11, ks11, hm⟩ := bnd hm
    replace ks11 := ck_some ks11
    refine RL.y rfl (Y.binI (v := .int .i64 s11) rfl rfl (by rw [binI_sub ks11.2, ks11.1])) ?_
    obtain ⟨A12, c13, rfl⟩ := OwF.form G7
    have qbA12 := OwF.bound G7
    obtain ⟨x14, hx16, hm⟩ := bnd hm
    obtain ⟨k15, hk17, hl18, hx16⟩ := getI_some hx16
    obtain ⟨b19, rfl⟩ := OwF.addr0 G7 (by omega)
    refine RL.y rfl (Y.indexAddr (m := k15) (sz := 1) rfl rfl hk17 hl18 (by kernel_rfl)) ?_
    refine RL.y rfl (Y.load (v := .string x14) rfl (by kernel_rfl) (eqC (OwF.cell fS G7 hx16 (j := 0) rfl))) ?_
    refine RL.y rfl (Y.assign (v := .string x14) rfl) ?_
    refine RL.nil ?_
    refine then_n ?_
    refine wp_ret ?_
    obtain rfl := Option.some.inj hm
    exact (ret1 rfl rfl rfl ⟨rfl, T⟩)
def m_spec_l11Numbers_A1 (z1 : ByteArray) : Option ByteArray :=
  some z1
def m_spec_l11Numbers_B1 (d0 : List Int) (rec1 : ByteArray → Int → Option ByteArray) (K1 : ByteArray → Option ByteArray) (z3 : ByteArray) (i4 : Int) : Option ByteArray :=
  (bif (decide (i4 < (d0.length : Int))) then (bif (decide (i4 > 0)) then ((catS z3 (ByteArray.mk #[44])).bind fun s23 => ((getI d0 i4).bind fun x25 => ((m_spec_Decimal x25).bind fun y34 => ((catS s23 y34).bind fun s36 => (rec1 s36 (i4 + 1)))))) else ((getI d0 i4).bind fun x8 => ((m_spec_Decimal x8).bind fun y17 => ((catS z3 y17).bind fun s19 => (rec1 s19 (i4 + 1)))))) else (K1 z3))
def m_spec_l11Numbers_L1 (d0 : List Int) (K1 : ByteArray → Option ByteArray) : Nat → ByteArray → Int → Option ByteArray
  | 0, _, _ => none
  | g + 1, z3, i4 => m_spec_l11Numbers_B1 d0 (m_spec_l11Numbers_L1 d0 K1 g) K1 z3 i4
def m_spec_l11Numbers (d0 : List Int) : Option ByteArray :=
  (m_spec_l11Numbers_L1 d0 m_spec_l11Numbers_A1 (d0.length + 1) (ByteArray.mk #[]) 0)
set_option maxHeartbeats 2000000 in
theorem c_m_spec_l11Numbers (d0 : List Int) (r : ByteArray) (hm : m_spec_l11Numbers d0 = some r) (v0 : Value) (w : World) (hv0 : Sl intRd 1 w v0 d0) :
    Calls Tryz.prog 63 #[v0] w fun e w' => e = .returned (.string r) ∧ Below w.heap.size w w' := by
  obtain ⟨Aa0, na0, ca0, rfl, ha0, ra0⟩ := hv0
  have ea0 := ha0.len; subst ea0
  have qa0 := len_le ra0
  have T := Below.refl w.heap.size w
  unfold m_spec_l11Numbers at hm
  refine enter 23 Tryz.func63 rfl rfl rfl ?_
  intro f hf
  have s0 : f 0 = .slice Aa0 d0.length ca0 := hf 0 _ rfl
  refine wp_seq ?_
  refine wp_rs rfl ?_
  refine RQ.y rfl (Y.assign (v := .string (ByteArray.mk #[])) rfl) ?_
  refine RQ.nil ?_
  refine then_n ?_
  refine wp_seq ?_
  refine wp_rs rfl ?_
  refine RQ.y rfl (Y.assign (v := .string (ByteArray.mk #[])) rfl) ?_
  refine RQ.nil ?_
  refine then_n ?_
  refine wp_seq ?_
  refine wp_seq ?_
  refine wp_rs rfl ?_
  refine RQ.y rfl (Y.assign (v := .int .i64 0) rfl) ?_
  refine RQ.nil ?_
  refine then_n ?_
  refine wp_block ?_
  obtain ⟨K1, hK1, hm⟩ : ∃ K, K = m_spec_l11Numbers_A1 ∧ m_spec_l11Numbers_L1 d0 K (d0.length + 1) (ByteArray.mk #[]) 0 = some r := ⟨_, rfl, hm⟩
  refine wp_loopX (fun g f w' => ∃ (z3 : ByteArray) (i4 : Int), f 0 = .slice Aa0 d0.length ca0 ∧ f 3 = .string z3 ∧ f 4 = .int .i64 i4 ∧ 0 ≤ i4 ∧ Below w.heap.size w w' ∧ m_spec_l11Numbers_L1 d0 K1 g z3 i4 = some r) 0 (fun f w' => ∃ (z1 : ByteArray), f 3 = .string z1 ∧ Below w.heap.size w w' ∧ m_spec_l11Numbers_A1 z1 = some r) (d0.length + 1) ⟨(ByteArray.mk #[]), 0, s0, rfl, rfl, (by omega), T, hm⟩ ?_ ?_
  · rintro f w2 ⟨z1, s3_1x, T, hm⟩
    unfold m_spec_l11Numbers_A1 at hm
    refine blk_hit (then_n ?_)
    refine wp_seq ?_
    refine wp_rs rfl ?_
    refine RQ.y rfl (Y.move (v := .string z1) s3_1x) ?_
    refine RQ.y rfl (Y.assign (v := .string z1) rfl) ?_
    refine RQ.nil ?_
    refine then_n ?_
    refine wp_ret ?_
    obtain rfl := Option.some.inj hm
    exact (ret1 rfl rfl rfl ⟨rfl, T⟩)
  · rintro g f w5 ⟨z3, i4, s0_1, s3_1, s4_1, nn4_1, T, hm⟩
    rcases g with _ | g
    · simp only [m_spec_l11Numbers_L1] at hm; cases hm
    obtain ⟨rec1, hrec1, hm⟩ : ∃ z, z = m_spec_l11Numbers_L1 d0 K1 g ∧ m_spec_l11Numbers_B1 d0 z K1 z3 i4 = some r := ⟨_, rfl, hm⟩
    unfold m_spec_l11Numbers_B1 at hm
    refine wp_seq ?_
    refine wp_seq ?_
    refine wp_rs rfl ?_
    refine RQ.y rfl (Y.move (v := .int .i64 i4) s4_1) ?_
    refine RQ.y rfl (Y.move (v := .slice Aa0 d0.length ca0) s0_1) ?_
    refine RQ.y rfl (Y.len (by kernel_rfl) rfl) ?_
    refine RQ.y rfl (Y.binI (v := .bool (decide (i4 < (d0.length : Int)))) rfl rfl rfl) ?_
    refine RQ.nil ?_
    refine then_n ?_
    rcases bcases (decide (i4 < (d0.length : Int))) with c6 | c6
    · replace hm := cF c6 hm
      have pc6 := of_decide_eq_false c6
      refine cond_f rfl (vb rfl c6) ?_
      refine wp_exit ?_
      exact (then_x (then_x (hit_x ⟨_, rfl, ⟨z3, s3_1, T, (by rw [hK1] at hm; exact hm)⟩⟩)))
    · replace hm := cT c6 hm
      have pc6 := of_decide_eq_true c6
      refine cond_t rfl (vb rfl c6) ?_
      refine wp_skip ?_
      refine then_n ?_
      refine wp_seq ?_
      refine wp_block ?_
      refine wp_seq ?_
      refine wp_seq ?_
      refine wp_rs rfl ?_
      refine RQ.y rfl (Y.move (v := .int .i64 i4) s4_1) ?_
      refine RQ.y rfl (Y.binI (v := .bool (decide (i4 > 0))) rfl rfl rfl) ?_
      refine RQ.nil ?_
      refine then_n ?_
      rcases bcases (decide (i4 > 0)) with c7 | c7
      · replace hm := cF c7 hm
        have pc7 := of_decide_eq_false c7
        refine cond_f rfl (vb rfl c7) ?_
        refine wp_skip ?_
        refine then_n ?_
        refine wp_rb rfl ?_
        refine RQ.y rfl (Y.move (v := .string z3) s3_1) ?_
        refine RQ.y rfl (Y.move (v := .slice Aa0 d0.length ca0) s0_1) ?_
        refine RQ.y rfl (Y.move (v := .int .i64 i4) s4_1) ?_
        obtain ⟨x8, hx11, hm⟩ := bnd hm
        obtain ⟨k9, hk12, hl13, hx11⟩ := getI_some hx11
        obtain ⟨b15, o16, rfl, hbb15⟩ := ha0.addr (by omega)
        obtain ⟨cs10, hRcs10, hc14⟩ := ha0.el hx11
        have hScs10 := hRcs10
        obtain rfl := hRcs10
        refine RQ.y rfl (Y.indexAddr (m := k9) (sz := 1) rfl rfl hk12 hl13 (by kernel_rfl)) ?_
        refine RQ.y rfl (Y.load (v := .int .i64 x8) rfl (by kernel_rfl) (beC (cellT T (hc14 0 _ rfl)))) ?_
        obtain ⟨y17, e18, hm⟩ := bnd hm
        refine RQ.call rfl (am1 rfl) (by kernel_rfl) (v := .string y17) (bel (K := fun _ => True) fun w' hb' => (c_m_spec_Decimal x8 _ e18  w' )) ?_
        obtain ⟨s19, k20, hm⟩ := bnd hm
        refine RQ.y rfl (Y.catS (s := s19) rfl rfl k20) ?_
        refine RQ.y rfl (Y.assign (v := .string s19) rfl) ?_
        refine RQ.nil ?_
        intro w21 hb22
        have szw21 := hb22.size
        have T := Tt T hb22
        refine blk_n (then_n ?_)
        refine wp_rs rfl ?_
        refine RQ.y rfl (Y.move (v := .int .i64 i4) s4_1) ?_
        refine RQ.y rfl (Y.binI rfl rfl (binI_add (m := i4) (by omega))) ?_
        refine RQ.y rfl (Y.assign (v := .int .i64 (i4 + 1)) rfl) ?_
        refine RQ.nil ?_
        exact (then_n ⟨g, _, Nat.lt_succ_self _, rfl, ⟨s19, (i4 + 1), s0_1, rfl, rfl, (by omega), T, (by rw [← hrec1]; exact hm)⟩⟩)
      · replace hm := cT c7 hm
        have pc7 := of_decide_eq_true c7
        refine cond_t rfl (vb rfl c7) ?_
        refine wp_rs rfl ?_
        refine RQ.y rfl (Y.move (v := .string z3) s3_1) ?_
        obtain ⟨s23, k24, hm⟩ := bnd hm
        refine RQ.y rfl (Y.catS (s := s23) rfl rfl k24) ?_
        refine RQ.y rfl (Y.assign (v := .string s23) rfl) ?_
        refine RQ.nil ?_
        refine then_n ?_
        refine wp_rb rfl ?_
        refine RQ.y rfl (Y.move (v := .string s23) rfl) ?_
        refine RQ.y rfl (Y.move (v := .slice Aa0 d0.length ca0) s0_1) ?_
        refine RQ.y rfl (Y.move (v := .int .i64 i4) s4_1) ?_
        obtain ⟨x25, hx28, hm⟩ := bnd hm
        obtain ⟨k26, hk29, hl30, hx28⟩ := getI_some hx28
        obtain ⟨b32, o33, rfl, hbb32⟩ := ha0.addr (by omega)
        obtain ⟨cs27, hRcs27, hc31⟩ := ha0.el hx28
        have hScs27 := hRcs27
        obtain rfl := hRcs27
        refine RQ.y rfl (Y.indexAddr (m := k26) (sz := 1) rfl rfl hk29 hl30 (by kernel_rfl)) ?_
        refine RQ.y rfl (Y.load (v := .int .i64 x25) rfl (by kernel_rfl) (beC (cellT T (hc31 0 _ rfl)))) ?_
        obtain ⟨y34, e35, hm⟩ := bnd hm
        refine RQ.call rfl (am1 rfl) (by kernel_rfl) (v := .string y34) (bel (K := fun _ => True) fun w' hb' => (c_m_spec_Decimal x25 _ e35  w' )) ?_
        obtain ⟨s36, k37, hm⟩ := bnd hm
        refine RQ.y rfl (Y.catS (s := s36) rfl rfl k37) ?_
        refine RQ.y rfl (Y.assign (v := .string s36) rfl) ?_
        refine RQ.nil ?_
        intro w38 hb39
        have szw38 := hb39.size
        have T := Tt T hb39
        refine blk_n (then_n ?_)
        refine wp_rs rfl ?_
        refine RQ.y rfl (Y.move (v := .int .i64 i4) s4_1) ?_
        refine RQ.y rfl (Y.binI rfl rfl (binI_add (m := i4) (by omega))) ?_
        refine RQ.y rfl (Y.assign (v := .int .i64 (i4 + 1)) rfl) ?_
        refine RQ.nil ?_
        exact (then_n ⟨g, _, Nat.lt_succ_self _, rfl, ⟨s36, (i4 + 1), s0_1, rfl, rfl, (by omega), T, (by rw [← hrec1]; exact hm)⟩⟩)
end
section
open Go.RowKit Go.Sort
set_option linter.unusedVariables false
set_option linter.unusedSimpArgs false
theorem ba_ext {a b : ByteArray} (h : a.data.toList = b.data.toList) : a = b := by
  cases a; cases b
  simp only [ByteArray.mk.injEq] at *
  exact Array.ext' h
theorem ba_app (a b : ByteArray) : (a ++ b).data.toList = a.data.toList ++ b.data.toList := by rw [ByteArray.data_append, Array.toList_append]
theorem ba_app_size (a b : ByteArray) : (a ++ b).size = a.size + b.size := by simp
theorem catS_ok {a b : ByteArray} (h : a.size + b.size ≤ 9223372036854775807) : catS a b = some (a ++ b) := if_pos h
theorem wrS_ok {a b : ByteArray} (h : a.size + b.size ≤ 140737488355328) : wrS a b = some (a ++ b) := if_pos h
theorem ofNums_nums (s : ByteArray) : ofNums (nums s) = s := by
  refine ba_ext ?_
  unfold ofNums nums
  rw [strOfNums_data, List.map_map]
  have : (fun n : Int => UInt8.ofNat n.toNat) ∘ (fun b : UInt8 => (b.toNat : Int)) = id := by
    funext b
    simp
  rw [this, List.map_id]
theorem nums_app (a b : ByteArray) : nums (a ++ b) = nums a ++ nums b := by
  unfold nums
  rw [ba_app, List.map_append]
/-- The digits of a number, the last one first. -/
def revDig (u : Nat) : List Int := if h : u = 0 then [] else (48 + (u % 10 : Nat) : Int) :: revDig (u / 10)
termination_by u
decreasing_by omega
theorem revDig_zero : revDig 0 = [] := by rw [revDig, dif_pos rfl]
theorem revDig_pos {u : Nat} (h : u ≠ 0) : revDig u = (48 + (u % 10 : Nat) : Int) :: revDig (u / 10) := by rw [revDig, dif_neg h]
theorem revDig_len : ∀ (k u : Nat), u < 10 ^ k → (revDig u).length ≤ k
  | k, 0, _ => by rw [revDig_zero]; exact Nat.zero_le _
  | 0, u + 1, h => by simp at h
  | k + 1, u + 1, h => by
    rw [revDig_pos (by omega), List.length_cons]
    have := revDig_len k ((u + 1) / 10) (by rw [Nat.pow_succ] at h; omega)
    omega
def byteN (n : Int) : UInt8 := UInt8.ofNat n.toNat
theorem byteN_dig (d : Nat) : byteN (48 + (d : Int)) = UInt8.ofNat (48 + d) := by
  unfold byteN
  congr 1
theorem revDig_dec : ∀ (u : Nat), u ≠ 0 → (revDig u).reverse.map byteN = Lib.decDigits u := by
  intro u
  induction u using Nat.strongRecOn with
  | ind u ih =>
    intro h
    rw [revDig_pos h, List.reverse_cons, List.map_append, Lib.decDigits]
    by_cases h1 : u < 10
    · rw [dif_pos h1, show u / 10 = 0 by omega, revDig_zero, show u % 10 = u by omega, List.map_cons, byteN_dig]
      rfl
    · rw [dif_neg h1, ih (u / 10) (by omega) (by omega), List.map_cons, byteN_dig]
      rfl
theorem u8w_dig {n : Nat} (h : n < 10) : u8w (48 + (n : Int)) = 48 + (n : Int) := by
  have h2 : n = 0 ∨ n = 1 ∨ n = 2 ∨ n = 3 ∨ n = 4 ∨ n = 5 ∨ n = 6 ∨ n = 7 ∨ n = 8 ∨ n = 9 := by omega
  rcases h2 with rfl | rfl | rfl | rfl | rfl | rfl | rfl | rfl | rfl | rfl <;> rfl
theorem negI_ok {n : Int} (h : -9223372036854775807 ≤ n ∧ n ≤ 9223372036854775807) : negI n = some (-n) := if_pos h
theorem dec_L1 (K : List Int → Option ByteArray) : ∀ (g : Nat) (xs : List Int) (m : Int), -9223372036854775808 ≤ m → m ≤ 9223372036854775807 → m.natAbs < 10 ^ g → xs.length + g ≤ 1000 →
    m_spec_Decimal_L1 K (g + 1) xs m = K (xs ++ revDig m.natAbs) := by
  intro g
  induction g with
  | zero =>
    intro xs m h0 h1 h2 h3
    obtain rfl : m = 0 := by simp at h2; omega
    simp -implicitDefEqProofs only [m_spec_Decimal_L1, m_spec_Decimal_B1, Int.natAbs_zero, revDig_zero, List.append_nil, bne_self_eq_false, cond_false]
  | succ g ih =>
    intro xs m h0 h1 h2 h3
    by_cases hm : m = 0
    · subst hm
      simp -implicitDefEqProofs only [m_spec_Decimal_L1, m_spec_Decimal_B1, Int.natAbs_zero, revDig_zero, List.append_nil, bne_self_eq_false, cond_false]
    · have hne : (m != 0) = true := by simpa using hm
      have ht : (m.tmod 10).natAbs = m.natAbs % 10 := by rw [Int.natAbs_tmod]; rfl
      have hd : (m.tdiv 10).natAbs = m.natAbs / 10 := by rw [Int.natAbs_tdiv]; rfl
      have hq : m.natAbs % 10 < 10 := Nat.mod_lt _ (by decide)
      have hlt : (m.tdiv 10).natAbs < 10 ^ g := by rw [hd]; rw [Nat.pow_succ] at h2; omega
      have hck : ck (m.tdiv 10) = some (m.tdiv 10) := ck_ok (by omega)
      have hdig : revDig m.natAbs = (48 + (m.natAbs % 10 : Nat) : Int) :: revDig (m.tdiv 10).natAbs := by rw [hd]; exact revDig_pos (by omega)
      rw [m_spec_Decimal_L1, m_spec_Decimal_B1, hne, cond_true]
      by_cases hs : m.tmod 10 < 0
      · have hv : -(m.tmod 10) = ((m.natAbs % 10 : Nat) : Int) := by omega
        rw [decide_eq_true hs, cond_true, negI_ok (by omega), Option.bind_some, hv, ck_ok (by omega), Option.bind_some, mustP_ok (by simp; omega), Option.bind_some, hck, Option.bind_some, u8w_dig hq,
          ih _ _ (by omega) (by omega) hlt (by simp; omega), hdig]
        simp
      · have hv : m.tmod 10 = ((m.natAbs % 10 : Nat) : Int) := by omega
        rw [decide_eq_false hs, cond_false, hv, ck_ok (by omega), Option.bind_some, mustP_ok (by simp; omega), Option.bind_some, hck, Option.bind_some, u8w_dig hq,
          ih _ _ (by omega) (by omega) hlt (by simp; omega), hdig]
        simp
theorem dec_L2 (xs : List Int) (hx : xs.length ≤ 1000) : ∀ (k g : Nat) (acc : List Int), k ≤ xs.length → k < g → acc.length + k ≤ 2000 →
    m_spec_Decimal_L2 xs m_spec_Decimal_A2 g acc ((k : Int) - 1) = some (ofNums (acc ++ (xs.take k).reverse)) := by
  intro k
  induction k with
  | zero =>
    intro g acc _ hg _
    obtain ⟨g, rfl⟩ : ∃ g', g = g' + 1 := ⟨g - 1, by omega⟩
    rw [m_spec_Decimal_L2, m_spec_Decimal_B2, show decide (((0 : Nat) : Int) - 1 ≥ 0) = false by decide, cond_false, m_spec_Decimal_A2]
    simp
  | succ k ih =>
    intro g acc hk hg hl
    obtain ⟨g, rfl⟩ : ∃ g', g = g' + 1 := ⟨g - 1, by omega⟩
    have hlt : k < xs.length := by omega
    have he : ((k + 1 : Nat) : Int) - 1 = (k : Int) := by omega
    have hd : decide ((k : Int) ≥ 0) = true := by simp
    rw [he, m_spec_Decimal_L2, m_spec_Decimal_B2, hd, cond_true, getI_lt hlt, Option.bind_some, mustP_ok (by simp; omega), Option.bind_some, ck_ok (by omega), Option.bind_some, ih g _ (by omega) (by omega) (by simp; omega)]
    rw [List.take_succ_eq_append_getElem hlt, List.reverse_append, List.append_assoc]
    rfl
theorem p_sDecimal (n : Int) (h0 : -9223372036854775808 ≤ n) (h1 : n ≤ 9223372036854775807) : m_spec_Decimal n = some (itoaB n) := by
  have hb : n.natAbs < 10 ^ 20 := by omega
  have hl := revDig_len 20 _ hb
  unfold m_spec_Decimal
  rw [dec_L1 _ 20 [] n h0 h1 hb (by simp), List.nil_append, m_spec_Decimal_A1]
  have fin : ∀ xs : List Int, xs.length ≤ 1000 → xs.length < 29 → m_spec_Decimal_Aj2 xs = some (ofNums xs.reverse) := fun xs hx h2 => by
    rw [m_spec_Decimal_Aj2, ck_ok (by omega), Option.bind_some, dec_L2 xs hx xs.length 30 [] (Nat.le_refl _) (by omega) (by simp; omega), List.nil_append, List.take_length]
  have heq : ∀ xs : List Int, xs.map byteN = Lib.itoa n → some (ofNums xs) = some (itoaB n) := fun xs hx => by
    congr 1
    refine ba_ext ?_
    unfold ofNums itoaB
    rw [strOfNums_data]
    exact hx
  by_cases hz : n = 0
  · subst hz
    rw [show ((0 : Int) == 0) = true from rfl, cond_true, mustP_ok (by simp [revDig_zero]), Option.bind_some, m_spec_Decimal_Aj1, show decide ((0 : Int) < 0) = false by decide, cond_false, fin _ (by simp [revDig_zero]) (by simp [revDig_zero])]
    refine heq _ ?_
    simp [revDig_zero, byteN, Lib.itoa, Lib.decDigits]
  · rw [show (n == 0) = false by simpa using hz, cond_false, m_spec_Decimal_Aj1]
    by_cases hs : n < 0
    · rw [decide_eq_true hs, cond_true, mustP_ok (by simp; omega), Option.bind_some, fin _ (by simp; omega) (by simp; omega)]
      refine heq _ ?_
      rw [List.reverse_append, List.map_append, revDig_dec _ (by omega), Lib.itoa, if_pos hs]
      rfl
    · rw [decide_eq_false hs, cond_false, fin _ (by omega) (by omega)]
      refine heq _ ?_
      rw [revDig_dec _ (by omega), Lib.itoa, if_neg hs]
      congr 1
      omega
theorem decM_ok {n : Int} (h0 : -9223372036854775808 ≤ n) (h1 : n ≤ 9223372036854775807) : decM n = some (itoaB n) := if_pos ⟨h0, h1⟩
theorem itoaB_size {n : Int} (h0 : -9223372036854775808 ≤ n) (h1 : n ≤ 9223372036854775807) : (itoaB n).size ≤ 21 := by
  have := Lib.itoa_length_le n h0 h1
  simpa [itoaB, ByteArray.size] using this
end
section
open Go.RowKit
set_option linter.unusedVariables false
set_option linter.unusedSimpArgs false
theorem portsOf_kind {k f : Int} (h : 0 < portsOf k f) : 1 ≤ k ∧ k ≤ 12 := by
  unfold portsOf at h
  split at h
  · omega
  · split at h
    · omega
    · split at h
      · omega
      · split at h
        · omega
        · split at h <;> omega
structure Good (xs : List DAgent) : Prop where
  one : 1 ≤ xs.length
  len : xs.length ≤ 600
  ok : ∀ (i : Nat) (x : DAgent), xs[i]? = some x → agentOk x = true
  root : ∀ (i : Nat) (x : DAgent), xs[i]? = some x → (x.kind = 1 ↔ i = 0)
  ports : PortsOk xs
theorem good {d : DNet} (h : validNet d = true) : Good d.agents := by
  obtain ⟨⟨h1, h2, h3⟩, h4⟩ := validNet_iff.1 h
  exact ⟨h1, h2, fun i x hx => (h3 i x hx).1, fun i x hx => by have := (h3 i x hx).2; simpa using this, h4⟩
theorem agentOk_pos {x : DAgent} (h : agentOk x = true) : 0 < x.ports.length ∧ 1 ≤ x.kind ∧ x.kind ≤ 12 := by
  unfold agentOk at h
  simp only [Bool.and_eq_true, decide_eq_true_eq] at h
  have := portsOf_kind h.1.1.1
  omega
theorem Good.pos {xs : List DAgent} (G : Good xs) {i : Nat} {x : DAgent} (hx : xs[i]? = some x) : 0 < x.ports.length := (agentOk_pos (G.ok i x hx)).1
def before (p q : DPort) : Bool := decide (p.agent < q.agent) || (p.agent == q.agent && decide (p.slot < q.slot))
end
end Go.Proofs.YtkfmlehhbanopaaGreatDoor
