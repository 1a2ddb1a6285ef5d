/- Lemmas of the proof of ComponentsOf, part 3. No condition. -/
import Derived.Test.YtebioddcnldjkaaZComponentsOf2
namespace Go.Proofs.Ytebioddcnldjkaa
section
open Go.RowKit
set_option linter.unusedVariables false
set_option linter.unusedSimpArgs false
set_option maxRecDepth 100000
def m_slices_IndexFunc_impl_Port_impl_Port_A1 : Option Int :=
  some (-1)
def m_slices_IndexFunc_impl_Port_impl_Port_B1 (d0 : List DPort) (d1 : DPort → Option Bool) (rec1 : Int → Option Int) (K1 : Option Int) (i2 : Int) : Option Int :=
  (bif (decide (i2 < (d0.length : Int))) then ((getI d0 i2).bind fun x5 => ((d1 x5).bind fun y14 => (bif y14 then some i2 else (rec1 (i2 + 1))))) else (K1))
def m_slices_IndexFunc_impl_Port_impl_Port_L1 (d0 : List DPort) (d1 : DPort → Option Bool) (K1 : Option Int) : Nat → Int → Option Int
  | 0, _ => none
  | g + 1, i2 => m_slices_IndexFunc_impl_Port_impl_Port_B1 d0 d1 (m_slices_IndexFunc_impl_Port_impl_Port_L1 d0 d1 K1 g) K1 i2
def m_slices_IndexFunc_impl_Port_impl_Port (d0 : List DPort) (d1 : DPort → Option Bool) : Option Int :=
  (m_slices_IndexFunc_impl_Port_impl_Port_L1 d0 d1 m_slices_IndexFunc_impl_Port_impl_Port_A1 (d0.length + 1) 0)
set_option maxHeartbeats 2000000 in
theorem c_m_slices_IndexFunc_impl_Port_impl_Port (d0 : List DPort) (d1 : DPort → Option Bool) (r : Int) (hm : m_slices_IndexFunc_impl_Port_impl_Port d0 d1 = some r) (v0 : Value) (gf1 : FuncId) (caps1 : Array Value) (w : World) (hv0 : Sl portRd 2 w v0 d0) (hgo1 : isGo Try.prog gf1 = true) (hf1 : ∀ (x0 : DPort) (b : Bool), d1 x0 = some b → ∀ w1, Below w.heap.size w w1 → Calls Try.prog gf1 (#[.agg #[.int .i64 x0.agent, .int .i64 x0.slot]] ++ caps1) w1 fun e w2 => e = .returned (.bool b) ∧ Below w1.heap.size w1 w2) :
    Calls Try.prog 91 #[v0, .func (.func gf1) #[] caps1] w fun e w' => e = .returned (.int .i64 r) ∧ Below w.heap.size w w' := by
  obtain ⟨Aa0, na0, ca0, rfl, ha0, ra0⟩ := hv0
  have ea0 := ha0.len; subst ea0
  have qa0 := len_le ra0
  have T := Below.refl w.heap.size w
  unfold m_slices_IndexFunc_impl_Port_impl_Port at hm
  refine enter 19 Try.func91 rfl rfl rfl ?_
  intro f hf
  have s0 : f 0 = .slice Aa0 d0.length ca0 := hf 0 _ rfl
  have s1 : f 1 = .func (.func gf1) #[] caps1 := hf 1 _ rfl
  refine wp_seq ?_
  refine wp_rs rfl ?_
  refine RQ.y rfl (Y.assign (v := .int .i64 0) rfl) ?_
  refine RQ.nil ?_
  refine then_n ?_
  refine wp_seq ?_
  refine wp_seq ?_
  refine wp_rs rfl ?_
  refine RQ.y rfl (Y.move (v := .slice Aa0 d0.length ca0) s0) ?_
  refine RQ.y rfl (Y.len (by kernel_rfl) rfl) ?_
  refine RQ.y rfl (Y.move (v := .int .i64 0) rfl) ?_
  refine RQ.nil ?_
  refine then_n ?_
  refine wp_block ?_
  obtain ⟨K1, hK1, hm⟩ : ∃ K, K = m_slices_IndexFunc_impl_Port_impl_Port_A1 ∧ m_slices_IndexFunc_impl_Port_impl_Port_L1 d0 d1 K (d0.length + 1) 0 = some r := ⟨_, rfl, hm⟩
  refine wp_loopX (fun g f w' => ∃ (i2 : Int), f 0 = .slice Aa0 d0.length ca0 ∧ f 1 = .func (.func gf1) #[] caps1 ∧ f 7 = .int .i64 (d0.length : Int) ∧ f 8 = .int .i64 i2 ∧ 0 ≤ i2 ∧ Below w.heap.size w w' ∧ m_slices_IndexFunc_impl_Port_impl_Port_L1 d0 d1 K1 g i2 = some r) 0 (fun f w' => Below w.heap.size w w' ∧ m_slices_IndexFunc_impl_Port_impl_Port_A1  = some r) (d0.length + 1) ⟨0, s0, s1, rfl, rfl, (by omega), T, hm⟩ ?_ ?_
  · rintro f w1 ⟨T, hm⟩
    unfold m_slices_IndexFunc_impl_Port_impl_Port_A1 at hm
    refine blk_hit (then_n ?_)
    refine wp_seq ?_
    refine wp_rs rfl ?_
    refine RQ.y rfl (Y.assign (v := .int .i64 (-1)) rfl) ?_
    refine RQ.nil ?_
    refine then_n ?_
    refine wp_ret ?_
    obtain rfl := Option.some.inj hm
    exact (ret1 rfl rfl rfl ⟨rfl, T⟩)
  · rintro g f w3 ⟨i2, s0_1, s1_1, s7_1, s8_1, nn8_1, T, hm⟩
    rcases g with _ | g
    · simp only [m_slices_IndexFunc_impl_Port_impl_Port_L1] at hm; cases hm
    obtain ⟨rec1, hrec1, hm⟩ : ∃ z, z = m_slices_IndexFunc_impl_Port_impl_Port_L1 d0 d1 K1 g ∧ m_slices_IndexFunc_impl_Port_impl_Port_B1 d0 d1 z K1 i2 = some r := ⟨_, rfl, hm⟩
    unfold m_slices_IndexFunc_impl_Port_impl_Port_B1 at hm
    refine wp_seq ?_
    refine wp_rs rfl ?_
    refine RQ.y rfl (Y.binI (v := .bool (decide (i2 < (d0.length : Int)))) s8_1 s7_1 rfl) ?_
    refine RQ.nil ?_
    refine then_n ?_
    refine wp_seq ?_
    rcases bcases (decide (i2 < (d0.length : Int))) with c4 | c4
    · replace hm := cF c4 hm
      have pc4 := of_decide_eq_false c4
      refine cond_f rfl (vb rfl c4) ?_
      refine wp_exit ?_
      exact (then_x (then_x (hit_x ⟨_, rfl, ⟨T, (by rw [hK1] at hm; exact hm)⟩⟩)))
    · replace hm := cT c4 hm
      have pc4 := of_decide_eq_true c4
      refine cond_t rfl (vb rfl c4) ?_
      refine wp_skip ?_
      refine then_n ?_
      refine wp_seq ?_
      refine wp_block ?_
      refine wp_seq ?_
      refine wp_rs rfl ?_
      refine RQ.y rfl (Y.move (v := .int .i64 i2) s8_1) ?_
      refine RQ.y rfl (Y.assign (v := .int .i64 i2) rfl) ?_
      refine RQ.nil ?_
      refine then_n ?_
      refine wp_seq ?_
      refine wp_rb rfl ?_
      refine RQ.y rfl (Y.move (v := .func (.func gf1) #[] caps1) s1_1) ?_
      refine RQ.y rfl (Y.move (v := .slice Aa0 d0.length ca0) s0_1) ?_
      refine RQ.y rfl (Y.move (v := .int .i64 i2) rfl) ?_
      obtain ⟨x5, hx8, hm⟩ := bnd hm
      obtain ⟨k6, hk9, hl10, hx8⟩ := getI_some hx8
      obtain ⟨b12, o13, rfl, hbb12⟩ := ha0.addr (by omega)
      obtain ⟨cs7, hRcs7, hc11⟩ := ha0.el hx8
      have hScs7 := hRcs7
      obtain rfl := hRcs7
      refine RQ.y rfl (Y.indexAddr (m := k6) (sz := 2) rfl rfl hk9 hl10 (by kernel_rfl)) ?_
      refine RQ.y rfl (Y.loadN (cs := [.int .i64 x5.agent, .int .i64 x5.slot]) rfl (by kernel_rfl) (cells2 (beC (cellT T (hc11 0 _ rfl))) (beC (cellT T (hc11 1 _ rfl))))) ?_
      obtain ⟨y14, e15, hm⟩ := bnd hm
      refine RQ.callV rfl rfl (am1 rfl) hgo1 (v := .bool y14) (bel (K := fun _ => True) fun w' hb' => hf1 x5 y14 e15 w' (Tt T hb')) ?_
      refine RQ.nil ?_
      intro w16 hb17
      have szw16 := hb17.size
      have T := Tt T hb17
      refine then_n ?_
      rcases bcases y14 with c18 | c18
      · replace hm := cF c18 hm
        refine cond_f rfl (vb rfl c18) ?_
        refine wp_skip ?_
        refine blk_n (then_n ?_)
        refine wp_rs rfl ?_
        refine RQ.y rfl (Y.binI s8_1 rfl (binI_add (m := i2) (by omega))) ?_
        refine RQ.y rfl (Y.move (v := .int .i64 (i2 + 1)) rfl) ?_
        refine RQ.nil ?_
        exact (then_n ⟨g, _, Nat.lt_succ_self _, rfl, ⟨(i2 + 1), s0_1, s1_1, s7_1, rfl, (by omega), T, (by rw [← hrec1]; exact hm)⟩⟩)
      · replace hm := cT c18 hm
        refine cond_t rfl (vb rfl c18) ?_
        refine wp_seq ?_
        refine wp_rs rfl ?_
        refine RQ.y rfl (Y.move (v := .int .i64 i2) rfl) ?_
        refine RQ.y rfl (Y.assign (v := .int .i64 i2) rfl) ?_
        refine RQ.nil ?_
        refine then_n ?_
        refine wp_ret ?_
        obtain rfl := Option.some.inj hm
        exact (blk_r (then_r (then_r (hit_r (blk_r (then_r (ret1 rfl rfl rfl ⟨rfl, T⟩)))))))
def m_slices_ContainsFunc_impl_Port_impl_Port (d0 : List DPort) (d1 : DPort → Option Bool) : Option Bool :=
  ((m_slices_IndexFunc_impl_Port_impl_Port d0 d1).bind fun y1 => some (decide (y1 ≥ 0)))
set_option maxHeartbeats 2000000 in
theorem c_m_slices_ContainsFunc_impl_Port_impl_Port (d0 : List DPort) (d1 : DPort → Option Bool) (r : Bool) (hm : m_slices_ContainsFunc_impl_Port_impl_Port d0 d1 = some r) (v0 : Value) (gf1 : FuncId) (caps1 : Array Value) (w : World) (hv0 : Sl portRd 2 w v0 d0) (hgo1 : isGo Try.prog gf1 = true) (hf1 : ∀ (x0 : DPort) (b : Bool), d1 x0 = some b → ∀ w1, Below w.heap.size w w1 → Calls Try.prog gf1 (#[.agg #[.int .i64 x0.agent, .int .i64 x0.slot]] ++ caps1) w1 fun e w2 => e = .returned (.bool b) ∧ Below w1.heap.size w1 w2) :
    Calls Try.prog 64 #[v0, .func (.func gf1) #[] caps1] w fun e w' => e = .returned (.bool r) ∧ Below w.heap.size w w' := by
  obtain ⟨Aa0, na0, ca0, rfl, ha0, ra0⟩ := hv0
  have ea0 := ha0.len; subst ea0
  have qa0 := len_le ra0
  have T := Below.refl w.heap.size w
  unfold m_slices_ContainsFunc_impl_Port_impl_Port at hm
  refine enter 9 Try.func64 rfl rfl rfl ?_
  intro f hf
  have s0 : f 0 = .slice Aa0 d0.length ca0 := hf 0 _ rfl
  have s1 : f 1 = .func (.func gf1) #[] caps1 := hf 1 _ rfl
  refine wp_seq ?_
  refine wp_rs rfl ?_
  refine RQ.y rfl (Y.assign (v := .bool false) rfl) ?_
  refine RQ.nil ?_
  refine then_n ?_
  refine wp_seq ?_
  refine wp_rb rfl ?_
  refine RQ.y rfl (Y.move (v := .slice Aa0 d0.length ca0) s0) ?_
  refine RQ.y rfl (Y.move (v := .func (.func gf1) #[] caps1) s1) ?_
  obtain ⟨y1, e2, hm⟩ := bnd hm
  refine RQ.call rfl (am2 rfl rfl) (by kernel_rfl) (v := .int .i64 y1) (bel (K := fun _ => True) fun w' hb' => (c_m_slices_IndexFunc_impl_Port_impl_Port d0 d1 _ e2 _ _ _ w' (slArg portRd_ok ha0 ra0 (Tt T hb')) hgo1 (fun x0 b hx w1 hb1 => hf1 x0 b hx w1 (Tt (Tt T hb') hb1)))) ?_
  refine RQ.y rfl (Y.binI (v := .bool (decide (y1 ≥ 0))) rfl rfl rfl) ?_
  refine RQ.y rfl (Y.assign (v := .bool (decide (y1 ≥ 0))) rfl) ?_
  refine RQ.nil ?_
  intro w3 hb4
  have szw3 := hb4.size
  have T := Tt T hb4
  refine then_n ?_
  refine wp_ret ?_
  obtain rfl := Option.some.inj hm
  exact (ret1 rfl rfl rfl ⟨rfl, T⟩)
def m_slices_IndexFunc_int64_int64_A1 : Option Int :=
  some (-1)
def m_slices_IndexFunc_int64_int64_B1 (d0 : List Int) (d1 : Int → Option Bool) (rec1 : Int → Option Int) (K1 : Option Int) (i2 : Int) : Option Int :=
  (bif (decide (i2 < (d0.length : Int))) then ((getI d0 i2).bind fun x5 => ((d1 x5).bind fun y14 => (bif y14 then some i2 else (rec1 (i2 + 1))))) else (K1))
def m_slices_IndexFunc_int64_int64_L1 (d0 : List Int) (d1 : Int → Option Bool) (K1 : Option Int) : Nat → Int → Option Int
  | 0, _ => none
  | g + 1, i2 => m_slices_IndexFunc_int64_int64_B1 d0 d1 (m_slices_IndexFunc_int64_int64_L1 d0 d1 K1 g) K1 i2
def m_slices_IndexFunc_int64_int64 (d0 : List Int) (d1 : Int → Option Bool) : Option Int :=
  (m_slices_IndexFunc_int64_int64_L1 d0 d1 m_slices_IndexFunc_int64_int64_A1 (d0.length + 1) 0)
set_option maxHeartbeats 2000000 in
theorem c_m_slices_IndexFunc_int64_int64 (d0 : List Int) (d1 : Int → Option Bool) (r : Int) (hm : m_slices_IndexFunc_int64_int64 d0 d1 = some r) (v0 : Value) (gf1 : FuncId) (caps1 : Array Value) (w : World) (hv0 : Sl intRd 1 w v0 d0) (hgo1 : isGo Try.prog gf1 = true) (hf1 : ∀ (x0 : Int) (b : Bool), d1 x0 = some b → ∀ w1, Below w.heap.size w w1 → Calls Try.prog gf1 (#[.int .i64 x0] ++ caps1) w1 fun e w2 => e = .returned (.bool b) ∧ Below w1.heap.size w1 w2) :
    Calls Try.prog 134 #[v0, .func (.func gf1) #[] caps1] w fun e w' => e = .returned (.int .i64 r) ∧ Below w.heap.size w w' := by
  obtain ⟨Aa0, na0, ca0, rfl, ha0, ra0⟩ := hv0
  have ea0 := ha0.len; subst ea0
  have qa0 := len_le ra0
  have T := Below.refl w.heap.size w
  unfold m_slices_IndexFunc_int64_int64 at hm
  refine enter 19 Try.func134 rfl rfl rfl ?_
  intro f hf
  have s0 : f 0 = .slice Aa0 d0.length ca0 := hf 0 _ rfl
  have s1 : f 1 = .func (.func gf1) #[] caps1 := hf 1 _ rfl
  refine wp_seq ?_
  refine wp_rs rfl ?_
  refine RQ.y rfl (Y.assign (v := .int .i64 0) rfl) ?_
  refine RQ.nil ?_
  refine then_n ?_
  refine wp_seq ?_
  refine wp_seq ?_
  refine wp_rs rfl ?_
  refine RQ.y rfl (Y.move (v := .slice Aa0 d0.length ca0) s0) ?_
  refine RQ.y rfl (Y.len (by kernel_rfl) rfl) ?_
  refine RQ.y rfl (Y.move (v := .int .i64 0) rfl) ?_
  refine RQ.nil ?_
  refine then_n ?_
  refine wp_block ?_
  obtain ⟨K1, hK1, hm⟩ : ∃ K, K = m_slices_IndexFunc_int64_int64_A1 ∧ m_slices_IndexFunc_int64_int64_L1 d0 d1 K (d0.length + 1) 0 = some r := ⟨_, rfl, hm⟩
  refine wp_loopX (fun g f w' => ∃ (i2 : Int), f 0 = .slice Aa0 d0.length ca0 ∧ f 1 = .func (.func gf1) #[] caps1 ∧ f 7 = .int .i64 (d0.length : Int) ∧ f 8 = .int .i64 i2 ∧ 0 ≤ i2 ∧ Below w.heap.size w w' ∧ m_slices_IndexFunc_int64_int64_L1 d0 d1 K1 g i2 = some r) 0 (fun f w' => Below w.heap.size w w' ∧ m_slices_IndexFunc_int64_int64_A1  = some r) (d0.length + 1) ⟨0, s0, s1, rfl, rfl, (by omega), T, hm⟩ ?_ ?_
  · rintro f w1 ⟨T, hm⟩
    unfold m_slices_IndexFunc_int64_int64_A1 at hm
    refine blk_hit (then_n ?_)
    refine wp_seq ?_
    refine wp_rs rfl ?_
    refine RQ.y rfl (Y.assign (v := .int .i64 (-1)) rfl) ?_
    refine RQ.nil ?_
    refine then_n ?_
    refine wp_ret ?_
    obtain rfl := Option.some.inj hm
    exact (ret1 rfl rfl rfl ⟨rfl, T⟩)
  · rintro g f w3 ⟨i2, s0_1, s1_1, s7_1, s8_1, nn8_1, T, hm⟩
    rcases g with _ | g
    · simp only [m_slices_IndexFunc_int64_int64_L1] at hm; cases hm
    obtain ⟨rec1, hrec1, hm⟩ : ∃ z, z = m_slices_IndexFunc_int64_int64_L1 d0 d1 K1 g ∧ m_slices_IndexFunc_int64_int64_B1 d0 d1 z K1 i2 = some r := ⟨_, rfl, hm⟩
    unfold m_slices_IndexFunc_int64_int64_B1 at hm
    refine wp_seq ?_
    refine wp_rs rfl ?_
    refine RQ.y rfl (Y.binI (v := .bool (decide (i2 < (d0.length : Int)))) s8_1 s7_1 rfl) ?_
    refine RQ.nil ?_
    refine then_n ?_
    refine wp_seq ?_
    rcases bcases (decide (i2 < (d0.length : Int))) with c4 | c4
    · replace hm := cF c4 hm
      have pc4 := of_decide_eq_false c4
      refine cond_f rfl (vb rfl c4) ?_
      refine wp_exit ?_
      exact (then_x (then_x (hit_x ⟨_, rfl, ⟨T, (by rw [hK1] at hm; exact hm)⟩⟩)))
    · replace hm := cT c4 hm
      have pc4 := of_decide_eq_true c4
      refine cond_t rfl (vb rfl c4) ?_
      refine wp_skip ?_
      refine then_n ?_
      refine wp_seq ?_
      refine wp_block ?_
      refine wp_seq ?_
      refine wp_rs rfl ?_
      refine RQ.y rfl (Y.move (v := .int .i64 i2) s8_1) ?_
      refine RQ.y rfl (Y.assign (v := .int .i64 i2) rfl) ?_
      refine RQ.nil ?_
      refine then_n ?_
      refine wp_seq ?_
      refine wp_rb rfl ?_
      refine RQ.y rfl (Y.move (v := .func (.func gf1) #[] caps1) s1_1) ?_
      refine RQ.y rfl (Y.move (v := .slice Aa0 d0.length ca0) s0_1) ?_
      refine RQ.y rfl (Y.move (v := .int .i64 i2) rfl) ?_
      obtain ⟨x5, hx8, hm⟩ := bnd hm
      obtain ⟨k6, hk9, hl10, hx8⟩ := getI_some hx8
      obtain ⟨b12, o13, rfl, hbb12⟩ := ha0.addr (by omega)
      obtain ⟨cs7, hRcs7, hc11⟩ := ha0.el hx8
      have hScs7 := hRcs7
      obtain rfl := hRcs7
      refine RQ.y rfl (Y.indexAddr (m := k6) (sz := 1) rfl rfl hk9 hl10 (by kernel_rfl)) ?_
      refine RQ.y rfl (Y.load (v := .int .i64 x5) rfl (by kernel_rfl) (beC (cellT T (hc11 0 _ rfl)))) ?_
      obtain ⟨y14, e15, hm⟩ := bnd hm
      refine RQ.callV rfl rfl (am1 rfl) hgo1 (v := .bool y14) (bel (K := fun _ => True) fun w' hb' => hf1 x5 y14 e15 w' (Tt T hb')) ?_
      refine RQ.nil ?_
      intro w16 hb17
      have szw16 := hb17.size
      have T := Tt T hb17
      refine then_n ?_
      rcases bcases y14 with c18 | c18
      · replace hm := cF c18 hm
        refine cond_f rfl (vb rfl c18) ?_
        refine wp_skip ?_
        refine blk_n (then_n ?_)
        refine wp_rs rfl ?_
        refine RQ.y rfl (Y.binI s8_1 rfl (binI_add (m := i2) (by omega))) ?_
        refine RQ.y rfl (Y.move (v := .int .i64 (i2 + 1)) rfl) ?_
        refine RQ.nil ?_
        exact (then_n ⟨g, _, Nat.lt_succ_self _, rfl, ⟨(i2 + 1), s0_1, s1_1, s7_1, rfl, (by omega), T, (by rw [← hrec1]; exact hm)⟩⟩)
      · replace hm := cT c18 hm
        refine cond_t rfl (vb rfl c18) ?_
        refine wp_seq ?_
        refine wp_rs rfl ?_
        refine RQ.y rfl (Y.move (v := .int .i64 i2) rfl) ?_
        refine RQ.y rfl (Y.assign (v := .int .i64 i2) rfl) ?_
        refine RQ.nil ?_
        refine then_n ?_
        refine wp_ret ?_
        obtain rfl := Option.some.inj hm
        exact (blk_r (then_r (then_r (hit_r (blk_r (then_r (ret1 rfl rfl rfl ⟨rfl, T⟩)))))))
def m_slices_ContainsFunc_int64_int64 (d0 : List Int) (d1 : Int → Option Bool) : Option Bool :=
  ((m_slices_IndexFunc_int64_int64 d0 d1).bind fun y1 => some (decide (y1 ≥ 0)))
set_option maxHeartbeats 2000000 in
theorem c_m_slices_ContainsFunc_int64_int64 (d0 : List Int) (d1 : Int → Option Bool) (r : Bool) (hm : m_slices_ContainsFunc_int64_int64 d0 d1 = some r) (v0 : Value) (gf1 : FuncId) (caps1 : Array Value) (w : World) (hv0 : Sl intRd 1 w v0 d0) (hgo1 : isGo Try.prog gf1 = true) (hf1 : ∀ (x0 : Int) (b : Bool), d1 x0 = some b → ∀ w1, Below w.heap.size w w1 → Calls Try.prog gf1 (#[.int .i64 x0] ++ caps1) w1 fun e w2 => e = .returned (.bool b) ∧ Below w1.heap.size w1 w2) :
    Calls Try.prog 115 #[v0, .func (.func gf1) #[] caps1] w fun e w' => e = .returned (.bool r) ∧ Below w.heap.size w w' := by
  obtain ⟨Aa0, na0, ca0, rfl, ha0, ra0⟩ := hv0
  have ea0 := ha0.len; subst ea0
  have qa0 := len_le ra0
  have T := Below.refl w.heap.size w
  unfold m_slices_ContainsFunc_int64_int64 at hm
  refine enter 9 Try.func115 rfl rfl rfl ?_
  intro f hf
  have s0 : f 0 = .slice Aa0 d0.length ca0 := hf 0 _ rfl
  have s1 : f 1 = .func (.func gf1) #[] caps1 := hf 1 _ rfl
  refine wp_seq ?_
  refine wp_rs rfl ?_
  refine RQ.y rfl (Y.assign (v := .bool false) rfl) ?_
  refine RQ.nil ?_
  refine then_n ?_
  refine wp_seq ?_
  refine wp_rb rfl ?_
  refine RQ.y rfl (Y.move (v := .slice Aa0 d0.length ca0) s0) ?_
  refine RQ.y rfl (Y.move (v := .func (.func gf1) #[] caps1) s1) ?_
  obtain ⟨y1, e2, hm⟩ := bnd hm
  refine RQ.call rfl (am2 rfl rfl) (by kernel_rfl) (v := .int .i64 y1) (bel (K := fun _ => True) fun w' hb' => (c_m_slices_IndexFunc_int64_int64 d0 d1 _ e2 _ _ _ w' (slArg intRd_ok ha0 ra0 (Tt T hb')) hgo1 (fun x0 b hx w1 hb1 => hf1 x0 b hx w1 (Tt (Tt T hb') hb1)))) ?_
  refine RQ.y rfl (Y.binI (v := .bool (decide (y1 ≥ 0))) rfl rfl rfl) ?_
  refine RQ.y rfl (Y.assign (v := .bool (decide (y1 ≥ 0))) rfl) ?_
  refine RQ.nil ?_
  intro w3 hb4
  have szw3 := hb4.size
  have T := Tt T hb4
  refine then_n ?_
  refine wp_ret ?_
  obtain rfl := Option.some.inj hm
  exact (ret1 rfl rfl rfl ⟨rfl, T⟩)
def m_impl_ValidNet_1 (d0 : DPort) (d1 : DNet) : Option Bool :=
  ((m_impl_Net_peer d1 d0).bind fun y6 => (bif (y6.agent == d0.agent && y6.slot == d0.slot) then some true else ((m_impl_hasPort d1.agents y6).bind fun y18 => (bif y18 then ((m_impl_Net_peer d1 y6).bind fun y23 => some (!(y23.agent == d0.agent && y23.slot == d0.slot))) else some true))))
set_option maxHeartbeats 2000000 in
theorem c_m_impl_ValidNet_1 (d0 : DPort) (d1 : DNet) (r : Bool) (hm : m_impl_ValidNet_1 d0 d1 = some r) (v1 : Value) (w : World) (hv1 : Pt netRd w v1 d1) :
    Calls Try.prog 66 #[.agg #[.int .i64 d0.agent, .int .i64 d0.slot], v1] w fun e w' => e = .returned (.bool r) ∧ Below w.heap.size w w' := by
  obtain ⟨ba1, oa1, csa1, rfl, hba1, hRa1, hca1⟩ := hv1
  have hSa1 := hRa1
  obtain ⟨A1, n1, c1, rfl, ⟨h1, r1⟩⟩ := hRa1
  have e1 := h1.len; subst e1
  have q1 := len_le r1
  have T := Below.refl w.heap.size w
  unfold m_impl_ValidNet_1 at hm
  refine enter 23 Try.func66 rfl rfl rfl ?_
  intro f hf
  have s0 : f 0 = .agg #[.int .i64 d0.agent, .int .i64 d0.slot] := hf 0 _ rfl
  have s1 : f 1 = .pointer (some ⟨ba1, oa1, none⟩) := hf 1 _ rfl
  refine wp_seq ?_
  refine wp_rl rfl ?_
  refine RL.box rfl s0 (fun w2 B3 hb4 szw2 => ?_)
  replace B3 : Blk w2 w.heap.size 28 #[.int .i64 d0.agent, .int .i64 d0.slot] := B3
  have GB3 : w.heap.size ≤ w.heap.size := T.size
  have T := Tt T hb4
  refine RL.y rfl (Y.assign (v := .bool false) rfl) ?_
  refine RL.nil ?_
  refine then_n ?_
  refine wp_seq ?_
  refine wp_rl rfl ?_
  refine RL.y rfl (Y.loadN (cs := [.int .i64 d0.agent, .int .i64 d0.slot]) rfl (by kernel_rfl) (cells2 (eqC (blkCell B3 (i := 0) rfl)) (eqC (blkCell B3 (i := 1) rfl)))) ?_
  obtain ⟨y6, e7, hm⟩ := bnd hm
  refine RL.call rfl (am2 s1 rfl) (by kernel_rfl) ((c_m_impl_Net_peer d1 d0 _ e7 _ _ (ptArg netRd_ok hba1 hSa1 hca1 T)).mono ?_)
  rintro _ w8 ⟨rfl, hb9⟩
  refine ⟨_, rfl, ?_⟩
  have szw8 := hb9.size
  have B3 := blkT B3 hb9
  have T := Tt T hb9
  refine RL.alloc (z := .agg #[.int .i64 0, .int .i64 0]) rfl (by kernel_rfl) (fun w10 B11 hb12 szw10 => ?_)
  replace B11 : Blk w10 w8.heap.size 28 #[.int .i64 0, .int .i64 0] := B11
  have GB11 : w.heap.size ≤ w8.heap.size := T.size
  have Eob13_ob5 := Nat.ne_of_lt B3.lt
  have B3 := blkT B3 hb12
  have T := Tt T hb12
  refine RL.store (v := .agg #[.int .i64 y6.agent, .int .i64 y6.slot]) (cs' := #[.int .i64 y6.agent, .int .i64 y6.slot]) rfl rfl rfl B11 (by kernel_rfl) (by rfl) (by rfl) (by rfl) (fun w14 B15 ho16 => ?_)
  have szw14 := ho16.size
  have B3 := B3.only_ ho16 (by intro hin; simp at hin; exact Eob13_ob5 hin)
  have T := T.trans (ho16.below (by simp; omega))
  refine RL.nil ?_
  refine then_n ?_
  refine wp_seq ?_
  refine wp_rbd (by kernel_rfl) (by kernel_rfl) ?_
  refine RQ.y rfl (Y.loadN (cs := [.int .i64 y6.agent, .int .i64 y6.slot]) rfl (by kernel_rfl) (cells2 (beC (blkCell B15 (i := 0) rfl)) (beC (blkCell B15 (i := 1) rfl)))) ?_
  refine RQ.y rfl (Y.loadN (cs := [.int .i64 d0.agent, .int .i64 d0.slot]) rfl (by kernel_rfl) (cells2 (beC (blkCell B3 (i := 0) rfl)) (beC (blkCell B3 (i := 1) rfl)))) ?_
  refine RQ.y rfl (Y.eqS (b := (y6.agent == d0.agent && y6.slot == d0.slot)) rfl rfl (eqPort_run _ _ _ _) (eqGuardPort_run _ _ _ _ _)) ?_
  refine RQ.y rfl (Y.move (v := .bool (y6.agent == d0.agent && y6.slot == d0.slot)) rfl) ?_
  rcases bcases (y6.agent == d0.agent && y6.slot == d0.slot) with c17 | c17
  · replace hm := cF c17 hm
    refine RQ.y (wantT (dj := 10) rfl (vb rfl c17)) (Y.fieldAddr (off := 0) s1 (by kernel_rfl)) ?_
    refine RQ.y (wantT (dj := 10) rfl (vb rfl c17)) (Y.load (v := .slice A1 d1.agents.length c1) rfl (by kernel_rfl) (beC (cellT T (hca1 0 _ rfl)))) ?_
    refine RQ.y (wantT (dj := 10) rfl (vb rfl c17)) (Y.loadN (cs := [.int .i64 y6.agent, .int .i64 y6.slot]) rfl (by kernel_rfl) (cells2 (beC (blkCell B15 (i := 0) rfl)) (beC (blkCell B15 (i := 1) rfl)))) ?_
    obtain ⟨y18, e19, hm⟩ := bnd hm
    refine RQ.call (wantT (dj := 10) rfl (vb rfl c17)) (am2 rfl rfl) (by kernel_rfl) (v := .bool y18) (bel (K := fun _ => True) fun w' hb' => (c_m_impl_hasPort d1.agents y6 _ e19 _ w' (slArg agentRd_ok h1 r1 (Tt T hb')))) ?_
    refine RQ.y (wantT (dj := 10) rfl (vb rfl c17)) (Y.not (b' := (!y18)) rfl rfl) ?_
    refine RQ.y rfl (Y.pick (b := false) (v := .bool (!y18)) (vb rfl c17) rfl) ?_
    refine RQ.y rfl (Y.move (v := .bool (!y18)) rfl) ?_
    rcases bcases y18 with c20 | c20
    · replace hm := cF c20 hm
      refine RQ.skip (wantN (dj := 17) rfl (vbn rfl c20 rfl) rfl) ?_
      refine RQ.skip (wantN (dj := 17) rfl (vbn rfl c20 rfl) rfl) ?_
      refine RQ.skip (wantN (dj := 17) rfl (vbn rfl c20 rfl) rfl) ?_
      refine RQ.skip (wantN (dj := 17) rfl (vbn rfl c20 rfl) rfl) ?_
      refine RQ.y rfl (Y.pick (b := true) (v := .bool true) (vbn rfl c20 rfl) rfl) ?_
      refine RQ.y rfl (Y.assign (v := .bool true) rfl) ?_
      refine RQ.nil ?_
      intro w21 hb22
      have szw21 := hb22.size
      have T := Tt T hb22
      refine then_n ?_
      refine wp_ret ?_
      obtain rfl := Option.some.inj hm
      exact (ret1 rfl rfl rfl ⟨rfl, T⟩)
    · replace hm := cT c20 hm
      refine RQ.y (wantT (dj := 17) rfl (vbn rfl c20 rfl)) (Y.loadN (cs := [.int .i64 y6.agent, .int .i64 y6.slot]) rfl (by kernel_rfl) (cells2 (beC (blkCell B15 (i := 0) rfl)) (beC (blkCell B15 (i := 1) rfl)))) ?_
      obtain ⟨y23, e24, hm⟩ := bnd hm
      refine RQ.call (wantT (dj := 17) rfl (vbn rfl c20 rfl)) (am2 s1 rfl) (by kernel_rfl) (v := .agg #[.int .i64 y23.agent, .int .i64 y23.slot]) (bel (K := fun _ => True) fun w' hb' => (c_m_impl_Net_peer d1 y6 _ e24 _ w' (ptArg netRd_ok hba1 hSa1 hca1 (Tt T hb')))) ?_
      refine RQ.y (wantT (dj := 17) rfl (vbn rfl c20 rfl)) (Y.loadN (cs := [.int .i64 d0.agent, .int .i64 d0.slot]) rfl (by kernel_rfl) (cells2 (beC (blkCell B3 (i := 0) rfl)) (beC (blkCell B3 (i := 1) rfl)))) ?_
      refine RQ.y (wantT (dj := 17) rfl (vbn rfl c20 rfl)) (Y.neS (b := (y23.agent == d0.agent && y23.slot == d0.slot)) rfl rfl (eqPort_run _ _ _ _) (eqGuardPort_run _ _ _ _ _)) ?_
      refine RQ.y rfl (Y.pick (b := false) (v := .bool (!(y23.agent == d0.agent && y23.slot == d0.slot))) (vbn rfl c20 rfl) rfl) ?_
      refine RQ.y rfl (Y.assign (v := .bool (!(y23.agent == d0.agent && y23.slot == d0.slot))) rfl) ?_
      refine RQ.nil ?_
      intro w25 hb26
      have szw25 := hb26.size
      have T := Tt T hb26
      refine then_n ?_
      refine wp_ret ?_
      obtain rfl := Option.some.inj hm
      exact (ret1 rfl rfl rfl ⟨rfl, T⟩)
  · replace hm := cT c17 hm
    refine RQ.skip (wantN (dj := 10) rfl (vb rfl c17) rfl) ?_
    refine RQ.skip (wantN (dj := 10) rfl (vb rfl c17) rfl) ?_
    refine RQ.skip (wantN (dj := 10) rfl (vb rfl c17) rfl) ?_
    refine RQ.skip (wantN (dj := 10) rfl (vb rfl c17) rfl) ?_
    refine RQ.skip (wantN (dj := 10) rfl (vb rfl c17) rfl) ?_
    refine RQ.y rfl (Y.pick (b := true) (v := .bool true) (vb rfl c17) rfl) ?_
    refine RQ.y rfl (Y.move (v := .bool true) rfl) ?_
    refine RQ.skip (wantN (dj := 17) rfl rfl rfl) ?_
    refine RQ.skip (wantN (dj := 17) rfl rfl rfl) ?_
    refine RQ.skip (wantN (dj := 17) rfl rfl rfl) ?_
    refine RQ.skip (wantN (dj := 17) rfl rfl rfl) ?_
    refine RQ.y rfl (Y.pick (b := true) (v := .bool true) rfl rfl) ?_
    refine RQ.y rfl (Y.assign (v := .bool true) rfl) ?_
    refine RQ.nil ?_
    intro w27 hb28
    have szw27 := hb28.size
    have T := Tt T hb28
    refine then_n ?_
    refine wp_ret ?_
    obtain rfl := Option.some.inj hm
    exact (ret1 rfl rfl rfl ⟨rfl, T⟩)
def m_impl_wellFormed (d0 : DAgent) : Option Bool :=
  (bif ((d0.ports.length : Int) == 0) then some false else ((m_impl_fieldsOf d0.kind (d0.ports.length : Int)).bind fun y8 => (bif ((portsOf d0.kind y8) != (d0.ports.length : Int)) then some false else (bif (allowed d0.kind d0.level) then ((m_slices_ContainsFunc_int64_int64 d0.data (fun x0 => m_impl_wellFormed_1 x0)).bind fun y16 => (bif (d0.kind == 6) then ((m_impl_isInt d0.value).bind fun y69 => (bif y69 then some ((d0.data.length : Int) == 0) else some false)) else (bif (d0.kind == 7) then ((m_impl_isOperator d0.value).bind fun y64 => (bif y64 then some ((d0.data.length : Int) == 0) else some false)) else (bif (d0.kind == 8) then ((m_impl_isOperator d0.value).bind fun y43 => (bif y43 then (bif ((d0.data.length : Int) == 1) then ((getI d0.data 0).bind fun x51 => ((m_impl_isInt x51).bind fun y60 => some y60)) else some false) else some false)) else (bif (d0.kind == 9) then (bif (decide (d0.value ≥ 0)) then (bif (decide (d0.value < 4)) then some ((d0.data.length : Int) == 0) else some false) else some false) else (bif (d0.kind == 10) then (bif (decide ((d0.data.length : Int) ≥ 1)) then (bif (decide ((d0.data.length : Int) ≤ 4)) then (bif (d0.value == 0) then some (!y16) else some false) else (bif (d0.value == 0) then some false else some false)) else (bif (d0.value == 0) then some false else some false)) else (bif (d0.kind == 11) then (bif ((d0.data.length : Int) == 2) then (bif (d0.value == 0) then some (!y16) else some false) else (bif (d0.value == 0) then some false else some false)) else (bif (d0.kind == 12) then ((m_impl_isDefIndex d0.value).bind fun y28 => (bif y28 then some ((d0.data.length : Int) == 0) else some false)) else (bif (d0.value == 0) then some ((d0.data.length : Int) == 0) else some false))))))))) else some false))))
set_option maxHeartbeats 2000000 in
theorem c_m_impl_wellFormed (d0 : DAgent) (r : Bool) (hm : m_impl_wellFormed d0 = some r) (v0 : Value) (w : World) (hv0 : St agentRd w v0 d0) :
    Calls Try.prog 90 #[v0] w fun e w' => e = .returned (.bool r) ∧ Below w.heap.size w w' := by
  obtain ⟨csa0, rfl, ⟨A1, n1, c1, A2, n2, c2, rfl, ⟨h1, r1⟩, ⟨h2, r2⟩⟩⟩ := hv0
  have e1 := h1.len; subst e1
  have q1 := len_le r1
  have e2 := h2.len; subst e2
  have q2 := len_le r2
  have T := Below.refl w.heap.size w
  unfold m_impl_wellFormed at hm
  refine enter 117 Try.func90 rfl rfl rfl ?_
  intro f hf
  have s0 : f 0 = .agg #[.int .i64 d0.kind, .int .i64 d0.level, .int .i64 d0.value, .slice A1 d0.data.length c1, .slice A2 d0.ports.length c2] := hf 0 _ rfl
  refine wp_seq ?_
  refine wp_rl rfl ?_
  refine RL.box rfl s0 (fun w3 B4 hb5 szw3 => ?_)
  replace B4 : Blk w3 w.heap.size 81 #[.int .i64 d0.kind, .int .i64 d0.level, .int .i64 d0.value, .slice A1 d0.data.length c1, .slice A2 d0.ports.length c2] := B4
  have GB4 : w.heap.size ≤ w.heap.size := T.size
  have T := Tt T hb5
  refine RL.y rfl (Y.assign (v := .bool false) rfl) ?_
  refine RL.nil ?_
  refine then_n ?_
  refine wp_seq ?_
  refine wp_seq ?_
  refine wp_rbd (by kernel_rfl) (by kernel_rfl) ?_
  refine RQ.y rfl (Y.fieldAddr (off := 4) rfl (by kernel_rfl)) ?_
  refine RQ.y rfl (Y.load (v := .slice A2 d0.ports.length c2) rfl (by kernel_rfl) (beC (blkCell B4 (i := 4) rfl))) ?_
  refine RQ.y rfl (Y.len (by kernel_rfl) rfl) ?_
  refine RQ.y rfl (Y.binI (v := .bool ((d0.ports.length : Int) == 0)) rfl rfl rfl) ?_
  refine RQ.y rfl (Y.move (v := .bool ((d0.ports.length : Int) == 0)) rfl) ?_
  rcases bcases ((d0.ports.length : Int) == 0) with c7 | c7
  · replace hm := cF c7 hm
    refine RQ.y (wantT (dj := 10) rfl (vb rfl c7)) (Y.fieldAddr (off := 0) rfl (by kernel_rfl)) ?_
    refine RQ.y (wantT (dj := 10) rfl (vb rfl c7)) (Y.load (v := .int .i64 d0.kind) rfl (by kernel_rfl) (beC (blkCell B4 (i := 0) rfl))) ?_
    refine RQ.y (wantT (dj := 10) rfl (vb rfl c7)) (Y.fieldAddr (off := 0) rfl (by kernel_rfl)) ?_
    refine RQ.y (wantT (dj := 10) rfl (vb rfl c7)) (Y.load (v := .int .i64 d0.kind) rfl (by kernel_rfl) (beC (blkCell B4 (i := 0) rfl))) ?_
    refine RQ.y (wantT (dj := 10) rfl (vb rfl c7)) (Y.fieldAddr (off := 4) rfl (by kernel_rfl)) ?_
    refine RQ.y (wantT (dj := 10) rfl (vb rfl c7)) (Y.load (v := .slice A2 d0.ports.length c2) rfl (by kernel_rfl) (beC (blkCell B4 (i := 4) rfl))) ?_
    refine RQ.y (wantT (dj := 10) rfl (vb rfl c7)) (Y.len (by kernel_rfl) rfl) ?_
    obtain ⟨y8, e9, hm⟩ := bnd hm
    refine RQ.call (wantT (dj := 10) rfl (vb rfl c7)) (am2 rfl rfl) (by kernel_rfl) (v := .int .i64 y8) (bel (K := fun _ => True) fun w' hb' => (c_m_impl_fieldsOf d0.kind (d0.ports.length : Int) _ e9  w' )) ?_
    refine RQ.call (wantT (dj := 10) rfl (vb rfl c7)) (am2 rfl rfl) (by kernel_rfl) (v := .int .i64 (portsOf d0.kind y8)) (bel (K := fun _ => True) fun w' hb' => (callB (impl_PortsOf d0.kind y8 w'))) ?_
    refine RQ.y (wantT (dj := 10) rfl (vb rfl c7)) (Y.fieldAddr (off := 4) rfl (by kernel_rfl)) ?_
    refine RQ.y (wantT (dj := 10) rfl (vb rfl c7)) (Y.load (v := .slice A2 d0.ports.length c2) rfl (by kernel_rfl) (beC (blkCell B4 (i := 4) rfl))) ?_
    refine RQ.y (wantT (dj := 10) rfl (vb rfl c7)) (Y.len (by kernel_rfl) rfl) ?_
    refine RQ.y (wantT (dj := 10) rfl (vb rfl c7)) (Y.binI (v := .bool ((portsOf d0.kind y8) != (d0.ports.length : Int))) rfl rfl rfl) ?_
    refine RQ.y rfl (Y.pick (b := false) (v := .bool ((portsOf d0.kind y8) != (d0.ports.length : Int))) (vb rfl c7) rfl) ?_
    refine RQ.y rfl (Y.move (v := .bool ((portsOf d0.kind y8) != (d0.ports.length : Int))) rfl) ?_
    rcases bcases ((portsOf d0.kind y8) != (d0.ports.length : Int)) with c10 | c10
    · replace hm := cF c10 hm
      refine RQ.y (wantT (dj := 25) rfl (vb rfl c10)) (Y.fieldAddr (off := 0) rfl (by kernel_rfl)) ?_
      refine RQ.y (wantT (dj := 25) rfl (vb rfl c10)) (Y.load (v := .int .i64 d0.kind) rfl (by kernel_rfl) (beC (blkCell B4 (i := 0) rfl))) ?_
      refine RQ.y (wantT (dj := 25) rfl (vb rfl c10)) (Y.fieldAddr (off := 1) rfl (by kernel_rfl)) ?_
      refine RQ.y (wantT (dj := 25) rfl (vb rfl c10)) (Y.load (v := .int .i64 d0.level) rfl (by kernel_rfl) (beC (blkCell B4 (i := 1) rfl))) ?_
      refine RQ.call (wantT (dj := 25) rfl (vb rfl c10)) (am2 rfl rfl) (by kernel_rfl) (v := .bool (allowed d0.kind d0.level)) (bel (K := fun _ => True) fun w' hb' => (callB (impl_isAllowed d0.kind d0.level w'))) ?_
      refine RQ.y (wantT (dj := 25) rfl (vb rfl c10)) (Y.not (b' := (!(allowed d0.kind d0.level))) rfl rfl) ?_
      refine RQ.y rfl (Y.pick (b := false) (v := .bool (!(allowed d0.kind d0.level))) (vb rfl c10) rfl) ?_
      refine RQ.nil ?_
      intro w11 hb12
      have szw11 := hb12.size
      have B4 := blkT B4 hb12
      have T := Tt T hb12
      refine then_n ?_
      rcases bcases (allowed d0.kind d0.level) with c13 | c13
      · replace hm := cF c13 hm
        refine cond_t rfl (vbn rfl c13 rfl) ?_
        refine wp_seq ?_
        refine wp_rs rfl ?_
        refine RQ.y rfl (Y.assign (v := .bool false) rfl) ?_
        refine RQ.nil ?_
        refine then_n ?_
        refine wp_ret ?_
        obtain rfl := Option.some.inj hm
        exact (then_r (ret1 rfl rfl rfl ⟨rfl, T⟩))
      · replace hm := cT c13 hm
        refine cond_f rfl (vbn rfl c13 rfl) ?_
        refine wp_skip ?_
        refine then_n ?_
        refine wp_seq ?_
        refine wp_rbd (by kernel_rfl) (by kernel_rfl) ?_
        refine RQ.y rfl (Y.fieldAddr (off := 2) rfl (by kernel_rfl)) ?_
        refine RQ.y rfl (Y.load (v := .int .i64 d0.value) rfl (by kernel_rfl) (beC (blkCell B4 (i := 2) rfl))) ?_
        refine RQ.y rfl (Y.binI (v := .bool (d0.value == 0)) rfl rfl rfl) ?_
        refine RQ.y rfl (Y.fieldAddr (off := 3) rfl (by kernel_rfl)) ?_
        refine RQ.y rfl (Y.load (v := .slice A1 d0.data.length c1) rfl (by kernel_rfl) (beC (blkCell B4 (i := 3) rfl))) ?_
        refine RQ.y rfl (Y.len (by kernel_rfl) rfl) ?_
        refine RQ.y rfl (Y.binI (v := .bool ((d0.data.length : Int) == 0)) rfl rfl rfl) ?_
        refine RQ.y rfl (Y.assign (v := .bool (d0.value == 0)) rfl) ?_
        refine RQ.y rfl (Y.assign (v := .bool ((d0.data.length : Int) == 0)) rfl) ?_
        refine RQ.nil ?_
        intro w14 hb15
        have szw14 := hb15.size
        have B4 := blkT B4 hb15
        have T := Tt T hb15
        refine then_n ?_
        refine wp_seq ?_
        refine wp_rb rfl ?_
        refine RQ.y rfl (Y.fieldAddr (off := 3) rfl (by kernel_rfl)) ?_
        refine RQ.y rfl (Y.load (v := .slice A1 d0.data.length c1) rfl (by kernel_rfl) (beC (blkCell B4 (i := 3) rfl))) ?_
        obtain ⟨y16, e17, hm⟩ := bnd hm
        refine RQ.call rfl (am2 rfl rfl) (by kernel_rfl) (v := .bool y16) (bel (K := fun _ => True) fun w' hb' => (c_m_slices_ContainsFunc_int64_int64 d0.data (fun x0 => m_impl_wellFormed_1 x0) _ e17 _ _ _ w' (slArg intRd_ok h1 r1 (Tt T hb')) (by kernel_rfl) (fun x0 b hx w1 hb1 => Calls.arr (by simp) (c_m_impl_wellFormed_1 x0 _ hx  w1 )))) ?_
        refine RQ.y rfl (Y.not (b' := (!y16)) rfl rfl) ?_
        refine RQ.y rfl (Y.assign (v := .bool (!y16)) rfl) ?_
        refine RQ.nil ?_
        intro w18 hb19
        have szw18 := hb19.size
        have B4 := blkT B4 hb19
        have T := Tt T hb19
        refine then_n ?_
        refine wp_seq ?_
        refine wp_seq ?_
        refine wp_rs rfl ?_
        refine RQ.y rfl (Y.fieldAddr (off := 0) rfl (by kernel_rfl)) ?_
        refine RQ.y rfl (Y.load (v := .int .i64 d0.kind) rfl (by kernel_rfl) (eqC (blkCell B4 (i := 0) rfl))) ?_
        refine RQ.nil ?_
        refine then_n ?_
        refine wp_block ?_
        refine wp_seq ?_
        refine wp_rs rfl ?_
        refine RQ.y rfl (Y.binI (v := .bool (d0.kind == 6)) rfl rfl rfl) ?_
        refine RQ.y rfl (Y.assign (v := .bool (d0.kind == 6)) rfl) ?_
        refine RQ.nil ?_
        refine then_n ?_
        rcases bcases (d0.kind == 6) with c20 | c20
        · replace hm := cF c20 hm
          refine cond_f rfl (vb rfl c20) ?_
          refine wp_seq ?_
          refine wp_rs rfl ?_
          refine RQ.y rfl (Y.binI (v := .bool (d0.kind == 7)) rfl rfl rfl) ?_
          refine RQ.y rfl (Y.assign (v := .bool (d0.kind == 7)) rfl) ?_
          refine RQ.nil ?_
          refine then_n ?_
          rcases bcases (d0.kind == 7) with c21 | c21
          · replace hm := cF c21 hm
            refine cond_f rfl (vb rfl c21) ?_
            refine wp_seq ?_
            refine wp_rs rfl ?_
            refine RQ.y rfl (Y.binI (v := .bool (d0.kind == 8)) rfl rfl rfl) ?_
            refine RQ.y rfl (Y.assign (v := .bool (d0.kind == 8)) rfl) ?_
            refine RQ.nil ?_
            refine then_n ?_
            rcases bcases (d0.kind == 8) with c22 | c22
            · replace hm := cF c22 hm
              refine cond_f rfl (vb rfl c22) ?_
              refine wp_seq ?_
              refine wp_rs rfl ?_
              refine RQ.y rfl (Y.binI (v := .bool (d0.kind == 9)) rfl rfl rfl) ?_
              refine RQ.y rfl (Y.assign (v := .bool (d0.kind == 9)) rfl) ?_
              refine RQ.nil ?_
              refine then_n ?_
              rcases bcases (d0.kind == 9) with c23 | c23
              · replace hm := cF c23 hm
                refine cond_f rfl (vb rfl c23) ?_
                refine wp_seq ?_
                refine wp_rs rfl ?_
                refine RQ.y rfl (Y.binI (v := .bool (d0.kind == 10)) rfl rfl rfl) ?_
                refine RQ.y rfl (Y.assign (v := .bool (d0.kind == 10)) rfl) ?_
                refine RQ.nil ?_
                refine then_n ?_
                rcases bcases (d0.kind == 10) with c24 | c24
                · replace hm := cF c24 hm
                  refine cond_f rfl (vb rfl c24) ?_
                  refine wp_seq ?_
                  refine wp_rs rfl ?_
                  refine RQ.y rfl (Y.binI (v := .bool (d0.kind == 11)) rfl rfl rfl) ?_
                  refine RQ.y rfl (Y.assign (v := .bool (d0.kind == 11)) rfl) ?_
                  refine RQ.nil ?_
                  refine then_n ?_
                  rcases bcases (d0.kind == 11) with c25 | c25
                  · replace hm := cF c25 hm
                    refine cond_f rfl (vb rfl c25) ?_
                    refine wp_seq ?_
                    refine wp_rs rfl ?_
                    refine RQ.y rfl (Y.binI (v := .bool (d0.kind == 12)) rfl rfl rfl) ?_
                    refine RQ.y rfl (Y.assign (v := .bool (d0.kind == 12)) rfl) ?_
                    refine RQ.nil ?_
                    refine then_n ?_
                    rcases bcases (d0.kind == 12) with c26 | c26
                    · replace hm := cF c26 hm
                      refine cond_f rfl (vb rfl c26) ?_
                      refine wp_skip ?_
                      refine blk_n (then_n ?_)
                      refine wp_seq ?_
                      refine wp_rs rfl ?_
                      refine RQ.y rfl (Y.move (v := .bool (d0.value == 0)) rfl) ?_
                      refine RQ.y rfl (Y.move (v := .bool (d0.value == 0)) rfl) ?_
                      rcases bcases (d0.value == 0) with c27 | c27
                      · replace hm := cF c27 hm
                        refine RQ.skip (wantN (dj := 114) rfl (vb rfl c27) rfl) ?_
                        refine RQ.y rfl (Y.pick (b := false) (v := .bool false) (vb rfl c27) rfl) ?_
                        refine RQ.y rfl (Y.assign (v := .bool false) rfl) ?_
                        refine RQ.nil ?_
                        refine then_n ?_
                        refine wp_ret ?_
                        obtain rfl := Option.some.inj hm
                        exact (ret1 rfl rfl rfl ⟨rfl, T⟩)
                      · replace hm := cT c27 hm
                        refine RQ.y (wantT (dj := 114) rfl (vb rfl c27)) (Y.move (v := .bool ((d0.data.length : Int) == 0)) rfl) ?_
                        refine RQ.y rfl (Y.pick (b := true) (v := .bool ((d0.data.length : Int) == 0)) (vb rfl c27) rfl) ?_
                        refine RQ.y rfl (Y.assign (v := .bool ((d0.data.length : Int) == 0)) rfl) ?_
                        refine RQ.nil ?_
                        refine then_n ?_
                        refine wp_ret ?_
                        obtain rfl := Option.some.inj hm
                        exact (ret1 rfl rfl rfl ⟨rfl, T⟩)
                    · replace hm := cT c26 hm
                      refine cond_t rfl (vb rfl c26) ?_
                      refine wp_rb rfl ?_
                      refine RQ.y rfl (Y.fieldAddr (off := 2) rfl (by kernel_rfl)) ?_
                      refine RQ.y rfl (Y.load (v := .int .i64 d0.value) rfl (by kernel_rfl) (beC (blkCell B4 (i := 2) rfl))) ?_
                      obtain ⟨y28, e29, hm⟩ := bnd hm
                      refine RQ.call rfl (am1 rfl) (by kernel_rfl) (v := .bool y28) (bel (K := fun _ => True) fun w' hb' => (c_m_impl_isDefIndex d0.value _ e29  w' )) ?_
                      refine RQ.y rfl (Y.assign (v := .bool y28) rfl) ?_
                      refine RQ.nil ?_
                      intro w30 hb31
                      have szw30 := hb31.size
                      have T := Tt T hb31
                      refine blk_n (then_n ?_)
                      refine wp_seq ?_
                      refine wp_rs rfl ?_
                      refine RQ.y rfl (Y.move (v := .bool y28) rfl) ?_
                      refine RQ.y rfl (Y.move (v := .bool y28) rfl) ?_
                      rcases bcases y28 with c32 | c32
                      · replace hm := cF c32 hm
                        refine RQ.skip (wantN (dj := 114) rfl (vb rfl c32) rfl) ?_
                        refine RQ.y rfl (Y.pick (b := false) (v := .bool false) (vb rfl c32) rfl) ?_
                        refine RQ.y rfl (Y.assign (v := .bool false) rfl) ?_
                        refine RQ.nil ?_
                        refine then_n ?_
                        refine wp_ret ?_
                        obtain rfl := Option.some.inj hm
                        exact (ret1 rfl rfl rfl ⟨rfl, T⟩)
                      · replace hm := cT c32 hm
                        refine RQ.y (wantT (dj := 114) rfl (vb rfl c32)) (Y.move (v := .bool ((d0.data.length : Int) == 0)) rfl) ?_
                        refine RQ.y rfl (Y.pick (b := true) (v := .bool ((d0.data.length : Int) == 0)) (vb rfl c32) rfl) ?_
                        refine RQ.y rfl (Y.assign (v := .bool ((d0.data.length : Int) == 0)) rfl) ?_
                        refine RQ.nil ?_
                        refine then_n ?_
                        refine wp_ret ?_
                        obtain rfl := Option.some.inj hm
                        exact (ret1 rfl rfl rfl ⟨rfl, T⟩)
                  · replace hm := cT c25 hm
                    refine cond_t rfl (vb rfl c25) ?_
                    refine wp_rs rfl ?_
                    refine RQ.y rfl (Y.fieldAddr (off := 3) rfl (by kernel_rfl)) ?_
                    refine RQ.y rfl (Y.load (v := .slice A1 d0.data.length c1) rfl (by kernel_rfl) (eqC (blkCell B4 (i := 3) rfl))) ?_
                    refine RQ.y rfl (Y.len (by kernel_rfl) rfl) ?_
                    refine RQ.y rfl (Y.binI (v := .bool ((d0.data.length : Int) == 2)) rfl rfl rfl) ?_
                    refine RQ.y rfl (Y.move (v := .bool ((d0.data.length : Int) == 2)) rfl) ?_
                    rcases bcases ((d0.data.length : Int) == 2) with c33 | c33
                    · replace hm := cF c33 hm
                      refine RQ.skip (wantN (dj := 105) rfl (vb rfl c33) rfl) ?_
                      refine RQ.y rfl (Y.pick (b := false) (v := .bool false) (vb rfl c33) rfl) ?_
                      refine RQ.y rfl (Y.assign (v := .bool false) rfl) ?_
                      refine RQ.nil ?_
                      refine blk_n (then_n ?_)
                      refine wp_seq ?_
                      refine wp_rs rfl ?_
                      refine RQ.y rfl (Y.move (v := .bool (d0.value == 0)) rfl) ?_
                      refine RQ.y rfl (Y.move (v := .bool (d0.value == 0)) rfl) ?_
                      rcases bcases (d0.value == 0) with c34 | c34
                      · replace hm := cF c34 hm
                        refine RQ.skip (wantN (dj := 114) rfl (vb rfl c34) rfl) ?_
                        refine RQ.y rfl (Y.pick (b := false) (v := .bool false) (vb rfl c34) rfl) ?_
                        refine RQ.y rfl (Y.assign (v := .bool false) rfl) ?_
                        refine RQ.nil ?_
                        refine then_n ?_
                        refine wp_ret ?_
                        obtain rfl := Option.some.inj hm
                        exact (ret1 rfl rfl rfl ⟨rfl, T⟩)
                      · replace hm := cT c34 hm
                        refine RQ.y (wantT (dj := 114) rfl (vb rfl c34)) (Y.move (v := .bool false) rfl) ?_
                        refine RQ.y rfl (Y.pick (b := true) (v := .bool false) (vb rfl c34) rfl) ?_
                        refine RQ.y rfl (Y.assign (v := .bool false) rfl) ?_
                        refine RQ.nil ?_
                        refine then_n ?_
                        refine wp_ret ?_
                        obtain rfl := Option.some.inj hm
                        exact (ret1 rfl rfl rfl ⟨rfl, T⟩)
                    · replace hm := cT c33 hm
                      refine RQ.y (wantT (dj := 105) rfl (vb rfl c33)) (Y.move (v := .bool (!y16)) rfl) ?_
                      refine RQ.y rfl (Y.pick (b := true) (v := .bool (!y16)) (vb rfl c33) rfl) ?_
                      refine RQ.y rfl (Y.assign (v := .bool (!y16)) rfl) ?_
                      refine RQ.nil ?_
                      refine blk_n (then_n ?_)
                      refine wp_seq ?_
                      refine wp_rs rfl ?_
                      refine RQ.y rfl (Y.move (v := .bool (d0.value == 0)) rfl) ?_
                      refine RQ.y rfl (Y.move (v := .bool (d0.value == 0)) rfl) ?_
                      rcases bcases (d0.value == 0) with c35 | c35
                      · replace hm := cF c35 hm
                        refine RQ.skip (wantN (dj := 114) rfl (vb rfl c35) rfl) ?_
                        refine RQ.y rfl (Y.pick (b := false) (v := .bool false) (vb rfl c35) rfl) ?_
                        refine RQ.y rfl (Y.assign (v := .bool false) rfl) ?_
                        refine RQ.nil ?_
                        refine then_n ?_
                        refine wp_ret ?_
                        obtain rfl := Option.some.inj hm
                        exact (ret1 rfl rfl rfl ⟨rfl, T⟩)
                      · replace hm := cT c35 hm
                        refine RQ.y (wantT (dj := 114) rfl (vb rfl c35)) (Y.move (v := .bool (!y16)) rfl) ?_
                        refine RQ.y rfl (Y.pick (b := true) (v := .bool (!y16)) (vb rfl c35) rfl) ?_
                        refine RQ.y rfl (Y.assign (v := .bool (!y16)) rfl) ?_
                        refine RQ.nil ?_
                        refine then_n ?_
                        refine wp_ret ?_
                        obtain rfl := Option.some.inj hm
                        exact (ret1 rfl rfl rfl ⟨rfl, T⟩)
                · replace hm := cT c24 hm
                  refine cond_t rfl (vb rfl c24) ?_
                  refine wp_rs rfl ?_
                  refine RQ.y rfl (Y.fieldAddr (off := 3) rfl (by kernel_rfl)) ?_
                  refine RQ.y rfl (Y.load (v := .slice A1 d0.data.length c1) rfl (by kernel_rfl) (eqC (blkCell B4 (i := 3) rfl))) ?_
                  refine RQ.y rfl (Y.len (by kernel_rfl) rfl) ?_
                  refine RQ.y rfl (Y.binI (v := .bool (decide ((d0.data.length : Int) ≥ 1))) rfl rfl rfl) ?_
                  refine RQ.y rfl (Y.move (v := .bool (decide ((d0.data.length : Int) ≥ 1))) rfl) ?_
                  rcases bcases (decide ((d0.data.length : Int) ≥ 1)) with c36 | c36
                  · replace hm := cF c36 hm
                    have pc36 := of_decide_eq_false c36
                    refine RQ.skip (wantN (dj := 90) rfl (vb rfl c36) rfl) ?_
                    refine RQ.skip (wantN (dj := 90) rfl (vb rfl c36) rfl) ?_
                    refine RQ.skip (wantN (dj := 90) rfl (vb rfl c36) rfl) ?_
                    refine RQ.skip (wantN (dj := 90) rfl (vb rfl c36) rfl) ?_
                    refine RQ.y rfl (Y.pick (b := false) (v := .bool false) (vb rfl c36) rfl) ?_
                    refine RQ.y rfl (Y.move (v := .bool false) rfl) ?_
                    refine RQ.skip (wantN (dj := 96) rfl rfl rfl) ?_
                    refine RQ.y rfl (Y.pick (b := false) (v := .bool false) rfl rfl) ?_
                    refine RQ.y rfl (Y.assign (v := .bool false) rfl) ?_
                    refine RQ.nil ?_
                    refine blk_n (then_n ?_)
                    refine wp_seq ?_
                    refine wp_rs rfl ?_
                    refine RQ.y rfl (Y.move (v := .bool (d0.value == 0)) rfl) ?_
                    refine RQ.y rfl (Y.move (v := .bool (d0.value == 0)) rfl) ?_
                    rcases bcases (d0.value == 0) with c37 | c37
                    · replace hm := cF c37 hm
                      refine RQ.skip (wantN (dj := 114) rfl (vb rfl c37) rfl) ?_
                      refine RQ.y rfl (Y.pick (b := false) (v := .bool false) (vb rfl c37) rfl) ?_
                      refine RQ.y rfl (Y.assign (v := .bool false) rfl) ?_
                      refine RQ.nil ?_
                      refine then_n ?_
                      refine wp_ret ?_
                      obtain rfl := Option.some.inj hm
                      exact (ret1 rfl rfl rfl ⟨rfl, T⟩)
                    · replace hm := cT c37 hm
                      refine RQ.y (wantT (dj := 114) rfl (vb rfl c37)) (Y.move (v := .bool false) rfl) ?_
                      refine RQ.y rfl (Y.pick (b := true) (v := .bool false) (vb rfl c37) rfl) ?_
                      refine RQ.y rfl (Y.assign (v := .bool false) rfl) ?_
                      refine RQ.nil ?_
                      refine then_n ?_
                      refine wp_ret ?_
                      obtain rfl := Option.some.inj hm
                      exact (ret1 rfl rfl rfl ⟨rfl, T⟩)
                  · replace hm := cT c36 hm
                    have pc36 := of_decide_eq_true c36
                    refine RQ.y (wantT (dj := 90) rfl (vb rfl c36)) (Y.fieldAddr (off := 3) rfl (by kernel_rfl)) ?_
                    refine RQ.y (wantT (dj := 90) rfl (vb rfl c36)) (Y.load (v := .slice A1 d0.data.length c1) rfl (by kernel_rfl) (eqC (blkCell B4 (i := 3) rfl))) ?_
                    refine RQ.y (wantT (dj := 90) rfl (vb rfl c36)) (Y.len (by kernel_rfl) rfl) ?_
                    refine RQ.y (wantT (dj := 90) rfl (vb rfl c36)) (Y.binI (v := .bool (decide ((d0.data.length : Int) ≤ 4))) rfl rfl rfl) ?_
                    refine RQ.y rfl (Y.pick (b := true) (v := .bool (decide ((d0.data.length : Int) ≤ 4))) (vb rfl c36) rfl) ?_
                    refine RQ.y rfl (Y.move (v := .bool (decide ((d0.data.length : Int) ≤ 4))) rfl) ?_
                    rcases bcases (decide ((d0.data.length : Int) ≤ 4)) with c38 | c38
                    · replace hm := cF c38 hm
                      have pc38 := of_decide_eq_false c38
                      refine RQ.skip (wantN (dj := 96) rfl (vb rfl c38) rfl) ?_
                      refine RQ.y rfl (Y.pick (b := false) (v := .bool false) (vb rfl c38) rfl) ?_
                      refine RQ.y rfl (Y.assign (v := .bool false) rfl) ?_
                      refine RQ.nil ?_
                      refine blk_n (then_n ?_)
                      refine wp_seq ?_
                      refine wp_rs rfl ?_
                      refine RQ.y rfl (Y.move (v := .bool (d0.value == 0)) rfl) ?_
                      refine RQ.y rfl (Y.move (v := .bool (d0.value == 0)) rfl) ?_
                      rcases bcases (d0.value == 0) with c39 | c39
                      · replace hm := cF c39 hm
                        refine RQ.skip (wantN (dj := 114) rfl (vb rfl c39) rfl) ?_
                        refine RQ.y rfl (Y.pick (b := false) (v := .bool false) (vb rfl c39) rfl) ?_
                        refine RQ.y rfl (Y.assign (v := .bool false) rfl) ?_
                        refine RQ.nil ?_
                        refine then_n ?_
                        refine wp_ret ?_
                        obtain rfl := Option.some.inj hm
                        exact (ret1 rfl rfl rfl ⟨rfl, T⟩)
                      · replace hm := cT c39 hm
                        refine RQ.y (wantT (dj := 114) rfl (vb rfl c39)) (Y.move (v := .bool false) rfl) ?_
                        refine RQ.y rfl (Y.pick (b := true) (v := .bool false) (vb rfl c39) rfl) ?_
                        refine RQ.y rfl (Y.assign (v := .bool false) rfl) ?_
                        refine RQ.nil ?_
                        refine then_n ?_
                        refine wp_ret ?_
                        obtain rfl := Option.some.inj hm
                        exact (ret1 rfl rfl rfl ⟨rfl, T⟩)
                    · replace hm := cT c38 hm
                      have pc38 := of_decide_eq_true c38
                      refine RQ.y (wantT (dj := 96) rfl (vb rfl c38)) (Y.move (v := .bool (!y16)) rfl) ?_
                      refine RQ.y rfl (Y.pick (b := true) (v := .bool (!y16)) (vb rfl c38) rfl) ?_
                      refine RQ.y rfl (Y.assign (v := .bool (!y16)) rfl) ?_
                      refine RQ.nil ?_
                      refine blk_n (then_n ?_)
                      refine wp_seq ?_
                      refine wp_rs rfl ?_
                      refine RQ.y rfl (Y.move (v := .bool (d0.value == 0)) rfl) ?_
                      refine RQ.y rfl (Y.move (v := .bool (d0.value == 0)) rfl) ?_
                      rcases bcases (d0.value == 0) with c40 | c40
                      · replace hm := cF c40 hm
                        refine RQ.skip (wantN (dj := 114) rfl (vb rfl c40) rfl) ?_
                        refine RQ.y rfl (Y.pick (b := false) (v := .bool false) (vb rfl c40) rfl) ?_
                        refine RQ.y rfl (Y.assign (v := .bool false) rfl) ?_
                        refine RQ.nil ?_
                        refine then_n ?_
                        refine wp_ret ?_
                        obtain rfl := Option.some.inj hm
                        exact (ret1 rfl rfl rfl ⟨rfl, T⟩)
                      · replace hm := cT c40 hm
                        refine RQ.y (wantT (dj := 114) rfl (vb rfl c40)) (Y.move (v := .bool (!y16)) rfl) ?_
                        refine RQ.y rfl (Y.pick (b := true) (v := .bool (!y16)) (vb rfl c40) rfl) ?_
                        refine RQ.y rfl (Y.assign (v := .bool (!y16)) rfl) ?_
                        refine RQ.nil ?_
                        refine then_n ?_
                        refine wp_ret ?_
                        obtain rfl := Option.some.inj hm
                        exact (ret1 rfl rfl rfl ⟨rfl, T⟩)
              · replace hm := cT c23 hm
                refine cond_t rfl (vb rfl c23) ?_
                refine wp_rs rfl ?_
                refine RQ.y rfl (Y.fieldAddr (off := 2) rfl (by kernel_rfl)) ?_
                refine RQ.y rfl (Y.load (v := .int .i64 d0.value) rfl (by kernel_rfl) (eqC (blkCell B4 (i := 2) rfl))) ?_
                refine RQ.y rfl (Y.binI (v := .bool (decide (d0.value ≥ 0))) rfl rfl rfl) ?_
                refine RQ.y rfl (Y.move (v := .bool (decide (d0.value ≥ 0))) rfl) ?_
                rcases bcases (decide (d0.value ≥ 0)) with c41 | c41
                · replace hm := cF c41 hm
                  have pc41 := of_decide_eq_false c41
                  refine RQ.skip (wantN (dj := 79) rfl (vb rfl c41) rfl) ?_
                  refine RQ.skip (wantN (dj := 79) rfl (vb rfl c41) rfl) ?_
                  refine RQ.skip (wantN (dj := 79) rfl (vb rfl c41) rfl) ?_
                  refine RQ.y rfl (Y.pick (b := false) (v := .bool false) (vb rfl c41) rfl) ?_
                  refine RQ.y rfl (Y.assign (v := .bool false) rfl) ?_
                  refine RQ.nil ?_
                  refine blk_n (then_n ?_)
                  refine wp_seq ?_
                  refine wp_rs rfl ?_
                  refine RQ.y rfl (Y.move (v := .bool false) rfl) ?_
                  refine RQ.y rfl (Y.move (v := .bool false) rfl) ?_
                  refine RQ.skip (wantN (dj := 114) rfl rfl rfl) ?_
                  refine RQ.y rfl (Y.pick (b := false) (v := .bool false) rfl rfl) ?_
                  refine RQ.y rfl (Y.assign (v := .bool false) rfl) ?_
                  refine RQ.nil ?_
                  refine then_n ?_
                  refine wp_ret ?_
                  obtain rfl := Option.some.inj hm
                  exact (ret1 rfl rfl rfl ⟨rfl, T⟩)
                · replace hm := cT c41 hm
                  have pc41 := of_decide_eq_true c41
                  refine RQ.y (wantT (dj := 79) rfl (vb rfl c41)) (Y.fieldAddr (off := 2) rfl (by kernel_rfl)) ?_
                  refine RQ.y (wantT (dj := 79) rfl (vb rfl c41)) (Y.load (v := .int .i64 d0.value) rfl (by kernel_rfl) (eqC (blkCell B4 (i := 2) rfl))) ?_
                  refine RQ.y (wantT (dj := 79) rfl (vb rfl c41)) (Y.binI (v := .bool (decide (d0.value < 4))) rfl rfl rfl) ?_
                  refine RQ.y rfl (Y.pick (b := true) (v := .bool (decide (d0.value < 4))) (vb rfl c41) rfl) ?_
                  refine RQ.y rfl (Y.assign (v := .bool (decide (d0.value < 4))) rfl) ?_
                  refine RQ.nil ?_
                  refine blk_n (then_n ?_)
                  refine wp_seq ?_
                  refine wp_rs rfl ?_
                  refine RQ.y rfl (Y.move (v := .bool (decide (d0.value < 4))) rfl) ?_
                  refine RQ.y rfl (Y.move (v := .bool (decide (d0.value < 4))) rfl) ?_
                  rcases bcases (decide (d0.value < 4)) with c42 | c42
                  · replace hm := cF c42 hm
                    have pc42 := of_decide_eq_false c42
                    refine RQ.skip (wantN (dj := 114) rfl (vb rfl c42) rfl) ?_
                    refine RQ.y rfl (Y.pick (b := false) (v := .bool false) (vb rfl c42) rfl) ?_
                    refine RQ.y rfl (Y.assign (v := .bool false) rfl) ?_
                    refine RQ.nil ?_
                    refine then_n ?_
                    refine wp_ret ?_
                    obtain rfl := Option.some.inj hm
                    exact (ret1 rfl rfl rfl ⟨rfl, T⟩)
                  · replace hm := cT c42 hm
                    have pc42 := of_decide_eq_true c42
                    refine RQ.y (wantT (dj := 114) rfl (vb rfl c42)) (Y.move (v := .bool ((d0.data.length : Int) == 0)) rfl) ?_
                    refine RQ.y rfl (Y.pick (b := true) (v := .bool ((d0.data.length : Int) == 0)) (vb rfl c42) rfl) ?_
                    refine RQ.y rfl (Y.assign (v := .bool ((d0.data.length : Int) == 0)) rfl) ?_
                    refine RQ.nil ?_
                    refine then_n ?_
                    refine wp_ret ?_
                    obtain rfl := Option.some.inj hm
                    exact (ret1 rfl rfl rfl ⟨rfl, T⟩)
            · replace hm := cT c22 hm
              refine cond_t rfl (vb rfl c22) ?_
              refine wp_seq ?_
              refine wp_rb rfl ?_
              refine RQ.y rfl (Y.fieldAddr (off := 2) rfl (by kernel_rfl)) ?_
              refine RQ.y rfl (Y.load (v := .int .i64 d0.value) rfl (by kernel_rfl) (beC (blkCell B4 (i := 2) rfl))) ?_
              obtain ⟨y43, e44, hm⟩ := bnd hm
              refine RQ.call rfl (am1 rfl) (by kernel_rfl) (v := .bool y43) (bel (K := fun _ => True) fun w' hb' => (c_m_impl_isOperator d0.value _ e44  w' )) ?_
              refine RQ.y rfl (Y.move (v := .bool y43) rfl) ?_
              rcases bcases y43 with c45 | c45
              · replace hm := cF c45 hm
                refine RQ.skip (wantN (dj := 61) rfl (vb rfl c45) rfl) ?_
                refine RQ.skip (wantN (dj := 61) rfl (vb rfl c45) rfl) ?_
                refine RQ.skip (wantN (dj := 61) rfl (vb rfl c45) rfl) ?_
                refine RQ.skip (wantN (dj := 61) rfl (vb rfl c45) rfl) ?_
                refine RQ.y rfl (Y.pick (b := false) (v := .bool false) (vb rfl c45) rfl) ?_
                refine RQ.y rfl (Y.move (v := .bool false) rfl) ?_
                refine RQ.skip (wantN (dj := 67) rfl rfl rfl) ?_
                refine RQ.skip (wantN (dj := 67) rfl rfl rfl) ?_
                refine RQ.skip (wantN (dj := 67) rfl rfl rfl) ?_
                refine RQ.skip (wantN (dj := 67) rfl rfl rfl) ?_
                refine RQ.skip (wantN (dj := 67) rfl rfl rfl) ?_
                refine RQ.y rfl (Y.pick (b := false) (v := .bool false) rfl rfl) ?_
                refine RQ.y rfl (Y.assign (v := .bool false) rfl) ?_
                refine RQ.nil ?_
                intro w46 hb47
                have szw46 := hb47.size
                have T := Tt T hb47
                refine then_n ?_
                refine wp_ret ?_
                obtain rfl := Option.some.inj hm
                exact (blk_r (then_r (ret1 rfl rfl rfl ⟨rfl, T⟩)))
              · replace hm := cT c45 hm
                refine RQ.y (wantT (dj := 61) rfl (vb rfl c45)) (Y.fieldAddr (off := 3) rfl (by kernel_rfl)) ?_
                refine RQ.y (wantT (dj := 61) rfl (vb rfl c45)) (Y.load (v := .slice A1 d0.data.length c1) rfl (by kernel_rfl) (beC (blkCell B4 (i := 3) rfl))) ?_
                refine RQ.y (wantT (dj := 61) rfl (vb rfl c45)) (Y.len (by kernel_rfl) rfl) ?_
                refine RQ.y (wantT (dj := 61) rfl (vb rfl c45)) (Y.binI (v := .bool ((d0.data.length : Int) == 1)) rfl rfl rfl) ?_
                refine RQ.y rfl (Y.pick (b := true) (v := .bool ((d0.data.length : Int) == 1)) (vb rfl c45) rfl) ?_
                refine RQ.y rfl (Y.move (v := .bool ((d0.data.length : Int) == 1)) rfl) ?_
                rcases bcases ((d0.data.length : Int) == 1) with c48 | c48
                · replace hm := cF c48 hm
                  refine RQ.skip (wantN (dj := 67) rfl (vb rfl c48) rfl) ?_
                  refine RQ.skip (wantN (dj := 67) rfl (vb rfl c48) rfl) ?_
                  refine RQ.skip (wantN (dj := 67) rfl (vb rfl c48) rfl) ?_
                  refine RQ.skip (wantN (dj := 67) rfl (vb rfl c48) rfl) ?_
                  refine RQ.skip (wantN (dj := 67) rfl (vb rfl c48) rfl) ?_
                  refine RQ.y rfl (Y.pick (b := false) (v := .bool false) (vb rfl c48) rfl) ?_
                  refine RQ.y rfl (Y.assign (v := .bool false) rfl) ?_
                  refine RQ.nil ?_
                  intro w49 hb50
                  have szw49 := hb50.size
                  have T := Tt T hb50
                  refine then_n ?_
                  refine wp_ret ?_
                  obtain rfl := Option.some.inj hm
                  exact (blk_r (then_r (ret1 rfl rfl rfl ⟨rfl, T⟩)))
                · replace hm := cT c48 hm
                  refine RQ.y (wantT (dj := 67) rfl (vb rfl c48)) (Y.fieldAddr (off := 3) rfl (by kernel_rfl)) ?_
                  refine RQ.y (wantT (dj := 67) rfl (vb rfl c48)) (Y.load (v := .slice A1 d0.data.length c1) rfl (by kernel_rfl) (beC (blkCell B4 (i := 3) rfl))) ?_
                  obtain ⟨x51, hx54, hm⟩ := bnd hm
                  obtain ⟨k52, hk55, hl56, hx54⟩ := getI_some hx54
                  obtain ⟨b58, o59, rfl, hbb58⟩ := h1.addr (by omega)
                  obtain ⟨cs53, hRcs53, hc57⟩ := h1.el hx54
                  have hScs53 := hRcs53
                  obtain rfl := hRcs53
                  refine RQ.y (wantT (dj := 67) rfl (vb rfl c48)) (Y.indexAddr (m := k52) (sz := 1) rfl rfl hk55 hl56 (by kernel_rfl)) ?_
                  refine RQ.y (wantT (dj := 67) rfl (vb rfl c48)) (Y.load (v := .int .i64 x51) rfl (by kernel_rfl) (beC (cellT T (hc57 0 _ rfl)))) ?_
                  obtain ⟨y60, e61, hm⟩ := bnd hm
                  refine RQ.call (wantT (dj := 67) rfl (vb rfl c48)) (am1 rfl) (by kernel_rfl) (v := .bool y60) (bel (K := fun _ => True) fun w' hb' => (c_m_impl_isInt x51 _ e61  w' )) ?_
                  refine RQ.y rfl (Y.pick (b := true) (v := .bool y60) (vb rfl c48) rfl) ?_
                  refine RQ.y rfl (Y.assign (v := .bool y60) rfl) ?_
                  refine RQ.nil ?_
                  intro w62 hb63
                  have szw62 := hb63.size
                  have T := Tt T hb63
                  refine then_n ?_
                  refine wp_ret ?_
                  obtain rfl := Option.some.inj hm
                  exact (blk_r (then_r (ret1 rfl rfl rfl ⟨rfl, T⟩)))
          · replace hm := cT c21 hm
            refine cond_t rfl (vb rfl c21) ?_
            refine wp_rb rfl ?_
            refine RQ.y rfl (Y.fieldAddr (off := 2) rfl (by kernel_rfl)) ?_
            refine RQ.y rfl (Y.load (v := .int .i64 d0.value) rfl (by kernel_rfl) (beC (blkCell B4 (i := 2) rfl))) ?_
            obtain ⟨y64, e65, hm⟩ := bnd hm
            refine RQ.call rfl (am1 rfl) (by kernel_rfl) (v := .bool y64) (bel (K := fun _ => True) fun w' hb' => (c_m_impl_isOperator d0.value _ e65  w' )) ?_
            refine RQ.y rfl (Y.assign (v := .bool y64) rfl) ?_
            refine RQ.nil ?_
            intro w66 hb67
            have szw66 := hb67.size
            have T := Tt T hb67
            refine blk_n (then_n ?_)
            refine wp_seq ?_
            refine wp_rs rfl ?_
            refine RQ.y rfl (Y.move (v := .bool y64) rfl) ?_
            refine RQ.y rfl (Y.move (v := .bool y64) rfl) ?_
            rcases bcases y64 with c68 | c68
            · replace hm := cF c68 hm
              refine RQ.skip (wantN (dj := 114) rfl (vb rfl c68) rfl) ?_
              refine RQ.y rfl (Y.pick (b := false) (v := .bool false) (vb rfl c68) rfl) ?_
              refine RQ.y rfl (Y.assign (v := .bool false) rfl) ?_
              refine RQ.nil ?_
              refine then_n ?_
              refine wp_ret ?_
              obtain rfl := Option.some.inj hm
              exact (ret1 rfl rfl rfl ⟨rfl, T⟩)
            · replace hm := cT c68 hm
              refine RQ.y (wantT (dj := 114) rfl (vb rfl c68)) (Y.move (v := .bool ((d0.data.length : Int) == 0)) rfl) ?_
              refine RQ.y rfl (Y.pick (b := true) (v := .bool ((d0.data.length : Int) == 0)) (vb rfl c68) rfl) ?_
              refine RQ.y rfl (Y.assign (v := .bool ((d0.data.length : Int) == 0)) rfl) ?_
              refine RQ.nil ?_
              refine then_n ?_
              refine wp_ret ?_
              obtain rfl := Option.some.inj hm
              exact (ret1 rfl rfl rfl ⟨rfl, T⟩)
        · replace hm := cT c20 hm
          refine cond_t rfl (vb rfl c20) ?_
          refine wp_rb rfl ?_
          refine RQ.y rfl (Y.fieldAddr (off := 2) rfl (by kernel_rfl)) ?_
          refine RQ.y rfl (Y.load (v := .int .i64 d0.value) rfl (by kernel_rfl) (beC (blkCell B4 (i := 2) rfl))) ?_
          obtain ⟨y69, e70, hm⟩ := bnd hm
          refine RQ.call rfl (am1 rfl) (by kernel_rfl) (v := .bool y69) (bel (K := fun _ => True) fun w' hb' => (c_m_impl_isInt d0.value _ e70  w' )) ?_
          refine RQ.y rfl (Y.assign (v := .bool y69) rfl) ?_
          refine RQ.nil ?_
          intro w71 hb72
          have szw71 := hb72.size
          have T := Tt T hb72
          refine blk_n (then_n ?_)
          refine wp_seq ?_
          refine wp_rs rfl ?_
          refine RQ.y rfl (Y.move (v := .bool y69) rfl) ?_
          refine RQ.y rfl (Y.move (v := .bool y69) rfl) ?_
          rcases bcases y69 with c73 | c73
          · replace hm := cF c73 hm
            refine RQ.skip (wantN (dj := 114) rfl (vb rfl c73) rfl) ?_
            refine RQ.y rfl (Y.pick (b := false) (v := .bool false) (vb rfl c73) rfl) ?_
            refine RQ.y rfl (Y.assign (v := .bool false) rfl) ?_
            refine RQ.nil ?_
            refine then_n ?_
            refine wp_ret ?_
            obtain rfl := Option.some.inj hm
            exact (ret1 rfl rfl rfl ⟨rfl, T⟩)
          · replace hm := cT c73 hm
            refine RQ.y (wantT (dj := 114) rfl (vb rfl c73)) (Y.move (v := .bool ((d0.data.length : Int) == 0)) rfl) ?_
            refine RQ.y rfl (Y.pick (b := true) (v := .bool ((d0.data.length : Int) == 0)) (vb rfl c73) rfl) ?_
            refine RQ.y rfl (Y.assign (v := .bool ((d0.data.length : Int) == 0)) rfl) ?_
            refine RQ.nil ?_
            refine then_n ?_
            refine wp_ret ?_
            obtain rfl := Option.some.inj hm
            exact (ret1 rfl rfl rfl ⟨rfl, T⟩)
    · replace hm := cT c10 hm
      refine RQ.skip (wantN (dj := 25) rfl (vb rfl c10) rfl) ?_
      refine RQ.skip (wantN (dj := 25) rfl (vb rfl c10) rfl) ?_
      refine RQ.skip (wantN (dj := 25) rfl (vb rfl c10) rfl) ?_
      refine RQ.skip (wantN (dj := 25) rfl (vb rfl c10) rfl) ?_
      refine RQ.skip (wantN (dj := 25) rfl (vb rfl c10) rfl) ?_
      refine RQ.skip (wantN (dj := 25) rfl (vb rfl c10) rfl) ?_
      refine RQ.y rfl (Y.pick (b := true) (v := .bool true) (vb rfl c10) rfl) ?_
      refine RQ.nil ?_
      intro w74 hb75
      have szw74 := hb75.size
      have B4 := blkT B4 hb75
      have T := Tt T hb75
      refine then_n ?_
      refine cond_t rfl rfl ?_
      refine wp_seq ?_
      refine wp_rs rfl ?_
      refine RQ.y rfl (Y.assign (v := .bool false) rfl) ?_
      refine RQ.nil ?_
      refine then_n ?_
      refine wp_ret ?_
      obtain rfl := Option.some.inj hm
      exact (then_r (ret1 rfl rfl rfl ⟨rfl, T⟩))
  · replace hm := cT c7 hm
    refine RQ.skip (wantN (dj := 10) rfl (vb rfl c7) rfl) ?_
    refine RQ.skip (wantN (dj := 10) rfl (vb rfl c7) rfl) ?_
    refine RQ.skip (wantN (dj := 10) rfl (vb rfl c7) rfl) ?_
    refine RQ.skip (wantN (dj := 10) rfl (vb rfl c7) rfl) ?_
    refine RQ.skip (wantN (dj := 10) rfl (vb rfl c7) rfl) ?_
    refine RQ.skip (wantN (dj := 10) rfl (vb rfl c7) rfl) ?_
    refine RQ.skip (wantN (dj := 10) rfl (vb rfl c7) rfl) ?_
    refine RQ.skip (wantN (dj := 10) rfl (vb rfl c7) rfl) ?_
    refine RQ.skip (wantN (dj := 10) rfl (vb rfl c7) rfl) ?_
    refine RQ.skip (wantN (dj := 10) rfl (vb rfl c7) rfl) ?_
    refine RQ.skip (wantN (dj := 10) rfl (vb rfl c7) rfl) ?_
    refine RQ.skip (wantN (dj := 10) rfl (vb rfl c7) rfl) ?_
    refine RQ.skip (wantN (dj := 10) rfl (vb rfl c7) rfl) ?_
    refine RQ.y rfl (Y.pick (b := true) (v := .bool true) (vb rfl c7) rfl) ?_
    refine RQ.y rfl (Y.move (v := .bool true) rfl) ?_
    refine RQ.skip (wantN (dj := 25) rfl rfl rfl) ?_
    refine RQ.skip (wantN (dj := 25) rfl rfl rfl) ?_
    refine RQ.skip (wantN (dj := 25) rfl rfl rfl) ?_
    refine RQ.skip (wantN (dj := 25) rfl rfl rfl) ?_
    refine RQ.skip (wantN (dj := 25) rfl rfl rfl) ?_
    refine RQ.skip (wantN (dj := 25) rfl rfl rfl) ?_
    refine RQ.y rfl (Y.pick (b := true) (v := .bool true) rfl rfl) ?_
    refine RQ.nil ?_
    intro w76 hb77
    have szw76 := hb77.size
    have B4 := blkT B4 hb77
    have T := Tt T hb77
    refine then_n ?_
    refine cond_t rfl rfl ?_
    refine wp_seq ?_
    refine wp_rs rfl ?_
    refine RQ.y rfl (Y.assign (v := .bool false) rfl) ?_
    refine RQ.nil ?_
    refine then_n ?_
    refine wp_ret ?_
    obtain rfl := Option.some.inj hm
    exact (then_r (ret1 rfl rfl rfl ⟨rfl, T⟩))
def m_impl_areAgents_A1 : Option Bool :=
  some true
def m_impl_areAgents_B1 (d0 : List DAgent) (rec1 : Int → Option Bool) (K1 : Option Bool) (i4 : Int) : Option Bool :=
  (bif (decide (i4 < (d0.length : Int))) then ((getI d0 i4).bind fun x7 => ((m_impl_wellFormed x7).bind fun y25 => (bif y25 then (bif ((x7.kind == 1) != (i4 == 0)) then some false else (rec1 (i4 + 1))) else some false))) else (K1))
def m_impl_areAgents_L1 (d0 : List DAgent) (K1 : Option Bool) : Nat → Int → Option Bool
  | 0, _ => none
  | g + 1, i4 => m_impl_areAgents_B1 d0 (m_impl_areAgents_L1 d0 K1 g) K1 i4
def m_impl_areAgents (d0 : List DAgent) : Option Bool :=
  (bif (decide ((d0.length : Int) < 1)) then some false else (bif (decide ((d0.length : Int) > 600)) then some false else (m_impl_areAgents_L1 d0 m_impl_areAgents_A1 (d0.length + 1) 0)))
set_option maxHeartbeats 2000000 in
theorem c_m_impl_areAgents (d0 : List DAgent) (r : Bool) (hm : m_impl_areAgents d0 = some r) (v0 : Value) (w : World) (hv0 : Sl agentRd 5 w v0 d0) :
    Calls Try.prog 63 #[v0] w fun e w' => e = .returned (.bool r) ∧ Below w.heap.size w w' := by
  obtain ⟨Aa0, na0, ca0, rfl, ha0, ra0⟩ := hv0
  have ea0 := ha0.len; subst ea0
  have qa0 := len_le ra0
  have T := Below.refl w.heap.size w
  unfold m_impl_areAgents at hm
  refine enter 32 Try.func63 rfl rfl rfl ?_
  intro f hf
  have s0 : f 0 = .slice Aa0 d0.length ca0 := hf 0 _ rfl
  refine wp_seq ?_
  refine wp_rs rfl ?_
  refine RQ.y rfl (Y.assign (v := .bool false) rfl) ?_
  refine RQ.nil ?_
  refine then_n ?_
  refine wp_seq ?_
  refine wp_seq ?_
  refine wp_rs rfl ?_
  refine RQ.y rfl (Y.move (v := .slice Aa0 d0.length ca0) s0) ?_
  refine RQ.y rfl (Y.len (by kernel_rfl) rfl) ?_
  refine RQ.y rfl (Y.binI (v := .bool (decide ((d0.length : Int) < 1))) rfl rfl rfl) ?_
  refine RQ.y rfl (Y.move (v := .bool (decide ((d0.length : Int) < 1))) rfl) ?_
  rcases bcases (decide ((d0.length : Int) < 1)) with c1 | c1
  · replace hm := cF c1 hm
    have pc1 := of_decide_eq_false c1
    refine RQ.y (wantT (dj := 8) rfl (vb rfl c1)) (Y.move (v := .slice Aa0 d0.length ca0) s0) ?_
    refine RQ.y (wantT (dj := 8) rfl (vb rfl c1)) (Y.len (by kernel_rfl) rfl) ?_
    refine RQ.y (wantT (dj := 8) rfl (vb rfl c1)) (Y.binI (v := .bool (decide ((d0.length : Int) > 600))) rfl rfl rfl) ?_
    refine RQ.y rfl (Y.pick (b := false) (v := .bool (decide ((d0.length : Int) > 600))) (vb rfl c1) rfl) ?_
    refine RQ.nil ?_
    refine then_n ?_
    rcases bcases (decide ((d0.length : Int) > 600)) with c2 | c2
    · replace hm := cF c2 hm
      have pc2 := of_decide_eq_false c2
      refine cond_f rfl (vb rfl c2) ?_
      refine wp_skip ?_
      refine then_n ?_
      refine wp_seq ?_
      refine wp_seq ?_
      refine wp_rs rfl ?_
      refine RQ.y rfl (Y.move (v := .slice Aa0 d0.length ca0) s0) ?_
      refine RQ.y rfl (Y.len (by kernel_rfl) rfl) ?_
      refine RQ.y rfl (Y.move (v := .int .i64 0) rfl) ?_
      refine RQ.nil ?_
      refine then_n ?_
      refine wp_block ?_
      obtain ⟨K1, hK1, hm⟩ : ∃ K, K = m_impl_areAgents_A1 ∧ m_impl_areAgents_L1 d0 K (d0.length + 1) 0 = some r := ⟨_, rfl, hm⟩
      refine wp_loopX (fun g f w' => ∃ (i4 : Int), f 13 = .slice Aa0 d0.length ca0 ∧ f 14 = .int .i64 (d0.length : Int) ∧ f 15 = .int .i64 i4 ∧ 0 ≤ i4 ∧ Below w.heap.size w w' ∧ m_impl_areAgents_L1 d0 K1 g i4 = some r) 0 (fun f w' => Below w.heap.size w w' ∧ m_impl_areAgents_A1  = some r) (d0.length + 1) ⟨0, rfl, rfl, rfl, (by omega), T, hm⟩ ?_ ?_
      · rintro f w3 ⟨T, hm⟩
        unfold m_impl_areAgents_A1 at hm
        refine blk_hit (then_n ?_)
        refine wp_seq ?_
        refine wp_rs rfl ?_
        refine RQ.y rfl (Y.assign (v := .bool true) rfl) ?_
        refine RQ.nil ?_
        refine then_n ?_
        refine wp_ret ?_
        obtain rfl := Option.some.inj hm
        exact (ret1 rfl rfl rfl ⟨rfl, T⟩)
      · rintro g f w5 ⟨i4, s13_1, s14_1, s15_1, nn15_1, T, hm⟩
        rcases g with _ | g
        · simp only [m_impl_areAgents_L1] at hm; cases hm
        obtain ⟨rec1, hrec1, hm⟩ : ∃ z, z = m_impl_areAgents_L1 d0 K1 g ∧ m_impl_areAgents_B1 d0 z K1 i4 = some r := ⟨_, rfl, hm⟩
        unfold m_impl_areAgents_B1 at hm
        refine wp_seq ?_
        refine wp_rs rfl ?_
        refine RQ.y rfl (Y.binI (v := .bool (decide (i4 < (d0.length : Int)))) s15_1 s14_1 rfl) ?_
        refine RQ.nil ?_
        refine then_n ?_
        refine wp_seq ?_
        rcases bcases (decide (i4 < (d0.length : Int))) with c6 | c6
        · replace hm := cF c6 hm
          have pc6 := of_decide_eq_false c6
          refine cond_f rfl (vb rfl c6) ?_
          refine wp_exit ?_
          exact (then_x (then_x (hit_x ⟨_, rfl, ⟨T, (by rw [hK1] at hm; exact hm)⟩⟩)))
        · replace hm := cT c6 hm
          have pc6 := of_decide_eq_true c6
          refine cond_t rfl (vb rfl c6) ?_
          refine wp_skip ?_
          refine then_n ?_
          refine wp_seq ?_
          refine wp_block ?_
          refine wp_seq ?_
          refine wp_rl rfl ?_
          refine RL.y rfl (Y.move (v := .int .i64 i4) s15_1) ?_
          obtain ⟨x7, hx10, hm⟩ := bnd hm
          obtain ⟨k8, hk11, hl12, hx10⟩ := getI_some hx10
          obtain ⟨b14, o15, rfl, hbb14⟩ := ha0.addr (by omega)
          obtain ⟨cs9, hRcs9, hc13⟩ := ha0.el hx10
          have hScs9 := hRcs9
          obtain ⟨A16, n16, c16, A17, n17, c17, rfl, ⟨h16, r16⟩, ⟨h17, r17⟩⟩ := hRcs9
          have e16 := h16.len; subst e16
          have q16 := len_le r16
          have e17 := h17.len; subst e17
          have q17 := len_le r17
          refine RL.y rfl (Y.indexAddr (m := k8) (sz := 5) s13_1 s15_1 hk11 hl12 (by kernel_rfl)) ?_
          refine RL.y rfl (Y.loadN (cs := [.int .i64 x7.kind, .int .i64 x7.level, .int .i64 x7.value, .slice A16 x7.data.length c16, .slice A17 x7.ports.length c17]) rfl (by kernel_rfl) (cells5 (eqC (cellT T (hc13 0 _ rfl))) (eqC (cellT T (hc13 1 _ rfl))) (eqC (cellT T (hc13 2 _ rfl))) (eqC (cellT T (hc13 3 _ rfl))) (eqC (cellT T (hc13 4 _ rfl))))) ?_
          refine RL.alloc (z := .agg #[.int .i64 0, .int .i64 0, .int .i64 0, .slice none 0 0, .slice none 0 0]) rfl (by kernel_rfl) (fun w18 B19 hb20 szw18 => ?_)
          replace B19 : Blk w18 w5.heap.size 81 #[.int .i64 0, .int .i64 0, .int .i64 0, .slice none 0 0, .slice none 0 0] := B19
          have GB19 : w.heap.size ≤ w5.heap.size := T.size
          have T := Tt T hb20
          refine RL.y rfl (Y.assign (v := .int .i64 i4) rfl) ?_
          refine RL.store (v := .agg #[.int .i64 x7.kind, .int .i64 x7.level, .int .i64 x7.value, .slice A16 x7.data.length c16, .slice A17 x7.ports.length c17]) (cs' := #[.int .i64 x7.kind, .int .i64 x7.level, .int .i64 x7.value, .slice A16 x7.data.length c16, .slice A17 x7.ports.length c17]) rfl rfl rfl B19 (by kernel_rfl) (by rfl) (by rfl) (by rfl) (fun w22 B23 ho24 => ?_)
          have szw22 := ho24.size
          have T := T.trans (ho24.below (by simp; omega))
          refine RL.nil ?_
          refine then_n ?_
          refine wp_seq ?_
          refine wp_rb rfl ?_
          refine RQ.y rfl (Y.loadN (cs := [.int .i64 x7.kind, .int .i64 x7.level, .int .i64 x7.value, .slice A16 x7.data.length c16, .slice A17 x7.ports.length c17]) rfl (by kernel_rfl) (cells5 (beC (blkCell B23 (i := 0) rfl)) (beC (blkCell B23 (i := 1) rfl)) (beC (blkCell B23 (i := 2) rfl)) (beC (blkCell B23 (i := 3) rfl)) (beC (blkCell B23 (i := 4) rfl)))) ?_
          obtain ⟨y25, e26, hm⟩ := bnd hm
          refine RQ.call rfl (am1 rfl) (by kernel_rfl) (v := .bool y25) (bel (K := fun _ => True) fun w' hb' => (c_m_impl_wellFormed x7 _ e26 _ w' (stArg (R := agentRd) ⟨_, _, _, _, _, _, rfl, ⟨SlAt.now intRd_ok h16 (Nat.le_refl _) (Tt T hb'), r16⟩, ⟨SlAt.now portRd_ok h17 (Nat.le_refl _) (Tt T hb'), r17⟩⟩))) ?_
          refine RQ.y rfl (Y.not (b' := (!y25)) rfl rfl) ?_
          refine RQ.y rfl (Y.move (v := .bool (!y25)) rfl) ?_
          rcases bcases y25 with c27 | c27
          · replace hm := cF c27 hm
            refine RQ.skip (wantN (dj := 23) rfl (vbn rfl c27 rfl) rfl) ?_
            refine RQ.skip (wantN (dj := 23) rfl (vbn rfl c27 rfl) rfl) ?_
            refine RQ.skip (wantN (dj := 23) rfl (vbn rfl c27 rfl) rfl) ?_
            refine RQ.skip (wantN (dj := 23) rfl (vbn rfl c27 rfl) rfl) ?_
            refine RQ.skip (wantN (dj := 23) rfl (vbn rfl c27 rfl) rfl) ?_
            refine RQ.skip (wantN (dj := 23) rfl (vbn rfl c27 rfl) rfl) ?_
            refine RQ.y rfl (Y.pick (b := true) (v := .bool true) (vbn rfl c27 rfl) rfl) ?_
            refine RQ.nil ?_
            intro w28 hb29
            have szw28 := hb29.size
            have T := Tt T hb29
            refine then_n ?_
            refine cond_t rfl rfl ?_
            refine wp_seq ?_
            refine wp_rs rfl ?_
            refine RQ.y rfl (Y.assign (v := .bool false) rfl) ?_
            refine RQ.nil ?_
            refine then_n ?_
            refine wp_ret ?_
            obtain rfl := Option.some.inj hm
            exact (blk_r (then_r (then_r (hit_r (blk_r (then_r (ret1 rfl rfl rfl ⟨rfl, T⟩)))))))
          · replace hm := cT c27 hm
            refine RQ.y (wantT (dj := 23) rfl (vbn rfl c27 rfl)) (Y.fieldAddr (off := 0) rfl (by kernel_rfl)) ?_
            refine RQ.y (wantT (dj := 23) rfl (vbn rfl c27 rfl)) (Y.load (v := .int .i64 x7.kind) rfl (by kernel_rfl) (beC (blkCell B23 (i := 0) rfl))) ?_
            refine RQ.y (wantT (dj := 23) rfl (vbn rfl c27 rfl)) (Y.binI (v := .bool (x7.kind == 1)) rfl rfl rfl) ?_
            refine RQ.y (wantT (dj := 23) rfl (vbn rfl c27 rfl)) (Y.move (v := .int .i64 i4) rfl) ?_
            refine RQ.y (wantT (dj := 23) rfl (vbn rfl c27 rfl)) (Y.binI (v := .bool (i4 == 0)) rfl rfl rfl) ?_
            refine RQ.y (wantT (dj := 23) rfl (vbn rfl c27 rfl)) (Y.beq (c := ((x7.kind == 1) != (i4 == 0))) (by kernel_rfl) rfl rfl (.inr ⟨rfl, rfl⟩)) ?_
            refine RQ.y rfl (Y.pick (b := false) (v := .bool ((x7.kind == 1) != (i4 == 0))) (vbn rfl c27 rfl) rfl) ?_
            refine RQ.nil ?_
            intro w30 hb31
            have szw30 := hb31.size
            have T := Tt T hb31
            refine then_n ?_
            rcases bcases ((x7.kind == 1) != (i4 == 0)) with c32 | c32
            · replace hm := cF c32 hm
              refine cond_f rfl (vb rfl c32) ?_
              refine wp_skip ?_
              refine blk_n (then_n ?_)
              refine wp_rs rfl ?_
              refine RQ.y rfl (Y.binI s15_1 rfl (binI_add (m := i4) (by omega))) ?_
              refine RQ.y rfl (Y.move (v := .int .i64 (i4 + 1)) rfl) ?_
              refine RQ.nil ?_
              exact (then_n ⟨g, _, Nat.lt_succ_self _, rfl, ⟨(i4 + 1), s13_1, s14_1, rfl, (by omega), T, (by rw [← hrec1]; exact hm)⟩⟩)
            · replace hm := cT c32 hm
              refine cond_t rfl (vb rfl c32) ?_
              refine wp_seq ?_
              refine wp_rs rfl ?_
              refine RQ.y rfl (Y.assign (v := .bool false) rfl) ?_
              refine RQ.nil ?_
              refine then_n ?_
              refine wp_ret ?_
              obtain rfl := Option.some.inj hm
              exact (blk_r (then_r (then_r (hit_r (blk_r (then_r (ret1 rfl rfl rfl ⟨rfl, T⟩)))))))
    · replace hm := cT c2 hm
      have pc2 := of_decide_eq_true c2
      refine cond_t rfl (vb rfl c2) ?_
      refine wp_seq ?_
      refine wp_rs rfl ?_
      refine RQ.y rfl (Y.assign (v := .bool false) rfl) ?_
      refine RQ.nil ?_
      refine then_n ?_
      refine wp_ret ?_
      obtain rfl := Option.some.inj hm
      exact (then_r (ret1 rfl rfl rfl ⟨rfl, T⟩))
  · replace hm := cT c1 hm
    have pc1 := of_decide_eq_true c1
    refine RQ.skip (wantN (dj := 8) rfl (vb rfl c1) rfl) ?_
    refine RQ.skip (wantN (dj := 8) rfl (vb rfl c1) rfl) ?_
    refine RQ.skip (wantN (dj := 8) rfl (vb rfl c1) rfl) ?_
    refine RQ.y rfl (Y.pick (b := true) (v := .bool true) (vb rfl c1) rfl) ?_
    refine RQ.nil ?_
    refine then_n ?_
    refine cond_t rfl rfl ?_
    refine wp_seq ?_
    refine wp_rs rfl ?_
    refine RQ.y rfl (Y.assign (v := .bool false) rfl) ?_
    refine RQ.nil ?_
    refine then_n ?_
    refine wp_ret ?_
    obtain rfl := Option.some.inj hm
    exact (then_r (ret1 rfl rfl rfl ⟨rfl, T⟩))
def m_impl_ValidNet (d0 : DNet) : Option Bool :=
  ((m_impl_areAgents d0.agents).bind fun y6 => (bif y6 then ((m_impl_Net_ports d0).bind fun y11 => ((m_slices_ContainsFunc_impl_Port_impl_Port y11 (fun x0 => m_impl_ValidNet_1 x0 d0)).bind fun y18 => some (!y18))) else some false))
set_option maxHeartbeats 2000000 in
theorem c_m_impl_ValidNet (d0 : DNet) (r : Bool) (hm : m_impl_ValidNet d0 = some r) (v0 : Value) (w : World) (hv0 : St netRd w v0 d0) :
    Calls Try.prog 39 #[v0] w fun e w' => e = .returned (.bool r) ∧ Below w.heap.size w w' := by
  obtain ⟨csa0, rfl, ⟨A1, n1, c1, rfl, ⟨h1, r1⟩⟩⟩ := hv0
  have e1 := h1.len; subst e1
  have q1 := len_le r1
  have T := Below.refl w.heap.size w
  unfold m_impl_ValidNet at hm
  refine enter 11 Try.func39 rfl rfl rfl ?_
  intro f hf
  have s0 : f 0 = .agg #[.slice A1 d0.agents.length c1] := hf 0 _ rfl
  refine wp_seq ?_
  refine wp_rl rfl ?_
  refine RL.box rfl s0 (fun w2 B3 hb4 szw2 => ?_)
  replace B3 : Blk w2 w.heap.size 33 #[.slice A1 d0.agents.length c1] := B3
  have GB3 : w.heap.size ≤ w.heap.size := T.size
  have T := Tt T hb4
  refine RL.y rfl (Y.assign (v := .bool false) rfl) ?_
  refine RL.nil ?_
  refine then_n ?_
  refine wp_seq ?_
  refine wp_seq ?_
  refine wp_rb rfl ?_
  refine RQ.y rfl (Y.fieldAddr (off := 0) rfl (by kernel_rfl)) ?_
  refine RQ.y rfl (Y.load (v := .slice A1 d0.agents.length c1) rfl (by kernel_rfl) (beC (blkCell B3 (i := 0) rfl))) ?_
  obtain ⟨y6, e7, hm⟩ := bnd hm
  refine RQ.call rfl (am1 rfl) (by kernel_rfl) (v := .bool y6) (bel (K := fun _ => True) fun w' hb' => (c_m_impl_areAgents d0.agents _ e7 _ w' (slArg agentRd_ok h1 r1 (Tt T hb')))) ?_
  refine RQ.y rfl (Y.not (b' := (!y6)) rfl rfl) ?_
  refine RQ.nil ?_
  intro w8 hb9
  have szw8 := hb9.size
  have B3 := blkT B3 hb9
  have T := Tt T hb9
  refine then_n ?_
  rcases bcases y6 with c10 | c10
  · replace hm := cF c10 hm
    refine cond_t rfl (vbn rfl c10 rfl) ?_
    refine wp_seq ?_
    refine wp_rs rfl ?_
    refine RQ.y rfl (Y.assign (v := .bool false) rfl) ?_
    refine RQ.nil ?_
    refine then_n ?_
    refine wp_ret ?_
    obtain rfl := Option.some.inj hm
    exact (then_r (ret1 rfl rfl rfl ⟨rfl, T⟩))
  · replace hm := cT c10 hm
    refine cond_f rfl (vbn rfl c10 rfl) ?_
    refine wp_skip ?_
    refine then_n ?_
    refine wp_seq ?_
    refine wp_rl rfl ?_
    obtain ⟨y11, e12, hm⟩ := bnd hm
    refine RL.call rfl (am1 rfl) (by kernel_rfl) ((c_m_impl_Net_ports d0 _ e12 _ _ (ptBox (R := netRd) B3 ⟨_, _, _, rfl, ⟨SlAt.now agentRd_ok h1 (Nat.le_refl _) T, r1⟩⟩)).mono ?_)
    rintro _ w16 ⟨⟨v13, rfl, G14⟩, hb17⟩
    refine ⟨_, rfl, ?_⟩
    have szw16 := hb17.size
    have T0w16 := T.size
    have No15_ob5 := OwF.ne G14 B3.lt
    have B3 := blkT B3 hb17
    have T := Tt T hb17
    replace G14 := OwF.mono G14 T0w16
    refine RL.y rfl (Y.makeFunc (vals := #[.pointer (some ⟨w.heap.size, 0, none⟩)]) (am1 rfl)) ?_
    obtain ⟨y18, e19, hm⟩ := bnd hm
    refine RL.call rfl (am2 rfl rfl) (by kernel_rfl) ((c_m_slices_ContainsFunc_impl_Port_impl_Port y11 (fun x0 => m_impl_ValidNet_1 x0 d0) _ e19 _ _ _ _ (OwF.arg fPort G14) (by kernel_rfl) (fun x0 b hx w1 hb1 => Calls.arr (by simp) (c_m_impl_ValidNet_1 x0 d0 _ hx _ w1 (ptBox (R := netRd) (blkT B3 hb1) ⟨_, _, _, rfl, ⟨SlAt.now agentRd_ok h1 (Nat.le_refl _) (Tt T hb1), r1⟩⟩)))).mono ?_)
    rintro _ w20 ⟨rfl, hb21⟩
    refine ⟨_, rfl, ?_⟩
    have szw20 := hb21.size
    have B3 := blkT B3 hb21
    have G14 := OwF.below G14 hb21
    have T := Tt T hb21
    refine RL.y rfl (Y.not (b' := (!y18)) rfl rfl) ?_
    refine RL.y rfl (Y.assign (v := .bool (!y18)) rfl) ?_
    refine RL.nil ?_
    refine then_n ?_
    refine wp_ret ?_
    obtain rfl := Option.some.inj hm
    exact (ret1 rfl rfl rfl ⟨rfl, T⟩)
end
section
open Go.RowKit
set_option linter.unusedVariables false
set_option linter.unusedSimpArgs false
theorem allDef {xs : List Int} : (∀ k, k < xs.length → ∃ x, xs[k]? = some x ∧ defIx x = true) ↔ xs.all defIx = true := by
  rw [List.all_eq_true]
  constructor
  · intro h x hx
    obtain ⟨k, hk, rfl⟩ := List.getElem_of_mem hx
    obtain ⟨y, hy, hd⟩ := h k hk
    rw [List.getElem?_eq_getElem hk] at hy
    injection hy with hy
    rw [hy]; exact hd
  · intro h k hk
    exact ⟨xs[k], List.getElem?_eq_getElem hk, h _ (List.getElem_mem _)⟩
theorem inR_def (x : Int) : inR x 0 23 = defIx x := rfl
theorem content_L1 (x : DAgent) (g : Nat) (hg : x.data.length < g) : m_spec_l11Content_L1 x m_spec_l11Content_A1 g 0 = some (x.data.all defIx) := by
  have h := allI (L := m_spec_l11Content_L1 x m_spec_l11Content_A1) (n := x.data.length) (p := fun k => ∃ y, x.data[k]? = some y ∧ defIx y = true) (no := some false) (K := some true)
    (fun g k hk ⟨y, hy, hd⟩ => by simp [m_spec_l11Content_L1, m_spec_l11Content_B1, hk, getI_nat hy, m_spec_l11Def, inR_def, hd])
    (fun g k hk hn => by
      have hd : defIx x.data[k] = false := by
        cases h : defIx x.data[k] with
        | false => rfl
        | true => exact absurd ⟨_, List.getElem?_eq_getElem hk, h⟩ hn
      simp [m_spec_l11Content_L1, m_spec_l11Content_B1, hk, getI_lt hk, m_spec_l11Def, inR_def, hd])
    (fun g => by simp [m_spec_l11Content_L1, m_spec_l11Content_B1, m_spec_l11Content_A1]) g hg
  rw [h]
  by_cases ha : x.data.all defIx = true
  · rw [if_pos (allDef.2 ha), ha]
  · rw [if_neg (fun hh => ha (allDef.1 hh))]; simp at ha ⊢; exact ha
theorem content_L2 (x : DAgent) (g : Nat) (hg : x.data.length < g) : m_spec_l11Content_L2 x m_spec_l11Content_A2 g 0 = some (x.data.all defIx) := by
  have h := allI (L := m_spec_l11Content_L2 x m_spec_l11Content_A2) (n := x.data.length) (p := fun k => ∃ y, x.data[k]? = some y ∧ defIx y = true) (no := some false) (K := some true)
    (fun g k hk ⟨y, hy, hd⟩ => by simp [m_spec_l11Content_L2, m_spec_l11Content_B2, hk, getI_nat hy, m_spec_l11Def, inR_def, hd])
    (fun g k hk hn => by
      have hd : defIx x.data[k] = false := by
        cases h : defIx x.data[k] with
        | false => rfl
        | true => exact absurd ⟨_, List.getElem?_eq_getElem hk, h⟩ hn
      simp [m_spec_l11Content_L2, m_spec_l11Content_B2, hk, getI_lt hk, m_spec_l11Def, inR_def, hd])
    (fun g => by simp [m_spec_l11Content_L2, m_spec_l11Content_B2, m_spec_l11Content_A2]) g hg
  rw [h]
  by_cases ha : x.data.all defIx = true
  · rw [if_pos (allDef.2 ha), ha]
  · rw [if_neg (fun hh => ha (allDef.1 hh))]; simp at ha ⊢; exact ha
theorem p_content (x : DAgent) : m_spec_l11Content x = some (content x.kind x.value x.data) := by
  have l1 := content_L1 x (x.data.length + 1) (by omega)
  have l2 := content_L2 x (x.data.length + 1) (by omega)
  have i2 : ((x.data.length : Int) = 2) ↔ x.data.length = 2 := by omega
  have i1 : ((x.data.length : Int) = 1) ↔ x.data.length = 1 := by omega
  have i14 : inR (x.data.length : Int) 1 4 = (decide (1 ≤ x.data.length) && decide (x.data.length ≤ 4)) := by
    rw [Bool.eq_iff_iff]; simp [inR]; omega
  have hI : ∀ y, inR y (-2147483648) 2147483647 = int32B y := fun _ => rfl
  have hO : inR x.value 1 6 = operB x.value := rfl
  unfold m_spec_l11Content content
  simp only [hI, hO, l1, l2, m_spec_l11Def, inR_def, Bool.cond_eq_ite, beq_iff_eq, bne_iff_ne, ne_eq, i14, i1, i2]
  by_cases h8 : x.kind = 8
  · by_cases h0 : x.data.length = 1
    · obtain ⟨y, hy⟩ : ∃ y, x.data = [y] := List.length_eq_one_iff.1 h0
      simp only [h8, hy]
      cases ho : operB x.value <;> simp [getI]
    · simp [h8, h0]
  by_cases h6 : x.kind = 6
  · by_cases h0 : x.data.length = 0 <;> simp [h6, h0]
  by_cases h7 : x.kind = 7
  · by_cases h0 : x.data.length = 0 <;> simp [h7, h0]
  by_cases h9 : x.kind = 9
  · by_cases h0 : x.data.length = 0 <;> simp [h9, h0, inR]
  by_cases h12 : x.kind = 12
  · by_cases h0 : x.data.length = 0 <;> simp [h12, h0]
  by_cases h10 : x.kind = 10
  · by_cases hv : x.value = 0 <;> by_cases n1 : 1 ≤ x.data.length <;> by_cases n4 : x.data.length ≤ 4 <;> simp [h10, hv, n1, n4]
  by_cases h11 : x.kind = 11
  · by_cases hv : x.value = 0 <;> by_cases hn : x.data.length = 2 <;> simp [h11, hv, hn]
  by_cases hv : x.value = 0 <;> by_cases h0 : x.data.length = 0 <;> simp [h6, h7, h8, h9, h10, h11, h12, hv, h0]
theorem p_fields (x : DAgent) (hp : x.ports.length ≤ 9223372036854775807) : m_spec_l11Fields x = some (fieldsN x.kind x.ports.length) := by
  unfold m_spec_l11Fields fieldsN
  simp only [Bool.cond_eq_ite, beq_iff_eq]
  by_cases h : x.kind = 9
  · simp [h, ck_ok (n := (x.ports.length : Int) - 1) (by omega)]
  · simp [h]
theorem p_agent (x : DAgent) (hp : x.ports.length ≤ 9223372036854775807) : m_spec_l11Agent x = some (agentOk x) := by
  unfold m_spec_l11Agent agentOk
  simp only [p_fields x hp, Option.bind_some, p_content, Bool.cond_eq_ite, beq_iff_eq, decide_eq_true_eq]
  generalize portsOf x.kind (fieldsN x.kind x.ports.length) = p
  by_cases h1 : p > 0
  · have h1' : 0 < p := h1
    by_cases h2 : (x.ports.length : Int) = p
    · cases h3 : allowed x.kind x.level <;> simp [h1, h1', h2]
    · simp [h1, h1', h2]
  · have h1' : ¬ 0 < p := h1
    simp [h1, h1']
theorem p_ifields (k : Int) (n : Nat) (hn : n ≤ 9223372036854775807) : m_impl_fieldsOf k (n : Int) = some (fieldsN k n) := by
  unfold m_impl_fieldsOf fieldsN
  simp only [Bool.cond_eq_ite, beq_iff_eq]
  by_cases h : k = 9
  · simp [h, ck_ok (n := (n : Int) - 1) (by omega)]
  · simp [h]
theorem p_isDef (n : Int) : m_impl_isDefIndex n = some (defIx n) := by
  unfold m_impl_isDefIndex defIx
  simp only [Bool.cond_eq_ite, decide_eq_true_eq]
  by_cases h : 0 ≤ n <;> simp [h] <;> omega
theorem p_isInt (n : Int) : m_impl_isInt n = some (int32B n) := by
  unfold m_impl_isInt int32B
  simp only [Bool.cond_eq_ite, decide_eq_true_eq]
  by_cases h : -2147483648 ≤ n <;> simp [h]
theorem p_isOper (n : Int) : m_impl_isOperator n = some (operB n) := by
  unfold m_impl_isOperator operB
  simp only [Bool.cond_eq_ite, decide_eq_true_eq]
  by_cases h : 1 ≤ n <;> simp [h]
theorem p_index_int (d : List Int) (p : Int → Option Bool) (q : Int → Bool) (h : ∀ x ∈ d, p x = some (q x)) : ∃ i, m_slices_IndexFunc_int64_int64 d p = some i ∧ decide (i ≥ 0) = d.any q := by
  unfold m_slices_IndexFunc_int64_int64
  by_cases ha : ∃ k, k < d.length ∧ ∃ x, d[k]? = some x ∧ q x = true
  · obtain ⟨m, ⟨hm, x, hx, hq⟩, hl⟩ : ∃ m, (m < d.length ∧ ∃ x, d[m]? = some x ∧ q x = true) ∧ ∀ k, k < m → ∀ y, d[k]? = some y → q y = false := by
      obtain ⟨k0, hk0⟩ := ha
      induction k0 using Nat.strongRecOn with
      | _ k0 ih =>
        by_cases hh : ∃ k, k < k0 ∧ k < d.length ∧ ∃ x, d[k]? = some x ∧ q x = true
        · obtain ⟨k, hk, hk1⟩ := hh; exact ih k hk hk1
        · exact ⟨k0, hk0, fun k hk y hy => by
            cases hq : q y with
            | false => rfl
            | true => exact absurd ⟨k, hk, lt_of_some hy, y, hy, hq⟩ hh⟩
    refine ⟨m, ?_, ?_⟩
    · refine trajI (n := m) (fun g k hk => ?_) (fun g => ?_) _ (by omega)
      · have hkl : k < d.length := by omega
        have hy := List.getElem?_eq_getElem hkl
        simp [m_slices_IndexFunc_int64_int64_L1, m_slices_IndexFunc_int64_int64_B1, hkl, getI_lt hkl, h _ (List.getElem_mem hkl), hl k hk _ hy]
      · have hmem := List.mem_of_getElem? hx
        simp [m_slices_IndexFunc_int64_int64_L1, m_slices_IndexFunc_int64_int64_B1, hm, getI_nat hx, h _ hmem, hq]
    · have : d.any q = true := List.any_eq_true.2 ⟨x, List.mem_of_getElem? hx, hq⟩
      rw [this]; simp
  · refine ⟨-1, ?_, ?_⟩
    · refine trajI (n := d.length) (fun g k hk => ?_) (fun g => ?_) _ (by omega)
      · have hq : q d[k] = false := by
          cases hq : q d[k] with
          | false => rfl
          | true => exact absurd ⟨k, hk, _, List.getElem?_eq_getElem hk, hq⟩ ha
        simp [m_slices_IndexFunc_int64_int64_L1, m_slices_IndexFunc_int64_int64_B1, hk, getI_lt hk, h _ (List.getElem_mem hk), hq]
      · simp [m_slices_IndexFunc_int64_int64_L1, m_slices_IndexFunc_int64_int64_B1, m_slices_IndexFunc_int64_int64_A1]
    · have : d.any q = false := List.any_eq_false.2 fun x hx hq => by
        obtain ⟨k, hk, rfl⟩ := List.getElem_of_mem hx
        exact ha ⟨k, hk, _, List.getElem?_eq_getElem hk, hq⟩
      rw [this]; simp
theorem p_contains_int (d : List Int) (p : Int → Option Bool) (q : Int → Bool) (h : ∀ x ∈ d, p x = some (q x)) : m_slices_ContainsFunc_int64_int64 d p = some (d.any q) := by
  obtain ⟨i, h1, h2⟩ := p_index_int d p q h
  simp -implicitDefEqProofs only [m_slices_ContainsFunc_int64_int64, h1, Option.bind_some, h2]
theorem p_wellFormed (x : DAgent) (hp : x.ports.length ≤ 9223372036854775807) : m_impl_wellFormed x = some (agentOk x) := by
  have hc := p_contains_int x.data (fun x0 => m_impl_wellFormed_1 x0) (fun x0 => !defIx x0) (fun y _ => by simp [m_impl_wellFormed_1, p_isDef])
  have hall : x.data.all defIx = !(x.data.any fun x0 => !defIx x0) := by rw [List.not_any_eq_all_not]; simp
  have e0 : ((x.data.length : Int) == 0) = decide (x.data.length = 0) := by rw [Bool.eq_iff_iff]; simp
  have i2 : ((x.data.length : Int) = 2) ↔ x.data.length = 2 := by omega
  have i1 : ((x.data.length : Int) = 1) ↔ x.data.length = 1 := by omega
  have g1 : ((x.data.length : Int) ≥ 1) ↔ 1 ≤ x.data.length := by omega
  have g4 : ((x.data.length : Int) ≤ 4) ↔ x.data.length ≤ 4 := by omega
  have ip : ((x.ports.length : Int) = 0) ↔ x.ports.length = 0 := by omega
  unfold m_impl_wellFormed agentOk
  simp only [p_ifields _ _ hp, Option.bind_some, hc, p_isInt, p_isOper, p_isDef, content, hall, e0, Bool.cond_eq_ite, beq_iff_eq, bne_iff_ne, ne_eq, decide_eq_true_eq, i1, i2, ip, g1, g4, ge_iff_le]
  generalize hp0 : portsOf x.kind (fieldsN x.kind x.ports.length) = p
  by_cases h0 : x.ports.length = 0
  · by_cases h1 : 0 < p
    · have : ¬ (x.ports.length : Int) = p := by omega
      simp [h0]; intro h2; omega
    · simp [h0, h1]
  by_cases h2 : p = (x.ports.length : Int)
  case neg =>
    have h2' : ¬ (x.ports.length : Int) = p := fun e => h2 e.symm
    simp [h0, h2, h2']
  have hpos : 0 < x.ports.length := by omega
  have v4 : x.value < 4 ↔ x.value ≤ 3 := by omega
  subst h2
  generalize hany : (x.data.any fun x0 => !defIx x0) = anyb
  cases h3 : allowed x.kind x.level
  · simp [h0]
  by_cases k6 : x.kind = 6
  · cases hi : int32B x.value <;> simp [h0, hpos, k6]
  by_cases k7 : x.kind = 7
  · cases hi : operB x.value <;> simp [h0, hpos, k7]
  by_cases k8 : x.kind = 8
  · by_cases hd : x.data.length = 1
    · obtain ⟨y, hy⟩ : ∃ y, x.data = [y] := List.length_eq_one_iff.1 hd
      cases hi : operB x.value <;> simp [h0, hpos, k8, hy, getI]
    · cases hi : operB x.value <;> simp [h0, hpos, k8, hd]
  by_cases k9 : x.kind = 9
  · by_cases v0 : 0 ≤ x.value <;> by_cases v3 : x.value ≤ 3
    all_goals simp [h0, hpos, k9, v0, v3, v4]
  by_cases k10 : x.kind = 10
  · by_cases v0 : x.value = 0 <;> by_cases n1 : 1 ≤ x.data.length <;> by_cases n4 : x.data.length ≤ 4 <;> simp [h0, hpos, k10, v0, n1, n4]
  by_cases k11 : x.kind = 11
  · by_cases v0 : x.value = 0 <;> by_cases n2 : x.data.length = 2 <;> simp [h0, hpos, k11, v0, n2]
  by_cases k12 : x.kind = 12
  · cases hi : defIx x.value <;> simp [h0, hpos, k12]
  by_cases v0 : x.value = 0 <;> simp [h0, hpos, k6, k7, k8, k9, k10, k11, k12, v0]
theorem agentsOk_iff {xs : List DAgent} : agentsOk xs = true ↔ AgentsOk xs := by unfold agentsOk; simp
theorem agents_p {xs : List DAgent} : (∀ k, k < xs.length → ∃ x, xs[k]? = some x ∧ agentOk x = true ∧ decide (x.kind = 1) = decide (k = 0)) ↔ ∀ (i : Nat) (x : DAgent), xs[i]? = some x → agentOk x = true ∧ decide (x.kind = 1) = decide (i = 0) := by
  constructor
  · intro h i x hx
    obtain ⟨y, hy, h1⟩ := h i (lt_of_some hx)
    rw [hx] at hy; injection hy with hy; subst hy; exact h1
  · intro h k hk
    exact ⟨xs[k], List.getElem?_eq_getElem hk, h k _ (List.getElem?_eq_getElem hk)⟩
theorem kind_ne (k : Int) (i : Nat) : ((k == 1) != ((i : Int) == 0)) = !(decide (decide (k = 1) = decide (i = 0))) := by
  have e1 : (k == 1) = decide (k = 1) := by rw [Bool.eq_iff_iff]; simp
  have e2 : ((i : Int) == 0) = decide (i = 0) := by rw [Bool.eq_iff_iff]; simp
  rw [e1, e2]
  cases decide (k = 1) <;> cases decide (i = 0) <;> rfl
open Classical in
theorem p_agents (xs : List DAgent) (hb : ∀ x ∈ xs, x.ports.length ≤ 9223372036854775807) : m_spec_l11Agents xs = some (agentsOk xs) := by
  unfold m_spec_l11Agents
  by_cases hl : 1 ≤ xs.length ∧ xs.length ≤ 600
  · have h0 : inR (xs.length : Int) 1 600 = true := by simp [inR]; omega
    rw [h0, cond_true]
    have h := allI (L := m_spec_l11Agents_L1 xs m_spec_l11Agents_A1) (n := xs.length) (p := fun k => ∃ x, xs[k]? = some x ∧ agentOk x = true ∧ decide (x.kind = 1) = decide (k = 0)) (no := some false) (K := some true)
      (fun g k hk ⟨x, hx, h1, h2⟩ => by
        have hm := hb x (List.mem_of_getElem? hx)
        simp [m_spec_l11Agents_L1, m_spec_l11Agents_B1, hk, getI_nat hx, p_agent x hm, h1, kind_ne, h2])
      (fun g k hk hn => by
        have hx := List.getElem?_eq_getElem hk
        have hm := hb _ (List.getElem_mem hk)
        cases h1 : agentOk xs[k] with
        | false => simp [m_spec_l11Agents_L1, m_spec_l11Agents_B1, hk, getI_lt hk, p_agent _ hm, h1]
        | true =>
          have h2 : ¬ decide (xs[k].kind = 1) = decide (k = 0) := fun h2 => hn ⟨_, hx, h1, h2⟩
          simp -implicitDefEqProofs only [m_spec_l11Agents_L1, m_spec_l11Agents_B1, dlt hk, cond_true, getI_lt hk, Option.bind_some, p_agent _ hm, h1, kind_ne, decide_eq_false h2, Bool.not_false, Bool.not_true, Bool.or_true, Bool.false_or, cond_false])
      (fun g => by simp [m_spec_l11Agents_L1, m_spec_l11Agents_B1, m_spec_l11Agents_A1]) (xs.length + 1) (by omega)
    rw [h]
    by_cases ha : ∀ k, k < xs.length → ∃ x, xs[k]? = some x ∧ agentOk x = true ∧ decide (x.kind = 1) = decide (k = 0)
    · rw [if_pos ha, agentsOk_iff.2 ⟨hl.1, hl.2, agents_p.1 ha⟩]
    · rw [if_neg ha]
      cases hc : agentsOk xs with
      | false => rfl
      | true => exact absurd (agents_p.2 (agentsOk_iff.1 hc).2.2) ha
  · have h0 : inR (xs.length : Int) 1 600 = false := by simp [inR]; omega
    rw [h0, cond_false]
    cases hc : agentsOk xs with
    | false => rfl
    | true => exact absurd ⟨(agentsOk_iff.1 hc).1, (agentsOk_iff.1 hc).2.1⟩ hl
open Classical in
theorem p_areAgents (xs : List DAgent) (hb : ∀ x ∈ xs, x.ports.length ≤ 9223372036854775807) : m_impl_areAgents xs = some (agentsOk xs) := by
  unfold m_impl_areAgents
  by_cases hl : 1 ≤ xs.length ∧ xs.length ≤ 600
  · have h0 : decide ((xs.length : Int) < 1) = false := by simp; omega
    have h0' : decide ((xs.length : Int) > 600) = false := by simp; omega
    rw [h0, h0', cond_false, cond_false]
    have h := allI (L := m_impl_areAgents_L1 xs m_impl_areAgents_A1) (n := xs.length) (p := fun k => ∃ x, xs[k]? = some x ∧ agentOk x = true ∧ decide (x.kind = 1) = decide (k = 0)) (no := some false) (K := some true)
      (fun g k hk ⟨x, hx, h1, h2⟩ => by
        have hm := hb x (List.mem_of_getElem? hx)
        simp [m_impl_areAgents_L1, m_impl_areAgents_B1, hk, getI_nat hx, p_wellFormed x hm, h1, kind_ne, h2])
      (fun g k hk hn => by
        have hx := List.getElem?_eq_getElem hk
        have hm := hb _ (List.getElem_mem hk)
        cases h1 : agentOk xs[k] with
        | false => simp [m_impl_areAgents_L1, m_impl_areAgents_B1, hk, getI_lt hk, p_wellFormed _ hm, h1]
        | true =>
          have h2 : ¬ decide (xs[k].kind = 1) = decide (k = 0) := fun h2 => hn ⟨_, hx, h1, h2⟩
          simp -implicitDefEqProofs only [m_impl_areAgents_L1, m_impl_areAgents_B1, dlt hk, cond_true, getI_lt hk, Option.bind_some, p_wellFormed _ hm, h1, kind_ne, decide_eq_false h2, Bool.not_false, Bool.not_true, Bool.or_true, Bool.false_or, cond_false])
      (fun g => by simp [m_impl_areAgents_L1, m_impl_areAgents_B1, m_impl_areAgents_A1]) (xs.length + 1) (by omega)
    rw [h]
    by_cases ha : ∀ k, k < xs.length → ∃ x, xs[k]? = some x ∧ agentOk x = true ∧ decide (x.kind = 1) = decide (k = 0)
    · rw [if_pos ha, agentsOk_iff.2 ⟨hl.1, hl.2, agents_p.1 ha⟩]
    · rw [if_neg ha]
      cases hc : agentsOk xs with
      | false => rfl
      | true => exact absurd (agents_p.2 (agentsOk_iff.1 hc).2.2) ha
  · have hc : agentsOk xs = false := by
      cases hc : agentsOk xs with
      | false => rfl
      | true => exact absurd ⟨(agentsOk_iff.1 hc).1, (agentsOk_iff.1 hc).2.1⟩ hl
    by_cases h1 : xs.length < 1
    · have h0 : decide ((xs.length : Int) < 1) = true := by simp; omega
      rw [h0, cond_true, hc]
    · have h0 : decide ((xs.length : Int) < 1) = false := by simp; omega
      have h0' : decide ((xs.length : Int) > 600) = true := by simp; omega
      rw [h0, h0', cond_false, cond_true, hc]
/-- No list is longer than what a net of the laws may hold. -/
def Small (xs : List DAgent) : Prop := szAgentS xs ≤ 1048576
theorem Small.len {xs : List DAgent} (h : Small xs) : xs.length ≤ 1048576 := by unfold Small szAgentS at h; omega
theorem sum_mem {α : Type} {f : α → Nat} {xs : List α} {x : α} (h : x ∈ xs) : f x ≤ (xs.map f).sum := by
  induction xs with
  | nil => cases h
  | cons y ys ih =>
    rcases List.mem_cons.1 h with rfl | h
    · simp
    · have := ih h; simp; omega
theorem Small.ports {xs : List DAgent} (h : Small xs) {x : DAgent} (hx : x ∈ xs) : x.ports.length ≤ 1048576 := by
  have := sum_mem (f := szAgent) hx
  have e : szAgent x = x.data.length + x.ports.length := rfl
  unfold Small szAgentS at h; omega
theorem Small.data {xs : List DAgent} (h : Small xs) {x : DAgent} (hx : x ∈ xs) : x.data.length ≤ 1048576 := by
  have := sum_mem (f := szAgent) hx
  have e : szAgent x = x.data.length + x.ports.length := rfl
  unfold Small szAgentS at h; omega
theorem Small.ports' {xs : List DAgent} (h : Small xs) : ∀ x ∈ xs, x.ports.length ≤ 9223372036854775807 := fun x hx => by have := h.ports hx; omega
theorem portsFrom_len : ∀ (i : Nat) (xs : List DAgent), (portsFrom i xs).length ≤ (xs.map szAgent).sum
  | _, [] => by simp [portsFrom]
  | i, x :: xs => by have := portsFrom_len (i + 1) xs; simp [portsFrom, agentPorts, szAgent]; omega
theorem Small.all {xs : List DAgent} (h : Small xs) : (allPorts xs).length ≤ 1048576 := by
  have := portsFrom_len 0 xs
  unfold Small szAgentS at h; unfold allPorts; omega
theorem agentAt_nat {xs : List DAgent} {k : Nat} {x : DAgent} (h : xs[k]? = some x) : agentAt xs (k : Int) = x := by simp [agentAt, List.getD, h]
theorem p_port (xs : List DAgent) (p : DPort) (h : Small xs) : m_spec_l11Port xs p = some (hasPort xs p) := by
  unfold m_spec_l11Port
  have hl := h.len
  rw [ck_ok (by omega), Option.bind_some]
  by_cases ha : 0 ≤ p.agent ∧ p.agent < xs.length
  · obtain ⟨k, hk⟩ := Int.eq_ofNat_of_zero_le ha.1
    have hkl : k < xs.length := by omega
    have h0 : inR p.agent 0 ((xs.length : Int) - 1) = true := by simp [inR]; omega
    have hx := List.getElem?_eq_getElem hkl
    have hp := h.ports (List.getElem_mem hkl)
    rw [h0, cond_true, hk, getI_nat hx, Option.bind_some, ck_ok (by omega), Option.bind_some]
    congr 1
    rw [Bool.eq_iff_iff]
    simp [inR, hasPort, hk, agentAt_nat hx]
    omega
  · have h0 : inR p.agent 0 ((xs.length : Int) - 1) = false := by simp [inR]; omega
    rw [h0, cond_false]
    congr 1
    simp [hasPort]
    omega
theorem p_hasPort (xs : List DAgent) (p : DPort) : m_impl_hasPort xs p = some (hasPort xs p) := by
  unfold m_impl_hasPort
  by_cases h1 : 0 ≤ p.agent
  · by_cases h2 : p.agent < xs.length
    · by_cases h3 : 0 ≤ p.slot
      · obtain ⟨k, hk⟩ := Int.eq_ofNat_of_zero_le h1
        have hkl : k < xs.length := by omega
        have hx := List.getElem?_eq_getElem hkl
        simp [h3, hk, hkl, hasPort, getI_nat hx, agentAt_nat hx]
      · simp [h1, h2, h3, hasPort]
    · simp [h1, h2, hasPort]
  · simp [h1, hasPort]
theorem p_peer {xs : List DAgent} {p : DPort} (h : hasPort xs p = true) : m_impl_Net_peer ⟨xs⟩ p = some (peer xs p) := by
  obtain ⟨i, k, x, rfl, hx, hk, ha⟩ := hasPort_at h
  have hy := List.getElem?_eq_getElem hk
  simp [m_impl_Net_peer, getI_nat hx, getI_nat hy, peer_of hx hy]
theorem port_eq (q p : DPort) : (q.agent == p.agent && q.slot == p.slot) = decide (q = p) := by
  rw [Bool.eq_iff_iff]
  cases q; cases p; simp
theorem badPort_at {xs : List DAgent} {i k : Nat} {x : DAgent} {q : DPort} (hx : xs[i]? = some x) (hq : x.ports[k]? = some q) : badPort xs ⟨i, k⟩ = (decide (q = ⟨i, k⟩) || !hasPort xs q || !decide (peer xs q = ⟨i, k⟩)) := by
  unfold badPort; rw [peer_of hx hq]
open Classical in
theorem p_ok_inner {xs : List DAgent} (hs : Small xs) {i : Nat} {x : DAgent} (hx : xs[i]? = some x) (rec : Int → Option Bool) (g : Nat) (hg : x.ports.length < g) :
    ((∀ k, k < x.ports.length → badPort xs ⟨i, k⟩ = false) ∧ m_spec_l11Ok_L2 ⟨xs⟩ (i : Int) x (m_spec_l11Ok_A2 rec (i : Int)) g 0 = rec ((i : Int) + 1)) ∨ ((¬ ∀ k, k < x.ports.length → badPort xs ⟨i, k⟩ = false) ∧ m_spec_l11Ok_L2 ⟨xs⟩ (i : Int) x (m_spec_l11Ok_A2 rec (i : Int)) g 0 = some false) := by
  have hi := lt_of_some hx
  have hl := hs.len
  refine (allO (L := m_spec_l11Ok_L2 ⟨xs⟩ (i : Int) x (m_spec_l11Ok_A2 rec (i : Int))) (n := x.ports.length) (p := fun k => badPort xs ⟨i, k⟩ = false) (no := some false) (K := rec ((i : Int) + 1)) ?_ ?_ ?_ g hg)
  · intro g k hk hb
    have hq := List.getElem?_eq_getElem hk
    rw [badPort_at hx hq] at hb
    simp only [Bool.or_eq_false_iff, Bool.not_eq_false', decide_eq_false_iff_not, decide_eq_true_eq] at hb
    obtain ⟨⟨h1, h2⟩, h3⟩ := hb
    obtain ⟨i2, k2, x2, he, hx2, hk2, _⟩ := hasPort_at h2
    have hq2 := List.getElem?_eq_getElem hk2
    have h1' : (x.ports[k].agent == (i : Int) && x.ports[k].slot == (k : Int)) = false := by
      have := port_eq x.ports[k] ⟨i, k⟩
      simp only at this
      rw [this]; simpa using h1
    have h3' : (x2.ports[k2].agent == (i : Int) && x2.ports[k2].slot == (k : Int)) = true := by
      have := port_eq x2.ports[k2] ⟨i, k⟩
      simp only at this
      rw [this]
      rw [he, peer_of hx2 hq2] at h3
      simpa using h3
    have ha : x.ports[k].agent = (i2 : Int) := by rw [he]
    have hsl : x.ports[k].slot = (k2 : Int) := by rw [he]
    have e1 : getI xs x.ports[k].agent = some x2 := by rw [ha]; exact getI_nat hx2
    have e2 : getI x2.ports x.ports[k].slot = some x2.ports[k2] := by rw [hsl]; exact getI_nat hq2
    simp -implicitDefEqProofs only [m_spec_l11Ok_L2, m_spec_l11Ok_B2, dlt hk, cond_true, getI_lt hk, Option.bind_some, h1', cond_false, p_port xs _ hs, h2, e1, e2, h3']
  · intro g k hk hb
    have hq := List.getElem?_eq_getElem hk
    have hb : badPort xs ⟨i, k⟩ = true := by simpa using hb
    rw [badPort_at hx hq] at hb
    have hE := port_eq x.ports[k] ⟨i, k⟩
    simp only at hE
    by_cases h1 : x.ports[k] = (⟨i, k⟩ : DPort)
    · have : (x.ports[k].agent == (i : Int) && x.ports[k].slot == (k : Int)) = true := by rw [hE]; simpa using h1
      simp -implicitDefEqProofs only [m_spec_l11Ok_L2, m_spec_l11Ok_B2, dlt hk, cond_true, getI_lt hk, Option.bind_some, this]
    · have h1' : (x.ports[k].agent == (i : Int) && x.ports[k].slot == (k : Int)) = false := by rw [hE]; simpa using h1
      cases h2 : hasPort xs x.ports[k] with
      | false => simp -implicitDefEqProofs only [m_spec_l11Ok_L2, m_spec_l11Ok_B2, dlt hk, cond_true, getI_lt hk, Option.bind_some, h1', cond_false, p_port xs _ hs, h2]
      | true =>
        have h3 : ¬ peer xs x.ports[k] = (⟨i, k⟩ : DPort) := by
          intro h3; rw [h2, h3] at hb; simp [h1] at hb
        obtain ⟨i2, k2, x2, he, hx2, hk2, _⟩ := hasPort_at h2
        have hq2 := List.getElem?_eq_getElem hk2
        have h3' : (x2.ports[k2].agent == (i : Int) && x2.ports[k2].slot == (k : Int)) = false := by
          have := port_eq x2.ports[k2] ⟨i, k⟩
          simp only at this
          rw [this]
          rw [he, peer_of hx2 hq2] at h3
          simpa using h3
        have ha : x.ports[k].agent = (i2 : Int) := by rw [he]
        have hsl : x.ports[k].slot = (k2 : Int) := by rw [he]
        have e1 : getI xs x.ports[k].agent = some x2 := by rw [ha]; exact getI_nat hx2
        have e2 : getI x2.ports x.ports[k].slot = some x2.ports[k2] := by rw [hsl]; exact getI_nat hq2
        simp -implicitDefEqProofs only [m_spec_l11Ok_L2, m_spec_l11Ok_B2, dlt hk, cond_true, getI_lt hk, Option.bind_some, h1', cond_false, p_port xs _ hs, h2, e1, e2, h3']
  · intro g
    simp -implicitDefEqProofs only [m_spec_l11Ok_L2, m_spec_l11Ok_B2, dge, cond_false, m_spec_l11Ok_A2]
    rw [ck_ok (by omega), Option.bind_some]
theorem portsOk_p {xs : List DAgent} : (∀ i, i < xs.length → ∃ x, xs[i]? = some x ∧ ∀ k, k < x.ports.length → badPort xs ⟨i, k⟩ = false) ↔ PortsOk xs := by
  constructor
  · intro h i x hx k hk
    obtain ⟨y, hy, h1⟩ := h i (lt_of_some hx)
    rw [hx] at hy; injection hy with hy; subst hy; exact h1 k hk
  · intro h i hi
    exact ⟨xs[i], List.getElem?_eq_getElem hi, fun k hk => h i _ (List.getElem?_eq_getElem hi) k hk⟩
theorem validNet_iff {x : DNet} : validNet x = true ↔ AgentsOk x.agents ∧ PortsOk x.agents := by unfold validNet; simp
open Classical in
theorem p_ok (d : DNet) (hs : Small d.agents) : m_spec_l11Ok d = some (validNet d) := by
  obtain ⟨xs⟩ := d
  have hs : Small xs := hs
  unfold m_spec_l11Ok
  rw [p_agents xs hs.ports', Option.bind_some]
  cases hag : agentsOk xs with
  | false =>
    rw [cond_false]
    cases hv : validNet ⟨xs⟩ with
    | false => rfl
    | true => rw [agentsOk_iff.2 (validNet_iff.1 hv).1] at hag; cases hag
  | true =>
    rw [cond_true]
    have h := allO (L := m_spec_l11Ok_L1 ⟨xs⟩ m_spec_l11Ok_A1) (n := xs.length) (p := fun i => ∃ x, xs[i]? = some x ∧ ∀ k, k < x.ports.length → badPort xs ⟨i, k⟩ = false) (no := some false) (K := some true)
      (fun g i hi ⟨x, hx, hp⟩ => by
        simp -implicitDefEqProofs only [m_spec_l11Ok_L1, m_spec_l11Ok_B1, dlt hi, cond_true, getI_nat hx, Option.bind_some]
        rcases p_ok_inner hs hx (m_spec_l11Ok_L1 ⟨xs⟩ m_spec_l11Ok_A1 g) _ (Nat.lt_succ_self _) with ⟨_, h⟩ | ⟨hn, _⟩
        · exact h
        · exact absurd hp hn)
      (fun g i hi hn => by
        have hx := List.getElem?_eq_getElem hi
        simp -implicitDefEqProofs only [m_spec_l11Ok_L1, m_spec_l11Ok_B1, dlt hi, cond_true, getI_lt hi, Option.bind_some]
        rcases p_ok_inner hs hx (m_spec_l11Ok_L1 ⟨xs⟩ m_spec_l11Ok_A1 g) _ (Nat.lt_succ_self _) with ⟨hp, _⟩ | ⟨_, h⟩
        · exact absurd ⟨_, hx, hp⟩ hn
        · exact h)
      (fun g => by simp -implicitDefEqProofs only [m_spec_l11Ok_L1, m_spec_l11Ok_B1, dge, cond_false, m_spec_l11Ok_A1]) (xs.length + 1) (Nat.lt_succ_self _)
    rcases h with ⟨ha, h⟩ | ⟨ha, h⟩
    · rw [validNet_iff.2 ⟨agentsOk_iff.1 hag, portsOk_p.1 ha⟩]; exact h
    · cases hv : validNet ⟨xs⟩ with
      | false => exact h
      | true => exact absurd (portsOk_p.2 (validNet_iff.1 hv).2) ha
theorem agentPorts_len (i : Nat) (x : DAgent) : (agentPorts i x).length = x.ports.length := by simp [agentPorts]
theorem p_ports_inner {i : Nat} {x : DAgent} (rec : List DPort → Int → Option (List DPort)) (acc : List DPort) (hb : acc.length + x.ports.length ≤ 4294967296) (hi : (i : Int) < 9223372036854775807) (g : Nat) (hg : x.ports.length < g) :
    m_impl_Net_ports_L2 (i : Int) x (m_impl_Net_ports_A2 rec (i : Int)) g acc 0 = rec (acc ++ agentPorts i x) ((i : Int) + 1) := by
  have h := traj (L := fun g (s : List DPort × Int) => m_impl_Net_ports_L2 (i : Int) x (m_impl_Net_ports_A2 rec (i : Int)) g s.1 s.2) (st := fun k => (acc ++ (List.range k).map (fun (j : Nat) => (⟨i, j⟩ : DPort)), (k : Int))) (n := x.ports.length) (r := rec (acc ++ agentPorts i x) ((i : Int) + 1))
    (fun g k hk => by
      simp -implicitDefEqProofs only [m_impl_Net_ports_L2, m_impl_Net_ports_B2, dlt hk, cond_true]
      rw [mustP_ok (by simp; omega), Option.bind_some]
      rw [List.range_succ, List.map_append, List.append_assoc]
      simp only [List.map_cons, List.map_nil, Int.natCast_add, Int.cast_ofNat_Int])
    (fun g => by
      simp -implicitDefEqProofs only [m_impl_Net_ports_L2, m_impl_Net_ports_B2, dge, cond_false, m_impl_Net_ports_A2]
      rw [ck_ok (by omega), Option.bind_some, agentPorts]) g hg
  simpa using h
theorem p_ports (d : DNet) (hs : Small d.agents) : m_impl_Net_ports d = some (allPorts d.agents) := by
  obtain ⟨xs⟩ := d
  have hs : Small xs := hs
  have hl := hs.len
  have ha := hs.all
  unfold m_impl_Net_ports
  have h := traj (L := fun g (s : List DPort × Int) => m_impl_Net_ports_L1 ⟨xs⟩ m_impl_Net_ports_A1 g s.1 s.2) (st := fun k => (allPorts (xs.take k), (k : Int))) (n := xs.length) (r := some (allPorts xs))
    (fun g k hk => by
      have hx := List.getElem?_eq_getElem hk
      have hlen : (allPorts (xs.take (k + 1))).length ≤ (allPorts xs).length := by
        have : allPorts xs = portsFrom 0 (xs.take (k + 1) ++ xs.drop (k + 1)) := by rw [List.take_append_drop]; rfl
        rw [this, portsFrom_append, List.length_append]
        exact Nat.le_add_right _ _
      rw [allPorts_take hx, List.length_append, agentPorts_len] at hlen
      simp -implicitDefEqProofs only [m_impl_Net_ports_L1, m_impl_Net_ports_B1, dlt hk, cond_true, getI_lt hk, Option.bind_some]
      rw [p_ports_inner (m_impl_Net_ports_L1 ⟨xs⟩ m_impl_Net_ports_A1 g) _ (by omega) (by omega) _ (Nat.lt_succ_self _), allPorts_take hx]
      simp only [Int.natCast_add, Int.cast_ofNat_Int])
    (fun g => by
      simp -implicitDefEqProofs only [m_impl_Net_ports_L1, m_impl_Net_ports_B1, dge, cond_false, m_impl_Net_ports_A1, List.take_length]) (xs.length + 1) (Nat.lt_succ_self _)
  exact h
theorem p_index_port (d : List DPort) (p : DPort → Option Bool) (q : DPort → Bool) (h : ∀ x ∈ d, p x = some (q x)) : ∃ i, m_slices_IndexFunc_impl_Port_impl_Port d p = some i ∧ decide (i ≥ 0) = d.any q := by
  unfold m_slices_IndexFunc_impl_Port_impl_Port
  by_cases ha : ∃ k, k < d.length ∧ ∃ x, d[k]? = some x ∧ q x = true
  · obtain ⟨m, ⟨hm, x, hx, hq⟩, hl⟩ : ∃ m, (m < d.length ∧ ∃ x, d[m]? = some x ∧ q x = true) ∧ ∀ k, k < m → ∀ y, d[k]? = some y → q y = false := by
      obtain ⟨k0, hk0⟩ := ha
      induction k0 using Nat.strongRecOn with
      | _ k0 ih =>
        by_cases hh : ∃ k, k < k0 ∧ k < d.length ∧ ∃ x, d[k]? = some x ∧ q x = true
        · obtain ⟨k, hk, hk1⟩ := hh; exact ih k hk hk1
        · exact ⟨k0, hk0, fun k hk y hy => by
            cases hq : q y with
            | false => rfl
            | true => exact absurd ⟨k, hk, lt_of_some hy, y, hy, hq⟩ hh⟩
    refine ⟨m, ?_, ?_⟩
    · refine trajI (n := m) (fun g k hk => ?_) (fun g => ?_) _ (by omega)
      · have hkl : k < d.length := by omega
        have hy := List.getElem?_eq_getElem hkl
        simp [m_slices_IndexFunc_impl_Port_impl_Port_L1, m_slices_IndexFunc_impl_Port_impl_Port_B1, hkl, getI_lt hkl, h _ (List.getElem_mem hkl), hl k hk _ hy]
      · have hmem := List.mem_of_getElem? hx
        simp [m_slices_IndexFunc_impl_Port_impl_Port_L1, m_slices_IndexFunc_impl_Port_impl_Port_B1, hm, getI_nat hx, h _ hmem, hq]
    · have : d.any q = true := List.any_eq_true.2 ⟨x, List.mem_of_getElem? hx, hq⟩
      rw [this]; simp
  · refine ⟨-1, ?_, ?_⟩
    · refine trajI (n := d.length) (fun g k hk => ?_) (fun g => ?_) _ (by omega)
      · have hq : q d[k] = false := by
          cases hq : q d[k] with
          | false => rfl
          | true => exact absurd ⟨k, hk, _, List.getElem?_eq_getElem hk, hq⟩ ha
        simp [m_slices_IndexFunc_impl_Port_impl_Port_L1, m_slices_IndexFunc_impl_Port_impl_Port_B1, hk, getI_lt hk, h _ (List.getElem_mem hk), hq]
      · simp [m_slices_IndexFunc_impl_Port_impl_Port_L1, m_slices_IndexFunc_impl_Port_impl_Port_B1, m_slices_IndexFunc_impl_Port_impl_Port_A1]
    · have : d.any q = false := List.any_eq_false.2 fun x hx hq => by
        obtain ⟨k, hk, rfl⟩ := List.getElem_of_mem hx
        exact ha ⟨k, hk, _, List.getElem?_eq_getElem hk, hq⟩
      rw [this]; simp
theorem p_contains_port (d : List DPort) (p : DPort → Option Bool) (q : DPort → Bool) (h : ∀ x ∈ d, p x = some (q x)) : m_slices_ContainsFunc_impl_Port_impl_Port d p = some (d.any q) := by
  obtain ⟨i, h1, h2⟩ := p_index_port d p q h
  simp -implicitDefEqProofs only [m_slices_ContainsFunc_impl_Port_impl_Port, h1, Option.bind_some, h2]
theorem p_valid1 {xs : List DAgent} {p : DPort} (h : hasPort xs p = true) : m_impl_ValidNet_1 p ⟨xs⟩ = some (badPort xs p) := by
  unfold m_impl_ValidNet_1 badPort
  rw [p_peer h, Option.bind_some, port_eq]
  by_cases h1 : peer xs p = p
  · simp [h1]
  · cases h2 : hasPort xs (peer xs p) with
    | false => simp [h1, p_hasPort, h2]
    | true => simp [h1, p_hasPort, h2, p_peer h2, port_eq]
theorem p_valid (d : DNet) (hs : Small d.agents) : m_impl_ValidNet d = some (validNet d) := by
  obtain ⟨xs⟩ := d
  have hs : Small xs := hs
  unfold m_impl_ValidNet
  rw [p_areAgents xs hs.ports', Option.bind_some]
  cases hag : agentsOk xs with
  | false =>
    rw [cond_false]
    cases hv : validNet ⟨xs⟩ with
    | false => rfl
    | true => rw [agentsOk_iff.2 (validNet_iff.1 hv).1] at hag; cases hag
  | true =>
    rw [cond_true, p_ports _ hs, Option.bind_some]
    have hc := p_contains_port (allPorts xs) (fun x0 => m_impl_ValidNet_1 x0 ⟨xs⟩) (badPort xs) (fun p hp => by
      obtain ⟨j, x, k, h1, h2, rfl⟩ := mem_portsFrom.1 hp
      have hh := hasPort_of h1 h2
      simp only [Nat.zero_add]
      exact p_valid1 hh)
    rw [hc, Option.bind_some]
    congr 1
    rw [Bool.eq_iff_iff, validNet_iff, Bool.not_eq_true', any_allPorts]
    exact ⟨fun h => ⟨agentsOk_iff.1 hag, h⟩, fun h => h.2⟩
end
section
open Go.RowKit
set_option linter.unusedVariables false
set_option linter.unusedSimpArgs false
/-- A loop that appends f k at index k. -/
theorem appI {α ρ : Type} {L : Nat → List α → Int → Option ρ} {f : Nat → List α} {n M : Nat} {K : List α → Option ρ} (h : ∀ g (k : Nat) acc, k < n → acc.length + (f k).length ≤ M → L (g + 1) acc (k : Int) = L g (acc ++ f k) ((k : Int) + 1)) (he : ∀ g acc, L (g + 1) acc (n : Int) = K acc) :
    ∀ (k0 : Nat) acc g, k0 ≤ n → n < g + k0 → acc.length + ((List.range' k0 (n - k0)).flatMap f).length ≤ M → L g acc (k0 : Int) = K (acc ++ (List.range' k0 (n - k0)).flatMap f) := by
  have key : ∀ d k0 acc g, k0 + d = n → d < g → acc.length + ((List.range' k0 d).flatMap f).length ≤ M → L g acc (k0 : Int) = K (acc ++ (List.range' k0 d).flatMap f) := by
    intro d
    induction d with
    | zero =>
      intro k0 acc g hk hg hM
      obtain ⟨g, rfl⟩ : ∃ g', g = g' + 1 := ⟨g - 1, by omega⟩
      obtain rfl : k0 = n := by omega
      rw [he g]; simp
    | succ d ih =>
      intro k0 acc g hk hg hM
      obtain ⟨g, rfl⟩ : ∃ g', g = g' + 1 := ⟨g - 1, by omega⟩
      rw [List.range'_succ, List.flatMap_cons, List.length_append] at hM
      rw [h g k0 acc (by omega) (by omega)]
      have := ih (k0 + 1) (acc ++ f k0) g (by omega) (by omega) (by rw [List.length_append]; omega)
      rw [List.range'_succ, List.flatMap_cons, ← List.append_assoc]
      simpa using this
  intro k0 acc g hk hg hM
  exact key (n - k0) k0 acc g (by omega) (by omega) hM
theorem portsOf_kind {k f : Int} (h : 0 < portsOf k f) : 1 ≤ k ∧ k ≤ 12 := by
  unfold portsOf at h
  split at h
  · omega
  · split at h
    · omega
    · split at h
      · omega
      · split at h
        · omega
        · split at h <;> omega
structure Good (xs : List DAgent) : Prop where
  one : 1 ≤ xs.length
  len : xs.length ≤ 600
  ok : ∀ (i : Nat) (x : DAgent), xs[i]? = some x → agentOk x = true
  root : ∀ (i : Nat) (x : DAgent), xs[i]? = some x → (x.kind = 1 ↔ i = 0)
  ports : PortsOk xs
theorem good {d : DNet} (h : validNet d = true) : Good d.agents := by
  obtain ⟨⟨h1, h2, h3⟩, h4⟩ := validNet_iff.1 h
  exact ⟨h1, h2, fun i x hx => (h3 i x hx).1, fun i x hx => by have := (h3 i x hx).2; simpa using this, h4⟩
theorem agentOk_pos {x : DAgent} (h : agentOk x = true) : 0 < x.ports.length ∧ 1 ≤ x.kind ∧ x.kind ≤ 12 := by
  unfold agentOk at h
  simp only [Bool.and_eq_true, decide_eq_true_eq] at h
  have := portsOf_kind h.1.1.1
  omega
theorem Good.pos {xs : List DAgent} (G : Good xs) {i : Nat} {x : DAgent} (hx : xs[i]? = some x) : 0 < x.ports.length := (agentOk_pos (G.ok i x hx)).1
def before (p q : DPort) : Bool := decide (p.agent < q.agent) || (p.agent == q.agent && decide (p.slot < q.slot))
end
section
open Go.RowKit
set_option linter.unusedVariables false
set_option linter.unusedSimpArgs false
inductive OT where
  | nil | q (i : Nat) (r : OT) | a (i : Nat) (r : OT) | two (i : Nat) (r1 : OT) (j : Nat) (r2 : OT)
def OT.len : OT → Nat
  | .nil => 0
  | .q _ r => r.len + 1
  | .a _ r => r.len + 1
  | .two _ r1 _ _ => r1.len + 1
section
variable {P : Program} {ops : Array Oper} {S : World → Prop}
def ActAt (P : Program) (ops : Array Oper) (K : (Nat → Value) → World → Prop) (i : Nat) (f : Nat → Value) (w : World) : Prop :=
  match ops[i]? with
  | none => False
  | some o => (wantF f ops o = true ∧ OpX P (fun v w' => K (upo f o.dst v) w') ((execOp (ev f) o).run P w)) ∨ (wantF f ops o = false ∧ K (upo f o.dst undef) w)
def RT (P : Program) (ops : Array Oper) (S : World → Prop) (Q : (Nat → Value) → World → Prop) : OT → (Nat → Value) → World → Prop
  | .nil, f, w => Q f w
  | .q i r, f, w => match ops[i]? with
    | none => False
    | some o => ∃ v, ((wantF f ops o = true ∧ ∀ w, S w → (execOp (ev f) o).run P w = .ok (.value v) w) ∨ (wantF f ops o = false ∧ v = undef)) ∧ RT P ops S Q r (upo f o.dst v) w
  | .a i r, f, w => ActAt P ops (fun f' w' => S w' ∧ RT P ops S Q r f' w') i f w
  | .two i r1 j r2, f, w => ActAt P ops (fun f' w' => S w' ∧ RT P ops S Q r1 f' w') i f w ∧ ActAt P ops (fun f' w' => S w' ∧ RT P ops S Q r2 f' w') j f w
variable {Q : (Nat → Value) → World → Prop} {rest r2 : OT} {f : Nat → Value} {w : World} {i j : Nat} {o o2 : Oper}
theorem RT.y {v : Value} (ho : ops[i]? = some o) (hg : wantF f ops o = true) (hy : Y P S f o v) (h : RT P ops S Q rest (upo f o.dst v) w) : RT P ops S Q (.q i rest) f w := by
  unfold RT; rw [ho]; exact ⟨v, .inl ⟨hg, hy⟩, h⟩
theorem RT.skip (ho : ops[i]? = some o) (hg : wantF f ops o = false) (h : RT P ops S Q rest (upo f o.dst undef) w) : RT P ops S Q (.q i rest) f w := by
  unfold RT; rw [ho]; exact ⟨undef, .inr ⟨hg, rfl⟩, h⟩
theorem ActAt.of {K : (Nat → Value) → World → Prop} (ho : ops[i]? = some o) (h : RL P ops K [o] f w) : ActAt P ops K i f w := by
  unfold ActAt
  rw [ho]
  unfold RL at h
  exact h
end
end
section
open Go.RowKit
set_option linter.unusedVariables false
set_option linter.unusedSimpArgs false
/-- A loop over a list. -/
theorem foldL {α σ ρ : Type} {L : Nat → σ → Int → Option ρ} {d : List α} {f : σ → α → σ} {I : Nat → σ → Prop} {K : σ → Option ρ} (h : ∀ g (k : Nat) x s, d[k]? = some x → I k s → L (g + 1) s (k : Int) = L g (f s x) ((k : Int) + 1) ∧ I (k + 1) (f s x)) (he : ∀ g s, I d.length s → L (g + 1) s (d.length : Int) = K s) :
    ∀ (g : Nat) (s : σ), d.length < g → I 0 s → L g s 0 = K (d.foldl f s) ∧ I d.length (d.foldl f s) := by
  have key : ∀ (m k g : Nat) s, k + m = d.length → m < g → I k s → L g s (k : Int) = K ((d.drop k).foldl f s) ∧ I d.length ((d.drop k).foldl f s) := by
    intro m
    induction m with
    | zero =>
      intro k g s hk hg hI
      obtain ⟨g, rfl⟩ : ∃ g', g = g' + 1 := ⟨g - 1, by omega⟩
      obtain rfl : k = d.length := by omega
      rw [List.drop_length]
      exact ⟨he g s hI, hI⟩
    | succ m ih =>
      intro k g s hk hg hI
      obtain ⟨g, rfl⟩ : ∃ g', g = g' + 1 := ⟨g - 1, by omega⟩
      have hkl : k < d.length := by omega
      have hx := List.getElem?_eq_getElem hkl
      obtain ⟨h1, h2⟩ := h g k _ s hx hI
      rw [h1, List.drop_eq_getElem_cons hkl, List.foldl_cons]
      exact ih (k + 1) g _ (by omega) (by omega) h2
  intro g s hg hI
  have := key d.length 0 g s (by omega) hg hI
  simpa using this
end
section
open Go.RowKit Go.Maps
set_option linter.unusedVariables false
set_option linter.unusedSimpArgs false
set_option linter.unusedSectionVars false
/-- A map as data: how often it was written, and what it holds. -/
structure MapM (κ β : Type) where
  n : Nat
  get : κ → Option β
section
variable {κ β : Type}
def MapM.empty : MapM κ β := ⟨0, fun _ => none⟩
def MapM.put [DecidableEq κ] (m : MapM κ β) (x : κ) (v : β) : MapM κ β := ⟨m.n + 1, fun y => if y = x then some v else m.get y⟩
def MapM.look (m : MapM κ β) (x : κ) (z : β) : β := (m.get x).getD z
def rdVal (v : Value) : Option (DataW Value × List MemPlace) := some (.held v, [])
/-- A map type: its keys, its elements' zero value. -/
structure MapT (P : Program) (t k : TypeId) (key : κ → Value) (lit : κ → Lit) (good : κ → Prop) (z : Value) : Prop where
  keyed : Keyed P k
  ty : ∃ e, P.underlying t = some (.map k e) ∧ ∀ w, (zeroValue e).run P w = .ok z w
  of : ∀ x, good x → keyOf P k (key x) = some (lit x)
  inj : ∀ x y, lit x = lit y → x = y
def OwM (P : Program) (k : TypeId) (lit : κ → Lit) (enc : β → Value) (w : World) (lo b : Nat) (m : MapM κ β) : Prop :=
  lo ≤ b ∧ ∃ D, w.ownsMap P k rdVal b m.n D ∧ ∀ x zd, D.atKey (lit x) zd = match m.get x with | some v => .held (enc v) | none => zd
variable {P : Program} {t k : TypeId} {key : κ → Value} {lit : κ → Lit} {good : κ → Prop} {z : Value} {enc : β → Value} {w w' : World} {lo b : Nat} {m : MapM κ β}
theorem OwM.lt (h : OwM P k lit enc w lo b m) : b < w.heap.size := by obtain ⟨_, D, h, _⟩ := h; exact h.lt
theorem OwM.keep (h : OwM P k lit enc w lo b m) (hb : w'.heap[b]? = w.heap[b]?) : OwM P k lit enc w' lo b m := by
  obtain ⟨h0, D, ⟨es, clock, h1, F, hs, hD⟩, h2⟩ := h
  exact ⟨h0, D, ⟨es, clock, hb.trans h1, F, hs, hD⟩, h2⟩
theorem OwM.below (h : OwM P k lit enc w lo b m) (hb : Below w.heap.size w w') : OwM P k lit enc w' lo b m := h.keep (hb.block b h.lt)
theorem OwM.only {bs : List Nat} (h : OwM P k lit enc w lo b m) (ho : Only bs w w') (hn : b ∉ bs) : OwM P k lit enc w' lo b m := h.keep (ho.block b hn)
theorem OwM.grown {row : Option Nat} (h : OwM P k lit enc w lo b m) (hg : w.grownBy w' row) (hn : row ≠ some b) : OwM P k lit enc w' lo b m := h.keep (hg.block b h.lt (fun e => hn e.symm))
theorem OwM.lower {lo' : Nat} (h : OwM P k lit enc w lo b m) (hl : lo' ≤ lo) : OwM P k lit enc w lo' b m := ⟨Nat.le_trans hl h.1, h.2⟩
theorem OwM.new : OwM P k lit enc (w.alloc (.map #[] 0)) w.heap.size w.heap.size (MapM.empty : MapM κ β) :=
  ⟨Nat.le_refl _, .map [], World.ownsMap_made w P k rdVal, fun x zd => rfl⟩
theorem OwM.look {zb : β} (h : OwM P k lit enc w lo b m) (T : MapT P t k key lit good (enc zb)) {x : κ} (hx : good x) : (Instr.lookup t (.map (some b)) (key x) false).run P w = .ok (enc (m.look x zb)) w := by
  obtain ⟨_, D, h1, h2⟩ := h
  obtain ⟨e, ht, hz⟩ := T.ty
  obtain ⟨v, ps, hr, hv⟩ := h1.lookup T.keyed ht (hz w) (zd := .held (enc zb)) (zp := []) rfl (T.of x hx)
  rw [hr]
  have h3 := h2 x (.held (enc zb))
  rw [h3] at hv
  unfold MapM.look
  cases hg : m.get x with
  | none => rw [hg] at hv; simp only [rdVal, Option.some.injEq, Prod.mk.injEq, DataW.held.injEq] at hv; rw [hv.1]; rfl
  | some u => rw [hg] at hv; simp only [rdVal, Option.some.injEq, Prod.mk.injEq, DataW.held.injEq] at hv; rw [hv.1]; rfl
theorem OwM.set [DecidableEq κ] {v : β} (h : OwM P k lit enc w lo b m) (T : MapT P t k key lit good z) {x : κ} (hx : good x) (hn : m.n ≤ 4294967296) :
    ∃ w', (Instr.mapUpdate t (.map (some b)) (key x) (enc v)).run P w = .ok () w' ∧ OwM P k lit enc w' lo b (m.put x v) ∧ Only [b] w w' := by
  obtain ⟨h0, D, h1, h2⟩ := h
  obtain ⟨e, ht, hz⟩ := T.ty
  obtain ⟨w', hr, h3, h4⟩ := h1.store T.keyed ht (by unfold maxLen; omega) (T.of x hx) (d := .held (enc v)) (ps := []) rfl
  refine ⟨w', hr, ⟨h0, _, h3, fun y zd => ?_⟩, ?_⟩
  · unfold MapM.put
    by_cases hy : y = x
    · subst hy
      simp only [if_true]
      exact atKey_put_same h1.isMap (T.keyed.key (T.of y hx)) _ _
    · simp only [if_neg hy]
      rw [atKey_put_other (fun e => hy (T.inj _ _ e))]
      exact h2 y zd
  · obtain ⟨es, clock, es', clock', hb, rfl⟩ := h4
    refine ⟨rfl, rfl, rfl, by simp [ChangeMaps.setBlock], fun j hj => ?_⟩
    exact ChangeMaps.heap_setBlock_other hb _ (by simpa using hj)
end
section
variable {κ β : Type} [DecidableEq κ] {P : Program} {t k : TypeId} {key : κ → Value} {lit : κ → Lit} {good : κ → Prop} {enc : β → Value} {w : World} {lo b : Nat} {m : MapM κ β}
variable {C : World → Prop} {f : Nat → Value} {d : Option Tmp} {ty : TypeId} {pos : String} {af : Array Edge} {g : Option (Nat × Bool)} {x y u : Operand} {ops : Array Oper} {rest : List Oper} {Q : (Nat → Value) → World → Prop}
theorem Y.look {a : κ} {zb : β} (T : MapT P t k key lit good (enc zb)) (hx : ev f x = .map (some b)) (hy : ev f y = key a) (ha : good a) (hC : ∀ w, C w → OwM P k lit enc w lo b m) : Y P C f ⟨d, .lookup t x y false, ty, pos, af, g⟩ (enc (m.look a zb)) := fun w hw => by
  simp [execOp, hx, hy, (hC w hw).look T ha]
theorem RL.mapSet {a : κ} {v : β} {z : Value} (T : MapT P t k key lit good z) (hg : wantF f ops ⟨d, .mapUpdate t x y u, ty, pos, af, g⟩ = true) (hx : ev f x = .map (some b)) (hy : ev f y = key a) (hu : ev f u = enc v) (ha : good a) (hm : OwM P k lit enc w lo b m) (hn : m.n ≤ 4294967296)
    (h : ∀ w1, OwM P k lit enc w1 lo b (m.put a v) → Only [b] w w1 → RL P ops Q rest (upo f d undef) w1) : RL P ops Q (⟨d, .mapUpdate t x y u, ty, pos, af, g⟩ :: rest) f w := by
  refine .inl ⟨hg, ?_⟩
  obtain ⟨w1, hr, h1, h2⟩ := hm.set (v := v) T ha hn
  have hr : (execOp (ev f) ⟨d, .mapUpdate t x y u, ty, pos, af, g⟩).run P w = .ok .skip w1 := by simp [execOp, hx, hy, hu, hr]
  rw [hr]
  exact h _ h1 h2
theorem RL.mapIns {a : κ} {v : β} {z : Value} (T : MapT P t k key lit good z) (hg : wantF f ops ⟨d, .insert t x y u, ty, pos, af, g⟩ = true) (hx : ev f x = .map (some b)) (hy : ev f y = key a) (hu : ev f u = enc v) (ha : good a) (hm : OwM P k lit enc w lo b m) (hn : m.n ≤ 4294967296)
    (h : ∀ w1, OwM P k lit enc w1 lo b (m.put a v) → Only [b] w w1 → RL P ops Q rest (upo f d undef) w1) : RL P ops Q (⟨d, .insert t x y u, ty, pos, af, g⟩ :: rest) f w := by
  refine .inl ⟨hg, ?_⟩
  obtain ⟨w1, hr, h1, h2⟩ := hm.set (v := v) T ha hn
  have hr : (execOp (ev f) ⟨d, .insert t x y u, ty, pos, af, g⟩).run P w = .ok .skip w1 := by simp [execOp, hx, hy, hu, hr]
  rw [hr]
  exact h _ h1 h2
theorem RL.makeMap (k : TypeId) (lit : κ → Lit) (enc : β → Value) (hg : wantF f ops ⟨d, .makeMap t none, ty, pos, af, g⟩ = true)
    (h : ∀ w1, OwM P k lit enc w1 w.heap.size w.heap.size (MapM.empty : MapM κ β) → Below w.heap.size w w1 → w1.heap.size = w.heap.size + 1 → RL P ops Q rest (upo f d (.map (some w.heap.size))) w1) : RL P ops Q (⟨d, .makeMap t none, ty, pos, af, g⟩ :: rest) f w := by
  refine .inl ⟨hg, ?_⟩
  have hr : (execOp (ev f) ⟨d, .makeMap t none, ty, pos, af, g⟩).run P w = .ok (.value (.map (some w.heap.size))) (w.alloc (.map #[] 0)) := by
    simp [execOp, run_makeMap]
  rw [hr]
  exact h _ OwM.new (below_alloc _ _) (World.size_alloc _ _)
end
/-- Keys that are numbers. -/
def keyI (x : Int) : Value := .int .i64 x
def litI (x : Int) : Lit := .int .i64 x
def goodI (x : Int) : Prop := -9223372036854775808 ≤ x ∧ x ≤ 9223372036854775807
theorem goodI_wf {x : Int} (h : goodI x) : (Lit.int .i64 x).wf = true := by
  unfold goodI at h
  have h1 : IntKind.min .i64 = -9223372036854775808 := by decide
  have h2 : IntKind.max .i64 = 9223372036854775807 := by decide
  simp only [Lit.wf, h1, h2, Bool.and_eq_true, decide_eq_true_eq]
  exact h
theorem mapTI {P : Program} {t k e : TypeId} {z : Value} (hk : P.underlying k = some (.int .i64)) (ht : P.underlying t = some (.map k e)) (hz : (P.info? e).bind (·.zero) = some z) : MapT P t k keyI litI goodI z :=
  ⟨int_keyed hk, ⟨e, ht, fun w => by
    cases hi : P.info? e with
    | none => rw [hi] at hz; cases hz
    | some inf =>
      rw [hi] at hz
      simp only [Option.bind_some] at hz
      simp [zeroValue, typeInfo, hi, hz]⟩, fun x hx => keyOf_int_mk hk (goodI_wf hx), fun x y h => by unfold litI at h; injection h⟩
end
section
open Go.RowKit
set_option maxRecDepth 100000
def encVB (x : Bool) : Value := .bool x
theorem mt_int64_bool : MapT Try.prog 125 2 keyI litI goodI (.bool false) := mapTI (e := 4) Try.underlying2 Try.underlying125 (by kernel_rfl)
end
section
open Go.RowKit
set_option linter.unusedVariables false
set_option linter.unusedSimpArgs false
theorem php : ∀ (n : Nat) (l : List Nat), l.Nodup → (∀ x ∈ l, x < n) → l.length ≤ n
  | 0, l, _, h => by
    cases l with
    | nil => simp
    | cons x l => have := h x (by simp); omega
  | n + 1, l, hn, h => by
    by_cases hm : n ∈ l
    · have h1 := php n (l.erase n) (hn.erase n) (fun x hx => by
        have h2 := (hn.mem_erase_iff).1 hx
        have := h x h2.2
        have := h2.1
        omega)
      have := List.length_erase_of_mem hm
      omega
    · have := php n l hn (fun x hx => by
        have h1 := h x hx
        have : x ≠ n := fun e => hm (by rw [← e]; exact hx)
        omega)
      omega
theorem least {p : Nat → Prop} (h : ∃ n, p n) : ∃ n, p n ∧ ∀ k, k < n → ¬ p k := by
  obtain ⟨n, hn⟩ := h
  induction n using Nat.strongRecOn with
  | _ n ih =>
    by_cases h : ∃ k, k < n ∧ p k
    · obtain ⟨k, hk, hp⟩ := h; exact ih k hk hp
    · exact ⟨n, hn, fun k hk hp => h ⟨k, hk, hp⟩⟩
theorem steps {σ ρ : Type} {L : Nat → σ → Option ρ} {st : Nat → σ} : ∀ {n : Nat} (h : ∀ g k, k < n → L (g + 1) (st k) = L g (st (k + 1))) (g : Nat), L (g + n) (st 0) = L g (st n)
  | 0, h, g => rfl
  | n + 1, h, g => by
    rw [← h g n (by omega), ← steps (n := n) (fun g k hk => h g k (by omega)) (g + 1)]
    congr 1; omega
theorem Good.peer {xs : List DAgent} (G : Good xs) {p : DPort} (h : hasPort xs p = true) : hasPort xs (peer xs p) = true ∧ Go.Proofs.Ytebioddcnldjkaa.peer xs (Go.Proofs.Ytebioddcnldjkaa.peer xs p) = p ∧ Go.Proofs.Ytebioddcnldjkaa.peer xs p ≠ p := by
  obtain ⟨i, k, x, rfl, hx, hk, _⟩ := hasPort_at h
  have hb := G.ports i x hx k hk
  unfold badPort at hb
  simp only [Bool.or_eq_false_iff, Bool.not_eq_false', decide_eq_false_iff_not, decide_eq_true_eq] at hb
  exact ⟨hb.1.2, hb.2, hb.1.1⟩
theorem Good.zero {xs : List DAgent} (G : Good xs) {p : DPort} (h : hasPort xs p = true) : hasPort xs ⟨p.agent, 0⟩ = true := by
  obtain ⟨i, k, x, rfl, hx, hk, _⟩ := hasPort_at h
  exact hasPort_of (k := 0) hx (G.pos hx)
end
section
open Go.RowKit
set_option linter.unusedVariables false
set_option linter.unusedSimpArgs false
set_option maxRecDepth 100000
def m_spec_l12Traverse_A2 (xs27 : List Int) (xs28 : List Int) : Option ((List Int) × (List Int)) :=
  some (xs28, xs27)
def m_spec_l12Traverse_A3 (rec2 : List Int → List Int → Int → Option ((List Int) × (List Int))) (i32 : Int) (xs56 : List Int) (xs57 : List Int) : Option ((List Int) × (List Int)) :=
  ((ck (i32 + 1)).bind fun s59 => (rec2 xs56 xs57 s59))
def m_spec_l12Traverse_B3 (x43 : DAgent) (rec3 : List Int → List Int → Int → Option ((List Int) × (List Int))) (K3 : List Int → List Int → Option ((List Int) × (List Int))) (xs60 : List Int) (xs61 : List Int) (i62 : Int) : Option ((List Int) × (List Int)) :=
  (bif (decide (i62 < (x43.ports.length : Int))) then ((getI x43.ports i62).bind fun x65 => ((getI xs60 x65.agent).bind fun x76 => (bif (decide (x76 < 0)) then ((getI xs60 x65.agent).bind fun x85 => ((mustP (xs61.length + ([x65.agent]).length ≤ 4294967296)).bind fun _ => (rec3 (setI xs60 x65.agent (xs61.length : Int)) (xs61 ++ [x65.agent]) (i62 + 1)))) else (rec3 xs60 xs61 (i62 + 1))))) else (K3 xs60 xs61))
def m_spec_l12Traverse_L3 (x43 : DAgent) (K3 : List Int → List Int → Option ((List Int) × (List Int))) : Nat → List Int → List Int → Int → Option ((List Int) × (List Int))
  | 0, _, _, _ => none
  | g + 1, xs60, xs61, i62 => m_spec_l12Traverse_B3 x43 (m_spec_l12Traverse_L3 x43 K3 g) K3 xs60 xs61 i62
def m_spec_l12Traverse_B2 (d0 : DNet) (rec2 : List Int → List Int → Int → Option ((List Int) × (List Int))) (K2 : List Int → List Int → Option ((List Int) × (List Int))) (xs30 : List Int) (xs31 : List Int) (i32 : Int) : Option ((List Int) × (List Int)) :=
  (bif (decide (i32 < (xs31.length : Int))) then ((getI xs31 i32).bind fun x37 => ((getI d0.agents x37).bind fun x43 => (m_spec_l12Traverse_L3 x43 (m_spec_l12Traverse_A3 rec2 i32) (x43.ports.length + 1) xs30 xs31 0))) else (K2 xs30 xs31))
def m_spec_l12Traverse_L2 (d0 : DNet) (K2 : List Int → List Int → Option ((List Int) × (List Int))) : Nat → List Int → List Int → Int → Option ((List Int) × (List Int))
  | 0, _, _, _ => none
  | g + 1, xs30, xs31, i32 => m_spec_l12Traverse_B2 d0 (m_spec_l12Traverse_L2 d0 K2 g) K2 xs30 xs31 i32
def m_spec_l12Traverse_A1 (d0 : DNet) (d1 : Int) (xs8 : List Int) : Option ((List Int) × (List Int)) :=
  ((getI xs8 d1).bind fun x18 => (m_spec_l12Traverse_L2 d0 m_spec_l12Traverse_A2 (d0.agents.length + 2) (setI xs8 d1 0) ([d1]) 0))
def m_spec_l12Traverse_B1 (d0 : DNet) (rec1 : List Int → Int → Option ((List Int) × (List Int))) (K1 : List Int → Option ((List Int) × (List Int))) (xs110 : List Int) (i111 : Int) : Option ((List Int) × (List Int)) :=
  (bif (decide (i111 < (d0.agents.length : Int))) then ((mustP (xs110.length + ([(-1)]).length ≤ 4294967296)).bind fun _ => (rec1 (xs110 ++ [(-1)]) (i111 + 1))) else (K1 xs110))
def m_spec_l12Traverse_L1 (d0 : DNet) (K1 : List Int → Option ((List Int) × (List Int))) : Nat → List Int → Int → Option ((List Int) × (List Int))
  | 0, _, _ => none
  | g + 1, xs110, i111 => m_spec_l12Traverse_B1 d0 (m_spec_l12Traverse_L1 d0 K1 g) K1 xs110 i111
def m_spec_l12Traverse (d0 : DNet) (d1 : Int) : Option ((List Int) × (List Int)) :=
  (m_spec_l12Traverse_L1 d0 (m_spec_l12Traverse_A1 d0 d1) (d0.agents.length + 1) ([] : List Int) 0)
set_option maxHeartbeats 2000000 in
theorem c_m_spec_l12Traverse (d0 : DNet) (d1 : Int) (r : (List Int) × (List Int)) (hm : m_spec_l12Traverse d0 d1 = some r) (v0 : Value) (w : World) (hv0 : Pt netRd w v0 d0) :
    Calls Try.prog 45 #[v0, .int .i64 d1] w fun e w' => (∃ v0 v1, e = .returned (.tuple #[v0, v1]) ∧ OwF 2 encI 1 w' w.heap.size v0 r.1 ∧ OwF 2 encI 1 w' w.heap.size v1 r.2 ∧ Dj v0 v1) ∧ Below w.heap.size w w' := by
  obtain ⟨ba0, oa0, csa0, rfl, hba0, hRa0, hca0⟩ := hv0
  have hSa0 := hRa0
  obtain ⟨A1, n1, c1, rfl, ⟨h1, r1⟩⟩ := hRa0
  have e1 := h1.len; subst e1
  have q1 := len_le r1
  have T := Below.refl w.heap.size w
  unfold m_spec_l12Traverse at hm
  refine enter 79 Try.func45 rfl rfl rfl ?_
  intro f hf
  have s0 : f 0 = .pointer (some ⟨ba0, oa0, none⟩) := hf 0 _ rfl
  have s1 : f 1 = .int .i64 d1 := hf 1 _ rfl
  refine wp_seq ?_
  refine wp_rs rfl ?_
  refine RQ.y rfl (Y.assign (v := .slice none 0 0) rfl) ?_
  refine RQ.y rfl (Y.assign (v := .slice none 0 0) rfl) ?_
  refine RQ.nil ?_
  refine then_n ?_
  refine wp_seq ?_
  refine wp_rl rfl ?_
  refine RL.bslice (e := 2) (cells := #[]) rfl pm0 (by kernel_rfl) (fun w2 B3 hb4 szw2 => ?_)
  have ZB3 : w.heap.size ≤ w.heap.size := T.size
  have T := Tt T hb4
  have G6 := OwF.lit (enc := encI) (sz := 1) (xs := ([] : List Int)) B3 ZB3 rfl rfl rfl rfl
  refine RL.y rfl (Y.assign (v := .slice (some ⟨w.heap.size, 0, none⟩) 0 0) rfl) ?_
  refine RL.nil ?_
  refine then_n ?_
  refine wp_seq ?_
  refine wp_seq ?_
  refine wp_rs rfl ?_
  refine RQ.y rfl (Y.assign (v := .int .i64 0) rfl) ?_
  refine RQ.nil ?_
  refine then_n ?_
  refine wp_block ?_
  obtain ⟨K1, hK1, hm⟩ : ∃ K, K = (m_spec_l12Traverse_A1 d0 d1) ∧ m_spec_l12Traverse_L1 d0 K (d0.agents.length + 1) ([] : List Int) 0 = some r := ⟨_, rfl, hm⟩
  refine wp_loopX (fun g f w' => ∃ (xs110 : List Int) (i111 : Int) (uxs110 : Value), f 0 = .pointer (some ⟨ba0, oa0, none⟩) ∧ f 1 = .int .i64 d1 ∧ f 6 = uxs110 ∧ OwF 2 encI 1 w' w.heap.size uxs110 xs110 ∧ f 7 = .int .i64 i111 ∧ 0 ≤ i111 ∧ Below w.heap.size w w' ∧ m_spec_l12Traverse_L1 d0 K1 g xs110 i111 = some r) 0 (fun f w' => ∃ (xs8 : List Int) (uxs8 : Value), f 0 = .pointer (some ⟨ba0, oa0, none⟩) ∧ f 1 = .int .i64 d1 ∧ f 6 = uxs8 ∧ OwF 2 encI 1 w' w.heap.size uxs8 xs8 ∧ Below w.heap.size w w' ∧ m_spec_l12Traverse_A1 d0 d1 xs8 = some r) (d0.agents.length + 1) ⟨([] : List Int), 0, (.slice (some ⟨w.heap.size, 0, none⟩) 0 0), s0, s1, rfl, G6, rfl, (by omega), T, hm⟩ ?_ ?_
  · rintro f w9 ⟨xs8, uxs8, s0_1x, s1_1x, s6_1x, Gxs8, T, hm⟩
    unfold m_spec_l12Traverse_A1 at hm
    refine blk_hit (then_n ?_)
    refine wp_seq ?_
    refine wp_rl rfl ?_
    refine RL.y rfl (Y.move (v := .int .i64 d1) s1_1x) ?_
    refine RL.bslice (e := 2) (cells := #[.int .i64 d1]) rfl (pm1 rfl) (by kernel_rfl) (fun w10 B11 hb12 szw10 => ?_)
    have ZB11 : w.heap.size ≤ w9.heap.size := T.size
    have Do13_oxs8 := Dj.new (v := .slice (some ⟨w9.heap.size, 0, none⟩) 1 1) litGe (OwF.hi Gxs8)
    have Gxs8 := OwF.below Gxs8 hb12
    have T := Tt T hb12
    have G14 := OwF.lit (enc := encI) (sz := 1) (xs := [d1]) B11 ZB11 rfl rfl rfl rfl
    refine RL.y rfl (Y.assign (v := .slice (some ⟨w9.heap.size, 0, none⟩) 1 1) rfl) ?_
    refine RL.nil ?_
    refine then_n ?_
    refine wp_seq ?_
    refine wp_rl rfl ?_
    refine RL.y rfl (Y.move (v := uxs8) s6_1x) ?_
    refine RL.y rfl (Y.move (v := .int .i64 d1) s1_1x) ?_
    obtain ⟨A16, c17, rfl⟩ := OwF.form Gxs8
    have qbA16 := OwF.bound Gxs8
    obtain ⟨x18, hx20, hm⟩ := bnd hm
    obtain ⟨k19, hk21, hl22, hx20⟩ := getI_some hx20
    obtain ⟨b23, rfl⟩ := OwF.addr0 Gxs8 (by omega)
    refine RL.y rfl (Y.indexAddr (m := k19) (sz := 1) rfl rfl hk21 hl22 (by kernel_rfl)) ?_
    refine RL.storeF (k := k19) (a := 0) fI rfl rfl rfl Gxs8 hl22 rfl (by kernel_rfl) (fun w24 G25 ho26 => ?_)
    have szw24 := ho26.size
    have G14 := OwF.only G14 ho26 (fun e => Do13_oxs8 _ e rfl)
    have T := T.trans (ho26.below (by intro b hb; simp at hb; subst hb; exact OwF.lo_ Gxs8 _ rfl))
    have G25 : OwF 2 encI 1 w24 w.heap.size (.slice (some ⟨b23, 0, none⟩) xs8.length c17) (setI xs8 d1 0) := by rw [hk21, setI_nat]; exact G25
    refine RL.nil ?_
    refine then_n ?_
    refine wp_seq ?_
    refine wp_seq ?_
    refine wp_rs rfl ?_
    refine RQ.y rfl (Y.assign (v := .int .i64 0) rfl) ?_
    refine RQ.nil ?_
    refine then_n ?_
    refine wp_block ?_
    obtain ⟨K2, hK2, hm⟩ : ∃ K, K = m_spec_l12Traverse_A2 ∧ m_spec_l12Traverse_L2 d0 K (d0.agents.length + 2) (setI xs8 d1 0) ([d1]) 0 = some r := ⟨_, rfl, hm⟩
    refine wp_loopX (fun g f w' => ∃ (xs30 : List Int) (xs31 : List Int) (i32 : Int) (uxs30 : Value) (uxs31 : Value), f 0 = .pointer (some ⟨ba0, oa0, none⟩) ∧ f 6 = uxs30 ∧ OwF 2 encI 1 w' w.heap.size uxs30 xs30 ∧ f 8 = uxs31 ∧ OwF 2 encI 1 w' w.heap.size uxs31 xs31 ∧ f 9 = .int .i64 i32 ∧ 0 ≤ i32 ∧ Dj uxs31 uxs30 ∧ Below w.heap.size w w' ∧ m_spec_l12Traverse_L2 d0 K2 g xs30 xs31 i32 = some r) 2 (fun f w' => ∃ (xs27 : List Int) (xs28 : List Int) (uxs27 : Value) (uxs28 : Value), f 6 = uxs27 ∧ OwF 2 encI 1 w' w.heap.size uxs27 xs27 ∧ f 8 = uxs28 ∧ OwF 2 encI 1 w' w.heap.size uxs28 xs28 ∧ Dj uxs28 uxs27 ∧ Below w.heap.size w w' ∧ m_spec_l12Traverse_A2 xs27 xs28 = some r) (d0.agents.length + 2) ⟨(setI xs8 d1 0), ([d1]), 0, (.slice (some ⟨b23, 0, none⟩) xs8.length c17), (.slice (some ⟨w9.heap.size, 0, none⟩) 1 1), s0_1x, s6_1x, G25, rfl, G14, rfl, (by omega), Do13_oxs8, T, hm⟩ ?_ ?_
    · rintro f w29 ⟨xs27, xs28, uxs27, uxs28, s6_2x, Gxs27, s8_2x, Gxs28, Doxs28_oxs27, T, hm⟩
      unfold m_spec_l12Traverse_A2 at hm
      refine blk_hit (then_n ?_)
      refine wp_seq ?_
      refine wp_rs rfl ?_
      refine RQ.y rfl (Y.move (v := uxs28) s8_2x) ?_
      refine RQ.y rfl (Y.move (v := uxs27) s6_2x) ?_
      refine RQ.y rfl (Y.assign (v := uxs28) rfl) ?_
      refine RQ.y rfl (Y.assign (v := uxs27) rfl) ?_
      refine RQ.nil ?_
      refine then_n ?_
      refine wp_ret ?_
      obtain rfl := Option.some.inj hm
      exact (ret2 rfl rfl rfl rfl ⟨⟨_, _, rfl, Gxs28, Gxs27, Doxs28_oxs27⟩, T⟩)
    · rintro g f w33 ⟨xs30, xs31, i32, uxs30, uxs31, s0_2, s6_2, Gxs30, s8_2, Gxs31, s9_2, nn9_2, Doxs31_oxs30, T, hm⟩
      rcases g with _ | g
      · simp only [m_spec_l12Traverse_L2] at hm; cases hm
      obtain ⟨rec2, hrec2, hm⟩ : ∃ z, z = m_spec_l12Traverse_L2 d0 K2 g ∧ m_spec_l12Traverse_B2 d0 z K2 xs30 xs31 i32 = some r := ⟨_, rfl, hm⟩
      unfold m_spec_l12Traverse_B2 at hm
      refine wp_seq ?_
      refine wp_seq ?_
      refine wp_rs rfl ?_
      refine RQ.y rfl (Y.move (v := .int .i64 i32) s9_2) ?_
      refine RQ.y rfl (Y.move (v := uxs31) s8_2) ?_
      obtain ⟨A34, c35, rfl⟩ := OwF.form Gxs31
      have qbA34 := OwF.bound Gxs31
      refine RQ.y rfl (Y.len (by kernel_rfl) rfl) ?_
      refine RQ.y rfl (Y.binI (v := .bool (decide (i32 < (xs31.length : Int)))) rfl rfl rfl) ?_
      refine RQ.nil ?_
      refine then_n ?_
      rcases bcases (decide (i32 < (xs31.length : Int))) with c36 | c36
      · replace hm := cF c36 hm
        have pc36 := of_decide_eq_false c36
        refine cond_f rfl (vb rfl c36) ?_
        refine wp_exit ?_
        exact (then_x (then_x (hit_x ⟨_, rfl, ⟨xs30, xs31, (uxs30), (.slice A34 xs31.length c35), s6_2, Gxs30, s8_2, Gxs31, Doxs31_oxs30, T, (by rw [hK2] at hm; exact hm)⟩⟩)))
      · replace hm := cT c36 hm
        have pc36 := of_decide_eq_true c36
        refine cond_t rfl (vb rfl c36) ?_
        refine wp_skip ?_
        refine then_n ?_
        refine wp_seq ?_
        refine wp_block ?_
        refine wp_seq ?_
        refine wp_rbd (by kernel_rfl) (by kernel_rfl) ?_
        refine RQ.y rfl (Y.move (v := .pointer (some ⟨ba0, oa0, none⟩)) s0_2) ?_
        refine RQ.y rfl (Y.nilCheck rfl) ?_
        refine RQ.y rfl (Y.fieldAddr (off := 0) rfl (by kernel_rfl)) ?_
        refine RQ.y rfl (Y.load (v := .slice A1 d0.agents.length c1) rfl (by kernel_rfl) (beC (cellT T (hca0 0 _ rfl)))) ?_
        refine RQ.y rfl (Y.move (v := .slice A34 xs31.length c35) s8_2) ?_
        refine RQ.y rfl (Y.move (v := .int .i64 i32) s9_2) ?_
        obtain ⟨x37, hx39, hm⟩ := bnd hm
        obtain ⟨k38, hk40, hl41, hx39⟩ := getI_some hx39
        obtain ⟨b42, rfl⟩ := OwF.addr0 Gxs31 (by omega)
        refine RQ.y rfl (Y.indexAddr (m := k38) (sz := 1) rfl rfl hk40 hl41 (by kernel_rfl)) ?_
        refine RQ.y rfl (Y.load (v := .int .i64 x37) rfl (by kernel_rfl) (beC (OwF.cell fI Gxs31 hx39 (j := 0) rfl))) ?_
        obtain ⟨x43, hx46, hm⟩ := bnd hm
        obtain ⟨k44, hk47, hl48, hx46⟩ := getI_some hx46
        obtain ⟨b50, o51, rfl, hbb50⟩ := h1.addr (by omega)
        obtain ⟨cs45, hRcs45, hc49⟩ := h1.el hx46
        have hScs45 := hRcs45
        obtain ⟨A52, n52, c52, A53, n53, c53, rfl, ⟨h52, r52⟩, ⟨h53, r53⟩⟩ := hRcs45
        have e52 := h52.len; subst e52
        have q52 := len_le r52
        have e53 := h53.len; subst e53
        have q53 := len_le r53
        refine RQ.y rfl (Y.indexAddr (m := k44) (sz := 5) rfl rfl hk47 hl48 (by kernel_rfl)) ?_
        refine RQ.y rfl (Y.assign (v := .pointer (some ⟨b50, o51 + k44 * 5, none⟩)) rfl) ?_
        refine RQ.nil ?_
        intro w54 hb55
        have szw54 := hb55.size
        have Gxs30 := OwF.below Gxs30 hb55
        have Gxs31 := OwF.below Gxs31 hb55
        have T := Tt T hb55
        refine then_n ?_
        refine wp_seq ?_
        refine wp_rs rfl ?_
        refine RQ.y rfl (Y.assign (v := .int .i64 0) rfl) ?_
        refine RQ.nil ?_
        refine then_n ?_
        refine wp_block ?_
        obtain ⟨K3, hK3, hm⟩ : ∃ K, K = (m_spec_l12Traverse_A3 rec2 i32) ∧ m_spec_l12Traverse_L3 x43 K (x43.ports.length + 1) xs30 xs31 0 = some r := ⟨_, rfl, hm⟩
        refine wp_loopX (fun g f w' => ∃ (xs60 : List Int) (xs61 : List Int) (i62 : Int) (uxs60 : Value) (uxs61 : Value), f 0 = .pointer (some ⟨ba0, oa0, none⟩) ∧ f 9 = .int .i64 i32 ∧ f 10 = .pointer (some ⟨b50, o51 + k44 * 5, none⟩) ∧ f 6 = uxs60 ∧ OwF 2 encI 1 w' w.heap.size uxs60 xs60 ∧ f 8 = uxs61 ∧ OwF 2 encI 1 w' w.heap.size uxs61 xs61 ∧ f 11 = .int .i64 i62 ∧ 0 ≤ i62 ∧ Dj uxs61 uxs60 ∧ Below w.heap.size w w' ∧ m_spec_l12Traverse_L3 x43 K3 g xs60 xs61 i62 = some r) 4 (fun f w' => ∃ (xs56 : List Int) (xs57 : List Int) (uxs56 : Value) (uxs57 : Value), f 0 = .pointer (some ⟨ba0, oa0, none⟩) ∧ f 9 = .int .i64 i32 ∧ f 6 = uxs56 ∧ OwF 2 encI 1 w' w.heap.size uxs56 xs56 ∧ f 8 = uxs57 ∧ OwF 2 encI 1 w' w.heap.size uxs57 xs57 ∧ Dj uxs57 uxs56 ∧ Below w.heap.size w w' ∧ m_spec_l12Traverse_A3 rec2 i32 xs56 xs57 = some r) (x43.ports.length + 1) ⟨xs30, xs31, 0, (uxs30), (.slice (some ⟨b42, 0, none⟩) xs31.length c35), s0_2, s9_2, rfl, s6_2, Gxs30, s8_2, Gxs31, rfl, (by omega), Doxs31_oxs30, T, hm⟩ ?_ ?_
        · rintro f w58 ⟨xs56, xs57, uxs56, uxs57, s0_3x, s9_3x, s6_3x, Gxs56, s8_3x, Gxs57, Doxs57_oxs56, T, hm⟩
          unfold m_spec_l12Traverse_A3 at hm
          refine blk_hit (blk_n (then_n ?_))
          refine wp_rs rfl ?_
          refine RQ.y rfl (Y.move (v := .int .i64 i32) s9_3x) ?_
          obtain ⟨s59, ks59, hm⟩ := bnd hm
          replace ks59 := ck_some ks59
          refine RQ.y rfl (Y.binI (v := .int .i64 s59) rfl rfl (by rw [binI_add ks59.2, ks59.1])) ?_
          refine RQ.y rfl (Y.assign (v := .int .i64 s59) rfl) ?_
          refine RQ.nil ?_
          exact (then_n ⟨g, _, Nat.lt_succ_self _, rfl, ⟨xs56, xs57, s59, (uxs56), (uxs57), s0_3x, s6_3x, Gxs56, s8_3x, Gxs57, rfl, (by omega), Doxs57_oxs56, T, (by rw [← hrec2]; exact hm)⟩⟩)
        · rintro g f w63 ⟨xs60, xs61, i62, uxs60, uxs61, s0_3, s9_3, s10_3, s6_3, Gxs60, s8_3, Gxs61, s11_3, nn11_3, Doxs61_oxs60, T, hm⟩
          rcases g with _ | g
          · simp only [m_spec_l12Traverse_L3] at hm; cases hm
          obtain ⟨rec3, hrec3, hm⟩ : ∃ z, z = m_spec_l12Traverse_L3 x43 K3 g ∧ m_spec_l12Traverse_B3 x43 z K3 xs60 xs61 i62 = some r := ⟨_, rfl, hm⟩
          unfold m_spec_l12Traverse_B3 at hm
          refine wp_seq ?_
          refine wp_seq ?_
          refine wp_rs rfl ?_
          refine RQ.y rfl (Y.move (v := .int .i64 i62) s11_3) ?_
          refine RQ.y rfl (Y.move (v := .pointer (some ⟨b50, o51 + k44 * 5, none⟩)) s10_3) ?_
          refine RQ.y rfl (Y.nilCheck rfl) ?_
          refine RQ.y rfl (Y.fieldAddr (off := 4) rfl (by kernel_rfl)) ?_
          refine RQ.y rfl (Y.load (v := .slice A53 x43.ports.length c53) rfl (by kernel_rfl) (eqC (cellT T (hc49 4 _ rfl)))) ?_
          refine RQ.y rfl (Y.len (by kernel_rfl) rfl) ?_
          refine RQ.y rfl (Y.binI (v := .bool (decide (i62 < (x43.ports.length : Int)))) rfl rfl rfl) ?_
          refine RQ.nil ?_
          refine then_n ?_
          rcases bcases (decide (i62 < (x43.ports.length : Int))) with c64 | c64
          · replace hm := cF c64 hm
            have pc64 := of_decide_eq_false c64
            refine cond_f rfl (vb rfl c64) ?_
            refine wp_exit ?_
            exact (then_x (then_x (hit_x ⟨_, rfl, ⟨xs60, xs61, (uxs60), (uxs61), s0_3, s9_3, s6_3, Gxs60, s8_3, Gxs61, Doxs61_oxs60, T, (by rw [hK3] at hm; exact hm)⟩⟩)))
          · replace hm := cT c64 hm
            have pc64 := of_decide_eq_true c64
            refine cond_t rfl (vb rfl c64) ?_
            refine wp_skip ?_
            refine then_n ?_
            refine wp_seq ?_
            refine wp_block ?_
            refine wp_seq ?_
            refine wp_rs rfl ?_
            refine RQ.y rfl (Y.move (v := .pointer (some ⟨b50, o51 + k44 * 5, none⟩)) s10_3) ?_
            refine RQ.y rfl (Y.nilCheck rfl) ?_
            refine RQ.y rfl (Y.fieldAddr (off := 4) rfl (by kernel_rfl)) ?_
            refine RQ.y rfl (Y.load (v := .slice A53 x43.ports.length c53) rfl (by kernel_rfl) (eqC (cellT T (hc49 4 _ rfl)))) ?_
            refine RQ.y rfl (Y.move (v := .int .i64 i62) s11_3) ?_
            obtain ⟨x65, hx68, hm⟩ := bnd hm
            obtain ⟨k66, hk69, hl70, hx68⟩ := getI_some hx68
            obtain ⟨b72, o73, rfl, hbb72⟩ := h53.addr (by omega)
            obtain ⟨cs67, hRcs67, hc71⟩ := h53.el hx68
            have hScs67 := hRcs67
            obtain rfl := hRcs67
            refine RQ.y rfl (Y.indexAddr (m := k66) (sz := 2) rfl rfl hk69 hl70 (by kernel_rfl)) ?_
            refine RQ.y rfl (Y.fieldAddr (off := 0) rfl (by kernel_rfl)) ?_
            refine RQ.y rfl (Y.load (v := .int .i64 x65.agent) rfl (by kernel_rfl) (eqC (cellT T (hc71 0 _ rfl)))) ?_
            refine RQ.y rfl (Y.assign (v := .int .i64 x65.agent) rfl) ?_
            refine RQ.nil ?_
            refine then_n ?_
            refine wp_seq ?_
            refine wp_rs rfl ?_
            refine RQ.y rfl (Y.move (v := uxs60) s6_3) ?_
            refine RQ.y rfl (Y.move (v := .int .i64 x65.agent) rfl) ?_
            obtain ⟨A74, c75, rfl⟩ := OwF.form Gxs60
            have qbA74 := OwF.bound Gxs60
            obtain ⟨x76, hx78, hm⟩ := bnd hm
            obtain ⟨k77, hk79, hl80, hx78⟩ := getI_some hx78
            obtain ⟨b81, rfl⟩ := OwF.addr0 Gxs60 (by omega)
            refine RQ.y rfl (Y.indexAddr (m := k77) (sz := 1) rfl rfl hk79 hl80 (by kernel_rfl)) ?_
            refine RQ.y rfl (Y.load (v := .int .i64 x76) rfl (by kernel_rfl) (eqC (OwF.cell fI Gxs60 hx78 (j := 0) rfl))) ?_
            refine RQ.y rfl (Y.binI (v := .bool (decide (x76 < 0))) rfl rfl rfl) ?_
            refine RQ.nil ?_
            refine then_n ?_
            rcases bcases (decide (x76 < 0)) with c82 | c82
            · replace hm := cF c82 hm
              have pc82 := of_decide_eq_false c82
              refine cond_f rfl (vb rfl c82) ?_
              refine wp_skip ?_
              refine blk_n (then_n ?_)
              refine wp_rs rfl ?_
              refine RQ.y rfl (Y.move (v := .int .i64 i62) s11_3) ?_
              refine RQ.y rfl (Y.binI rfl rfl (binI_add (m := i62) (by omega))) ?_
              refine RQ.y rfl (Y.assign (v := .int .i64 (i62 + 1)) rfl) ?_
              refine RQ.nil ?_
              exact (then_n ⟨g, _, Nat.lt_succ_self _, rfl, ⟨xs60, xs61, (i62 + 1), (.slice (some ⟨b81, 0, none⟩) xs60.length c75), (uxs61), s0_3, s9_3, s10_3, s6_3, Gxs60, s8_3, Gxs61, rfl, (by omega), Doxs61_oxs60, T, (by rw [← hrec3]; exact hm)⟩⟩)
            · replace hm := cT c82 hm
              have pc82 := of_decide_eq_true c82
              refine cond_t rfl (vb rfl c82) ?_
              refine wp_seq ?_
              refine wp_rl rfl ?_
              refine RL.y rfl (Y.move (v := .slice (some ⟨b81, 0, none⟩) xs60.length c75) s6_3) ?_
              refine RL.y rfl (Y.move (v := .int .i64 x65.agent) rfl) ?_
              refine RL.y rfl (Y.move (v := uxs61) s8_3) ?_
              obtain ⟨A83, c84, rfl⟩ := OwF.form Gxs61
              have qbA83 := OwF.bound Gxs61
              refine RL.y rfl (Y.len (by kernel_rfl) rfl) ?_
              obtain ⟨x85, hx87, hm⟩ := bnd hm
              obtain ⟨k86, hk88, hl89, hx87⟩ := getI_some hx87
              refine RL.y rfl (Y.indexAddr (m := k86) (sz := 1) rfl rfl hk88 hl89 (by kernel_rfl)) ?_
              refine RL.storeF (k := k86) (a := (xs61.length : Int)) fI rfl rfl rfl Gxs60 hl89 rfl (by kernel_rfl) (fun w90 G91 ho92 => ?_)
              have szw90 := ho92.size
              have Gxs61 := OwF.only Gxs61 ho92 (fun e => Doxs61_oxs60 _ e rfl)
              have T := T.trans (ho92.below (by intro b hb; simp at hb; subst hb; exact OwF.lo_ Gxs60 _ rfl))
              have G91 : OwF 2 encI 1 w90 w.heap.size (.slice (some ⟨b81, 0, none⟩) xs60.length c75) (setI xs60 x65.agent (xs61.length : Int)) := by rw [hk88, setI_nat]; exact G91
              refine RL.nil ?_
              refine then_n ?_
              refine wp_rl rfl ?_
              refine RL.y rfl (Y.move (v := .slice A83 xs61.length c84) s8_3) ?_
              refine RL.y rfl (Y.move (v := .int .i64 x65.agent) rfl) ?_
              refine RL.bslice (e := 2) (cells := #[.int .i64 x65.agent]) rfl (pm1 rfl) (by kernel_rfl) (fun w93 B94 hb95 szw93 => ?_)
              have ZB94 : w.heap.size ≤ w90.heap.size := T.size
              have Do96_oxs60 := Dj.new (v := .slice (some ⟨w90.heap.size, 0, none⟩) 1 1) litGe (OwF.hi G91)
              have Do96_oxs61 := Dj.new (v := .slice (some ⟨w90.heap.size, 0, none⟩) 1 1) litGe (OwF.hi Gxs61)
              have G91 := OwF.below G91 hb95
              have Gxs61 := OwF.below Gxs61 hb95
              have T := Tt T hb95
              have G97 := OwF.lit (enc := encI) (sz := 1) (xs := [x65.agent]) B94 ZB94 rfl rfl rfl rfl
              obtain ⟨_, m99, hm⟩ := bnd hm
              have hk100 := mustP_some m99
              refine RL.append fI app_int64 rfl rfl rfl Gxs61 (OwF.arg fI G97) T.size hk100 (fun v101 w102 G103 hgr104 hbl105 hnb106 => ?_)
              have szw102 := hbl105.size
              have Do107_oxs60 := Dj.app Doxs61_oxs60 hnb106 (OwF.hi G91)
              have G91 := OwF.keptD G91 hgr104 (Dj.symm Doxs61_oxs60)
              have T := T.trans hbl105
              refine RL.y rfl (Y.assign (v := v101) rfl) ?_
              refine RL.nil ?_
              refine blk_n (then_n ?_)
              refine wp_rs rfl ?_
              refine RQ.y rfl (Y.move (v := .int .i64 i62) s11_3) ?_
              refine RQ.y rfl (Y.binI rfl rfl (binI_add (m := i62) (by omega))) ?_
              refine RQ.y rfl (Y.assign (v := .int .i64 (i62 + 1)) rfl) ?_
              refine RQ.nil ?_
              exact (then_n ⟨g, _, Nat.lt_succ_self _, rfl, ⟨(setI xs60 x65.agent (xs61.length : Int)), (xs61 ++ [x65.agent]), (i62 + 1), (.slice (some ⟨b81, 0, none⟩) xs60.length c75), (v101), s0_3, s9_3, s10_3, s6_3, G91, rfl, G103, rfl, (by omega), Do107_oxs60, T, (by rw [← hrec3]; exact hm)⟩⟩)
  · rintro g f w112 ⟨xs110, i111, uxs110, s0_1, s1_1, s6_1, Gxs110, s7_1, nn7_1, T, hm⟩
    rcases g with _ | g
    · simp only [m_spec_l12Traverse_L1] at hm; cases hm
    obtain ⟨rec1, hrec1, hm⟩ : ∃ z, z = m_spec_l12Traverse_L1 d0 K1 g ∧ m_spec_l12Traverse_B1 d0 z K1 xs110 i111 = some r := ⟨_, rfl, hm⟩
    unfold m_spec_l12Traverse_B1 at hm
    refine wp_seq ?_
    refine wp_seq ?_
    refine wp_rs rfl ?_
    refine RQ.y rfl (Y.move (v := .int .i64 i111) s7_1) ?_
    refine RQ.y rfl (Y.move (v := .pointer (some ⟨ba0, oa0, none⟩)) s0_1) ?_
    refine RQ.y rfl (Y.nilCheck rfl) ?_
    refine RQ.y rfl (Y.fieldAddr (off := 0) rfl (by kernel_rfl)) ?_
    refine RQ.y rfl (Y.load (v := .slice A1 d0.agents.length c1) rfl (by kernel_rfl) (eqC (cellT T (hca0 0 _ rfl)))) ?_
    refine RQ.y rfl (Y.len (by kernel_rfl) rfl) ?_
    refine RQ.y rfl (Y.binI (v := .bool (decide (i111 < (d0.agents.length : Int)))) rfl rfl rfl) ?_
    refine RQ.nil ?_
    refine then_n ?_
    rcases bcases (decide (i111 < (d0.agents.length : Int))) with c113 | c113
    · replace hm := cF c113 hm
      have pc113 := of_decide_eq_false c113
      refine cond_f rfl (vb rfl c113) ?_
      refine wp_exit ?_
      exact (then_x (then_x (hit_x ⟨_, rfl, ⟨xs110, (uxs110), s0_1, s1_1, s6_1, Gxs110, T, (by rw [hK1] at hm; exact hm)⟩⟩)))
    · replace hm := cT c113 hm
      have pc113 := of_decide_eq_true c113
      refine cond_t rfl (vb rfl c113) ?_
      refine wp_skip ?_
      refine then_n ?_
      refine wp_seq ?_
      refine wp_block ?_
      refine wp_rl rfl ?_
      refine RL.y rfl (Y.move (v := uxs110) s6_1) ?_
      refine RL.bslice (e := 2) (cells := #[.int .i64 (-1)]) rfl (pm1 rfl) (by kernel_rfl) (fun w114 B115 hb116 szw114 => ?_)
      have ZB115 : w.heap.size ≤ w112.heap.size := T.size
      have Do117_oxs110 := Dj.new (v := .slice (some ⟨w112.heap.size, 0, none⟩) 1 1) litGe (OwF.hi Gxs110)
      have Gxs110 := OwF.below Gxs110 hb116
      have T := Tt T hb116
      have G118 := OwF.lit (enc := encI) (sz := 1) (xs := [(-1)]) B115 ZB115 rfl rfl rfl rfl
      obtain ⟨_, m120, hm⟩ := bnd hm
      have hk121 := mustP_some m120
      refine RL.append fI app_int64 rfl rfl rfl Gxs110 (OwF.arg fI G118) T.size hk121 (fun v122 w123 G124 hgr125 hbl126 hnb127 => ?_)
      have szw123 := hbl126.size
      have T := T.trans hbl126
      refine RL.y rfl (Y.assign (v := v122) rfl) ?_
      refine RL.nil ?_
      refine blk_n (then_n ?_)
      refine wp_rs rfl ?_
      refine RQ.y rfl (Y.move (v := .int .i64 i111) s7_1) ?_
      refine RQ.y rfl (Y.binI rfl rfl (binI_add (m := i111) (by omega))) ?_
      refine RQ.y rfl (Y.assign (v := .int .i64 (i111 + 1)) rfl) ?_
      refine RQ.nil ?_
      exact (then_n ⟨g, _, Nat.lt_succ_self _, rfl, ⟨(xs110 ++ [(-1)]), (i111 + 1), (v122), s0_1, s1_1, rfl, G124, rfl, (by omega), T, (by rw [← hrec1]; exact hm)⟩⟩)
def m_impl_Net_traverse_A1 (xs18 : List Int) : Option (List Int) :=
  some xs18
def m_impl_Net_traverse_A2 (rec1 : List Int → Int → MapM Int Bool → Option (List Int)) (i21 : Int) (xs46 : List Int) (z47 : MapM Int Bool) : Option (List Int) :=
  ((ck (i21 + 1)).bind fun s49 => (rec1 xs46 s49 z47))
def m_impl_Net_traverse_B2 (x33 : DAgent) (rec2 : List Int → Int → MapM Int Bool → Option (List Int)) (K2 : List Int → MapM Int Bool → Option (List Int)) (xs50 : List Int) (i51 : Int) (z52 : MapM Int Bool) : Option (List Int) :=
  (bif (decide (i51 < (x33.ports.length : Int))) then ((getI x33.ports i51).bind fun x55 => ((ck x55.agent).bind fun _ => (bif (z52.look x55.agent false) then (rec2 xs50 (i51 + 1) z52) else ((ck x55.agent).bind fun _ => ((mustP (z52.n ≤ 4294967296)).bind fun _ => ((mustP (xs50.length + ([x55.agent]).length ≤ 4294967296)).bind fun _ => (rec2 (xs50 ++ [x55.agent]) (i51 + 1) (z52.put x55.agent true)))))))) else (K2 xs50 z52))
def m_impl_Net_traverse_L2 (x33 : DAgent) (K2 : List Int → MapM Int Bool → Option (List Int)) : Nat → List Int → Int → MapM Int Bool → Option (List Int)
  | 0, _, _, _ => none
  | g + 1, xs50, i51, z52 => m_impl_Net_traverse_B2 x33 (m_impl_Net_traverse_L2 x33 K2 g) K2 xs50 i51 z52
def m_impl_Net_traverse_B1 (d0 : DNet) (rec1 : List Int → Int → MapM Int Bool → Option (List Int)) (K1 : List Int → Option (List Int)) (xs20 : List Int) (i21 : Int) (z22 : MapM Int Bool) : Option (List Int) :=
  (bif (decide (i21 < (xs20.length : Int))) then ((getI xs20 i21).bind fun x27 => ((getI d0.agents x27).bind fun x33 => (m_impl_Net_traverse_L2 x33 (m_impl_Net_traverse_A2 rec1 i21) (x33.ports.length + 1) xs20 0 z22))) else (K1 xs20))
def m_impl_Net_traverse_L1 (d0 : DNet) (K1 : List Int → Option (List Int)) : Nat → List Int → Int → MapM Int Bool → Option (List Int)
  | 0, _, _, _ => none
  | g + 1, xs20, i21, z22 => m_impl_Net_traverse_B1 d0 (m_impl_Net_traverse_L1 d0 K1 g) K1 xs20 i21 z22
def m_impl_Net_traverse (d0 : DNet) (d1 : Int) : Option (List Int) :=
  ((ck d1).bind fun _ => ((mustP ((MapM.empty : MapM Int Bool).n ≤ 4294967296)).bind fun _ => (m_impl_Net_traverse_L1 d0 m_impl_Net_traverse_A1 (d0.agents.length + 2) ([d1]) 0 ((MapM.empty : MapM Int Bool).put d1 true))))
set_option maxHeartbeats 2000000 in
theorem c_m_impl_Net_traverse (d0 : DNet) (d1 : Int) (r : List Int) (hm : m_impl_Net_traverse d0 d1 = some r) (v0 : Value) (w : World) (hv0 : Pt netRd w v0 d0) :
    Calls Try.prog 75 #[v0, .int .i64 d1] w fun e w' => (∃ v, e = .returned v ∧ OwF 2 encI 1 w' w.heap.size v r) ∧ Below w.heap.size w w' := by
  obtain ⟨ba0, oa0, csa0, rfl, hba0, hRa0, hca0⟩ := hv0
  have hSa0 := hRa0
  obtain ⟨A1, n1, c1, rfl, ⟨h1, r1⟩⟩ := hRa0
  have e1 := h1.len; subst e1
  have q1 := len_le r1
  have T := Below.refl w.heap.size w
  unfold m_impl_Net_traverse at hm
  refine enter 52 Try.func75 rfl rfl rfl ?_
  intro f hf
  have s0 : f 0 = .pointer (some ⟨ba0, oa0, none⟩) := hf 0 _ rfl
  have s1 : f 1 = .int .i64 d1 := hf 1 _ rfl
  refine wp_seq ?_
  refine wp_rs rfl ?_
  refine RQ.y rfl (Y.assign (v := .slice none 0 0) rfl) ?_
  refine RQ.nil ?_
  refine then_n ?_
  refine wp_seq ?_
  refine wp_rl rfl ?_
  refine RL.y rfl (Y.move (v := .int .i64 d1) s1) ?_
  refine RL.bslice (e := 2) (cells := #[.int .i64 d1]) rfl (pm1 rfl) (by kernel_rfl) (fun w2 B3 hb4 szw2 => ?_)
  have ZB3 : w.heap.size ≤ w.heap.size := T.size
  have T := Tt T hb4
  have G6 := OwF.lit (enc := encI) (sz := 1) (xs := [d1]) B3 ZB3 rfl rfl rfl rfl
  refine RL.y rfl (Y.assign (v := .slice (some ⟨w.heap.size, 0, none⟩) 1 1) rfl) ?_
  refine RL.nil ?_
  refine then_n ?_
  refine wp_seq ?_
  refine wp_rl rfl ?_
  refine RL.makeMap (κ := Int) (β := Bool) 2 litI encVB rfl (fun w8 B9 hb10 szw8 => ?_)
  replace B9 := OwM.lower B9 T.size
  have No5_ob11 := OwF.far G6 (Nat.le_refl _)
  have G6 := OwF.below G6 hb10
  have T := Tt T hb10
  refine RL.y rfl (Y.move (v := .int .i64 d1) s1) ?_
  obtain ⟨_, kc12, hm⟩ := bnd hm
  replace kc12 := (ck_some kc12).2
  obtain ⟨_, m13, hm⟩ := bnd hm
  have hk14 := mustP_some m13
  refine RL.mapIns (a := d1) (v := true) (enc := encVB) mt_int64_bool rfl rfl rfl rfl kc12 B9 hk14 (fun w15 B16 ho17 => ?_)
  have szw15 := ho17.size
  have G6 := OwF.only G6 ho17 No5_ob11
  have T := T.trans (ho17.below (by intro b hb; simp at hb; subst hb; exact B9.1))
  refine RL.y rfl (Y.move (v := .map (some w2.heap.size)) rfl) ?_
  refine RL.y rfl (Y.assign (v := .map (some w2.heap.size)) rfl) ?_
  refine RL.nil ?_
  refine then_n ?_
  refine wp_seq ?_
  refine wp_seq ?_
  refine wp_rs rfl ?_
  refine RQ.y rfl (Y.assign (v := .int .i64 0) rfl) ?_
  refine RQ.nil ?_
  refine then_n ?_
  refine wp_block ?_
  obtain ⟨K1, hK1, hm⟩ : ∃ K, K = m_impl_Net_traverse_A1 ∧ m_impl_Net_traverse_L1 d0 K (d0.agents.length + 2) ([d1]) 0 ((MapM.empty : MapM Int Bool).put d1 true) = some r := ⟨_, rfl, hm⟩
  refine wp_loopX (fun g f w' => ∃ (xs20 : List Int) (i21 : Int) (z22 : MapM Int Bool) (uxs20 : Value), f 0 = .pointer (some ⟨ba0, oa0, none⟩) ∧ f 6 = .map (some w2.heap.size) ∧ f 5 = uxs20 ∧ OwF 2 encI 1 w' w.heap.size uxs20 xs20 ∧ f 7 = .int .i64 i21 ∧ 0 ≤ i21 ∧ OwM Try.prog 2 litI encVB w' w.heap.size w2.heap.size z22 ∧ Value.ownBlock uxs20 ≠ some w2.heap.size ∧ Below w.heap.size w w' ∧ m_impl_Net_traverse_L1 d0 K1 g xs20 i21 z22 = some r) 0 (fun f w' => ∃ (xs18 : List Int) (uxs18 : Value), f 5 = uxs18 ∧ OwF 2 encI 1 w' w.heap.size uxs18 xs18 ∧ Value.ownBlock uxs18 ≠ some w2.heap.size ∧ Below w.heap.size w w' ∧ m_impl_Net_traverse_A1 xs18 = some r) (d0.agents.length + 2) ⟨([d1]), 0, ((MapM.empty : MapM Int Bool).put d1 true), (.slice (some ⟨w.heap.size, 0, none⟩) 1 1), s0, rfl, rfl, G6, rfl, (by omega), B16, No5_ob11, T, hm⟩ ?_ ?_
  · rintro f w19 ⟨xs18, uxs18, s5_1x, Gxs18, Noxs18_ob11, T, hm⟩
    unfold m_impl_Net_traverse_A1 at hm
    refine blk_hit (then_n ?_)
    refine wp_seq ?_
    refine wp_rs rfl ?_
    refine RQ.y rfl (Y.move (v := uxs18) s5_1x) ?_
    refine RQ.y rfl (Y.assign (v := uxs18) rfl) ?_
    refine RQ.nil ?_
    refine then_n ?_
    refine wp_ret ?_
    obtain rfl := Option.some.inj hm
    exact (ret1 rfl rfl rfl ⟨⟨_, rfl, Gxs18⟩, T⟩)
  · rintro g f w23 ⟨xs20, i21, z22, uxs20, s0_1, s6_1, s5_1, Gxs20, s7_1, nn7_1, Bz22, Noxs20_ob11, T, hm⟩
    rcases g with _ | g
    · simp only [m_impl_Net_traverse_L1] at hm; cases hm
    obtain ⟨rec1, hrec1, hm⟩ : ∃ z, z = m_impl_Net_traverse_L1 d0 K1 g ∧ m_impl_Net_traverse_B1 d0 z K1 xs20 i21 z22 = some r := ⟨_, rfl, hm⟩
    unfold m_impl_Net_traverse_B1 at hm
    refine wp_seq ?_
    refine wp_seq ?_
    refine wp_rs rfl ?_
    refine RQ.y rfl (Y.move (v := .int .i64 i21) s7_1) ?_
    refine RQ.y rfl (Y.move (v := uxs20) s5_1) ?_
    obtain ⟨A24, c25, rfl⟩ := OwF.form Gxs20
    have qbA24 := OwF.bound Gxs20
    refine RQ.y rfl (Y.len (by kernel_rfl) rfl) ?_
    refine RQ.y rfl (Y.binI (v := .bool (decide (i21 < (xs20.length : Int)))) rfl rfl rfl) ?_
    refine RQ.nil ?_
    refine then_n ?_
    rcases bcases (decide (i21 < (xs20.length : Int))) with c26 | c26
    · replace hm := cF c26 hm
      have pc26 := of_decide_eq_false c26
      refine cond_f rfl (vb rfl c26) ?_
      refine wp_exit ?_
      exact (then_x (then_x (hit_x ⟨_, rfl, ⟨xs20, (.slice A24 xs20.length c25), s5_1, Gxs20, Noxs20_ob11, T, (by rw [hK1] at hm; exact hm)⟩⟩)))
    · replace hm := cT c26 hm
      have pc26 := of_decide_eq_true c26
      refine cond_t rfl (vb rfl c26) ?_
      refine wp_skip ?_
      refine then_n ?_
      refine wp_seq ?_
      refine wp_block ?_
      refine wp_seq ?_
      refine wp_rbd (by kernel_rfl) (by kernel_rfl) ?_
      refine RQ.y rfl (Y.move (v := .pointer (some ⟨ba0, oa0, none⟩)) s0_1) ?_
      refine RQ.y rfl (Y.nilCheck rfl) ?_
      refine RQ.y rfl (Y.fieldAddr (off := 0) rfl (by kernel_rfl)) ?_
      refine RQ.y rfl (Y.load (v := .slice A1 d0.agents.length c1) rfl (by kernel_rfl) (beC (cellT T (hca0 0 _ rfl)))) ?_
      refine RQ.y rfl (Y.move (v := .slice A24 xs20.length c25) s5_1) ?_
      refine RQ.y rfl (Y.move (v := .int .i64 i21) s7_1) ?_
      obtain ⟨x27, hx29, hm⟩ := bnd hm
      obtain ⟨k28, hk30, hl31, hx29⟩ := getI_some hx29
      obtain ⟨b32, rfl⟩ := OwF.addr0 Gxs20 (by omega)
      refine RQ.y rfl (Y.indexAddr (m := k28) (sz := 1) rfl rfl hk30 hl31 (by kernel_rfl)) ?_
      refine RQ.y rfl (Y.load (v := .int .i64 x27) rfl (by kernel_rfl) (beC (OwF.cell fI Gxs20 hx29 (j := 0) rfl))) ?_
      obtain ⟨x33, hx36, hm⟩ := bnd hm
      obtain ⟨k34, hk37, hl38, hx36⟩ := getI_some hx36
      obtain ⟨b40, o41, rfl, hbb40⟩ := h1.addr (by omega)
      obtain ⟨cs35, hRcs35, hc39⟩ := h1.el hx36
      have hScs35 := hRcs35
      obtain ⟨A42, n42, c42, A43, n43, c43, rfl, ⟨h42, r42⟩, ⟨h43, r43⟩⟩ := hRcs35
      have e42 := h42.len; subst e42
      have q42 := len_le r42
      have e43 := h43.len; subst e43
      have q43 := len_le r43
      refine RQ.y rfl (Y.indexAddr (m := k34) (sz := 5) rfl rfl hk37 hl38 (by kernel_rfl)) ?_
      refine RQ.y rfl (Y.fieldAddr (off := 4) rfl (by kernel_rfl)) ?_
      refine RQ.y rfl (Y.load (v := .slice A43 x33.ports.length c43) rfl (by kernel_rfl) (beC (cellT T (hc39 4 _ rfl)))) ?_
      refine RQ.y rfl (Y.len (by kernel_rfl) rfl) ?_
      refine RQ.y rfl (Y.move (v := .int .i64 0) rfl) ?_
      refine RQ.nil ?_
      intro w44 hb45
      have szw44 := hb45.size
      have Bz22 := OwM.below Bz22 hb45
      have Gxs20 := OwF.below Gxs20 hb45
      have T := Tt T hb45
      refine then_n ?_
      refine wp_block ?_
      obtain ⟨K2, hK2, hm⟩ : ∃ K, K = (m_impl_Net_traverse_A2 rec1 i21) ∧ m_impl_Net_traverse_L2 x33 K (x33.ports.length + 1) xs20 0 z22 = some r := ⟨_, rfl, hm⟩
      refine wp_loopX (fun g f w' => ∃ (xs50 : List Int) (i51 : Int) (z52 : MapM Int Bool) (uxs50 : Value), f 0 = .pointer (some ⟨ba0, oa0, none⟩) ∧ f 6 = .map (some w2.heap.size) ∧ f 7 = .int .i64 i21 ∧ f 31 = .slice A43 x33.ports.length c43 ∧ f 32 = .int .i64 (x33.ports.length : Int) ∧ f 5 = uxs50 ∧ OwF 2 encI 1 w' w.heap.size uxs50 xs50 ∧ f 33 = .int .i64 i51 ∧ 0 ≤ i51 ∧ OwM Try.prog 2 litI encVB w' w.heap.size w2.heap.size z52 ∧ Value.ownBlock uxs50 ≠ some w2.heap.size ∧ Below w.heap.size w w' ∧ m_impl_Net_traverse_L2 x33 K2 g xs50 i51 z52 = some r) 2 (fun f w' => ∃ (xs46 : List Int) (z47 : MapM Int Bool) (uxs46 : Value), f 0 = .pointer (some ⟨ba0, oa0, none⟩) ∧ f 6 = .map (some w2.heap.size) ∧ f 7 = .int .i64 i21 ∧ f 5 = uxs46 ∧ OwF 2 encI 1 w' w.heap.size uxs46 xs46 ∧ OwM Try.prog 2 litI encVB w' w.heap.size w2.heap.size z47 ∧ Value.ownBlock uxs46 ≠ some w2.heap.size ∧ Below w.heap.size w w' ∧ m_impl_Net_traverse_A2 rec1 i21 xs46 z47 = some r) (x33.ports.length + 1) ⟨xs20, 0, z22, (.slice (some ⟨b32, 0, none⟩) xs20.length c25), s0_1, s6_1, s7_1, rfl, rfl, s5_1, Gxs20, rfl, (by omega), Bz22, Noxs20_ob11, T, hm⟩ ?_ ?_
      · rintro f w48 ⟨xs46, z47, uxs46, s0_2x, s6_2x, s7_2x, s5_2x, Gxs46, Bz47, Noxs46_ob11, T, hm⟩
        unfold m_impl_Net_traverse_A2 at hm
        refine blk_hit (blk_n (then_n ?_))
        refine wp_rs rfl ?_
        refine RQ.y rfl (Y.move (v := .int .i64 i21) s7_2x) ?_
        obtain ⟨s49, ks49, hm⟩ := bnd hm
        replace ks49 := ck_some ks49
        refine RQ.y rfl (Y.binI (v := .int .i64 s49) rfl rfl (by rw [binI_add ks49.2, ks49.1])) ?_
        refine RQ.y rfl (Y.assign (v := .int .i64 s49) rfl) ?_
        refine RQ.nil ?_
        exact (then_n ⟨g, _, Nat.lt_succ_self _, rfl, ⟨xs46, s49, z47, (uxs46), s0_2x, s6_2x, s5_2x, Gxs46, rfl, (by omega), Bz47, Noxs46_ob11, T, (by rw [← hrec1]; exact hm)⟩⟩)
      · rintro g f w53 ⟨xs50, i51, z52, uxs50, s0_2, s6_2, s7_2, s31_2, s32_2, s5_2, Gxs50, s33_2, nn33_2, Bz52, Noxs50_ob11, T, hm⟩
        rcases g with _ | g
        · simp only [m_impl_Net_traverse_L2] at hm; cases hm
        obtain ⟨rec2, hrec2, hm⟩ : ∃ z, z = m_impl_Net_traverse_L2 x33 K2 g ∧ m_impl_Net_traverse_B2 x33 z K2 xs50 i51 z52 = some r := ⟨_, rfl, hm⟩
        unfold m_impl_Net_traverse_B2 at hm
        refine wp_seq ?_
        refine wp_rs rfl ?_
        refine RQ.y rfl (Y.binI (v := .bool (decide (i51 < (x33.ports.length : Int)))) s33_2 s32_2 rfl) ?_
        refine RQ.nil ?_
        refine then_n ?_
        refine wp_seq ?_
        rcases bcases (decide (i51 < (x33.ports.length : Int))) with c54 | c54
        · replace hm := cF c54 hm
          have pc54 := of_decide_eq_false c54
          refine cond_f rfl (vb rfl c54) ?_
          refine wp_exit ?_
          exact (then_x (then_x (hit_x ⟨_, rfl, ⟨xs50, z52, (uxs50), s0_2, s6_2, s7_2, s5_2, Gxs50, Bz52, Noxs50_ob11, T, (by rw [hK2] at hm; exact hm)⟩⟩)))
        · replace hm := cT c54 hm
          have pc54 := of_decide_eq_true c54
          refine cond_t rfl (vb rfl c54) ?_
          refine wp_skip ?_
          refine then_n ?_
          refine wp_seq ?_
          refine wp_block ?_
          refine wp_seq ?_
          refine wp_rl rfl ?_
          obtain ⟨x55, hx58, hm⟩ := bnd hm
          obtain ⟨k56, hk59, hl60, hx58⟩ := getI_some hx58
          obtain ⟨b62, o63, rfl, hbb62⟩ := h43.addr (by omega)
          obtain ⟨cs57, hRcs57, hc61⟩ := h43.el hx58
          have hScs57 := hRcs57
          obtain rfl := hRcs57
          refine RL.y rfl (Y.indexAddr (m := k56) (sz := 2) s31_2 s33_2 hk59 hl60 (by kernel_rfl)) ?_
          refine RL.y rfl (Y.loadN (cs := [.int .i64 x55.agent, .int .i64 x55.slot]) rfl (by kernel_rfl) (cells2 (eqC (cellT T (hc61 0 _ rfl))) (eqC (cellT T (hc61 1 _ rfl))))) ?_
          refine RL.alloc (z := .agg #[.int .i64 0, .int .i64 0]) rfl (by kernel_rfl) (fun w64 B65 hb66 szw64 => ?_)
          replace B65 : Blk w64 w53.heap.size 28 #[.int .i64 0, .int .i64 0] := B65
          have GB65 : w.heap.size ≤ w53.heap.size := T.size
          have Eob67_ob11 := Nat.ne_of_lt Bz52.lt
          have Noxs50_ob67 := OwF.far Gxs50 (Nat.le_refl _)
          have Bz52 := OwM.below Bz52 hb66
          have Gxs50 := OwF.below Gxs50 hb66
          have T := Tt T hb66
          refine RL.store (v := .agg #[.int .i64 x55.agent, .int .i64 x55.slot]) (cs' := #[.int .i64 x55.agent, .int .i64 x55.slot]) rfl rfl rfl B65 (by kernel_rfl) (by rfl) (by rfl) (by rfl) (fun w68 B69 ho70 => ?_)
          have szw68 := ho70.size
          have Bz52 := Bz52.only ho70 (by intro hin; simp at hin; exact Eob67_ob11 hin)
          have Gxs50 := OwF.only Gxs50 ho70 Noxs50_ob67
          have T := T.trans (ho70.below (by first | (simp; done) | (simp; omega)))
          refine RL.nil ?_
          refine then_n ?_
          refine wp_seq ?_
          refine wp_rs rfl ?_
          refine RQ.y rfl (Y.move (v := .map (some w2.heap.size)) s6_2) ?_
          refine RQ.y rfl (Y.fieldAddr (off := 0) rfl (by kernel_rfl)) ?_
          refine RQ.y rfl (Y.load (v := .int .i64 x55.agent) rfl (by kernel_rfl) (eqC (blkCell B69 (i := 0) rfl))) ?_
          obtain ⟨_, kc71, hm⟩ := bnd hm
          replace kc71 := (ck_some kc71).2
          refine RQ.y rfl (Y.look (zb := false) (a := x55.agent) mt_int64_bool rfl rfl kc71 (fun w' e => by rw [e]; exact Bz52)) ?_
          refine RQ.y rfl (Y.not (b' := (!(z52.look x55.agent false))) rfl rfl) ?_
          refine RQ.nil ?_
          refine then_n ?_
          rcases bcases (z52.look x55.agent false) with c72 | c72
          · replace hm := cF c72 hm
            refine cond_t rfl (vbn rfl c72 rfl) ?_
            refine wp_seq ?_
            refine wp_rl rfl ?_
            refine RL.y rfl (Y.move (v := .map (some w2.heap.size)) s6_2) ?_
            refine RL.y rfl (Y.fieldAddr (off := 0) rfl (by kernel_rfl)) ?_
            refine RL.y rfl (Y.load (v := .int .i64 x55.agent) rfl (by kernel_rfl) (eqC (blkCell B69 (i := 0) rfl))) ?_
            obtain ⟨_, kc73, hm⟩ := bnd hm
            replace kc73 := (ck_some kc73).2
            obtain ⟨_, m74, hm⟩ := bnd hm
            have hk75 := mustP_some m74
            refine RL.mapSet (a := x55.agent) (v := true) (enc := encVB) mt_int64_bool rfl rfl rfl rfl kc73 Bz52 hk75 (fun w76 B77 ho78 => ?_)
            have szw76 := ho78.size
            have B69 := B69.only_ ho78 (by intro hin; simp at hin; exact Eob67_ob11.symm hin)
            have Gxs50 := OwF.only Gxs50 ho78 Noxs50_ob11
            have T := T.trans (ho78.below (by intro b hb; simp at hb; subst hb; exact Bz52.1))
            refine RL.nil ?_
            refine then_n ?_
            refine wp_rl rfl ?_
            refine RL.y rfl (Y.move (v := uxs50) s5_2) ?_
            refine RL.y rfl (Y.fieldAddr (off := 0) rfl (by kernel_rfl)) ?_
            refine RL.y rfl (Y.load (v := .int .i64 x55.agent) rfl (by kernel_rfl) (eqC (blkCell B69 (i := 0) rfl))) ?_
            refine RL.bslice (e := 2) (cells := #[.int .i64 x55.agent]) rfl (pm1 rfl) (by kernel_rfl) (fun w79 B80 hb81 szw79 => ?_)
            have ZB80 : w.heap.size ≤ w76.heap.size := T.size
            have No82_ob11 := litNe (n := 1) (c := 1) B77.lt
            have No82_ob67 := litNe (n := 1) (c := 1) B69.lt
            have Do82_oxs50 := Dj.new (v := .slice (some ⟨w76.heap.size, 0, none⟩) 1 1) litGe (OwF.hi Gxs50)
            have B77 := OwM.below B77 hb81
            have B69 := blkT B69 hb81
            have Gxs50 := OwF.below Gxs50 hb81
            have T := Tt T hb81
            have G83 := OwF.lit (enc := encI) (sz := 1) (xs := [x55.agent]) B80 ZB80 rfl rfl rfl rfl
            obtain ⟨_, m85, hm⟩ := bnd hm
            have hk86 := mustP_some m85
            refine RL.append fI app_int64 rfl rfl rfl Gxs50 (OwF.arg fI G83) T.size hk86 (fun v87 w88 G89 hgr90 hbl91 hnb92 => ?_)
            have szw88 := hbl91.size
            have No93_ob11 := ne_app hnb92 Noxs50_ob11 B77.lt
            have No93_ob67 := ne_app hnb92 Noxs50_ob67 B69.lt
            have B77 := OwM.grown B77 hgr90 Noxs50_ob11
            have B69 := Blk.kept B69 hgr90 Noxs50_ob67
            have T := T.trans hbl91
            refine RL.y rfl (Y.assign (v := v87) rfl) ?_
            refine RL.nil ?_
            refine blk_n (then_n ?_)
            refine wp_rs rfl ?_
            refine RQ.y rfl (Y.binI s33_2 rfl (binI_add (m := i51) (by omega))) ?_
            refine RQ.y rfl (Y.move (v := .int .i64 (i51 + 1)) rfl) ?_
            refine RQ.nil ?_
            exact (then_n ⟨g, _, Nat.lt_succ_self _, rfl, ⟨(xs50 ++ [x55.agent]), (i51 + 1), (z52.put x55.agent true), (v87), s0_2, s6_2, s7_2, s31_2, s32_2, rfl, G89, rfl, (by omega), B77, No93_ob11, T, (by rw [← hrec2]; exact hm)⟩⟩)
          · replace hm := cT c72 hm
            refine cond_f rfl (vbn rfl c72 rfl) ?_
            refine wp_skip ?_
            refine blk_n (then_n ?_)
            refine wp_rs rfl ?_
            refine RQ.y rfl (Y.binI s33_2 rfl (binI_add (m := i51) (by omega))) ?_
            refine RQ.y rfl (Y.move (v := .int .i64 (i51 + 1)) rfl) ?_
            refine RQ.nil ?_
            exact (then_n ⟨g, _, Nat.lt_succ_self _, rfl, ⟨xs50, (i51 + 1), z52, (uxs50), s0_2, s6_2, s7_2, s31_2, s32_2, s5_2, Gxs50, rfl, (by omega), Bz52, Noxs50_ob11, T, (by rw [← hrec2]; exact hm)⟩⟩)
end
section
open Go.RowKit
set_option linter.unusedVariables false
set_option linter.unusedSimpArgs false
def visit (l : List Int) (a : Int) : List Int := if a ∈ l then l else l ++ [a]
def posOf (l : List Int) (a : Int) : Int := if a ∈ l then (l.idxOf a : Int) else -1
def atOf (n : Nat) (l : List Int) : List Int := (List.range n).map fun (i : Nat) => posOf l (i : Int)
structure GL (n : Nat) (l : List Int) : Prop where
  nd : l.Nodup
  inr : ∀ a ∈ l, 0 ≤ a ∧ a < n
theorem GL.len {n : Nat} {l : List Int} (h : GL n l) : l.length ≤ n := by
  have := php n (l.map Int.toNat) (by
    rw [List.nodup_iff_pairwise_ne, List.pairwise_map]
    refine (List.nodup_iff_pairwise_ne.1 h.nd).imp_of_mem ?_
    intro a b ha hb hab e
    have := h.inr a ha; have := h.inr b hb
    exact hab (by omega)) (fun x hx => by
    obtain ⟨a, ha, rfl⟩ := List.mem_map.1 hx
    have := h.inr a ha
    omega)
  simpa using this
theorem GL.add {n : Nat} {l : List Int} (h : GL n l) {a : Int} (h0 : 0 ≤ a) (h1 : a < n) (hn : a ∉ l) : GL n (l ++ [a]) :=
  ⟨List.nodup_append.2 ⟨h.nd, by simp, fun x hx y hy e => by simp at hy; subst hy; subst e; exact hn hx⟩, fun x hx => by
    rcases List.mem_append.1 hx with h2 | h2
    · exact h.inr x h2
    · simp at h2; subst h2; exact ⟨h0, h1⟩⟩
theorem GL.visit {n : Nat} {l : List Int} (h : GL n l) {a : Int} (h0 : 0 ≤ a) (h1 : a < n) : GL n (visit l a) := by
  unfold Go.Proofs.Ytebioddcnldjkaa.visit
  by_cases ha : a ∈ l
  · rw [if_pos ha]; exact h
  · rw [if_neg ha]; exact h.add h0 h1 ha
theorem posOf_add {l : List Int} {a b : Int} (hn : a ∉ l) : posOf (l ++ [a]) b = if b = a then (l.length : Int) else posOf l b := by
  unfold posOf
  by_cases hb : b = a
  · subst hb
    rw [if_pos (by simp), if_pos rfl, List.idxOf_append]
    simp [hn]
  · rw [if_neg hb]
    by_cases hl : b ∈ l
    · rw [if_pos (by simp [hl]), if_pos hl, List.idxOf_append]
      simp [hl]
    · rw [if_neg (by simp [hl, hb]), if_neg hl]
theorem atOf_get {n : Nat} {l : List Int} {a : Int} (h0 : 0 ≤ a) (h1 : a < n) : getI (atOf n l) a = some (posOf l a) := by
  obtain ⟨k, rfl⟩ := Int.eq_ofNat_of_zero_le h0
  refine getI_nat ?_
  unfold atOf
  rw [List.getElem?_map, List.getElem?_range (by omega)]
  rfl
theorem atOf_set {n : Nat} {l : List Int} {a : Int} (h0 : 0 ≤ a) (h1 : a < n) (hn : a ∉ l) : setI (atOf n l) a (l.length : Int) = atOf n (l ++ [a]) := by
  obtain ⟨k, rfl⟩ := Int.eq_ofNat_of_zero_le h0
  rw [setI_nat]
  apply List.ext_getElem?
  intro i
  unfold atOf
  rw [List.getElem?_set]
  by_cases hi : i < n
  · rw [List.getElem?_map, List.getElem?_map, List.getElem?_range hi]
    simp only [Option.map_some]
    rw [posOf_add hn]
    by_cases hk : k = i
    · subst hk
      simp [hi]
    · have : ¬ ((i : Int) = (k : Int)) := by omega
      rw [if_neg hk, if_neg this]
  · have : ¬ k = i := by omega
    rw [if_neg this, List.getElem?_map, List.getElem?_map, List.getElem?_eq_none (by simp; omega)]
    rfl
theorem posOf_neg {l : List Int} {a : Int} : decide (posOf l a < 0) = decide (a ∉ l) := by
  unfold posOf
  by_cases h : a ∈ l
  · simp [h]
  · simp [h]
def mOf (l : List Int) : MapM Int Bool := l.foldl (fun M a => M.put a true) MapM.empty
theorem mOf_add (l : List Int) (a : Int) : mOf (l ++ [a]) = (mOf l).put a true := by simp [mOf, List.foldl_append]
theorem mOf_ok (l : List Int) : (mOf l).n = l.length ∧ ∀ a, (mOf l).look a false = decide (a ∈ l) := by
  have key : ∀ (k : Nat) (l : List Int), l.length = k → (mOf l).n = l.length ∧ ∀ a, (mOf l).look a false = decide (a ∈ l) := by
    intro k
    induction k with
    | zero => intro l hl; obtain rfl := List.eq_nil_of_length_eq_zero hl; exact ⟨rfl, fun a => by simp [mOf, MapM.empty, MapM.look]⟩
    | succ k ih =>
      intro l hl
      obtain ⟨l', b, rfl⟩ : ∃ l' b, l = l' ++ [b] := by
        have : l ≠ [] := fun e => by rw [e] at hl; simp at hl
        exact ⟨l.dropLast, l.getLast this, (List.dropLast_concat_getLast this).symm⟩
      have hl' : l'.length = k := by simpa using hl
      obtain ⟨h1, h2⟩ := ih l' hl'
      rw [mOf_add]
      refine ⟨by show (mOf l').n + 1 = _; rw [h1]; simp, fun a => ?_⟩
      have h2 := h2 a
      by_cases ha : a = b
      · simp [MapM.look, MapM.put, ha]
      · simp only [MapM.look, MapM.put, if_neg ha] at h2 ⊢
        rw [h2]; simp [ha]
  exact key l.length l rfl
/-- The ports of a valid net lead to agents. -/
theorem Good.to {xs : List DAgent} (G : Good xs) {i : Nat} {x : DAgent} (hx : xs[i]? = some x) {k : Nat} {p : DPort} (hp : x.ports[k]? = some p) : 0 ≤ p.agent ∧ p.agent < xs.length := by
  have h := (G.peer (hasPort_of hx (lt_of_some hp))).1
  rw [peer_of hx hp] at h
  obtain ⟨j, s, y, rfl, hy, _⟩ := hasPort_at h
  have := lt_of_some hy
  simp only
  omega
def visits (l : List Int) (x : DAgent) : List Int := x.ports.foldl (fun l p => visit l p.agent) l
theorem spec_inner {xs : List DAgent} (G : Good xs) {i : Nat} {x : DAgent} (hx : xs[i]? = some x) (K : List Int → List Int → Option (List Int × List Int)) {l : List Int} (hl : GL xs.length l) (g : Nat) (hg : x.ports.length < g) :
    m_spec_l12Traverse_L3 x K g (atOf xs.length l) l 0 = K (atOf xs.length (visits l x)) (visits l x) ∧ GL xs.length (visits l x) := by
  have hn := G.len
  exact foldL (L := fun g s k => m_spec_l12Traverse_L3 x K g (atOf xs.length s) s k) (d := x.ports) (f := fun l p => visit l p.agent) (I := fun _ s => GL xs.length s) (K := fun s => K (atOf xs.length s) s)
    (fun g k p s hp hs => by
      have hk := lt_of_some hp
      obtain ⟨h0, h1⟩ := G.to hx hp
      have hlen := hs.len
      refine ⟨?_, hs.visit h0 h1⟩
      simp -implicitDefEqProofs only [m_spec_l12Traverse_L3, m_spec_l12Traverse_B3, dlt hk, cond_true, getI_nat hp, Option.bind_some, atOf_get h0 h1, posOf_neg]
      unfold visit
      by_cases ha : p.agent ∈ s
      · rw [show decide (p.agent ∉ s) = false by simpa using ha, cond_false, if_pos ha]
      · rw [show decide (p.agent ∉ s) = true by simpa using ha, cond_true, if_neg ha, mustP_ok (by simp; omega), Option.bind_some, atOf_set h0 h1 ha])
    (fun g s _ => by
      simp -implicitDefEqProofs only [m_spec_l12Traverse_L3, m_spec_l12Traverse_B3, dge, cond_false])
    g l hg hl
theorem impl_inner {xs : List DAgent} (G : Good xs) {i : Nat} {x : DAgent} (hx : xs[i]? = some x) (K : List Int → MapM Int Bool → Option (List Int)) {l : List Int} (hl : GL xs.length l) (g : Nat) (hg : x.ports.length < g) :
    m_impl_Net_traverse_L2 x K g l 0 (mOf l) = K (visits l x) (mOf (visits l x)) := by
  have hn := G.len
  exact (foldL (L := fun g s k => m_impl_Net_traverse_L2 x K g s k (mOf s)) (d := x.ports) (f := fun l p => visit l p.agent) (I := fun _ s => GL xs.length s) (K := fun s => K s (mOf s))
    (fun g k p s hp hs => by
      have hk := lt_of_some hp
      obtain ⟨h0, h1⟩ := G.to hx hp
      have hlen := hs.len
      have hm := mOf_ok s
      refine ⟨?_, hs.visit h0 h1⟩
      simp -implicitDefEqProofs only [m_impl_Net_traverse_L2, m_impl_Net_traverse_B2, dlt hk, cond_true, getI_nat hp, Option.bind_some, hm.2]
      rw [ck_ok (by omega), Option.bind_some]
      unfold visit
      by_cases ha : p.agent ∈ s
      · rw [decide_eq_true ha, cond_true, if_pos ha]
      · rw [decide_eq_false ha, cond_false, if_neg ha, Option.bind_some, mustP_ok (by rw [hm.1]; omega), Option.bind_some, mustP_ok (by simp; omega), Option.bind_some, mOf_add])
    (fun g s _ => by
      simp -implicitDefEqProofs only [m_impl_Net_traverse_L2, m_impl_Net_traverse_B2, dge, cond_false])
    g l hg hl).1
/-- The list after k agents have been looked at. -/
def tr (xs : List DAgent) (s : Int) : Nat → List Int
  | 0 => [s]
  | k + 1 => match (tr xs s k)[k]? with
    | none => tr xs s k
    | some a => visits (tr xs s k) (agentAt xs a)
theorem tr_ok {xs : List DAgent} (G : Good xs) {s : Int} (h0 : 0 ≤ s) (h1 : s < xs.length) : ∀ k, GL xs.length (tr xs s k)
  | 0 => ⟨by simp [tr], fun a ha => by simp [tr] at ha; subst ha; exact ⟨h0, h1⟩⟩
  | k + 1 => by
    have ih := tr_ok G h0 h1 k
    show GL xs.length (match (tr xs s k)[k]? with | none => tr xs s k | some a => visits (tr xs s k) (agentAt xs a))
    cases h : (tr xs s k)[k]? with
    | none => exact ih
    | some a =>
      simp only
      obtain ⟨ha0, ha1⟩ := ih.inr a (List.mem_of_getElem? h)
      obtain ⟨j, rfl⟩ := Int.eq_ofNat_of_zero_le ha0
      have hx := List.getElem?_eq_getElem (show j < xs.length by omega)
      rw [agentAt_nat hx]
      unfold visits
      have : ∀ (ps : List DPort), (∀ p ∈ ps, 0 ≤ p.agent ∧ p.agent < xs.length) → ∀ l, GL xs.length l → GL xs.length (ps.foldl (fun l p => visit l p.agent) l) := by
        intro ps
        induction ps with
        | nil => intro _ l hl; exact hl
        | cons p ps ih2 =>
          intro hps l hl
          rw [List.foldl_cons]
          exact ih2 (fun q hq => hps q (by simp [hq])) _ (hl.visit (hps p (by simp)).1 (hps p (by simp)).2)
      refine this _ (fun p hp => ?_) _ ih
      obtain ⟨k', hk', rfl⟩ := List.getElem_of_mem hp
      exact G.to hx (List.getElem?_eq_getElem hk')
theorem tr_end {xs : List DAgent} (G : Good xs) {s : Int} (h0 : 0 ≤ s) (h1 : s < xs.length) : ∃ K, K ≤ xs.length ∧ (tr xs s K).length ≤ K ∧ ∀ k, k < K → k < (tr xs s k).length := by
  obtain ⟨K, h2, h3⟩ := least (p := fun K => (tr xs s K).length ≤ K) ⟨xs.length, (tr_ok G h0 h1 _).len⟩
  refine ⟨K, ?_, h2, fun k hk => by have := h3 k hk; omega⟩
  apply Classical.byContradiction
  intro hn
  exact h3 xs.length (by omega) (tr_ok G h0 h1 _).len
theorem tr_step {xs : List DAgent} {s : Int} {k : Nat} {a : Int} (h : (tr xs s k)[k]? = some a) : tr xs s (k + 1) = visits (tr xs s k) (agentAt xs a) := by
  show (match (tr xs s k)[k]? with | none => tr xs s k | some a => visits (tr xs s k) (agentAt xs a)) = _
  rw [h]
theorem tr_stable {xs : List DAgent} {s : Int} {K : Nat} (h : (tr xs s K).length ≤ K) : ∀ m, tr xs s (K + m) = tr xs s K
  | 0 => rfl
  | m + 1 => by
    have ih := tr_stable h m
    show (match (tr xs s (K + m))[K + m]? with | none => tr xs s (K + m) | some a => visits (tr xs s (K + m)) (agentAt xs a)) = _
    rw [ih, List.getElem?_eq_none (by omega)]
theorem flat_one {α β : Type} (c : β) (l : List α) : l.flatMap (fun _ => [c]) = l.map (fun _ => c) := by
  induction l with
  | nil => rfl
  | cons x l ih => rw [List.flatMap_cons, ih]; rfl
theorem p_sTraverse {xs : List DAgent} (G : Good xs) {s : Int} (h0 : 0 ≤ s) (h1 : s < xs.length) : m_spec_l12Traverse ⟨xs⟩ s = some (tr xs s xs.length, atOf xs.length (tr xs s xs.length)) := by
  have hn := G.len
  obtain ⟨K, hK, hK1, hK2⟩ := tr_end G h0 h1
  have hfin : tr xs s xs.length = tr xs s K := by
    have := tr_stable hK1 (xs.length - K)
    rw [show K + (xs.length - K) = xs.length by omega] at this
    exact this
  have hinit : (List.range' 0 (xs.length - 0)).flatMap (fun _ => [(-1 : Int)]) = atOf xs.length [] := by
    rw [flat_one, Nat.sub_zero, ← List.range_eq_range']
    unfold atOf posOf
    simp
  have key := appI (L := m_spec_l12Traverse_L1 ⟨xs⟩ (m_spec_l12Traverse_A1 ⟨xs⟩ s)) (f := fun _ => [(-1 : Int)]) (n := xs.length) (M := 4294967296) (K := m_spec_l12Traverse_A1 ⟨xs⟩ s)
    (fun g k acc hk hM => by
      simp -implicitDefEqProofs only [m_spec_l12Traverse_L1, m_spec_l12Traverse_B1, dlt hk, cond_true]
      rw [mustP_ok hM, Option.bind_some])
    (fun g acc => by simp -implicitDefEqProofs only [m_spec_l12Traverse_L1, m_spec_l12Traverse_B1, dge, cond_false])
    0 [] (xs.length + 1) (by omega) (by omega) (by rw [hinit]; simp [atOf]; omega)
  rw [hinit, List.nil_append] at key
  have hstep := steps (L := fun g (q : List Int × Int) => m_spec_l12Traverse_L2 ⟨xs⟩ m_spec_l12Traverse_A2 g (atOf xs.length q.1) q.1 q.2) (st := fun k => (tr xs s k, (k : Int))) (n := K)
    (fun g k hk => by
      have hlt := hK2 k hk
      have ha := List.getElem?_eq_getElem hlt
      obtain ⟨a0, a1⟩ := (tr_ok G h0 h1 k).inr _ (List.getElem_mem hlt)
      obtain ⟨j, hj⟩ := Int.eq_ofNat_of_zero_le a0
      have hjl : j < xs.length := by omega
      have hx := List.getElem?_eq_getElem hjl
      rw [hj] at ha
      have hstep := tr_step ha
      rw [agentAt_nat hx] at hstep
      have inner := (spec_inner G hx (m_spec_l12Traverse_A3 (m_spec_l12Traverse_L2 ⟨xs⟩ m_spec_l12Traverse_A2 g) (k : Int)) (tr_ok G h0 h1 k) (xs[j].ports.length + 1) (Nat.lt_succ_self _)).1
      simp -implicitDefEqProofs only [m_spec_l12Traverse_L2, m_spec_l12Traverse_B2, dlt hlt, cond_true, getI_nat ha, getI_nat hx, Option.bind_some]
      rw [inner, m_spec_l12Traverse_A3, ck_ok (by omega), Option.bind_some, hstep]
      simp only [Int.natCast_add, Int.cast_ofNat_Int]) (xs.length + 2 - K)
  have hcon : xs.length + 2 - K + K = xs.length + 2 := by omega
  rw [hcon] at hstep
  have hend : ∀ g, m_spec_l12Traverse_L2 ⟨xs⟩ m_spec_l12Traverse_A2 (g + 1) (atOf xs.length (tr xs s K)) (tr xs s K) (K : Int) = some (tr xs s K, atOf xs.length (tr xs s K)) := by
    intro g
    have : decide ((K : Int) < ((tr xs s K).length : Int)) = false := by simp; omega
    simp -implicitDefEqProofs only [m_spec_l12Traverse_L2, m_spec_l12Traverse_B2, this, cond_false, m_spec_l12Traverse_A2]
  unfold m_spec_l12Traverse
  refine key.trans ?_
  unfold m_spec_l12Traverse_A1
  rw [atOf_get h0 h1, Option.bind_some]
  have hs := atOf_set (l := []) h0 h1 (by simp)
  have hs : setI (atOf xs.length []) s 0 = atOf xs.length [s] := hs
  rw [hs]
  refine Eq.trans hstep ?_
  obtain ⟨g', hg'⟩ : ∃ g', xs.length + 2 - K = g' + 1 := ⟨xs.length + 1 - K, by omega⟩
  rw [hg', hfin]
  exact hend g'
theorem p_iTraverse {xs : List DAgent} (G : Good xs) {s : Int} (h0 : 0 ≤ s) (h1 : s < xs.length) : m_impl_Net_traverse ⟨xs⟩ s = some (tr xs s xs.length) := by
  have hn := G.len
  obtain ⟨K, hK, hK1, hK2⟩ := tr_end G h0 h1
  have hfin : tr xs s xs.length = tr xs s K := by
    have := tr_stable hK1 (xs.length - K)
    rw [show K + (xs.length - K) = xs.length by omega] at this
    exact this
  have hstep := steps (L := fun g (q : List Int × Int) => m_impl_Net_traverse_L1 ⟨xs⟩ m_impl_Net_traverse_A1 g q.1 q.2 (mOf q.1)) (st := fun k => (tr xs s k, (k : Int))) (n := K)
    (fun g k hk => by
      have hlt := hK2 k hk
      have ha := List.getElem?_eq_getElem hlt
      obtain ⟨a0, a1⟩ := (tr_ok G h0 h1 k).inr _ (List.getElem_mem hlt)
      obtain ⟨j, hj⟩ := Int.eq_ofNat_of_zero_le a0
      have hjl : j < xs.length := by omega
      have hx := List.getElem?_eq_getElem hjl
      rw [hj] at ha
      have hstep := tr_step ha
      rw [agentAt_nat hx] at hstep
      have inner := impl_inner G hx (m_impl_Net_traverse_A2 (m_impl_Net_traverse_L1 ⟨xs⟩ m_impl_Net_traverse_A1 g) (k : Int)) (tr_ok G h0 h1 k) (xs[j].ports.length + 1) (Nat.lt_succ_self _)
      simp -implicitDefEqProofs only [m_impl_Net_traverse_L1, m_impl_Net_traverse_B1, dlt hlt, cond_true, getI_nat ha, getI_nat hx, Option.bind_some]
      rw [inner, m_impl_Net_traverse_A2, ck_ok (by omega), Option.bind_some, hstep]
      simp only [Int.natCast_add, Int.cast_ofNat_Int]) (xs.length + 2 - K)
  have hcon : xs.length + 2 - K + K = xs.length + 2 := by omega
  rw [hcon] at hstep
  have hend : ∀ g, m_impl_Net_traverse_L1 ⟨xs⟩ m_impl_Net_traverse_A1 (g + 1) (tr xs s K) (K : Int) (mOf (tr xs s K)) = some (tr xs s K) := by
    intro g
    have : decide ((K : Int) < ((tr xs s K).length : Int)) = false := by simp; omega
    simp -implicitDefEqProofs only [m_impl_Net_traverse_L1, m_impl_Net_traverse_B1, this, cond_false, m_impl_Net_traverse_A1]
  unfold m_impl_Net_traverse
  rw [ck_ok (by omega), Option.bind_some, mustP_ok (by simp [MapM.empty]), Option.bind_some]
  refine Eq.trans hstep ?_
  obtain ⟨g', hg'⟩ : ∃ g', xs.length + 2 - K = g' + 1 := ⟨xs.length + 1 - K, by omega⟩
  rw [hg', hfin]
  exact hend g'
end
section
open Go.RowKit
set_option linter.unusedVariables false
set_option linter.unusedSimpArgs false
/-- The block of a slice's row. -/
def fb (v : Value) : List Nat := v.ownBlock.toList
/-- Two lists of blocks lie apart. -/
def Ap (l m : List Nat) : Prop := ∀ b ∈ l, b ∉ m
section
variable {l m x l' l2 : List Nat} {k g : Nat} {v u v' : Value}
theorem mem_fb {b : Nat} : b ∈ fb v ↔ v.ownBlock = some b := by simp [fb]
theorem Ap.symm (h : Ap l m) : Ap m l := fun b h1 h2 => h b h2 h1
theorem Ap.nil : Ap [] m := fun b h => by simp at h
theorem Ap.new (h1 : ∀ b ∈ l, k ≤ b) (h2 : ∀ b ∈ x, b < k) : Ap l x := fun b h h' => by have := h1 b h; have := h2 b h'; omega
theorem Ap.one (h : Ap l [g]) : g ∉ l := fun hg => h g hg (by simp)
theorem Ap.far (h : ∀ b ∈ l, b < g) : Ap l [g] := fun b hb h' => by simp at h'; subst h'; exact absurd (h b hb) (Nat.lt_irrefl _)
theorem Ap.farL (h : ∀ b ∈ l, b < g) : Ap [g] l := (Ap.far h).symm
theorem Ap.app (hn : ∀ b ∈ l', b ∈ l ∨ b ∈ l2 ∨ k ≤ b) (h1 : Ap l x) (h2 : Ap l2 x) (hi : ∀ b ∈ x, b < k) : Ap l' x := fun b hb h' => by
  rcases hn b hb with h3 | h3 | h3
  · exact h1 b h3 h'
  · exact h2 b h3 h'
  · have := hi b h'; omega
theorem Ap.cons (h1 : Ap [g] x) (h2 : Ap l x) : Ap (g :: l) x := fun b hb h' => by
  rcases List.mem_cons.1 hb with rfl | hb
  · exact h1 b (by simp) h'
  · exact h2 b hb h'
theorem Ap.append (h1 : Ap l x) (h2 : Ap m x) : Ap (l ++ m) x := fun b hb h' => by
  rcases List.mem_append.1 hb with hb | hb
  · exact h1 b hb h'
  · exact h2 b hb h'
theorem Dj.ap (h : Dj v u) : Ap (fb v) (fb u) := fun b h1 h2 => h b (mem_fb.1 h1) (mem_fb.1 h2)
theorem Ap.dj (h : Ap (fb v) (fb u)) : Dj v u := fun b h1 h2 => h b (mem_fb.2 h1) (mem_fb.2 h2)
end
/-- Elements one behind the other, with what they own. -/
def Parts {α : Type} (O : Ow α) (w : World) : List Value → List α → List Nat → Prop
  | cells, [], ib => cells = [] ∧ ib = []
  | cells, x :: xs, ib => ∃ cs rest b1 b2, cells = cs ++ rest ∧ O w cs x b1 ∧ ib = b1 ++ b2 ∧ Parts O w rest xs b2
/-- A slice of the call's own: its row from block lo on, its elements' blocks (no two alike, none the row's), all among bs. -/
def OwN {α : Type} (e : TypeId) (O : Ow α) (sz : Nat) (w : World) (lo : Nat) (v : Value) (xs : List α) (bs : List Nat) : Prop :=
  ∃ cells ib, w.ownsRow lo e sz v xs.length cells ∧ Parts O w cells xs ib ∧ ib.Nodup ∧ (∀ b ∈ ib, b ∈ bs) ∧ (∀ b, v.ownBlock = some b → b ∈ bs ∧ b ∉ ib) ∧ (∀ b ∈ bs, lo ≤ b ∧ b < w.heap.size)
/-- What an element's cells are: one value each. -/
def OneC {α : Type} (O : Ow α) : Prop := ∀ {w cs x bs}, O w cs x bs → ∀ u ∈ cs, u.oneCell' = true
theorem slOw_one {α : Type} {O : Ow α} {sz : Nat} : OneC (slOw O sz) := fun ⟨A, n, c, e, _⟩ u hu => by rw [e] at hu; simp at hu; subst hu; rfl
section
variable {α : Type} {O : Ow α} {R : Rd α} {sz : Nat} {w w' : World} {lo lo' : Nat} {v : Value} {xs ys : List α} {x : α} {bs : List Nat} {e : TypeId}
theorem Parts.keep (ok : OwOk O sz) : ∀ {xs : List α} {cells : List Value} {ib : List Nat}, (∀ b ∈ ib, w'.heap[b]? = w.heap[b]?) → Parts O w cells xs ib → Parts O w' cells xs ib
  | [], _, _, _, h => h
  | x :: xs, _, _, hb, ⟨cs, rest, b1, b2, e1, hO, e2, hr⟩ => by
    subst e1 e2
    exact ⟨cs, rest, b1, b2, rfl, ok.keep (fun b h => hb b (by simp [h])) hO, rfl, Parts.keep ok (fun b h => hb b (by simp [h])) hr⟩
theorem Parts.append : ∀ {xs ys : List α} {c1 c2 : List Value} {i1 i2 : List Nat}, Parts O w c1 xs i1 → Parts O w c2 ys i2 → Parts O w (c1 ++ c2) (xs ++ ys) (i1 ++ i2)
  | [], _, _, _, _, _, ⟨e1, e2⟩, h2 => by subst e1 e2; exact h2
  | x :: xs, _, _, _, _, _, ⟨cs, rest, b1, b2, e1, hO, e2, hr⟩, h2 => by
    subst e1 e2
    exact ⟨cs, _, b1, _, by rw [List.append_assoc], hO, by rw [List.append_assoc], Parts.append hr h2⟩
theorem Parts.one {cs : List Value} {b : List Nat} (h : O w cs x b) : Parts O w cs [x] b := ⟨cs, [], b, [], by simp, h, by simp, rfl, rfl⟩
theorem Parts.one_ (one : OneC O) : ∀ {xs : List α} {cells : List Value} {ib : List Nat}, Parts O w cells xs ib → ∀ u ∈ cells, u.oneCell' = true
  | [], _, _, ⟨e, _⟩, u, hu => by rw [e] at hu; simp at hu
  | x :: xs, _, _, ⟨cs, rest, b1, b2, e1, hO, e2, hr⟩, u, hu => by
    subst e1
    rcases List.mem_append.1 hu with h | h
    · exact one hO u h
    · exact Parts.one_ one hr u h
theorem Parts.len (ok : OwOk O sz) : ∀ {xs : List α} {cells : List Value} {ib : List Nat}, Parts O w cells xs ib → cells.length = xs.length * sz
  | [], _, _, ⟨e, _⟩ => by rw [e]; simp
  | x :: xs, _, _, ⟨cs, rest, b1, b2, e1, hO, e2, hr⟩ => by
    subst e1
    rw [List.length_append, ok.len hO, Parts.len ok hr, List.length_cons, Nat.add_mul]; omega
theorem Parts.elAt (ok : OwOk O sz) {g : Nat} {cur : Array Value} (hb : Blk w g e cur) : ∀ {xs : List α} {cells : List Value} {ib : List Nat} (o : Nat), (∀ (j : Nat) (u : Value), cells[j]? = some u → cur[o + j]? = some u) → Parts O w cells xs ib → ElAt O sz w g o xs ib
  | [], _, _, o, _, ⟨_, e⟩ => e
  | x :: xs, _, _, o, hc, ⟨cs, rest, b1, b2, e1, hO, e2, hr⟩ => by
    subst e1 e2
    have hl := ok.len hO
    refine ⟨cs, b1, b2, hO, hb.csAt (fun j u hj => hc j u ?_), rfl, Parts.elAt ok hb (o + sz) (fun j u hj => ?_) hr⟩
    · rw [List.getElem?_append_left (lt_of_some hj)]; exact hj
    · have := hc (sz + j) u (by rw [List.getElem?_append_right (by omega), hl, show sz + j - sz = j by omega]; exact hj)
      rwa [show o + (sz + j) = o + sz + j by omega] at this
/-- One element of many. -/
theorem Parts.split (ok : OwOk O sz) : ∀ {xs : List α} {cells : List Value} {ib : List Nat} {k : Nat} {x : α}, Parts O w cells xs ib → xs[k]? = some x →
    ∃ c1 cs c2 i1 b1 i2, cells = c1 ++ cs ++ c2 ∧ c1.length = k * sz ∧ O w cs x b1 ∧ ib = i1 ++ (b1 ++ i2) ∧ ∀ w' cs' x' b1', (∀ b ∈ i1 ++ i2, w'.heap[b]? = w.heap[b]?) → O w' cs' x' b1' → Parts O w' (c1 ++ cs' ++ c2) (xs.set k x') (i1 ++ (b1' ++ i2))
  | [], _, _, _, _, _, h => by simp at h
  | y :: ys, _, _, 0, x, ⟨cs, rest, b1, b2, e1, hO, e2, hr⟩, h => by
    have : y = x := by simpa using h
    subst this
    subst e1 e2
    exact ⟨[], cs, rest, [], b1, b2, by simp, by simp, hO, by simp, fun w' cs' x' b1' hb hO' => ⟨cs', rest, b1', b2, by simp, hO', by simp, Parts.keep ok (fun b h => hb b (by simp [h])) hr⟩⟩
  | y :: ys, _, _, k + 1, x, ⟨cs, rest, b1, b2, e1, hO, e2, hr⟩, h => by
    subst e1 e2
    obtain ⟨c1, cs2, c2, i1, b3, i2, f1, f2, f3, f4, f5⟩ := Parts.split ok hr (by simpa using h)
    subst f1 f4
    refine ⟨cs ++ c1, cs2, c2, b1 ++ i1, b3, i2, by simp, by rw [List.length_append, ok.len hO, f2, Nat.add_mul]; omega, f3, by simp, fun w' cs' x' b1' hb hO' => ?_⟩
    refine ⟨cs, _, b1, _, by simp [List.append_assoc], ok.keep (fun b h => hb b (by simp [h])) hO, by simp [List.append_assoc], f5 w' cs' x' b1' (fun b h => hb b (by simp at h ⊢; rcases h with h | h <;> simp [h])) hO'⟩
theorem OwN.keep (ok : OwOk O sz) (h : OwN e O sz w lo v xs bs) (hk : ∀ b ∈ bs, w'.heap[b]? = w.heap[b]?) (hs : w.heap.size ≤ w'.heap.size) : OwN e O sz w' lo v xs bs := by
  obtain ⟨cells, ib, h1, h2, h3, h4, h5, h6⟩ := h
  refine ⟨cells, ib, ?_, h2.keep ok (fun b hb => hk b (h4 b hb)), h3, h4, h5, fun b hb => by have := h6 b hb; omega⟩
  refine ⟨h1.1, ?_⟩
  rcases h1.2 with h | ⟨g, cap, cur, hv, hg, hh, r⟩
  · exact .inl h
  · exact .inr ⟨g, cap, cur, hv, hg, (hk g (h5 g (by rw [hv]; rfl)).1).trans hh, r⟩
theorem OwN.hi (h : OwN e O sz w lo v xs bs) : ∀ b ∈ bs, b < w.heap.size := by obtain ⟨cells, ib, h1, h2, h3, h4, h5, h6⟩ := h; exact fun b hb => (h6 b hb).2
theorem OwN.lo_ (h : OwN e O sz w lo v xs bs) : ∀ b ∈ bs, lo ≤ b := by obtain ⟨cells, ib, h1, h2, h3, h4, h5, h6⟩ := h; exact fun b hb => (h6 b hb).1
theorem OwN.row (h : OwN e O sz w lo v xs bs) {b : Nat} (hb : v.ownBlock = some b) : b ∈ bs := by obtain ⟨cells, ib, h1, h2, h3, h4, h5, h6⟩ := h; exact (h5 b hb).1
theorem OwN.below (ok : OwOk O sz) (h : OwN e O sz w lo v xs bs) (hb : Below w.heap.size w w') : OwN e O sz w' lo v xs bs := h.keep ok (fun b hin => hb.block b (h.hi b hin)) hb.size
theorem OwN.only {b : Nat} (ok : OwOk O sz) (h : OwN e O sz w lo v xs bs) (ho : Only [b] w w') (hn : b ∉ bs) : OwN e O sz w' lo v xs bs := h.keep ok (fun k hk => ho.block k (by intro hin; simp at hin; subst hin; exact hn hk)) (Nat.le_of_eq ho.size.symm)
theorem OwN.grown {row : Option Nat} (ok : OwOk O sz) (h : OwN e O sz w lo v xs bs) (hg : w.grownBy w' row) (hn : Ap bs row.toList) : OwN e O sz w' lo v xs bs := h.keep ok (fun k hk => hg.block k (h.hi k hk) (fun e => hn k hk (by simp [← e]))) hg.size
theorem OwN.mono (h : OwN e O sz w lo v xs bs) (hl : lo' ≤ lo) : OwN e O sz w lo' v xs bs := by
  obtain ⟨cells, ib, h1, h2, h3, h4, h5, h6⟩ := h
  refine ⟨cells, ib, ?_, h2, h3, h4, h5, fun b hb => by have := h6 b hb; omega⟩
  refine ⟨h1.1, ?_⟩
  rcases h1.2 with h | ⟨g, cap, cur, hv, hg, r⟩
  · exact .inl h
  · exact .inr ⟨g, cap, cur, hv, by omega, r⟩
theorem OwN.nil : OwN e O sz w lo (.slice none 0 0) ([] : List α) [] := ⟨[], [], ⟨by simp, .inl ⟨rfl, rfl⟩⟩, ⟨rfl, rfl⟩, List.nodup_nil, fun b hb => by simp at hb, fun b hb => by simp [Value.ownBlock] at hb, fun b hb => by simp at hb⟩
theorem OwN.form (h : OwN e O sz w lo v xs bs) : ∃ A c, v = .slice A xs.length c := by
  obtain ⟨cells, ib, h1, _⟩ := h
  rcases h1.2 with ⟨rfl, h0⟩ | ⟨g, cap, cur, hv, _⟩
  · exact ⟨none, 0, by rw [h0]⟩
  · exact ⟨_, _, hv⟩
theorem OwN.bound (h : OwN e O sz w lo v xs bs) : xs.length ≤ 9223372036854775807 := by
  obtain ⟨cells, ib, h1, _⟩ := h
  rcases h1.2 with ⟨_, h0⟩ | ⟨g, cap, cur, hv, hg, hh, h1, h2, _⟩
  · omega
  · unfold maxLen at h2; omega
theorem OwN.addr0 {A : Option Addr} {n c : Nat} (h : OwN e O sz w lo (.slice A n c) xs bs) (hn : 0 < n) : ∃ b, A = some ⟨b, 0, none⟩ := by
  obtain ⟨cells, ib, h1, _⟩ := h
  rcases h1.2 with ⟨h0, _⟩ | ⟨g, cap, cur, hv, _⟩
  · injection h0 with h1 h2; omega
  · injection hv with h1; exact ⟨g, h1⟩
theorem OwN.own1 (ok : OwOk O sz) (h : OwN e O sz w lo v xs bs) : ∃ A n c l, v = .slice A n c ∧ OwAt O sz w A n xs l ∧ l.Nodup ∧ (∀ b ∈ l, b ∈ bs) ∧ n ≤ c ∧ c ≤ maxLen := by
  obtain ⟨cells, ib, h1, h2, h3, h4, h5, h6⟩ := h
  rcases h1.2 with ⟨rfl, h0⟩ | ⟨g, cap, cur, rfl, hg, hh, k1, k2, k3, k4⟩
  · have : xs = [] := List.eq_nil_of_length_eq_zero h0
    subst this
    exact ⟨none, 0, 0, [], rfl, ⟨rfl, .inl ⟨rfl, rfl⟩⟩, List.nodup_nil, fun b hb => by simp at hb, Nat.le_refl _, Nat.zero_le _⟩
  · obtain ⟨hg1, hg2⟩ := h5 g rfl
    refine ⟨some ⟨g, 0, none⟩, _, cap, g :: ib, rfl, ⟨rfl, .inr ⟨g, 0, ib, rfl, rfl, ?_⟩⟩, List.nodup_cons.2 ⟨hg2, h3⟩, fun b hb => by
      rcases List.mem_cons.1 hb with rfl | hb
      · exact hg1
      · exact h4 b hb, k1, k2⟩
    refine h2.elAt (e := e) ok (cur := cur) hh 0 (fun j u hj => ?_)
    rw [← k4, List.getElem?_take] at hj
    split at hj
    · simpa using hj
    · cases hj
theorem OwN.own (ok : OwOk O sz) (h : OwN e O sz w lo v xs bs) : OwS O sz w v xs lo w.heap.size := by
  obtain ⟨A, n, c, l, e1, h1, h2, h3, r⟩ := h.own1 ok
  exact ⟨A, n, c, l, e1, h1, h2, fun b hb => ⟨h.lo_ b (h3 b hb), h.hi b (h3 b hb)⟩, r⟩
theorem OwN.rdS (ok : OwOk O sz) (hR : Gives O R w.heap.size) (h : OwN e O sz w lo v xs bs) : RdS R sz w w.heap.size v xs := (h.own ok).reads hR (Nat.le_refl _)
theorem OwN.arg (ok : OwOk O sz) (hR : Gives O R w.heap.size) (h : OwN e O sz w lo v xs bs) : Sl R sz w v xs := h.rdS ok hR
theorem OwN.sl {A : Option Addr} {n c : Nat} (ok : OwOk O sz) (hR : Gives O R w.heap.size) (h : OwN e O sz w lo (.slice A n c) xs bs) : SlAt R sz w w.heap.size A n xs ∧ n ≤ c ∧ c ≤ maxLen := by
  obtain ⟨A', n', c', he, h1, h2⟩ := h.rdS ok hR
  injection he with e1 e2 e3
  subst e1 e2 e3
  exact ⟨h1, h2⟩
/-- An element's cells. -/
theorem OwN.rd {b n c k : Nat} (ok : OwOk O sz) (hR : Gives O R w.heap.size) (h : OwN e O sz w lo (.slice (some ⟨b, 0, none⟩) n c) xs bs) (hx : xs[k]? = some x) : ∃ cs, R w w.heap.size cs x ∧ ∀ j v, cs[j]? = some v → w.cell? ⟨b, 0 + k * sz + j, none⟩ = some v := (h.sl ok hR).1.el hx
theorem OwN.lit1 {g : Nat} {cells : Array Value} {b1 l : List Nat} (B : Blk w g e cells) (hg : lo ≤ g) (hO : O w cells.toList x b1) (ok : OwOk O sz) (nd : b1.Nodup) (hs : ∀ b ∈ b1, b ∈ l) (hl : ∀ b ∈ l, lo ≤ b ∧ b < g) : OwN e O sz w lo (.slice (some ⟨g, 0, none⟩) 1 1) [x] (g :: l) := by
  have hc : cells.size = 1 * sz := by rw [← Array.length_toList, ok.len hO]; omega
  have hgl := B.lt
  refine ⟨cells.toList, b1, ⟨by simpa using hc, .inr ⟨g, 1, cells, rfl, hg, B, Nat.le_refl _, by unfold maxLen; omega, hc, ?_⟩⟩, Parts.one hO, nd, fun b hb => by simp [hs b hb], fun b hb => ?_, fun b hb => ?_⟩
  · rw [List.take_of_length_le]; simp [hc]
  · simp [Value.ownBlock] at hb; subst hb
    exact ⟨by simp, fun h => by have := hl _ (hs _ h); omega⟩
  · rcases List.mem_cons.1 hb with rfl | hb
    · exact ⟨hg, hgl⟩
    · have := hl b hb; omega
theorem OwN.lit0 {g : Nat} {cells : Array Value} (B : Blk w g e cells) (hg : lo ≤ g) (hc : cells = #[]) : OwN e O sz w lo (.slice (some ⟨g, 0, none⟩) 0 0) ([] : List α) [g] := by
  subst hc
  have hgl := B.lt
  refine ⟨[], [], ⟨by simp, .inr ⟨g, 0, #[], rfl, hg, B, Nat.le_refl _, Nat.zero_le _, by simp, by simp⟩⟩, ⟨rfl, rfl⟩, List.nodup_nil, fun b hb => by simp at hb, fun b hb => ?_, fun b hb => ?_⟩
  · simp [Value.ownBlock] at hb; subst hb
    exact ⟨by simp, by simp⟩
  · simp at hb; subst hb; exact ⟨hg, hgl⟩
end
theorem setI_at {α : Type} {xs : List α} {i : Int} {k : Nat} {x : α} (hi : i = (k : Int)) (hk : k < xs.length) : (setI xs i x)[k]? = some x := by
  subst hi
  rw [setI_nat, List.getElem?_set_self hk]
section
variable {α : Type} {R : Rd α} {O : Ow α} {enc : α → List Value} {sz : Nat} {w w' : World} {lo lo' : Nat} {v : Value} {xs ys : List α} {e : TypeId}
theorem OwF.own2 {A : Option Addr} {n c : Nat} (F : FlatT R O enc sz) (h : OwF e enc sz w lo (.slice A n c) xs) : ∃ l, OwAt O sz w A n xs l ∧ l.Nodup ∧ (∀ b ∈ l, b ∈ fb (.slice A n c)) ∧ n ≤ c ∧ c ≤ maxLen := by
  rcases h.2 with ⟨hv, h0⟩ | ⟨g, cap, cur, hv, hg, hh, h1, h2, h3, h4⟩
  · injection hv with e1 e2 e3
    subst e1 e2 e3
    have : xs = [] := List.eq_nil_of_length_eq_zero h0
    subst this
    exact ⟨[], ⟨rfl, .inl ⟨rfl, rfl⟩⟩, List.nodup_nil, fun b hb => by simp at hb, Nat.le_refl _, Nat.zero_le _⟩
  · injection hv with e1 e2 e3
    subst e1 e2 e3
    obtain ⟨A', n', c', l, he, hA, hn, hl, hc1, hc2⟩ := h.own F
    injection he with e1 e2 e3
    subst e1 e2 e3
    by_cases hx : xs = []
    · subst hx; exact ⟨[], ⟨rfl, .inl ⟨rfl, rfl⟩⟩, List.nodup_nil, fun b hb => by simp at hb, hc1, hc2⟩
    · rcases hA.2 with ⟨h5, _⟩ | ⟨b, o, b2, h5, h6, h7⟩
      · exact absurd h5 hx
      · injection h5 with h5
        injection h5 with h5
        subst h5
        have hflat : ∀ (l : List α) (o : Nat) (k : List Nat), ElAt O sz w g o l k → k = [] → True := fun _ _ _ _ _ => trivial
        refine ⟨[g], ⟨hA.1, .inr ⟨g, 0, [], rfl, rfl, ?_⟩⟩, by simp, fun b hb => by simpa [fb, Value.ownBlock] using hb, hc1, hc2⟩
        have hblk : Blk w g e cur := hh
        have key : ∀ (l : List α) (o : Nat), (∀ j u, (l.flatMap enc)[j]? = some u → cur[o + j]? = some u) → ElAt O sz w g o l [] := by
          intro l
          induction l with
          | nil => intro o _; rfl
          | cons x l ih =>
            intro o hl
            refine ⟨enc x, [], [], F.ow, hblk.csAt (fun j u hj => hl j u ?_), rfl, ih (o + sz) (fun j u hj => ?_)⟩
            · simp only [List.flatMap_cons]
              rw [List.getElem?_append_left (lt_of_some hj)]; exact hj
            · have := hl (sz + j) u (by
                simp only [List.flatMap_cons]
                rw [List.getElem?_append_right (by rw [F.len]; omega), F.len, show sz + j - sz = j by omega]; exact hj)
              rwa [show o + (sz + j) = o + sz + j by omega] at this
        refine key xs 0 (fun j u hj => ?_)
        rw [← h4, List.getElem?_take] at hj
        split at hj
        · simpa using hj
        · cases hj
theorem OwF.fhi (h : OwF e enc sz w lo v xs) : ∀ b ∈ fb v, b < w.heap.size := fun b hb => h.hi b (mem_fb.1 hb)
theorem OwF.flo (h : OwF e enc sz w lo v xs) : ∀ b ∈ fb v, lo ≤ b := fun b hb => h.lo_ b (mem_fb.1 hb)
theorem OwF.fboth (h : OwF e enc sz w lo v xs) {g : Nat} (hg : w.heap.size ≤ g) : ∀ b ∈ fb v, lo ≤ b ∧ b < g := fun b hb => ⟨h.flo b hb, Nat.lt_of_lt_of_le (h.fhi b hb) hg⟩
theorem one_hi {g : Nat} (h : g < w.heap.size) : ∀ b ∈ [g], b < w.heap.size := fun b hb => by simp at hb; subst hb; exact h
variable {O' : Ow α} {bs : List Nat} {u : Value}
/-- Another slice of the call's own, while the row of v grows or is written. -/
theorem OwN.dj (h : OwN e O' sz w lo v xs bs) (A : Ap bs (fb u)) : Dj u v := fun b h1 h2 => A b (h.row h2) (mem_fb.2 h1)
end
section
variable {P : Program} {ops : Array Oper} {f : Nat → Value} {rest : List Oper} {Q : (Nat → Value) → World → Prop} {w : World} {d : Option Tmp} {ty : TypeId} {pos : String} {af : Array Edge} {g : Option (Nat × Bool)} {x y : Operand} {t e : TypeId} {z : Value} {sz bb : Nat}
theorem RL.appendN {α : Type} {O : Ow α} {v vy : Value} {xs ys : List α} {lo : Nat} {bs bs2 : List Nat} (ok : OwOk O sz) (one : OneC O) (hp : 0 < sz) (A : AppT P t e z sz bb) (hg : wantF f ops ⟨d, .call ⟨.builtin .append, #[x, y], #[t, t]⟩, ty, pos, af, g⟩ = true)
    (hx : ev f x = v) (hy : ev f y = vy) (hv : OwN e O sz w lo v xs bs) (hr : OwN e O sz w lo vy ys bs2) (D : Ap bs bs2) (hlo : lo ≤ w.heap.size) (hk : xs.length + ys.length ≤ 4294967296)
    (h : ∀ v' w1 bs', OwN e O sz w1 lo v' (xs ++ ys) bs' → w.grownBy w1 v.ownBlock → Below lo w w1 → (∀ b ∈ bs', b ∈ bs ∨ b ∈ bs2 ∨ w.heap.size ≤ b) → RL P ops Q rest (upo f d v') w1) : RL P ops Q (⟨d, .call ⟨.builtin .append, #[x, y], #[t, t]⟩, ty, pos, af, g⟩ :: rest) f w := by
  have hrun : ∀ v' w1, (Builtin.append_ #[t, t] ty #[v, vy]).run P w = .ok v' w1 → (execOp (ev f) ⟨d, .call ⟨.builtin .append, #[x, y], #[t, t]⟩, ty, pos, af, g⟩).run P w = .ok (.value v') w1 := fun v' w1 h0 => by
    simp [execOp, resolve, invoke, builtin, hx, hy, h0]
  have hv0 := hv
  obtain ⟨cells, ib, h1, h2, h3, h4, h5, h6⟩ := hv
  obtain ⟨cells2, ib2, k1, k2, k3, k4, k5, k6⟩ := hr
  have hdis : (ib ++ ib2).Nodup := List.nodup_append.2 ⟨h3, k3, fun a ha b hb e => by subst e; exact D a (h4 a ha) (k4 a hb)⟩
  rcases k1.2 with ⟨rfl, h0⟩ | ⟨g2, cap2, cur2, rfl, hg2, hh2, m1, m2, m3, m4⟩
  · have : ys = [] := List.eq_nil_of_length_eq_zero h0
    subst this
    refine .inl ⟨hg, ?_⟩
    rw [hrun v w (append_none A h1 ty)]
    exact h v w bs (by simpa using hv0) ⟨rfl, rfl, rfl, Nat.le_refl _, fun _ _ _ => rfl⟩ (Below.refl _ _) (fun b hb => .inl hb)
  · have hblk : Blk w g2 e cur2 := hh2
    have hcells : ∀ j u, cells2[j]? = some u → w.cell? ((⟨g2, 0, none⟩ : Addr).add j) = some u := fun j u hj => by
      rw [Addr.add_eq, Nat.zero_add, hblk.cell]
      rw [← m4, List.getElem?_take] at hj
      split at hj
      · simpa using hj
      · cases hj
    obtain ⟨v', w1, r1, r2, r3, r4⟩ := append_own2 A hp h1 hlo ⟨g2, 0, none⟩ ys.length cap2 cells2 (k2.len ok) hcells (k2.one_ one) hk ty
    refine .inl ⟨hg, ?_⟩
    rw [hrun v' w1 r1]
    have hkeep : ∀ b ∈ ib ++ ib2, b < w.heap.size ∧ some b ≠ v.ownBlock := fun b hb => by
      rcases List.mem_append.1 hb with hb | hb
      · exact ⟨(h6 b (h4 b hb)).2, fun e => (h5 b e.symm).2 hb⟩
      · exact ⟨(k6 b (k4 b hb)).2, fun e => D b (h5 b e.symm).1 (k4 b hb)⟩
    refine h v' w1 (fb v' ++ (ib ++ ib2)) ⟨cells ++ cells2, ib ++ ib2, ?_, ?_, hdis, fun b hb => by simp at hb ⊢; exact .inr hb, fun b hb => ⟨by simp [mem_fb.2 hb], fun hin => ?_⟩, fun b hb => ?_⟩ r3 ?_ ?_
    · rw [List.length_append]; exact r2
    · exact (h2.keep ok (fun b hb => r3.block b (hkeep b (by simp [hb])).1 (hkeep b (by simp [hb])).2)).append (k2.keep ok (fun b hb => r3.block b (hkeep b (by simp [hb])).1 (hkeep b (by simp [hb])).2))
    · rcases r4 b hb with h7 | h7
      · exact (hkeep b hin).2 h7.symm
      · have := (hkeep b hin).1; omega
    · rcases List.mem_append.1 hb with h7 | h7
      · exact ⟨(r2.lt b (mem_fb.1 h7)).1, (r2.lt b (mem_fb.1 h7)).2⟩
      · have h8 := (hkeep b h7).1
        have := r3.size
        rcases List.mem_append.1 h7 with h7 | h7
        · exact ⟨(h6 b (h4 b h7)).1, by omega⟩
        · exact ⟨(k6 b (k4 b h7)).1, by omega⟩
    · exact (Below.refl lo w).grown r3 hlo (fun b hb => (h6 b (h5 b hb).1).1)
    · intro b hb
      rcases List.mem_append.1 hb with h7 | h7
      · rcases r4 b (mem_fb.1 h7) with h8 | h8
        · exact .inl (h5 b h8).1
        · exact .inr (.inr h8)
      · rcases List.mem_append.1 h7 with h7 | h7
        · exact .inl (h4 b h7)
        · exact .inr (.inl (k4 b h7))
end
end
section
open Go.RowKit
set_option linter.unusedVariables false
set_option linter.unusedSimpArgs false
set_option maxRecDepth 100000
def m_spec_l00Own (d0 : List Int) : Option (List Int) :=
  ((mustP (([] : List Int).length + d0.length ≤ 4294967296)).bind fun _ => some (([] : List Int) ++ d0))
set_option maxHeartbeats 2000000 in
theorem c_m_spec_l00Own (d0 : List Int) (r : List Int) (hm : m_spec_l00Own d0 = some r) (v0 : Value) (w : World) (hv0 : Sl intRd 1 w v0 d0) :
    Calls Try.prog 74 #[v0] w fun e w' => (∃ (v0 : Value), e = .returned (v0) ∧ OwF 2 encI 1 w' w.heap.size v0 r) ∧ Below w.heap.size w w' := by
  obtain ⟨Aa0, na0, ca0, rfl, ha0, ra0⟩ := hv0
  have ea0 := ha0.len; subst ea0
  have qa0 := len_le ra0
  have T := Below.refl w.heap.size w
  unfold m_spec_l00Own at hm
  refine enter 6 Try.func74 rfl rfl rfl ?_
  intro f hf
  have s0 : f 0 = .slice Aa0 d0.length ca0 := hf 0 _ rfl
  refine wp_seq ?_
  refine wp_rs rfl ?_
  refine RQ.y rfl (Y.assign (v := .slice none 0 0) rfl) ?_
  refine RQ.nil ?_
  refine then_n ?_
  refine wp_seq ?_
  refine wp_rl rfl ?_
  refine RL.bslice (e := 2) (cells := #[]) rfl pm0 (by kernel_rfl) (fun w1 B2 hb3 szw1 => ?_)
  have ZB2 : w.heap.size ≤ w.heap.size := T.size
  have T := Tt T hb3
  have G5 := OwF.lit (enc := encI) (sz := 1) (xs := ([] : List Int)) B2 ZB2 rfl rfl rfl rfl
  refine RL.y rfl (Y.move (v := .slice Aa0 d0.length ca0) s0) ?_
  obtain ⟨_, m7, hm⟩ := bnd hm
  have hk8 := mustP_some m7
  refine RL.append fI app_int64 rfl rfl rfl G5 (slArg intRd_ok ha0 ra0 T) T.size hk8 (fun v9 w10 G11 hgr12 hbl13 hnb14 => ?_)
  have szw10 := hbl13.size
  have T := T.trans hbl13
  refine RL.y rfl (Y.assign (v := v9) rfl) ?_
  refine RL.nil ?_
  refine then_n ?_
  refine wp_ret ?_
  obtain rfl := Option.some.inj hm
  exact (ret1 rfl rfl rfl ⟨⟨_, rfl, G11⟩, T⟩)
end
section
open Go.RowKit
set_option linter.unusedVariables false
set_option linter.unusedSimpArgs false
def seenL (n : Nat) (l : List Int) : List Bool := (List.range n).map fun (i : Nat) => decide ((i : Int) ∈ l)
theorem seenL_get {n : Nat} {l : List Int} {a : Int} (h0 : 0 ≤ a) (h1 : a < n) : getI (seenL n l) a = some (decide (a ∈ l)) := by
  obtain ⟨k, rfl⟩ := Int.eq_ofNat_of_zero_le h0
  refine getI_nat ?_
  unfold seenL
  rw [List.getElem?_map, List.getElem?_range (by omega)]
  rfl
theorem seenL_set {n : Nat} {l : List Int} {a : Int} (h0 : 0 ≤ a) (h1 : a < n) : setI (seenL n l) a true = seenL n (l ++ [a]) := by
  obtain ⟨k, rfl⟩ := Int.eq_ofNat_of_zero_le h0
  rw [setI_nat]
  apply List.ext_getElem?
  intro i
  unfold seenL
  rw [List.getElem?_set]
  by_cases hi : i < n
  · rw [List.getElem?_map, List.getElem?_map, List.getElem?_range hi]
    simp only [Option.map_some]
    by_cases hk : k = i
    · subst hk
      simp [hi]
    · have : ¬ ((i : Int) = (k : Int)) := by omega
      rw [if_neg hk]; simp [this]
  · have : ¬ k = i := by omega
    rw [if_neg this, List.getElem?_map, List.getElem?_map, List.getElem?_eq_none (by simp; omega)]
    rfl
theorem seenL_nil (n : Nat) : List.replicate n false = seenL n [] := by
  apply List.ext_getElem?
  intro i
  unfold seenL
  by_cases hi : i < n
  · rw [List.getElem?_map, List.getElem?_range hi]; simp [hi]
  · rw [List.getElem?_eq_none (by simp; omega), List.getElem?_eq_none (by simp; omega)]
end
section
open Go.RowKit Go.Shelf
set_option linter.unusedVariables false
set_option linter.unusedSimpArgs false
def layI_ren : Go.Shelf.Ren := ⟨fun | 53 => 54 | 64 => 81 | 63 => 80 | 78 => 105 | 79 => 106 | 70 => 96 | 71 => 97 | 72 => 98 | 73 => 99 | 74 => 100 | 75 => 101 | 59 => 102 | 76 => 103 | 77 => 104 | 88 => 120 | 89 => 121 | 90 => 122 | 91 => 123 | 92 => 124 | 68 => 125 | 96 => 135 | n => n, fun | 22 => 41 | 23 => 2 | 3 => 3 | 51 => 114 | 0 => 0 | 67 => 136 | 69 => 138 | 4 => 4 | 61 => 128 | 60 => 127 | 44 => 133 | 5 => 5 | 9 => 9 | 75 => 145 | 79 => 149 | 83 => 154 | 84 => 155 | n => n, fun | n => n⟩
theorem layI : Go.Proofs.SlLaysN.n53 Try.prog layI_ren := {
  mixed := by kernel_rfl
  f53 := ⟨Try.f54.name, by decide, Try.func54.trans (congrArg some (by kernel_rfl))⟩
  f59 := ⟨Try.f102.name, by decide, Try.func102.trans (congrArg some (by kernel_rfl))⟩
  f63 := ⟨Try.f80.name, by decide, Try.func80.trans (congrArg some (by kernel_rfl))⟩
  f64 := Try.func81.trans (congrArg some (by kernel_rfl))
  f68 := ⟨Try.f125.name, by decide, Try.func125.trans (congrArg some (by kernel_rfl))⟩
  f70 := ⟨Try.f96.name, by decide, Try.func96.trans (congrArg some (by kernel_rfl))⟩
  f71 := ⟨Try.f97.name, by decide, Try.func97.trans (congrArg some (by kernel_rfl))⟩
  f72 := ⟨Try.f98.name, by decide, Try.func98.trans (congrArg some (by kernel_rfl))⟩
  f73 := ⟨Try.f99.name, by decide, Try.func99.trans (congrArg some (by kernel_rfl))⟩
  f74 := ⟨Try.f100.name, by decide, Try.func100.trans (congrArg some (by kernel_rfl))⟩
  f75 := ⟨Try.f101.name, by decide, Try.func101.trans (congrArg some (by kernel_rfl))⟩
  f76 := ⟨Try.f103.name, by decide, Try.func103.trans (congrArg some (by kernel_rfl))⟩
  f77 := ⟨Try.f104.name, by decide, Try.func104.trans (congrArg some (by kernel_rfl))⟩
  f78 := Try.func105.trans (congrArg some (by kernel_rfl))
  f79 := Try.func106.trans (congrArg some (by kernel_rfl))
  f88 := ⟨Try.f120.name, by decide, Try.func120.trans (congrArg some (by kernel_rfl))⟩
  f89 := Try.func121.trans (congrArg some (by kernel_rfl))
  f90 := Try.func122.trans (congrArg some (by kernel_rfl))
  f91 := ⟨Try.f123.name, by decide, Try.func123.trans (congrArg some (by kernel_rfl))⟩
  f92 := ⟨Try.f124.name, by decide, Try.func124.trans (congrArg some (by kernel_rfl))⟩
  f96 := ⟨Try.f135.name, by decide, Try.func135.trans (congrArg some (by kernel_rfl))⟩
  t0 := Try.underlying0
  a0 := Try.isAgg0
  z0 := Try.sizeOf0
  v0 := Try.zeroValue0
  t3 := Try.underlying3
  a3 := Try.isAgg3
  z3 := Try.sizeOf3
  v3 := Try.zeroValue3
  t4 := Try.underlying4
  a4 := Try.isAgg4
  z4 := Try.sizeOf4
  v4 := Try.zeroValue4
  t5 := Try.underlying5
  a5 := Try.isAgg5
  z5 := Try.sizeOf5
  v5 := Try.zeroValue5
  t9 := Try.underlying9
  a9 := Try.isAgg9
  z9 := Try.sizeOf9
  v9 := Try.zeroValue9
  t22 := Try.underlying41
  a22 := Try.isAgg41
  z22 := Try.sizeOf41
  v22 := Try.zeroValue41
  t23 := Try.underlying2
  a23 := Try.isAgg2
  z23 := Try.sizeOf2
  v23 := Try.zeroValue2
  t44 := Try.underlying133
  a44 := Try.isAgg133
  z44 := Try.sizeOf133
  v44 := Try.zeroValue133
  t51 := Try.underlying114
  a51 := Try.isAgg114
  z51 := Try.sizeOf114
  v51 := Try.zeroValue114
  t60 := Try.underlying127
  a60 := Try.isAgg127
  z60 := Try.sizeOf127
  v60 := Try.zeroValue127
  t61 := Try.underlying128
  a61 := Try.isAgg128
  z61 := Try.sizeOf128
  v61 := Try.zeroValue128
  t67 := Try.underlying136
  a67 := Try.isAgg136
  z67 := Try.sizeOf136
  v67 := Try.zeroValue136
  t69 := Try.underlying138
  a69 := Try.isAgg138
  z69 := Try.sizeOf138
  v69 := Try.zeroValue138
  t75 := Try.underlying145
  a75 := Try.isAgg145
  z75 := Try.sizeOf145
  v75 := Try.zeroValue145
  t79 := Try.underlying149
  a79 := Try.isAgg149
  z79 := Try.sizeOf149
  v79 := Try.zeroValue149
  t83 := Try.underlying154
  a83 := Try.isAgg154
  z83 := Try.sizeOf154
  v83 := Try.zeroValue154
  t84 := Try.underlying155
  a84 := Try.isAgg155
  z84 := Try.sizeOf155
  v84 := Try.zeroValue155 }
theorem flatMap_encI (xs : List Int) : xs.flatMap encI = xs.map (Value.int .i64) := by
  induction xs with
  | nil => rfl
  | cons x xs ih => simp [encI, ih]
theorem sort_own {w : World} {lo : Nat} {v : Value} {xs : List Int} (h : OwF 2 encI 1 w lo v xs) (hlo : lo ≤ w.heap.size) (hk : xs.length ≤ 4294967296) :
    Calls Try.prog 54 #[v] w fun e w' => e = .returned (.tuple #[]) ∧ OwF 2 encI 1 w' lo v (srt xs) ∧ w.grownBy w' v.ownBlock ∧ Below lo w w' := by
  obtain ⟨hl, h0 | ⟨g, cap, cur, rfl, hg, hb, hn, hcap, hsz, htk⟩⟩ := h
  · obtain ⟨rfl, hn⟩ := h0
    have hx : xs = [] := List.eq_nil_of_length_eq_zero hn
    subst hx
    refine (AnyG.slices_Sort_int_none layI none 0 w).mono ?_
    rintro e w' ⟨rfl, rfl⟩
    exact ⟨rfl, by rw [show srt [] = [] from List.eq_nil_of_length_eq_zero (srt_len [])]; exact OwF.nil, World.grownBy.refl _ _, Below.refl _ _⟩
  · rw [flatMap_encI, Nat.mul_one] at htk
    have hgs : g < w.heap.size := (Array.getElem?_eq_some_iff.1 hb).1
    have hs : (srt xs).length = xs.length := srt_len xs
    refine (AnyG.slices_Sort_int layI g 0 cap xs w (Go.holds_of_blockI hb htk) hgs (by omega)).mono ?_
    rintro e w' ⟨rfl, n, os, rfl⟩
    have hgr : w.grownBy (Sort.grow (Sort.putRow (Value.int .i64) (Sort.ahead w n) g 0 (srt xs).toArray) os) (some g) := Go.grownBy_sortedI _
    have ho := Go.ownsRow_sortedI (n := n) (os := os) (ss := xs) (ts := srt xs) hs hg hb hn hcap hsz
    refine ⟨rfl, ?_, hgr, ?_⟩
    · unfold OwF; rw [flatMap_encI, hs]; exact ho
    · exact (Below.refl lo w).grown hgr hlo (by intro b hb; cases hb; exact hg)
end
end Go.Proofs.Ytebioddcnldjkaa
