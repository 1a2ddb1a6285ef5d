/- The walk of the law AddCounts. -/
import Derived.Test.YteibnofhpkcncaaCnt2
import Derived.Test.YteibnofhpkcncaaIntsV
namespace Go.Proofs.Yteibnofhpkcncaa
open Go.RowKit
set_option linter.unusedVariables false

theorem addRes_ok {xs ys : List Int} {n : Nat} (h : xs.length ≤ n) : (addRes xs ys).1.length ≤ n := by
  unfold addRes
  split
  · split
    · simp [addL]; omega
    · simp
  · simp
theorem spec_AddCounts_v (v u : Value) (xs ys : List Int) (w : World) {B B' : Nat} (h : RdS intRd 1 w B v xs) (h' : RdS intRd 1 w B' u ys) (hB : B ≤ w.heap.size) (hB' : B' ≤ w.heap.size) (hs : lenOk xs) (hs' : lenOk ys) :
    Calls Try.prog 27 #[v, u] w fun e w' => Ret2 (fun v => OwS intOw 1 w' v (addRes xs ys).1 w.heap.size w'.heap.size) (addRes xs ys).2 e ∧ Below w.heap.size w w' := by
  obtain ⟨A, n, c, rfl, h⟩ := h
  obtain ⟨C, m, d, rfl, h'⟩ := h'
  unfold lenOk at hs hs'
  exact (spec_AddCounts A C n c m d xs ys w (h.more intRd_ok hB) (h'.more intRd_ok hB') (Nat.le_refl _) (by have := h.len; omega) (by have := h'.len; omega)).mono fun e w' ⟨h1, h2⟩ => ⟨h1.ret2, h2⟩
theorem impl_AddCounts_v (v u : Value) (xs ys : List Int) (w : World) {B B' : Nat} (h : RdS intRd 1 w B v xs) (h' : RdS intRd 1 w B' u ys) (hB : B ≤ w.heap.size) (hB' : B' ≤ w.heap.size) (hs : lenOk xs) (hs' : lenOk ys) :
    Calls Try.prog 28 #[v, u] w fun e w' => Ret2 (fun v => OwS intOw 1 w' v (addRes xs ys).1 w.heap.size w'.heap.size) (addRes xs ys).2 e ∧ Below w.heap.size w w' := by
  obtain ⟨A, n, c, rfl, h⟩ := h
  obtain ⟨C, m, d, rfl, h'⟩ := h'
  unfold lenOk at hs hs'
  exact (impl_AddCounts A C n c m d xs ys w (h.more intRd_ok hB) (h'.more intRd_ok hB') (Nat.le_refl _) (by have := h.len; omega) (by have := h'.len; omega)).mono fun e w' ⟨h1, h2⟩ => ⟨h1.ret2, h2⟩

set_option maxHeartbeats 2000000 in
theorem walk_AddCounts (w : World) (A : Option Addr) (n c : Nat) (xs : List Int) (hx : SlAt intRd 1 w w.heap.size A n xs) (hl : n ≤ c) (hm : c ≤ maxLen)
    (A1 : Option Addr) (n1 c1 : Nat) (ys : List Int) (hy : SlAt intRd 1 w w.heap.size A1 n1 ys) (hl1 : n1 ≤ c1) (hm1 : c1 ≤ maxLen) :
    Calls Try.prog 8 #[.slice A n c, .slice A1 n1 c1] w fun e w' => e = .returned (.bool true) ∧ Below w.heap.size w w' := by
  unfold maxLen at hm hm1
  have hr := Below.refl w.heap.size w
  by_cases hbig : 1048576 < n
  · go_enter Try.func8, Try.ntmps8
    go_wp2
    go_ret
    exact ⟨rfl, hr⟩
  by_cases hbig1 : 1048576 < n1
  · go_enter Try.func8, Try.ntmps8
    go_wp2
    go_ret
    exact ⟨rfl, hr⟩
  have R0 : RdS intRd 1 w w.heap.size (.slice A n c) xs := ⟨A, n, c, rfl, hx⟩
  have R1 : RdS intRd 1 w w.heap.size (.slice A1 n1 c1) ys := ⟨A1, n1, c1, rfl, hy⟩
  have l0 : xs.length ≤ 1048576 := by have := hx.len; omega
  have l1 : ys.length ≤ 1048576 := by have := hy.len; omega
  have s0 : lenOk xs := l0
  have s1 : lenOk ys := l1
  have lr : (addRes xs ys).1.length ≤ 1048576 := addRes_ok l0
  have sr : lenOk (addRes xs ys).1 := lr
  clear hx hy hr
  go_enter Try.func8, Try.ntmps8
  have q_xs : eqL xs xs = true := decide_eq_true rfl
  have q_ys : eqL ys ys = true := decide_eq_true rfl
  have q_r : eqL ((addRes xs ys).1) ((addRes xs ys).1) = true := decide_eq_true rfl
  have T := Below.refl w.heap.size w
  go_wp2_with fail
  refine (toInt64S_v _ xs _ (R0.below intRd_ok T) T.size s0).mono ?_
  rintro e w1 ⟨⟨t1, rfl, p0⟩, b1⟩
  have z1 := b1.size
  have T := T.trans (b1.mono (by omega))
  go_wp2_with fail
  refine (toInt64S_v _ ys _ (R1.below intRd_ok T) T.size s1).mono ?_
  rintro e w2 ⟨⟨t2, rfl, p1⟩, b2⟩
  have z2 := b2.size
  have p0 := p0.below intOw_ok b2 (by omega)
  have T := T.trans (b2.mono (by omega))
  go_wp2_with fail
  refine (spec_AddCounts_v _ _ xs ys _ (p0.reads (intOw_reads w2.heap.size) (by omega)) (p1.reads (intOw_reads w2.heap.size) (by omega)) (Nat.le_refl _) (Nat.le_refl _) s0 s1).mono ?_
  rintro e w3 ⟨⟨u3, rfl, W⟩, b3⟩
  have z3 := b3.size
  have p0 := p0.below intOw_ok b3 (by omega)
  have p1 := p1.below intOw_ok b3 (by omega)
  have T := T.trans (b3.mono (by omega))
  clear p0
  clear p1
  go_wp2_with fail
  refine (toInt64S_v _ xs _ (R0.below intRd_ok T) T.size s0).mono ?_
  rintro e w4 ⟨⟨t4, rfl, x0⟩, b4⟩
  have z4 := b4.size
  have W := W.below intOw_ok b4 (by omega)
  have T := T.trans (b4.mono (by omega))
  go_wp2_with fail
  refine (toInt64S_v _ ys _ (R1.below intRd_ok T) T.size s1).mono ?_
  rintro e w5 ⟨⟨t5, rfl, x1⟩, b5⟩
  have z5 := b5.size
  have W := W.below intOw_ok b5 (by omega)
  have x0 := x0.below intOw_ok b5 (by omega)
  have T := T.trans (b5.mono (by omega))
  go_wp2_with fail
  refine (impl_AddCounts_v _ _ xs ys _ (x0.reads (intOw_reads w5.heap.size) (by omega)) (x1.reads (intOw_reads w5.heap.size) (by omega)) (Nat.le_refl _) (Nat.le_refl _) s0 s1).mono ?_
  rintro e w6 ⟨⟨u6, rfl, G⟩, b6⟩
  have z6 := b6.size
  have W := W.below intOw_ok b6 (by omega)
  have x0 := x0.below intOw_ok b6 (by omega)
  have x1 := x1.below intOw_ok b6 (by omega)
  have T := T.trans (b6.mono (by omega))
  go_wp2_with fail
  refine (eqInt64S_v _ _ _ _ _ (G.reads (intOw_reads w6.heap.size) (by omega)) (W.reads (intOw_reads w6.heap.size) (by omega)) sr sr).mono ?_
  rintro e w7 ⟨rfl, b7⟩
  have z7 := b7.size
  have W := W.below intOw_ok b7 (by omega)
  have x0 := x0.below intOw_ok b7 (by omega)
  have x1 := x1.below intOw_ok b7 (by omega)
  have G := G.below intOw_ok b7 (by omega)
  have T := T.trans (b7.mono (by omega))
  go_wp2_with fail
  refine (toInt64S_v _ xs _ (R0.below intRd_ok T) T.size s0).mono ?_
  rintro e w8 ⟨⟨t8, rfl, y⟩, b8⟩
  have z8 := b8.size
  have W := W.below intOw_ok b8 (by omega)
  have x0 := x0.below intOw_ok b8 (by omega)
  have x1 := x1.below intOw_ok b8 (by omega)
  have G := G.below intOw_ok b8 (by omega)
  have T := T.trans (b8.mono (by omega))
  go_wp2_with fail
  refine (eqInt64S_v _ _ _ _ _ (x0.reads (intOw_reads w8.heap.size) (by omega)) (y.reads (intOw_reads w8.heap.size) (by omega)) s0 s0).mono ?_
  rintro e w9 ⟨rfl, b9⟩
  have z9 := b9.size
  have W := W.below intOw_ok b9 (by omega)
  have x0 := x0.below intOw_ok b9 (by omega)
  have x1 := x1.below intOw_ok b9 (by omega)
  have G := G.below intOw_ok b9 (by omega)
  have y := y.below intOw_ok b9 (by omega)
  have T := T.trans (b9.mono (by omega))
  clear y
  go_wp2_with fail
  refine (toInt64S_v _ ys _ (R1.below intRd_ok T) T.size s1).mono ?_
  rintro e w10 ⟨⟨t10, rfl, y⟩, b10⟩
  have z10 := b10.size
  have W := W.below intOw_ok b10 (by omega)
  have x0 := x0.below intOw_ok b10 (by omega)
  have x1 := x1.below intOw_ok b10 (by omega)
  have G := G.below intOw_ok b10 (by omega)
  have T := T.trans (b10.mono (by omega))
  go_wp2_with fail
  refine (eqInt64S_v _ _ _ _ _ (x1.reads (intOw_reads w10.heap.size) (by omega)) (y.reads (intOw_reads w10.heap.size) (by omega)) s1 s1).mono ?_
  rintro e w11 ⟨rfl, b11⟩
  have z11 := b11.size
  have W := W.below intOw_ok b11 (by omega)
  have x0 := x0.below intOw_ok b11 (by omega)
  have x1 := x1.below intOw_ok b11 (by omega)
  have G := G.below intOw_ok b11 (by omega)
  have y := y.below intOw_ok b11 (by omega)
  have T := T.trans (b11.mono (by omega))
  clear y
  go_wp2_with fail
  refine (markInt64S_v _ _ _ _ _ _ x0 s0 (by omega) (by omega)).mono ?_
  rintro e w12 ⟨rfl, x0, b12⟩
  have z12 := Nat.le_of_eq b12.size
  have y12 := Nat.le_of_eq b12.size.symm
  have W := W.only intOw_ok b12 (by omega)
  have x1 := x1.only intOw_ok b12 (by omega)
  have G := G.only intOw_ok b12 (by omega)
  have T := T.trans (b12.below.mono (by omega))
  go_wp2_with fail
  refine (markInt64S_v _ _ _ _ _ _ x1 s1 (by omega) (by omega)).mono ?_
  rintro e w13 ⟨rfl, x1, b13⟩
  have z13 := Nat.le_of_eq b13.size
  have y13 := Nat.le_of_eq b13.size.symm
  have W := W.only intOw_ok b13 (by omega)
  have G := G.only intOw_ok b13 (by omega)
  have x0 := x0.only intOw_ok b13 (by omega)
  have T := T.trans (b13.below.mono (by omega))
  go_wp2_with fail
  refine (eqInt64S_v _ _ _ _ _ (G.reads (intOw_reads w13.heap.size) (by omega)) (W.reads (intOw_reads w13.heap.size) (by omega)) sr sr).mono ?_
  rintro e w14 ⟨rfl, b14⟩
  have z14 := b14.size
  have W := W.below intOw_ok b14 (by omega)
  have G := G.below intOw_ok b14 (by omega)
  have x0 := x0.below intOw_ok b14 (by omega)
  have x1 := x1.below intOw_ok b14 (by omega)
  have T := T.trans (b14.mono (by omega))
  clear x0
  clear x1
  go_wp2_with fail
  refine (markInt64S_v _ _ _ _ _ _ G sr (by omega) (by omega)).mono ?_
  rintro e w15 ⟨rfl, G, b15⟩
  have z15 := Nat.le_of_eq b15.size
  have y15 := Nat.le_of_eq b15.size.symm
  have W := W.only intOw_ok b15 (by omega)
  have T := T.trans (b15.below.mono (by omega))
  go_wp2_with fail
  refine (heldInt64S_v _ (addRes xs ys).1 _ _ (G.reads (intOw_reads w15.heap.size) (by omega)) sr (by omega) (by omega)).mono ?_
  rintro e w16 ⟨rfl, b16⟩
  have z16 := b16.size
  have W := W.below intOw_ok b16 (by omega)
  have G := G.below intOw_ok b16 (by omega)
  have T := T.trans (b16.mono (by omega))
  go_wp2_with fail
  refine (toInt64S_v _ xs _ (R0.below intRd_ok T) T.size s0).mono ?_
  rintro e w17 ⟨⟨t17, rfl, p0⟩, b17⟩
  have z17 := b17.size
  have W := W.below intOw_ok b17 (by omega)
  have G := G.below intOw_ok b17 (by omega)
  have T := T.trans (b17.mono (by omega))
  go_wp2_with fail
  refine (toInt64S_v _ ys _ (R1.below intRd_ok T) T.size s1).mono ?_
  rintro e w18 ⟨⟨t18, rfl, p1⟩, b18⟩
  have z18 := b18.size
  have W := W.below intOw_ok b18 (by omega)
  have G := G.below intOw_ok b18 (by omega)
  have p0 := p0.below intOw_ok b18 (by omega)
  have T := T.trans (b18.mono (by omega))
  go_wp2_with fail
  refine (impl_AddCounts_v _ _ xs ys _ (p0.reads (intOw_reads w18.heap.size) (by omega)) (p1.reads (intOw_reads w18.heap.size) (by omega)) (Nat.le_refl _) (Nat.le_refl _) s0 s1).mono ?_
  rintro e w19 ⟨⟨u19, rfl, H⟩, b19⟩
  have z19 := b19.size
  have W := W.below intOw_ok b19 (by omega)
  have G := G.below intOw_ok b19 (by omega)
  have p0 := p0.below intOw_ok b19 (by omega)
  have p1 := p1.below intOw_ok b19 (by omega)
  have T := T.trans (b19.mono (by omega))
  clear p0
  clear p1
  go_wp2_with fail
  refine (eqInt64S_v _ _ _ _ _ (H.reads (intOw_reads w19.heap.size) (by omega)) (W.reads (intOw_reads w19.heap.size) (by omega)) sr sr).mono ?_
  rintro e w20 ⟨rfl, b20⟩
  have z20 := b20.size
  have W := W.below intOw_ok b20 (by omega)
  have G := G.below intOw_ok b20 (by omega)
  have H := H.below intOw_ok b20 (by omega)
  have T := T.trans (b20.mono (by omega))
  go_wp2_with fail
  refine (heldInt64S_v _ (addRes xs ys).1 _ _ (G.reads (intOw_reads w20.heap.size) (by omega)) sr (by omega) (by omega)).mono ?_
  rintro e w21 ⟨rfl, b21⟩
  have z21 := b21.size
  have W := W.below intOw_ok b21 (by omega)
  have G := G.below intOw_ok b21 (by omega)
  have H := H.below intOw_ok b21 (by omega)
  have T := T.trans (b21.mono (by omega))
  go_wp2_with fail
  go_ret
  exact ⟨rfl, T⟩

end Go.Proofs.Yteibnofhpkcncaa
