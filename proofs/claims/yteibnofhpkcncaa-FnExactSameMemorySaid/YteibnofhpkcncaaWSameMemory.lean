/- The walk of the law SameMemory. -/
import Derived.Test.YteibnofhpkcncaaSmM
import Derived.Test.YteibnofhpkcncaaFToM
import Derived.Test.YteibnofhpkcncaaFEqM
import Derived.Test.YteibnofhpkcncaaFSz
import Derived.Deep.RegionHeld3
namespace Go.Proofs.Yteibnofhpkcncaa
open Go.RowKit
set_option linter.unusedVariables false
set_option linter.unusedSimpArgs false
set_option maxRecDepth 100000

set_option maxHeartbeats 8000000 in
theorem walk_SameMemory (w : World) (v0 : Value) (x : DMemory) (R0 : RdT memoryRd w w.heap.size v0 x) (v1 : Value) (y : DMemory) (R1 : RdT memoryRd w w.heap.size v1 y) :
    Calls Try.prog 13 #[v0, v1] w fun e w' => e = .returned (.bool true) ∧ Below w.heap.size w w' := by
  obtain ⟨a0A0, a0n0, a0c0, a0A3, a0n3, a0c3, rfl⟩ : ∃ a0A0 a0n0 a0c0 a0A3 a0n3 a0c3, v0 = .agg #[.slice a0A0 a0n0 a0c0, .int .i64 x.free, .int .i64 x.root.tag, .int .i64 x.root.at_, .slice a0A3 a0n3 a0c3] := by obtain ⟨cs, rfl, ⟨A0, n0, c0, A3, n3, c3, rfl, _⟩⟩ := R0; exact ⟨A0, n0, c0, A3, n3, c3, rfl⟩
  obtain ⟨a1A0, a1n0, a1c0, a1A3, a1n3, a1c3, rfl⟩ : ∃ a1A0 a1n0 a1c0 a1A3 a1n3 a1c3, v1 = .agg #[.slice a1A0 a1n0 a1c0, .int .i64 y.free, .int .i64 y.root.tag, .int .i64 y.root.at_, .slice a1A3 a1n3 a1c3] := by obtain ⟨cs, rfl, ⟨A0, n0, c0, A3, n3, c3, rfl, _⟩⟩ := R1; exact ⟨A0, n0, c0, A3, n3, c3, rfl⟩
  by_cases d0 : (szMemory x : Int) ≤ 1048576
  case neg =>
    have T := Below.refl w.heap.size w
    have T : Below w.heap.size w (w.alloc (.cells #[.slice a0A0 a0n0 a0c0, .int .i64 x.free, .int .i64 x.root.tag, .int .i64 x.root.at_, .slice a0A3 a0n3 a0c3] 53)) := T.alloc (by first | exact Nat.le_refl _ | (simp; done) | (simp; omega)) _
    have B0 : Blk (w.alloc (.cells #[.slice a0A0 a0n0 a0c0, .int .i64 x.free, .int .i64 x.root.tag, .int .i64 x.root.at_, .slice a0A3 a0n3 a0c3] 53)) (w.heap.size) 53 #[.slice a0A0 a0n0 a0c0, .int .i64 x.free, .int .i64 x.root.tag, .int .i64 x.root.at_, .slice a0A3 a0n3 a0c3] := by have := Blk.new w 53 #[.slice a0A0 a0n0 a0c0, .int .i64 x.free, .int .i64 x.root.tag, .int .i64 x.root.at_, .slice a0A3 a0n3 a0c3]; simpa using this
    have zb0 : (w.alloc (.cells #[.slice a0A0 a0n0 a0c0, .int .i64 x.free, .int .i64 x.root.tag, .int .i64 x.root.at_, .slice a0A3 a0n3 a0c3] 53)).heap.size = w.heap.size + 1 := by simp
    have T : Below w.heap.size w ((w.alloc (.cells #[.slice a0A0 a0n0 a0c0, .int .i64 x.free, .int .i64 x.root.tag, .int .i64 x.root.at_, .slice a0A3 a0n3 a0c3] 53)).alloc (.cells #[.slice a1A0 a1n0 a1c0, .int .i64 y.free, .int .i64 y.root.tag, .int .i64 y.root.at_, .slice a1A3 a1n3 a1c3] 53)) := T.alloc (by first | exact Nat.le_refl _ | (simp; done) | (simp; omega)) _
    have B0 := B0.alloc (.cells #[.slice a1A0 a1n0 a1c0, .int .i64 y.free, .int .i64 y.root.tag, .int .i64 y.root.at_, .slice a1A3 a1n3 a1c3] 53)
    have B1 : Blk ((w.alloc (.cells #[.slice a0A0 a0n0 a0c0, .int .i64 x.free, .int .i64 x.root.tag, .int .i64 x.root.at_, .slice a0A3 a0n3 a0c3] 53)).alloc (.cells #[.slice a1A0 a1n0 a1c0, .int .i64 y.free, .int .i64 y.root.tag, .int .i64 y.root.at_, .slice a1A3 a1n3 a1c3] 53)) (w.heap.size + 1) 53 #[.slice a1A0 a1n0 a1c0, .int .i64 y.free, .int .i64 y.root.tag, .int .i64 y.root.at_, .slice a1A3 a1n3 a1c3] := by have := Blk.new (w.alloc (.cells #[.slice a0A0 a0n0 a0c0, .int .i64 x.free, .int .i64 x.root.tag, .int .i64 x.root.at_, .slice a0A3 a0n3 a0c3] 53)) 53 #[.slice a1A0 a1n0 a1c0, .int .i64 y.free, .int .i64 y.root.tag, .int .i64 y.root.at_, .slice a1A3 a1n3 a1c3]; simpa using this
    have zb1 : ((w.alloc (.cells #[.slice a0A0 a0n0 a0c0, .int .i64 x.free, .int .i64 x.root.tag, .int .i64 x.root.at_, .slice a0A3 a0n3 a0c3] 53)).alloc (.cells #[.slice a1A0 a1n0 a1c0, .int .i64 y.free, .int .i64 y.root.tag, .int .i64 y.root.at_, .slice a1A3 a1n3 a1c3] 53)).heap.size = w.heap.size + 1 + 1 := by simp
    go_enter Try.func13, Try.ntmps13
    go_wp2_with fail
    refine (szMemory_v _ x (1048576) _ (R0.below memoryRd_ok T) T.size (by omega) (by omega)).mono ?_
    rw [szL_neg (by omega)]
    rintro e w1 ⟨rfl, b1⟩
    have z1 := b1.size
    have B0 := B0.below b1 (by omega)
    have B1 := B1.below b1 (by omega)
    have T := T.trans (b1.mono (by omega))
    have gB0 := B0.cell
    have gB1 := B1.cell
    go_wp2_with fail
    go_ret
    exact ⟨rfl, T⟩
  by_cases d1 : (szMemory y : Int) ≤ 1048576 - (szMemory x : Int)
  case neg =>
    have T := Below.refl w.heap.size w
    have T : Below w.heap.size w (w.alloc (.cells #[.slice a0A0 a0n0 a0c0, .int .i64 x.free, .int .i64 x.root.tag, .int .i64 x.root.at_, .slice a0A3 a0n3 a0c3] 53)) := T.alloc (by first | exact Nat.le_refl _ | (simp; done) | (simp; omega)) _
    have B0 : Blk (w.alloc (.cells #[.slice a0A0 a0n0 a0c0, .int .i64 x.free, .int .i64 x.root.tag, .int .i64 x.root.at_, .slice a0A3 a0n3 a0c3] 53)) (w.heap.size) 53 #[.slice a0A0 a0n0 a0c0, .int .i64 x.free, .int .i64 x.root.tag, .int .i64 x.root.at_, .slice a0A3 a0n3 a0c3] := by have := Blk.new w 53 #[.slice a0A0 a0n0 a0c0, .int .i64 x.free, .int .i64 x.root.tag, .int .i64 x.root.at_, .slice a0A3 a0n3 a0c3]; simpa using this
    have zb0 : (w.alloc (.cells #[.slice a0A0 a0n0 a0c0, .int .i64 x.free, .int .i64 x.root.tag, .int .i64 x.root.at_, .slice a0A3 a0n3 a0c3] 53)).heap.size = w.heap.size + 1 := by simp
    have T : Below w.heap.size w ((w.alloc (.cells #[.slice a0A0 a0n0 a0c0, .int .i64 x.free, .int .i64 x.root.tag, .int .i64 x.root.at_, .slice a0A3 a0n3 a0c3] 53)).alloc (.cells #[.slice a1A0 a1n0 a1c0, .int .i64 y.free, .int .i64 y.root.tag, .int .i64 y.root.at_, .slice a1A3 a1n3 a1c3] 53)) := T.alloc (by first | exact Nat.le_refl _ | (simp; done) | (simp; omega)) _
    have B0 := B0.alloc (.cells #[.slice a1A0 a1n0 a1c0, .int .i64 y.free, .int .i64 y.root.tag, .int .i64 y.root.at_, .slice a1A3 a1n3 a1c3] 53)
    have B1 : Blk ((w.alloc (.cells #[.slice a0A0 a0n0 a0c0, .int .i64 x.free, .int .i64 x.root.tag, .int .i64 x.root.at_, .slice a0A3 a0n3 a0c3] 53)).alloc (.cells #[.slice a1A0 a1n0 a1c0, .int .i64 y.free, .int .i64 y.root.tag, .int .i64 y.root.at_, .slice a1A3 a1n3 a1c3] 53)) (w.heap.size + 1) 53 #[.slice a1A0 a1n0 a1c0, .int .i64 y.free, .int .i64 y.root.tag, .int .i64 y.root.at_, .slice a1A3 a1n3 a1c3] := by have := Blk.new (w.alloc (.cells #[.slice a0A0 a0n0 a0c0, .int .i64 x.free, .int .i64 x.root.tag, .int .i64 x.root.at_, .slice a0A3 a0n3 a0c3] 53)) 53 #[.slice a1A0 a1n0 a1c0, .int .i64 y.free, .int .i64 y.root.tag, .int .i64 y.root.at_, .slice a1A3 a1n3 a1c3]; simpa using this
    have zb1 : ((w.alloc (.cells #[.slice a0A0 a0n0 a0c0, .int .i64 x.free, .int .i64 x.root.tag, .int .i64 x.root.at_, .slice a0A3 a0n3 a0c3] 53)).alloc (.cells #[.slice a1A0 a1n0 a1c0, .int .i64 y.free, .int .i64 y.root.tag, .int .i64 y.root.at_, .slice a1A3 a1n3 a1c3] 53)).heap.size = w.heap.size + 1 + 1 := by simp
    go_enter Try.func13, Try.ntmps13
    go_wp2_with fail
    refine (szMemory_v _ x (1048576) _ (R0.below memoryRd_ok T) T.size (by omega) (by omega)).mono ?_
    rw [szL_pos (by omega)]
    rintro e w1 ⟨rfl, b1⟩
    have z1 := b1.size
    have B0 := B0.below b1 (by omega)
    have B1 := B1.below b1 (by omega)
    have T := T.trans (b1.mono (by omega))
    have gB0 := B0.cell
    have gB1 := B1.cell
    go_wp2_with fail
    refine (szMemory_v _ y (1048576 - (szMemory x : Int)) _ (R1.below memoryRd_ok T) T.size (by omega) (by omega)).mono ?_
    rw [szL_neg (by omega)]
    rintro e w2 ⟨rfl, b2⟩
    have z2 := b2.size
    have B0 := B0.below b2 (by omega)
    have B1 := B1.below b2 (by omega)
    have T := T.trans (b2.mono (by omega))
    clear gB0
    clear gB1
    have gB0 := B0.cell
    have gB1 := B1.cell
    go_wp2_with fail
    go_ret
    exact ⟨rfl, T⟩
  have s0 : szMemory x ≤ 1048576 := by omega
  have s1 : szMemory y ≤ 1048576 := by omega
  have T := Below.refl w.heap.size w
  have T : Below w.heap.size w (w.alloc (.cells #[.slice a0A0 a0n0 a0c0, .int .i64 x.free, .int .i64 x.root.tag, .int .i64 x.root.at_, .slice a0A3 a0n3 a0c3] 53)) := T.alloc (by first | exact Nat.le_refl _ | (simp; done) | (simp; omega)) _
  have B0 : Blk (w.alloc (.cells #[.slice a0A0 a0n0 a0c0, .int .i64 x.free, .int .i64 x.root.tag, .int .i64 x.root.at_, .slice a0A3 a0n3 a0c3] 53)) (w.heap.size) 53 #[.slice a0A0 a0n0 a0c0, .int .i64 x.free, .int .i64 x.root.tag, .int .i64 x.root.at_, .slice a0A3 a0n3 a0c3] := by have := Blk.new w 53 #[.slice a0A0 a0n0 a0c0, .int .i64 x.free, .int .i64 x.root.tag, .int .i64 x.root.at_, .slice a0A3 a0n3 a0c3]; simpa using this
  have zb0 : (w.alloc (.cells #[.slice a0A0 a0n0 a0c0, .int .i64 x.free, .int .i64 x.root.tag, .int .i64 x.root.at_, .slice a0A3 a0n3 a0c3] 53)).heap.size = w.heap.size + 1 := by simp
  have T : Below w.heap.size w ((w.alloc (.cells #[.slice a0A0 a0n0 a0c0, .int .i64 x.free, .int .i64 x.root.tag, .int .i64 x.root.at_, .slice a0A3 a0n3 a0c3] 53)).alloc (.cells #[.slice a1A0 a1n0 a1c0, .int .i64 y.free, .int .i64 y.root.tag, .int .i64 y.root.at_, .slice a1A3 a1n3 a1c3] 53)) := T.alloc (by first | exact Nat.le_refl _ | (simp; done) | (simp; omega)) _
  have B0 := B0.alloc (.cells #[.slice a1A0 a1n0 a1c0, .int .i64 y.free, .int .i64 y.root.tag, .int .i64 y.root.at_, .slice a1A3 a1n3 a1c3] 53)
  have B1 : Blk ((w.alloc (.cells #[.slice a0A0 a0n0 a0c0, .int .i64 x.free, .int .i64 x.root.tag, .int .i64 x.root.at_, .slice a0A3 a0n3 a0c3] 53)).alloc (.cells #[.slice a1A0 a1n0 a1c0, .int .i64 y.free, .int .i64 y.root.tag, .int .i64 y.root.at_, .slice a1A3 a1n3 a1c3] 53)) (w.heap.size + 1) 53 #[.slice a1A0 a1n0 a1c0, .int .i64 y.free, .int .i64 y.root.tag, .int .i64 y.root.at_, .slice a1A3 a1n3 a1c3] := by have := Blk.new (w.alloc (.cells #[.slice a0A0 a0n0 a0c0, .int .i64 x.free, .int .i64 x.root.tag, .int .i64 x.root.at_, .slice a0A3 a0n3 a0c3] 53)) 53 #[.slice a1A0 a1n0 a1c0, .int .i64 y.free, .int .i64 y.root.tag, .int .i64 y.root.at_, .slice a1A3 a1n3 a1c3]; simpa using this
  have zb1 : ((w.alloc (.cells #[.slice a0A0 a0n0 a0c0, .int .i64 x.free, .int .i64 x.root.tag, .int .i64 x.root.at_, .slice a0A3 a0n3 a0c3] 53)).alloc (.cells #[.slice a1A0 a1n0 a1c0, .int .i64 y.free, .int .i64 y.root.tag, .int .i64 y.root.at_, .slice a1A3 a1n3 a1c3] 53)).heap.size = w.heap.size + 1 + 1 := by simp
  go_enter Try.func13, Try.ntmps13
  go_wp2_with fail
  refine (szMemory_v _ x (1048576) _ (R0.below memoryRd_ok T) T.size (by omega) (by omega)).mono ?_
  rw [szL_pos (by omega)]
  rintro e w1 ⟨rfl, b1⟩
  have z1 := b1.size
  have B0 := B0.below b1 (by omega)
  have B1 := B1.below b1 (by omega)
  have T := T.trans (b1.mono (by omega))
  have gB0 := B0.cell
  have gB1 := B1.cell
  go_wp2_with fail
  refine (szMemory_v _ y (1048576 - (szMemory x : Int)) _ (R1.below memoryRd_ok T) T.size (by omega) (by omega)).mono ?_
  rw [szL_pos (by omega)]
  rintro e w2 ⟨rfl, b2⟩
  have z2 := b2.size
  have B0 := B0.below b2 (by omega)
  have B1 := B1.below b2 (by omega)
  have T := T.trans (b2.mono (by omega))
  clear gB0
  clear gB1
  have gB0 := B0.cell
  have gB1 := B1.cell
  go_wp2_with fail
  have T := T.drew
  have B0 := B0.drew
  have B1 := B1.drew
  have zd3 : w2.drew.heap.size = w2.heap.size := rfl
  go_region_held3 (fun w' => w'.cell? ⟨w.heap.size, 0, none⟩ = some (.slice a0A0 a0n0 a0c0) ∧ w'.cell? ⟨w.heap.size, 1, none⟩ = some (.int .i64 x.free) ∧ w'.cell? ⟨w.heap.size, 2, none⟩ = some (.int .i64 x.root.tag) ∧ w'.cell? ⟨w.heap.size, 3, none⟩ = some (.int .i64 x.root.at_) ∧ w'.cell? ⟨w.heap.size, 4, none⟩ = some (.slice a0A3 a0n3 a0c3) ∧ w'.cell? ⟨w.heap.size + 1, 0, none⟩ = some (.slice a1A0 a1n0 a1c0) ∧ w'.cell? ⟨w.heap.size + 1, 1, none⟩ = some (.int .i64 y.free) ∧ w'.cell? ⟨w.heap.size + 1, 2, none⟩ = some (.int .i64 y.root.tag) ∧ w'.cell? ⟨w.heap.size + 1, 3, none⟩ = some (.int .i64 y.root.at_) ∧ w'.cell? ⟨w.heap.size + 1, 4, none⟩ = some (.slice a1A3 a1n3 a1c3)) (exact ⟨gB0 0, gB0 1, gB0 2, gB0 3, gB0 4, gB1 0, gB1 1, gB1 2, gB1 3, gB1 4⟩) (first
    | (go_at_call_of 44 (a0A0); refine (toMemory_v _ x _ (R0.below memoryRd_ok T) T.size s0).mono ?_; rintro e w4 ⟨⟨t1, rfl, p2⟩, b4⟩; have z4 := b4.size; have B0 := B0.below b4 (by omega); have B1 := B1.below b4 (by omega); have T := T.trans (b4.mono (by omega)); clear gB0; clear gB1; have gB0 := B0.cell; have gB1 := B1.cell)
    | (go_at_call_of 44 (a1A0); refine (toMemory_v _ y _ (R1.below memoryRd_ok T) T.size s1).mono ?_; rintro e w5 ⟨⟨t3, rfl, p4⟩, b5⟩; have z5 := b5.size; have B0 := B0.below b5 (by omega); have B1 := B1.below b5 (by omega); have p2 := p2.below memoryOw_ok b5 (by omega); have T := T.trans (b5.mono (by omega)); clear gB0; clear gB1; have gB0 := B0.cell; have gB1 := B1.cell)
    | (go_at_call 43; refine (specSameMemory_v _ _ x y _ (p2.reads (memoryOw_reads (w5).heap.size) (by omega)) (p4.reads (memoryOw_reads (w5).heap.size) (by omega)) (Nat.le_refl _) (Nat.le_refl _) ).mono ?_; rintro e w6 ⟨rfl, b6⟩; have z6 := b6.size; have B0 := B0.below b6 (by omega); have B1 := B1.below b6 (by omega); have p2 := p2.below memoryOw_ok b6 (by omega); have p4 := p4.below memoryOw_ok b6 (by omega); have T := T.trans (b6.mono (by omega)); clear gB0; clear gB1; have gB0 := B0.cell; have gB1 := B1.cell; clear p2; clear p4))
  go_wp2_with fail
  refine (toMemory_v _ x _ (R0.below memoryRd_ok T) T.size s0).mono ?_
  rintro e w7 ⟨⟨t6, rfl, p7⟩, b7⟩
  have z7 := b7.size
  have B0 := B0.below b7 (by omega)
  have B1 := B1.below b7 (by omega)
  have T := T.trans (b7.mono (by omega))
  clear gB0
  clear gB1
  have gB0 := B0.cell
  have gB1 := B1.cell
  obtain ⟨l9A0, l9n0, l9c0, l9A3, l9n3, l9c3, rfl⟩ : ∃ l9A0 l9n0 l9c0 l9A3 l9n3 l9c3, t6 = .agg #[.slice l9A0 l9n0 l9c0, .int .i64 x.free, .int .i64 x.root.tag, .int .i64 x.root.at_, .slice l9A3 l9n3 l9c3] := by obtain ⟨cs, bs, rfl, ⟨A0, n0, c0, A3, n3, c3, b0, b3, rfl, _⟩, _⟩ := p7; exact ⟨A0, n0, c0, A3, n3, c3, rfl⟩
  have b8 : Below w7.heap.size w7 (w7.alloc (.cells #[.slice l9A0 l9n0 l9c0, .int .i64 x.free, .int .i64 x.root.tag, .int .i64 x.root.at_, .slice l9A3 l9n3 l9c3] 60)) := (Below.refl _ _).alloc (Nat.le_refl _) _
  have z8 : (w7.alloc (.cells #[.slice l9A0 l9n0 l9c0, .int .i64 x.free, .int .i64 x.root.tag, .int .i64 x.root.at_, .slice l9A3 l9n3 l9c3] 60)).heap.size = w7.heap.size + 1 := World.size_alloc _ _
  have B0 := B0.below b8 (by omega)
  have B1 := B1.below b8 (by omega)
  have p7 := p7.below memoryOw_ok b8 (by omega)
  have T := T.trans (b8.mono (by omega))
  have X8 : Blk (w7.alloc (.cells #[.slice l9A0 l9n0 l9c0, .int .i64 x.free, .int .i64 x.root.tag, .int .i64 x.root.at_, .slice l9A3 l9n3 l9c3] 60)) w7.heap.size 60 #[.slice l9A0 l9n0 l9c0, .int .i64 x.free, .int .i64 x.root.tag, .int .i64 x.root.at_, .slice l9A3 l9n3 l9c3] := Blk.new _ _ _
  clear gB0
  clear gB1
  have gB0 := B0.cell
  have gB1 := B1.cell
  have gX8 := X8.cell
  go_wp2_with fail
  refine (toMemory_v _ y _ (R1.below memoryRd_ok T) T.size s1).mono ?_
  rintro e w9 ⟨⟨t10, rfl, p11⟩, b9⟩
  have z9 := b9.size
  have B0 := B0.below b9 (by omega)
  have B1 := B1.below b9 (by omega)
  have X8 := X8.below b9 (by omega)
  have p7 := p7.below memoryOw_ok b9 (by omega)
  have T := T.trans (b9.mono (by omega))
  clear gB0
  clear gB1
  clear gX8
  have gB0 := B0.cell
  have gB1 := B1.cell
  have gX8 := X8.cell
  obtain ⟨l13A0, l13n0, l13c0, l13A3, l13n3, l13c3, rfl⟩ : ∃ l13A0 l13n0 l13c0 l13A3 l13n3 l13c3, t10 = .agg #[.slice l13A0 l13n0 l13c0, .int .i64 y.free, .int .i64 y.root.tag, .int .i64 y.root.at_, .slice l13A3 l13n3 l13c3] := by obtain ⟨cs, bs, rfl, ⟨A0, n0, c0, A3, n3, c3, b0, b3, rfl, _⟩, _⟩ := p11; exact ⟨A0, n0, c0, A3, n3, c3, rfl⟩
  have b10 : Below w9.heap.size w9 (w9.alloc (.cells #[.slice l13A0 l13n0 l13c0, .int .i64 y.free, .int .i64 y.root.tag, .int .i64 y.root.at_, .slice l13A3 l13n3 l13c3] 60)) := (Below.refl _ _).alloc (Nat.le_refl _) _
  have z10 : (w9.alloc (.cells #[.slice l13A0 l13n0 l13c0, .int .i64 y.free, .int .i64 y.root.tag, .int .i64 y.root.at_, .slice l13A3 l13n3 l13c3] 60)).heap.size = w9.heap.size + 1 := World.size_alloc _ _
  have B0 := B0.below b10 (by omega)
  have B1 := B1.below b10 (by omega)
  have X8 := X8.below b10 (by omega)
  have p7 := p7.below memoryOw_ok b10 (by omega)
  have p11 := p11.below memoryOw_ok b10 (by omega)
  have T := T.trans (b10.mono (by omega))
  have X12 : Blk (w9.alloc (.cells #[.slice l13A0 l13n0 l13c0, .int .i64 y.free, .int .i64 y.root.tag, .int .i64 y.root.at_, .slice l13A3 l13n3 l13c3] 60)) w9.heap.size 60 #[.slice l13A0 l13n0 l13c0, .int .i64 y.free, .int .i64 y.root.tag, .int .i64 y.root.at_, .slice l13A3 l13n3 l13c3] := Blk.new _ _ _
  clear gB0
  clear gB1
  clear gX8
  have gB0 := B0.cell
  have gB1 := B1.cell
  have gX8 := X8.cell
  have gX12 := X12.cell
  go_wp2_with fail
  refine (implSameMemory_v _ _ x y _ (p7.reads (memoryOw_reads ((w9.alloc (.cells #[.slice l13A0 l13n0 l13c0, .int .i64 y.free, .int .i64 y.root.tag, .int .i64 y.root.at_, .slice l13A3 l13n3 l13c3] 60))).heap.size) (by omega)) (p11.reads (memoryOw_reads ((w9.alloc (.cells #[.slice l13A0 l13n0 l13c0, .int .i64 y.free, .int .i64 y.root.tag, .int .i64 y.root.at_, .slice l13A3 l13n3 l13c3] 60))).heap.size) (by omega)) (Nat.le_refl _) (Nat.le_refl _) ).mono ?_
  rintro e w11 ⟨rfl, b11⟩
  have z11 := b11.size
  have B0 := B0.below b11 (by omega)
  have B1 := B1.below b11 (by omega)
  have X8 := X8.below b11 (by omega)
  have X12 := X12.below b11 (by omega)
  have p7 := p7.below memoryOw_ok b11 (by omega)
  have p11 := p11.below memoryOw_ok b11 (by omega)
  have T := T.trans (b11.mono (by omega))
  clear gB0
  clear gB1
  clear gX8
  clear gX12
  have gB0 := B0.cell
  have gB1 := B1.cell
  have gX8 := X8.cell
  have gX12 := X12.cell
  go_wp2_with fail
  have T := T.drew
  have B0 := B0.drew
  have B1 := B1.drew
  have X8 := X8.drew
  have X12 := X12.drew
  have p7 := p7.keep memoryOw_ok (w' := w11.drew) (fun _ _ _ => rfl)
  have p11 := p11.keep memoryOw_ok (w' := w11.drew) (fun _ _ _ => rfl)
  have zd12 : w11.drew.heap.size = w11.heap.size := rfl
  go_region_held3 (fun w' => w'.cell? ⟨w7.heap.size, 0, none⟩ = some (.slice l9A0 l9n0 l9c0) ∧ w'.cell? ⟨w7.heap.size, 1, none⟩ = some (.int .i64 x.free) ∧ w'.cell? ⟨w7.heap.size, 2, none⟩ = some (.int .i64 x.root.tag) ∧ w'.cell? ⟨w7.heap.size, 3, none⟩ = some (.int .i64 x.root.at_) ∧ w'.cell? ⟨w7.heap.size, 4, none⟩ = some (.slice l9A3 l9n3 l9c3) ∧ w'.cell? ⟨w.heap.size, 0, none⟩ = some (.slice a0A0 a0n0 a0c0) ∧ w'.cell? ⟨w.heap.size, 1, none⟩ = some (.int .i64 x.free) ∧ w'.cell? ⟨w.heap.size, 2, none⟩ = some (.int .i64 x.root.tag) ∧ w'.cell? ⟨w.heap.size, 3, none⟩ = some (.int .i64 x.root.at_) ∧ w'.cell? ⟨w.heap.size, 4, none⟩ = some (.slice a0A3 a0n3 a0c3)) (exact ⟨gX8 0, gX8 1, gX8 2, gX8 3, gX8 4, gB0 0, gB0 1, gB0 2, gB0 3, gB0 4⟩) (first
    | (go_at_call 44; refine (toMemory_v _ x _ (R0.below memoryRd_ok T) T.size s0).mono ?_; rintro e w13 ⟨⟨t15, rfl, p16⟩, b13⟩; have z13 := b13.size; have B0 := B0.below b13 (by omega); have B1 := B1.below b13 (by omega); have X8 := X8.below b13 (by omega); have X12 := X12.below b13 (by omega); have p7 := p7.below memoryOw_ok b13 (by omega); have p11 := p11.below memoryOw_ok b13 (by omega); have T := T.trans (b13.mono (by omega)); clear gB0; clear gB1; clear gX8; clear gX12; have gB0 := B0.cell; have gB1 := B1.cell; have gX8 := X8.cell; have gX12 := X12.cell)
    | (go_at_call 46; refine (eqMemory_v _ _ _ _ _ (p7.reads (memoryOw_reads (w13).heap.size) (by omega)) (p16.reads (memoryOw_reads (w13).heap.size) (by omega)) (Nat.le_refl _) (Nat.le_refl _)).mono ?_; rintro e w14 ⟨rfl, b14⟩; have z14 := b14.size; have B0 := B0.below b14 (by omega); have B1 := B1.below b14 (by omega); have X8 := X8.below b14 (by omega); have X12 := X12.below b14 (by omega); have p7 := p7.below memoryOw_ok b14 (by omega); have p11 := p11.below memoryOw_ok b14 (by omega); have p16 := p16.below memoryOw_ok b14 (by omega); have T := T.trans (b14.mono (by omega)); clear gB0; clear gB1; clear gX8; clear gX12; have gB0 := B0.cell; have gB1 := B1.cell; have gX8 := X8.cell; have gX12 := X12.cell))
  go_wp2_with fail
  have T := T.drew
  have B0 := B0.drew
  have B1 := B1.drew
  have X8 := X8.drew
  have X12 := X12.drew
  have p7 := p7.keep memoryOw_ok (w' := w14.drew) (fun _ _ _ => rfl)
  have p11 := p11.keep memoryOw_ok (w' := w14.drew) (fun _ _ _ => rfl)
  have p16 := p16.keep memoryOw_ok (w' := w14.drew) (fun _ _ _ => rfl)
  have zd15 : w14.drew.heap.size = w14.heap.size := rfl
  go_region_held3 (fun w' => w'.cell? ⟨w9.heap.size, 0, none⟩ = some (.slice l13A0 l13n0 l13c0) ∧ w'.cell? ⟨w9.heap.size, 1, none⟩ = some (.int .i64 y.free) ∧ w'.cell? ⟨w9.heap.size, 2, none⟩ = some (.int .i64 y.root.tag) ∧ w'.cell? ⟨w9.heap.size, 3, none⟩ = some (.int .i64 y.root.at_) ∧ w'.cell? ⟨w9.heap.size, 4, none⟩ = some (.slice l13A3 l13n3 l13c3) ∧ w'.cell? ⟨w.heap.size + 1, 0, none⟩ = some (.slice a1A0 a1n0 a1c0) ∧ w'.cell? ⟨w.heap.size + 1, 1, none⟩ = some (.int .i64 y.free) ∧ w'.cell? ⟨w.heap.size + 1, 2, none⟩ = some (.int .i64 y.root.tag) ∧ w'.cell? ⟨w.heap.size + 1, 3, none⟩ = some (.int .i64 y.root.at_) ∧ w'.cell? ⟨w.heap.size + 1, 4, none⟩ = some (.slice a1A3 a1n3 a1c3)) (exact ⟨gX12 0, gX12 1, gX12 2, gX12 3, gX12 4, gB1 0, gB1 1, gB1 2, gB1 3, gB1 4⟩) (first
    | (go_at_call 44; refine (toMemory_v _ y _ (R1.below memoryRd_ok T) T.size s1).mono ?_; rintro e w16 ⟨⟨t17, rfl, p18⟩, b16⟩; have z16 := b16.size; have B0 := B0.below b16 (by omega); have B1 := B1.below b16 (by omega); have X8 := X8.below b16 (by omega); have X12 := X12.below b16 (by omega); have p7 := p7.below memoryOw_ok b16 (by omega); have p11 := p11.below memoryOw_ok b16 (by omega); have p16 := p16.below memoryOw_ok b16 (by omega); have T := T.trans (b16.mono (by omega)); clear gB0; clear gB1; clear gX8; clear gX12; have gB0 := B0.cell; have gB1 := B1.cell; have gX8 := X8.cell; have gX12 := X12.cell)
    | (go_at_call 46; refine (eqMemory_v _ _ _ _ _ (p11.reads (memoryOw_reads (w16).heap.size) (by omega)) (p18.reads (memoryOw_reads (w16).heap.size) (by omega)) (Nat.le_refl _) (Nat.le_refl _)).mono ?_; rintro e w17 ⟨rfl, b17⟩; have z17 := b17.size; have B0 := B0.below b17 (by omega); have B1 := B1.below b17 (by omega); have X8 := X8.below b17 (by omega); have X12 := X12.below b17 (by omega); have p7 := p7.below memoryOw_ok b17 (by omega); have p11 := p11.below memoryOw_ok b17 (by omega); have p16 := p16.below memoryOw_ok b17 (by omega); have p18 := p18.below memoryOw_ok b17 (by omega); have T := T.trans (b17.mono (by omega)); clear gB0; clear gB1; clear gX8; clear gX12; have gB0 := B0.cell; have gB1 := B1.cell; have gX8 := X8.cell; have gX12 := X12.cell))
  go_wp2_with fail
  go_ret
  exact ⟨rfl, T⟩

end Go.Proofs.Yteibnofhpkcncaa
