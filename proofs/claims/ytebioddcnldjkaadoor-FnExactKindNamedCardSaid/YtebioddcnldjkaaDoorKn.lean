/- The names of the kinds of agents: a package variable of the program, a slice of the reference's own. -/
import Derived.Test.YtebioddcnldjkaaDoorScal
namespace Go.Proofs.YtebioddcnldjkaaDoor
open Go.RowKit
set_option linter.unusedVariables false
set_option linter.unusedSimpArgs false
def kindName (k : Int) : ByteArray :=
  if k = 1 then ⟨#[114, 111, 111, 116]⟩ else if k = 2 then ⟨#[108, 97, 109]⟩ else if k = 3 then ⟨#[97, 112, 112]⟩ else if k = 4 then ⟨#[102, 97, 110]⟩ else if k = 5 then ⟨#[101, 114, 97]⟩ else if k = 6 then ⟨#[110, 117, 109]⟩ else if k = 7 then ⟨#[111, 112]⟩ else if k = 8 then ⟨#[111, 112, 49]⟩ else if k = 9 then ⟨#[99, 111, 110]⟩ else if k = 10 then ⟨#[109, 97, 116]⟩ else if k = 11 then ⟨#[115, 119, 105]⟩ else if k = 12 then ⟨#[114, 101, 102]⟩ else ⟨#[]⟩
theorem kindName_out {k : Int} (h : k < 1 ∨ 12 < k) : kindName k = ⟨#[]⟩ := by
  unfold kindName
  rw [if_neg (by omega), if_neg (by omega), if_neg (by omega), if_neg (by omega), if_neg (by omega), if_neg (by omega), if_neg (by omega), if_neg (by omega), if_neg (by omega), if_neg (by omega), if_neg (by omega), if_neg (by omega)]
def KindsAt (w : World) : Prop := ∀ j : Nat, j < 12 → w.cell? ⟨0, j, none⟩ = some (.string (kindName ((j : Int) + 1)))
theorem kinds_all {w : World} (h : KindsAt w) : w.cell? ⟨0, 0, none⟩ = some (.string (kindName 1)) ∧ w.cell? ⟨0, 1, none⟩ = some (.string (kindName 2)) ∧ w.cell? ⟨0, 2, none⟩ = some (.string (kindName 3)) ∧ w.cell? ⟨0, 3, none⟩ = some (.string (kindName 4)) ∧ w.cell? ⟨0, 4, none⟩ = some (.string (kindName 5)) ∧ w.cell? ⟨0, 5, none⟩ = some (.string (kindName 6)) ∧ w.cell? ⟨0, 6, none⟩ = some (.string (kindName 7)) ∧ w.cell? ⟨0, 7, none⟩ = some (.string (kindName 8)) ∧ w.cell? ⟨0, 8, none⟩ = some (.string (kindName 9)) ∧ w.cell? ⟨0, 9, none⟩ = some (.string (kindName 10)) ∧ w.cell? ⟨0, 10, none⟩ = some (.string (kindName 11)) ∧ w.cell? ⟨0, 11, none⟩ = some (.string (kindName 12)) :=
  ⟨h 0 (by decide), h 1 (by decide), h 2 (by decide), h 3 (by decide), h 4 (by decide), h 5 (by decide), h 6 (by decide), h 7 (by decide), h 8 (by decide), h 9 (by decide), h 10 (by decide), h 11 (by decide)⟩
theorem KindsAt.below {w w' : World} (h : KindsAt w) (hb : Below w.heap.size w w') : KindsAt w' := fun j hj => by
  have h1 := h j hj
  have h0 : 0 < w.heap.size := by
    by_cases h2 : 0 < w.heap.size
    · exact h2
    · simp [World.cell?, show ¬ (0 < w.heap.size) from h2] at h1
  rw [← h1]
  unfold World.cell?
  rw [hb.block 0 h0]

set_option maxHeartbeats 2000000 in
theorem impl_KindName (k : Int) (w : World) (hg : KindsAt w) : Calls Tryd.prog 6 #[.int .i64 k] w fun e w' => e = .returned (.string (kindName k)) ∧ Below w.heap.size w w' := by
  have hr := Below.refl w.heap.size w
  by_cases hk : k < 1 ∨ 12 < k
  · have he := Lib.hid (kindName_out hk)
    have hi : isKind k = false := by simp [isKind, inR]; omega
    clear hg
    go_enter Tryd.func6, Tryd.ntmps6
    go_wp2_with (go_at_call 11; refine (impl_isKind _ _).mono ?_; rintro e w' ⟨rfl, rfl⟩)
    all_goals go_ret
    all_goals exact ⟨by rw [he.out]; rfl, hr⟩
  · have hi : isKind k = true := by simp [isKind, inR]; omega
    have hk : k = 1 ∨ k = 2 ∨ k = 3 ∨ k = 4 ∨ k = 5 ∨ k = 6 ∨ k = 7 ∨ k = 8 ∨ k = 9 ∨ k = 10 ∨ k = 11 ∨ k = 12 := by omega
    obtain ⟨g1, g2, g3, g4, g5, g6, g7, g8, g9, g10, g11, g12⟩ := kinds_all hg
    clear hg
    rcases hk with rfl | rfl | rfl | rfl | rfl | rfl | rfl | rfl | rfl | rfl | rfl | rfl
    all_goals
      go_enter Tryd.func6, Tryd.ntmps6
      go_wp2_with (go_at_call 11; refine (impl_isKind _ _).mono ?_; rintro e w' ⟨rfl, rfl⟩)
      go_ret
      exact ⟨rfl, hr⟩

def kindCells : Array Value := #[.string (kindName 1), .string (kindName 2), .string (kindName 3), .string (kindName 4), .string (kindName 5), .string (kindName 6), .string (kindName 7), .string (kindName 8), .string (kindName 9), .string (kindName 10), .string (kindName 11), .string (kindName 12)]
theorem spec_l10Kinds (w : World) : Calls Tryd.prog 10 #[] w fun e w' => e = .returned (.slice (some ⟨w.heap.size, 0, none⟩) 12 12) ∧ w' = w.alloc (.cells kindCells 9) := by
  go_enter Tryd.func10, Tryd.ntmps10
  go_wp2
  go_ret
  exact ⟨rfl, rfl⟩
set_option maxHeartbeats 2000000 in
theorem spec_KindName (k : Int) (w : World) : Calls Tryd.prog 5 #[.int .i64 k] w fun e w' => e = .returned (.string (kindName k)) ∧ Below w.heap.size w w' := by
  have hb : ∀ o, Below w.heap.size w (w.alloc o) := fun o => (Below.refl _ _).alloc (Nat.le_refl _) o
  have hr := Below.refl w.heap.size w
  by_cases hk : k < 1 ∨ 12 < k
  · have he := Lib.hid (kindName_out hk)
    have hi : isKind k = false := by simp [isKind, inR]; omega
    go_enter Tryd.func5, Tryd.ntmps5
    go_wp2_with (go_at_call 9; refine (spec_l10Kind _ _).mono ?_; rintro e w' ⟨rfl, rfl⟩)
    all_goals go_ret
    all_goals exact ⟨by rw [he.out]; rfl, hr⟩
  · have hi : isKind k = true := by simp [isKind, inR]; omega
    have hk : k = 1 ∨ k = 2 ∨ k = 3 ∨ k = 4 ∨ k = 5 ∨ k = 6 ∨ k = 7 ∨ k = 8 ∨ k = 9 ∨ k = 10 ∨ k = 11 ∨ k = 12 := by omega
    rcases hk with rfl | rfl | rfl | rfl | rfl | rfl | rfl | rfl | rfl | rfl | rfl | rfl
    all_goals
      go_enter Tryd.func5, Tryd.ntmps5
      go_wp2_with (first | (go_at_call 9; refine (spec_l10Kind _ _).mono ?_; rintro e w' ⟨rfl, rfl⟩) | (go_at_call 10; refine (spec_l10Kinds _).mono ?_; rintro e w' ⟨rfl, rfl⟩; simp only [kindCells]))
      go_ret
      exact ⟨rfl, hb _⟩

theorem walk_KindName (w : World) (a : Int) (hg : KindsAt w) : Calls Tryd.prog 3 #[.int .i64 a] w fun e w' => e = .returned (.bool true) ∧ Below w.heap.size w w' := by
  have Hg := Lib.hid hg
  clear hg
  go_enter Tryd.func3, Tryd.ntmps3
  go_wp2_with fail
  refine (spec_KindName _ _).mono ?_
  rintro e w1 ⟨rfl, hb1⟩
  go_wp2_with fail
  refine (impl_KindName _ _ (Hg.out.below hb1)).mono ?_
  rintro e w2 ⟨rfl, hb2⟩
  go_wp2
  all_goals go_ret
  all_goals exact ⟨rfl, hb1.trans (hb2.mono hb1.size)⟩

end Go.Proofs.YtebioddcnldjkaaDoor
