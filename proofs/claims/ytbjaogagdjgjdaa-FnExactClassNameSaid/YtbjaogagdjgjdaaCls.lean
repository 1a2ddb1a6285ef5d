/- The names of the classes of interactions: the program's function (an array of its own) and the reference's (a slice of its own) return the same text. -/
import Derived.Test.YtbjaogagdjgjdaaScal
namespace Go.Proofs.Ytbjaogagdjgjdaa
open Go.RowKit
set_option linter.unusedVariables false
def className (k : Int) : ByteArray :=
  if k = 1 then ⟨#[98, 101, 116, 97]⟩ else if k = 2 then ⟨#[97, 110, 110, 105, 104, 105, 108, 97, 116, 101]⟩ else if k = 3 then ⟨#[100, 117, 112, 108, 105, 99, 97, 116, 101]⟩
  else if k = 4 then ⟨#[101, 114, 97, 115, 101]⟩ else if k = 5 then ⟨#[111, 112, 101, 114, 97, 116, 101]⟩ else if k = 6 then ⟨#[99, 104, 111, 111, 115, 101]⟩
  else if k = 7 then ⟨#[101, 120, 112, 97, 110, 100]⟩ else if k = 8 then ⟨#[99, 108, 97, 115, 104]⟩ else ⟨#[]⟩
theorem className_out {k : Int} (h : k < 1 ∨ 8 < k) : className k = ⟨#[]⟩ := by
  unfold className
  rw [if_neg (by omega), if_neg (by omega), if_neg (by omega), if_neg (by omega), if_neg (by omega), if_neg (by omega), if_neg (by omega), if_neg (by omega)]

set_option maxHeartbeats 2000000 in
theorem impl_ClassName (k : Int) (w : World) : Calls Try.prog 12 #[.int .i64 k] w fun e w' => e = .returned (.string (className k)) ∧ Below w.heap.size w w' := by
  have hb : ∀ o, Below w.heap.size w (w.alloc o) := fun o => (Below.refl _ _).alloc (Nat.le_refl _) o
  by_cases hk : k < 1 ∨ 8 < k
  · have he := Lib.hid (className_out hk)
    go_enter Try.func12, Try.ntmps12
    go_wp2
    all_goals go_ret
    all_goals exact ⟨by rw [he.out]; rfl, hb _⟩
  · have hk : k = 1 ∨ k = 2 ∨ k = 3 ∨ k = 4 ∨ k = 5 ∨ k = 6 ∨ k = 7 ∨ k = 8 := by omega
    rcases hk with rfl | rfl | rfl | rfl | rfl | rfl | rfl | rfl
    all_goals
      go_enter Try.func12, Try.ntmps12
      go_wp2
      go_ret
      exact ⟨rfl, hb _⟩

def classCells : Array Value := #[.string (className 1), .string (className 2), .string (className 3), .string (className 4), .string (className 5), .string (className 6), .string (className 7), .string (className 8)]
theorem spec_l10Classes (w : World) : Calls Try.prog 17 #[] w fun e w' => e = .returned (.slice (some ⟨w.heap.size, 0, none⟩) 8 8) ∧ w' = w.alloc (.cells classCells 9) := by
  go_enter Try.func17, Try.ntmps17
  go_wp2
  go_ret
  exact ⟨rfl, rfl⟩
set_option maxHeartbeats 2000000 in
theorem spec_ClassName (k : Int) (w : World) : Calls Try.prog 11 #[.int .i64 k] w fun e w' => e = .returned (.string (className k)) ∧ Below w.heap.size w w' := by
  have hb : ∀ o, Below w.heap.size w (w.alloc o) := fun o => (Below.refl _ _).alloc (Nat.le_refl _) o
  have hr := Below.refl w.heap.size w
  by_cases hk : k < 1 ∨ 8 < k
  · have he := Lib.hid (className_out hk)
    have hi : inR k 1 8 = false := by simp [inR]; omega
    go_enter Try.func11, Try.ntmps11
    go_wp2_with (go_at_call 16; refine (spec_l00In _ _ _ _).mono ?_; rintro e w' ⟨rfl, rfl⟩)
    all_goals go_ret
    all_goals exact ⟨by rw [he.out]; rfl, hr⟩
  · have hi : inR k 1 8 = true := by simp [inR]; omega
    have hk : k = 1 ∨ k = 2 ∨ k = 3 ∨ k = 4 ∨ k = 5 ∨ k = 6 ∨ k = 7 ∨ k = 8 := by omega
    rcases hk with rfl | rfl | rfl | rfl | rfl | rfl | rfl | rfl
    all_goals
      go_enter Try.func11, Try.ntmps11
      go_wp2_with (first | (go_at_call 16; refine (spec_l00In _ _ _ _).mono ?_; rintro e w' ⟨rfl, rfl⟩) | (go_at_call 17; refine (spec_l10Classes _).mono ?_; rintro e w' ⟨rfl, rfl⟩; simp only [classCells]))
      go_ret
      exact ⟨rfl, hb _⟩

theorem walk_ClassName (a : Int) (wa : (Lit.int .i64 a).wf = true) (w : World) : Calls Try.prog 5 #[.int .i64 a] w fun e w' => e = .returned (.bool true) ∧ Below w.heap.size w w' := by
  clear wa
  go_enter Try.func5, Try.ntmps5
  go_wp2_with fail
  refine (spec_ClassName _ _).mono ?_
  rintro e w1 ⟨rfl, hb1⟩
  go_wp2_with fail
  refine (impl_ClassName _ _).mono ?_
  rintro e w2 ⟨rfl, hb2⟩
  go_wp2
  all_goals go_ret
  all_goals exact ⟨rfl, hb1.trans (hb2.mono hb1.size)⟩

end Go.Proofs.Ytbjaogagdjgjdaa
