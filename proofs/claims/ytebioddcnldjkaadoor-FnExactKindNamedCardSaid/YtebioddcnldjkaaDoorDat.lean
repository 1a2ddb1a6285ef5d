/- Plain facts on the data of the program: what the functions on numbers compute. Nothing of the program in sight. -/
import Derived.WalkKit
import Derived.Lib.Hide
namespace Go.Proofs.YtebioddcnldjkaaDoor
open Go.RowKit

def inR (n lo hi : Int) : Bool := decide (lo ≤ n) && decide (n ≤ hi)
def isKind (k : Int) : Bool := decide (1 ≤ k) && decide (k ≤ 12)
def isLevel (k : Int) : Bool := decide (0 ≤ k) && decide (k ≤ 8)
def hasLevel (k : Int) : Bool := decide (2 ≤ k) && decide (k ≤ 12) && decide (k ≠ 5) && decide (k ≠ 6)
def allowed (k l : Int) : Bool := isKind k && (decide (l = 0) || (hasLevel k && isLevel l))
def consumer (k : Int) : Bool := decide (k = 3) || decide (k = 7) || decide (k = 8) || decide (k = 10) || decide (k = 11)
theorem retB {b c : Bool} (h : b = c) : Ending.returned (.bool b) = .returned (.bool c) := by rw [h]
theorem retI {k : IntKind} {a b : Int} (h : a = b) : Ending.returned (.int k a) = .returned (.int k b) := by rw [h]
def dup (a k l : Int) : Bool := isLevel a && allowed k l && (decide (k = 6) || decide (k = 12) || (hasLevel k && decide (a < l)))
/-- The class of a pair in the order of the table; 0 if there is none. -/
def rule (ka la kb lb : Int) : Int :=
  if ka = 5 then 4
  else if ka = 4 then (if kb = 4 ∧ la = lb then 2 else if dup la kb lb = true then 3 else 0)
  else if ka = 2 then (if kb = 3 ∧ la = lb then 1 else 0)
  else if ka = 6 then (if kb = 7 ∨ kb = 8 then 5 else if kb = 11 then 6 else 0)
  else if ka = 9 then (if kb = 10 then 6 else 0)
  else if ka = 12 then (if consumer kb = true then 7 else 0)
  else 0
def mayPair (ka la kb lb : Int) : Bool := allowed ka la && allowed kb lb && decide (ka ≠ 1) && decide (kb ≠ 1)
def pairClass (ka la kb lb : Int) : Int :=
  if mayPair ka la kb lb = true then (if rule ka la kb lb ≠ 0 then rule ka la kb lb else if rule kb lb ka la ≠ 0 then rule kb lb ka la else 8) else 0
def pairFirst (ka la kb lb : Int) : Int :=
  if mayPair ka la kb lb = true then (if rule ka la kb lb ≠ 0 then 1 else if rule kb lb ka la ≠ 0 then 2 else 0) else 0
def portsOf (k f : Int) : Int :=
  if k = 9 then (if 0 ≤ f ∧ f ≤ 3 then f + 1 else 0)
  else if f ≠ 0 then 0
  else if k = 1 ∨ k = 5 ∨ k = 6 ∨ k = 12 then 1
  else if k = 8 ∨ k = 10 ∨ k = 11 then 2
  else if k = 2 ∨ k = 3 ∨ k = 4 ∨ k = 7 then 3 else 0
def growth (c p : Int) : Int × Int :=
  if c = 1 ∨ c = 2 then (if p = 0 then (-2, 0) else (0, 2))
  else if c = 3 then (if 0 ≤ p ∧ p ≤ 3 then (p, 0) else (0, 2))
  else if c = 4 then (if 0 ≤ p ∧ p ≤ 3 then (p - 2, 0) else (0, 2))
  else if c = 5 then (if p = 0 then (-1, 0) else (0, 2))
  else if c = 6 then (if 0 ≤ p ∧ p ≤ 3 then (p - 1, 0) else (0, 2))
  else if c = 7 then (if 2 ≤ p ∧ p ≤ 600 then (p - 2, 0) else (0, 2))
  else (0, 2)
def turns (k : Int) : Bool := decide (k = 4) || decide (k = 5)
def outB (k s : Int) (r : Bool) : Bool :=
  if k = 2 then decide (s < 2)
  else if k = 3 ∨ k = 7 then decide (s = 2)
  else if k = 4 then (decide (s ≠ 0) != r)
  else if k = 5 then r
  else if k = 6 ∨ k = 12 ∨ k = 9 then decide (s = 0)
  else if k = 8 ∨ k = 10 ∨ k = 11 then decide (s = 1)
  else false
theorem retI2 {k k' : IntKind} {a b : Int} {c d : Int} (h : (a, c) = (b, d)) : Ending.returned (.tuple #[.int k a, .int k' c]) = .returned (.tuple #[.int k b, .int k' d]) := by
  injection h with h1 h2; rw [h1, h2]
def roleMost (k : Int) : Int := if k = 9 then 4 else portsOf k 0
/-- The role of a port: 0 if there is none, 1 an input, 2 an output. -/
def portRole (k s : Int) (r : Bool) : Int :=
  if s < 0 ∨ roleMost k ≤ s ∨ (r = true ∧ turns k = false) then 0 else if outB k s r = true then 2 else 1
/-- The role of a port of an agent that is not reversed, as the reference reckons it. -/
def rolePlain (k s : Int) : Int :=
  if (if k = 6 ∨ k = 12 then true else if k = 2 then decide (s < 2) else if k = 9 then decide (s = 0) else if k = 3 ∨ k = 7 then decide (s = 2) else if k = 4 ∨ k = 8 ∨ k = 10 ∨ k = 11 then decide (0 < s) else false) = true then 2 else 1
def roleSpec (k s : Int) (r : Bool) : Int := if r = true then 3 - rolePlain k s else rolePlain k s
theorem portsOf_pos {k s : Int} (h0 : 0 ≤ s) (h1 : s < roleMost k) : isKind k = true := by
  grind [roleMost, portsOf, isKind]
theorem roleSpec_eq {k s : Int} {r : Bool} (h0 : 0 ≤ s) (h1 : s < roleMost k) (h2 : r = true → turns k = true) : roleSpec k s r = if outB k s r = true then 2 else 1 := by
  have hk := portsOf_pos h0 h1
  have hk : k = 1 ∨ k = 2 ∨ k = 3 ∨ k = 4 ∨ k = 5 ∨ k = 6 ∨ k = 7 ∨ k = 8 ∨ k = 9 ∨ k = 10 ∨ k = 11 ∨ k = 12 := by simp [isKind] at hk; omega
  rcases hk with rfl | rfl | rfl | rfl | rfl | rfl | rfl | rfl | rfl | rfl | rfl | rfl <;> cases r <;> grind [roleMost, portsOf, turns, outB, roleSpec, rolePlain]
theorem hasLevel_kind {k : Int} (h : hasLevel k = true) : isKind k = true := by
  simp [hasLevel, isKind] at *; omega
end Go.Proofs.YtebioddcnldjkaaDoor
