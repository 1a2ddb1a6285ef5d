/-
  No cell of these rows narrows 'for every input' (looked for: loops, veiled, ifaces, maps, wideKeys, modest, calm, conditions, laid).
  DERIVED. THE GIVEN ROWS OF THIS SEAT. 12 by the template 'for every input the law returns true; each argument reads behind the call as it read before'; 0 by the template 'total and deterministic' (their statements: YteibnofhpkcncaaTotals.lean).
  GIVEN WITH THE SEED: the statements are not yours to turn. If you find one false, say at which input.
  Laid BY PROGRAM, IN A SANDBOX (cutbox-rows.mjs): the forced cells as the released guide's own fill.sh prints them over the translation dc736b18633799a3… (all of the seat's roots in one cut). By AI agents, Wed Nov 11 2026. No macro, syntax, notation, axiom, sorry.
-/
import Derived.Test.YteibnofhpkcncaaChecked
import GoSem.Claim
import GoSem.ClaimJoined
import GoSem.ClaimMapViews
import Derived.JoinedTies
import Derived.KernelRfl
namespace Go.Proofs.Yteibnofhpkcncaa
/- THE CELL 'sum', in the pinned program and in every row, IS THE sha256 OF THE DUMP (.gsa) THAT YteibnofhpkcncaaProg.lean LOADS. Nothing in Lean hashes anything: it is a label: what it is worth is what the hold of that sum in a sandbox is worth. -/
noncomputable def Try.pinned : Pinned := { name := "yteibnofhpkcncaa", sum := "dc736b18633799a33b8de8151f1b7e833891e90c3370525d892f9cca67e983dc", checked := Try.checked }
namespace Rows
def none {H : Type} : Left H := { results := [], args := [] }

/-- 'laws.FnExactDuplicates': WHATEVER THE INPUT: true; the input reads as it did. -/
def fnExactDuplicatesSpec : ChangeSpec := { name := "fnExactDuplicates", fn := fun _ => fun
  | [d1, d2, d3] => { results := [.lit (.bool true)], args := [d1, d2, d3] }
  | _ => none }
def fnExactDuplicatesRow : OpenClaim := { program := "yteibnofhpkcncaa", sum := "dc736b18633799a33b8de8151f1b7e833891e90c3370525d892f9cca67e983dc", func := "loop.example/g01074/laws.FnExactDuplicates", spec := "fnExactDuplicates", apart := false }
def FnExactDuplicatesSaid : Prop := fnExactDuplicatesRow.holds Try.pinned (OpenSpec.ofChange fnExactDuplicatesSpec)

/-- ITS FALSE NEIGHBOUR: 'it returns false'. Refute it at one input. -/
def fnExactDuplicatesWrong : ChangeSpec := { name := "fnExactDuplicates", fn := fun _ => fun
  | [d1, d2, d3] => { results := [.lit (.bool false)], args := [d1, d2, d3] }
  | _ => none }
def FnExactDuplicatesWrongFalsely : Prop := fnExactDuplicatesRow.holds Try.pinned (OpenSpec.ofChange fnExactDuplicatesWrong)

/-- 'laws.FnExactValidCounts': WHATEVER THE INPUT: true; the input reads as it did. -/
def fnExactValidCountsSpec : ChangeSpec := { name := "fnExactValidCounts", fn := fun _ => fun
  | [d] => { results := [.lit (.bool true)], args := [d] }
  | _ => none }
def fnExactValidCountsRow : OpenClaim := { program := "yteibnofhpkcncaa", sum := "dc736b18633799a33b8de8151f1b7e833891e90c3370525d892f9cca67e983dc", func := "loop.example/g01074/laws.FnExactValidCounts", spec := "fnExactValidCounts", unfollowed := true, recurses := true, apart := false }
def FnExactValidCountsSaid : Prop := fnExactValidCountsRow.holds Try.pinned (OpenSpec.ofChange fnExactValidCountsSpec)

/-- ITS FALSE NEIGHBOUR: 'it returns false'. Refute it at one input. -/
def fnExactValidCountsWrong : ChangeSpec := { name := "fnExactValidCounts", fn := fun _ => fun
  | [d] => { results := [.lit (.bool false)], args := [d] }
  | _ => none }
def FnExactValidCountsWrongFalsely : Prop := fnExactValidCountsRow.holds Try.pinned (OpenSpec.ofChange fnExactValidCountsWrong)

/-- 'laws.FnExactValidSchedule': WHATEVER THE INPUT: true; the input reads as it did. -/
def fnExactValidScheduleSpec : ChangeSpec := { name := "fnExactValidSchedule", fn := fun _ => fun
  | [d] => { results := [.lit (.bool true)], args := [d] }
  | _ => none }
def fnExactValidScheduleRow : OpenClaim := { program := "yteibnofhpkcncaa", sum := "dc736b18633799a33b8de8151f1b7e833891e90c3370525d892f9cca67e983dc", func := "loop.example/g01074/laws.FnExactValidSchedule", spec := "fnExactValidSchedule", unfollowed := true, recurses := true, apart := false }
def FnExactValidScheduleSaid : Prop := fnExactValidScheduleRow.holds Try.pinned (OpenSpec.ofChange fnExactValidScheduleSpec)

/-- ITS FALSE NEIGHBOUR: 'it returns false'. Refute it at one input. -/
def fnExactValidScheduleWrong : ChangeSpec := { name := "fnExactValidSchedule", fn := fun _ => fun
  | [d] => { results := [.lit (.bool false)], args := [d] }
  | _ => none }
def FnExactValidScheduleWrongFalsely : Prop := fnExactValidScheduleRow.holds Try.pinned (OpenSpec.ofChange fnExactValidScheduleWrong)

/-- 'laws.FnExactGrowth': WHATEVER THE INPUT: true; the input reads as it did. -/
def fnExactGrowthSpec : ChangeSpec := { name := "fnExactGrowth", fn := fun _ => fun
  | [d1, d2] => { results := [.lit (.bool true)], args := [d1, d2] }
  | _ => none }
def fnExactGrowthRow : OpenClaim := { program := "yteibnofhpkcncaa", sum := "dc736b18633799a33b8de8151f1b7e833891e90c3370525d892f9cca67e983dc", func := "loop.example/g01074/laws.FnExactGrowth", spec := "fnExactGrowth", apart := false }
def FnExactGrowthSaid : Prop := fnExactGrowthRow.holds Try.pinned (OpenSpec.ofChange fnExactGrowthSpec)

/-- ITS FALSE NEIGHBOUR: 'it returns false'. Refute it at one input. -/
def fnExactGrowthWrong : ChangeSpec := { name := "fnExactGrowth", fn := fun _ => fun
  | [d1, d2] => { results := [.lit (.bool false)], args := [d1, d2] }
  | _ => none }
def FnExactGrowthWrongFalsely : Prop := fnExactGrowthRow.holds Try.pinned (OpenSpec.ofChange fnExactGrowthWrong)

/-- 'laws.FnExactTotalCounts': WHATEVER THE INPUT: true; the input reads as it did. -/
def fnExactTotalCountsSpec : ChangeSpec := { name := "fnExactTotalCounts", fn := fun _ => fun
  | [d] => { results := [.lit (.bool true)], args := [d] }
  | _ => none }
def fnExactTotalCountsRow : OpenClaim := { program := "yteibnofhpkcncaa", sum := "dc736b18633799a33b8de8151f1b7e833891e90c3370525d892f9cca67e983dc", func := "loop.example/g01074/laws.FnExactTotalCounts", spec := "fnExactTotalCounts", unfollowed := true, recurses := true, apart := false }
def FnExactTotalCountsSaid : Prop := fnExactTotalCountsRow.holds Try.pinned (OpenSpec.ofChange fnExactTotalCountsSpec)

/-- ITS FALSE NEIGHBOUR: 'it returns false'. Refute it at one input. -/
def fnExactTotalCountsWrong : ChangeSpec := { name := "fnExactTotalCounts", fn := fun _ => fun
  | [d] => { results := [.lit (.bool false)], args := [d] }
  | _ => none }
def FnExactTotalCountsWrongFalsely : Prop := fnExactTotalCountsRow.holds Try.pinned (OpenSpec.ofChange fnExactTotalCountsWrong)

/-- 'laws.FnExactAddCounts': WHATEVER THE INPUT: true; the input reads as it did. -/
def fnExactAddCountsSpec : ChangeSpec := { name := "fnExactAddCounts", fn := fun _ => fun
  | [d1, d2] => { results := [.lit (.bool true)], args := [d1, d2] }
  | _ => none }
def fnExactAddCountsRow : OpenClaim := { program := "yteibnofhpkcncaa", sum := "dc736b18633799a33b8de8151f1b7e833891e90c3370525d892f9cca67e983dc", func := "loop.example/g01074/laws.FnExactAddCounts", spec := "fnExactAddCounts", unfollowed := true, recurses := true, apart := false }
def FnExactAddCountsSaid : Prop := fnExactAddCountsRow.holds Try.pinned (OpenSpec.ofChange fnExactAddCountsSpec)

/-- ITS FALSE NEIGHBOUR: 'it returns false'. Refute it at one input. -/
def fnExactAddCountsWrong : ChangeSpec := { name := "fnExactAddCounts", fn := fun _ => fun
  | [d1, d2] => { results := [.lit (.bool false)], args := [d1, d2] }
  | _ => none }
def FnExactAddCountsWrongFalsely : Prop := fnExactAddCountsRow.holds Try.pinned (OpenSpec.ofChange fnExactAddCountsWrong)

/-- 'laws.FnExactPortRole': WHATEVER THE INPUT: true; the input reads as it did. -/
def fnExactPortRoleSpec : ChangeSpec := { name := "fnExactPortRole", fn := fun _ => fun
  | [d1, d2, d3] => { results := [.lit (.bool true)], args := [d1, d2, d3] }
  | _ => none }
def fnExactPortRoleRow : OpenClaim := { program := "yteibnofhpkcncaa", sum := "dc736b18633799a33b8de8151f1b7e833891e90c3370525d892f9cca67e983dc", func := "loop.example/g01074/laws.FnExactPortRole", spec := "fnExactPortRole", apart := false }
def FnExactPortRoleSaid : Prop := fnExactPortRoleRow.holds Try.pinned (OpenSpec.ofChange fnExactPortRoleSpec)

/-- ITS FALSE NEIGHBOUR: 'it returns false'. Refute it at one input. -/
def fnExactPortRoleWrong : ChangeSpec := { name := "fnExactPortRole", fn := fun _ => fun
  | [d1, d2, d3] => { results := [.lit (.bool false)], args := [d1, d2, d3] }
  | _ => none }
def FnExactPortRoleWrongFalsely : Prop := fnExactPortRoleRow.holds Try.pinned (OpenSpec.ofChange fnExactPortRoleWrong)

/-- 'laws.FnExactFirstOfPair': WHATEVER THE INPUT: true; the input reads as it did. -/
def fnExactFirstOfPairSpec : ChangeSpec := { name := "fnExactFirstOfPair", fn := fun _ => fun
  | [d1, d2, d3, d4] => { results := [.lit (.bool true)], args := [d1, d2, d3, d4] }
  | _ => none }
def fnExactFirstOfPairRow : OpenClaim := { program := "yteibnofhpkcncaa", sum := "dc736b18633799a33b8de8151f1b7e833891e90c3370525d892f9cca67e983dc", func := "loop.example/g01074/laws.FnExactFirstOfPair", spec := "fnExactFirstOfPair", apart := false }
def FnExactFirstOfPairSaid : Prop := fnExactFirstOfPairRow.holds Try.pinned (OpenSpec.ofChange fnExactFirstOfPairSpec)

/-- ITS FALSE NEIGHBOUR: 'it returns false'. Refute it at one input. -/
def fnExactFirstOfPairWrong : ChangeSpec := { name := "fnExactFirstOfPair", fn := fun _ => fun
  | [d1, d2, d3, d4] => { results := [.lit (.bool false)], args := [d1, d2, d3, d4] }
  | _ => none }
def FnExactFirstOfPairWrongFalsely : Prop := fnExactFirstOfPairRow.holds Try.pinned (OpenSpec.ofChange fnExactFirstOfPairWrong)

/-- 'laws.FnExactPairClass': WHATEVER THE INPUT: true; the input reads as it did. -/
def fnExactPairClassSpec : ChangeSpec := { name := "fnExactPairClass", fn := fun _ => fun
  | [d1, d2, d3, d4] => { results := [.lit (.bool true)], args := [d1, d2, d3, d4] }
  | _ => none }
def fnExactPairClassRow : OpenClaim := { program := "yteibnofhpkcncaa", sum := "dc736b18633799a33b8de8151f1b7e833891e90c3370525d892f9cca67e983dc", func := "loop.example/g01074/laws.FnExactPairClass", spec := "fnExactPairClass", apart := false }
def FnExactPairClassSaid : Prop := fnExactPairClassRow.holds Try.pinned (OpenSpec.ofChange fnExactPairClassSpec)

/-- ITS FALSE NEIGHBOUR: 'it returns false'. Refute it at one input. -/
def fnExactPairClassWrong : ChangeSpec := { name := "fnExactPairClass", fn := fun _ => fun
  | [d1, d2, d3, d4] => { results := [.lit (.bool false)], args := [d1, d2, d3, d4] }
  | _ => none }
def FnExactPairClassWrongFalsely : Prop := fnExactPairClassRow.holds Try.pinned (OpenSpec.ofChange fnExactPairClassWrong)

/-- 'laws.FnExactSameNet': WHATEVER THE INPUT: true; the input reads as it did. -/
def fnExactSameNetSpec : ChangeSpec := { name := "fnExactSameNet", fn := fun _ => fun
  | [d1, d2] => { results := [.lit (.bool true)], args := [d1, d2] }
  | _ => none }
def fnExactSameNetRow : OpenClaim := { program := "yteibnofhpkcncaa", sum := "dc736b18633799a33b8de8151f1b7e833891e90c3370525d892f9cca67e983dc", func := "loop.example/g01074/laws.FnExactSameNet", spec := "fnExactSameNet", unfollowed := true, recurses := true, apart := false }
def FnExactSameNetSaid : Prop := fnExactSameNetRow.holds Try.pinned (OpenSpec.ofChange fnExactSameNetSpec)

/-- ITS FALSE NEIGHBOUR: 'it returns false'. Refute it at one input. -/
def fnExactSameNetWrong : ChangeSpec := { name := "fnExactSameNet", fn := fun _ => fun
  | [d1, d2] => { results := [.lit (.bool false)], args := [d1, d2] }
  | _ => none }
def FnExactSameNetWrongFalsely : Prop := fnExactSameNetRow.holds Try.pinned (OpenSpec.ofChange fnExactSameNetWrong)

/-- 'laws.FnExactSameMemory': WHATEVER THE INPUT: true; the input reads as it did. -/
def fnExactSameMemorySpec : ChangeSpec := { name := "fnExactSameMemory", fn := fun _ => fun
  | [d1, d2] => { results := [.lit (.bool true)], args := [d1, d2] }
  | _ => none }
def fnExactSameMemoryRow : OpenClaim := { program := "yteibnofhpkcncaa", sum := "dc736b18633799a33b8de8151f1b7e833891e90c3370525d892f9cca67e983dc", func := "loop.example/g01074/laws.FnExactSameMemory", spec := "fnExactSameMemory", unfollowed := true, recurses := true, apart := false }
def FnExactSameMemorySaid : Prop := fnExactSameMemoryRow.holds Try.pinned (OpenSpec.ofChange fnExactSameMemorySpec)

/-- ITS FALSE NEIGHBOUR: 'it returns false'. Refute it at one input. -/
def fnExactSameMemoryWrong : ChangeSpec := { name := "fnExactSameMemory", fn := fun _ => fun
  | [d1, d2] => { results := [.lit (.bool false)], args := [d1, d2] }
  | _ => none }
def FnExactSameMemoryWrongFalsely : Prop := fnExactSameMemoryRow.holds Try.pinned (OpenSpec.ofChange fnExactSameMemoryWrong)

/-- 'laws.FnExactValidNet': WHATEVER THE INPUT: true; the input reads as it did. -/
def fnExactValidNetSpec : ChangeSpec := { name := "fnExactValidNet", fn := fun _ => fun
  | [d] => { results := [.lit (.bool true)], args := [d] }
  | _ => none }
def fnExactValidNetRow : OpenClaim := { program := "yteibnofhpkcncaa", sum := "dc736b18633799a33b8de8151f1b7e833891e90c3370525d892f9cca67e983dc", func := "loop.example/g01074/laws.FnExactValidNet", spec := "fnExactValidNet", unfollowed := true, recurses := true, apart := false }
def FnExactValidNetSaid : Prop := fnExactValidNetRow.holds Try.pinned (OpenSpec.ofChange fnExactValidNetSpec)

/-- ITS FALSE NEIGHBOUR: 'it returns false'. Refute it at one input. -/
def fnExactValidNetWrong : ChangeSpec := { name := "fnExactValidNet", fn := fun _ => fun
  | [d] => { results := [.lit (.bool false)], args := [d] }
  | _ => none }
def FnExactValidNetWrongFalsely : Prop := fnExactValidNetRow.holds Try.pinned (OpenSpec.ofChange fnExactValidNetWrong)

/- THE SECOND FORM. 'bulk': how many values and letters a reading holds, each counted each time it is reached (what is shared counts as often as it is met; a slice's spare places count too). A statement '..UptoSaid' is the law's where the arguments, and the package variables that the reading takes, are together of bulk at most 1048576: NARROWER than '..Said'. Prove '..Said' where nothing that the law and all that it calls make is longer than what came in: it says more and counts as full. Else prove '..UptoSaid'. A law counts once. -/
mutual
def uptoBulk {H : Type} : DataW H → Nat
  | .lit (.string bytes) => bytes.length + 1
  | .lit _ => 1
  | .nil => 1
  | .ptr d => uptoBulk d + 1
  | .slice elems spare => uptoBulkAll elems + uptoBulkAll spare + 1
  | .agg parts => uptoBulkAll parts + 1
  | .iface _ d => uptoBulk d + 1
  | .map entries => uptoBulkEntries entries + 1
  | .held _ => 1
def uptoBulkAll {H : Type} : List (DataW H) → Nat
  | [] => 0
  | d :: r => uptoBulk d + uptoBulkAll r
def uptoBulkEntries {H : Type} : List (Lit × DataW H) → Nat
  | [] => 0
  | x :: r => uptoBulkEntry x + uptoBulkEntries r
def uptoBulkEntry {H : Type} : Lit × DataW H → Nat
  | (.string bytes, d) => bytes.length + uptoBulk d + 1
  | (_, d) => uptoBulk d + 1
 end
def uptoSmall : (H : Type) → List (DataW H) → Bool := fun _ ds => decide (uptoBulkAll ds ≤ 1048576)
def OpenSpec.upto (s : _root_.Go.ChangeSpec) : _root_.Go.OpenSpec := { _root_.Go.OpenSpec.ofChange s with cond := some uptoSmall }

/-- 'laws.FnExactDuplicates', WHERE WHAT IT READS IS OF BULK AT MOST 1048576: true; the input reads as it did. -/
def fnExactDuplicatesUptoRow : OpenClaim := { program := "yteibnofhpkcncaa", sum := "dc736b18633799a33b8de8151f1b7e833891e90c3370525d892f9cca67e983dc", func := "loop.example/g01074/laws.FnExactDuplicates", spec := "fnExactDuplicates", apart := false, narrowed := true }
def FnExactDuplicatesUptoSaid : Prop := fnExactDuplicatesUptoRow.holds Try.pinned (OpenSpec.upto fnExactDuplicatesSpec)

/-- 'laws.FnExactValidCounts', WHERE WHAT IT READS IS OF BULK AT MOST 1048576: true; the input reads as it did. -/
def fnExactValidCountsUptoRow : OpenClaim := { program := "yteibnofhpkcncaa", sum := "dc736b18633799a33b8de8151f1b7e833891e90c3370525d892f9cca67e983dc", func := "loop.example/g01074/laws.FnExactValidCounts", spec := "fnExactValidCounts", unfollowed := true, recurses := true, apart := false, narrowed := true }
def FnExactValidCountsUptoSaid : Prop := fnExactValidCountsUptoRow.holds Try.pinned (OpenSpec.upto fnExactValidCountsSpec)

/-- 'laws.FnExactValidSchedule', WHERE WHAT IT READS IS OF BULK AT MOST 1048576: true; the input reads as it did. -/
def fnExactValidScheduleUptoRow : OpenClaim := { program := "yteibnofhpkcncaa", sum := "dc736b18633799a33b8de8151f1b7e833891e90c3370525d892f9cca67e983dc", func := "loop.example/g01074/laws.FnExactValidSchedule", spec := "fnExactValidSchedule", unfollowed := true, recurses := true, apart := false, narrowed := true }
def FnExactValidScheduleUptoSaid : Prop := fnExactValidScheduleUptoRow.holds Try.pinned (OpenSpec.upto fnExactValidScheduleSpec)

/-- 'laws.FnExactGrowth', WHERE WHAT IT READS IS OF BULK AT MOST 1048576: true; the input reads as it did. -/
def fnExactGrowthUptoRow : OpenClaim := { program := "yteibnofhpkcncaa", sum := "dc736b18633799a33b8de8151f1b7e833891e90c3370525d892f9cca67e983dc", func := "loop.example/g01074/laws.FnExactGrowth", spec := "fnExactGrowth", apart := false, narrowed := true }
def FnExactGrowthUptoSaid : Prop := fnExactGrowthUptoRow.holds Try.pinned (OpenSpec.upto fnExactGrowthSpec)

/-- 'laws.FnExactTotalCounts', WHERE WHAT IT READS IS OF BULK AT MOST 1048576: true; the input reads as it did. -/
def fnExactTotalCountsUptoRow : OpenClaim := { program := "yteibnofhpkcncaa", sum := "dc736b18633799a33b8de8151f1b7e833891e90c3370525d892f9cca67e983dc", func := "loop.example/g01074/laws.FnExactTotalCounts", spec := "fnExactTotalCounts", unfollowed := true, recurses := true, apart := false, narrowed := true }
def FnExactTotalCountsUptoSaid : Prop := fnExactTotalCountsUptoRow.holds Try.pinned (OpenSpec.upto fnExactTotalCountsSpec)

/-- 'laws.FnExactAddCounts', WHERE WHAT IT READS IS OF BULK AT MOST 1048576: true; the input reads as it did. -/
def fnExactAddCountsUptoRow : OpenClaim := { program := "yteibnofhpkcncaa", sum := "dc736b18633799a33b8de8151f1b7e833891e90c3370525d892f9cca67e983dc", func := "loop.example/g01074/laws.FnExactAddCounts", spec := "fnExactAddCounts", unfollowed := true, recurses := true, apart := false, narrowed := true }
def FnExactAddCountsUptoSaid : Prop := fnExactAddCountsUptoRow.holds Try.pinned (OpenSpec.upto fnExactAddCountsSpec)

/-- 'laws.FnExactPortRole', WHERE WHAT IT READS IS OF BULK AT MOST 1048576: true; the input reads as it did. -/
def fnExactPortRoleUptoRow : OpenClaim := { program := "yteibnofhpkcncaa", sum := "dc736b18633799a33b8de8151f1b7e833891e90c3370525d892f9cca67e983dc", func := "loop.example/g01074/laws.FnExactPortRole", spec := "fnExactPortRole", apart := false, narrowed := true }
def FnExactPortRoleUptoSaid : Prop := fnExactPortRoleUptoRow.holds Try.pinned (OpenSpec.upto fnExactPortRoleSpec)

/-- 'laws.FnExactFirstOfPair', WHERE WHAT IT READS IS OF BULK AT MOST 1048576: true; the input reads as it did. -/
def fnExactFirstOfPairUptoRow : OpenClaim := { program := "yteibnofhpkcncaa", sum := "dc736b18633799a33b8de8151f1b7e833891e90c3370525d892f9cca67e983dc", func := "loop.example/g01074/laws.FnExactFirstOfPair", spec := "fnExactFirstOfPair", apart := false, narrowed := true }
def FnExactFirstOfPairUptoSaid : Prop := fnExactFirstOfPairUptoRow.holds Try.pinned (OpenSpec.upto fnExactFirstOfPairSpec)

/-- 'laws.FnExactPairClass', WHERE WHAT IT READS IS OF BULK AT MOST 1048576: true; the input reads as it did. -/
def fnExactPairClassUptoRow : OpenClaim := { program := "yteibnofhpkcncaa", sum := "dc736b18633799a33b8de8151f1b7e833891e90c3370525d892f9cca67e983dc", func := "loop.example/g01074/laws.FnExactPairClass", spec := "fnExactPairClass", apart := false, narrowed := true }
def FnExactPairClassUptoSaid : Prop := fnExactPairClassUptoRow.holds Try.pinned (OpenSpec.upto fnExactPairClassSpec)

/-- 'laws.FnExactSameNet', WHERE WHAT IT READS IS OF BULK AT MOST 1048576: true; the input reads as it did. -/
def fnExactSameNetUptoRow : OpenClaim := { program := "yteibnofhpkcncaa", sum := "dc736b18633799a33b8de8151f1b7e833891e90c3370525d892f9cca67e983dc", func := "loop.example/g01074/laws.FnExactSameNet", spec := "fnExactSameNet", unfollowed := true, recurses := true, apart := false, narrowed := true }
def FnExactSameNetUptoSaid : Prop := fnExactSameNetUptoRow.holds Try.pinned (OpenSpec.upto fnExactSameNetSpec)

/-- 'laws.FnExactSameMemory', WHERE WHAT IT READS IS OF BULK AT MOST 1048576: true; the input reads as it did. -/
def fnExactSameMemoryUptoRow : OpenClaim := { program := "yteibnofhpkcncaa", sum := "dc736b18633799a33b8de8151f1b7e833891e90c3370525d892f9cca67e983dc", func := "loop.example/g01074/laws.FnExactSameMemory", spec := "fnExactSameMemory", unfollowed := true, recurses := true, apart := false, narrowed := true }
def FnExactSameMemoryUptoSaid : Prop := fnExactSameMemoryUptoRow.holds Try.pinned (OpenSpec.upto fnExactSameMemorySpec)

/-- 'laws.FnExactValidNet', WHERE WHAT IT READS IS OF BULK AT MOST 1048576: true; the input reads as it did. -/
def fnExactValidNetUptoRow : OpenClaim := { program := "yteibnofhpkcncaa", sum := "dc736b18633799a33b8de8151f1b7e833891e90c3370525d892f9cca67e983dc", func := "loop.example/g01074/laws.FnExactValidNet", spec := "fnExactValidNet", unfollowed := true, recurses := true, apart := false, narrowed := true }
def FnExactValidNetUptoSaid : Prop := fnExactValidNetUptoRow.holds Try.pinned (OpenSpec.upto fnExactValidNetSpec)

end Rows
end Go.Proofs.Yteibnofhpkcncaa
