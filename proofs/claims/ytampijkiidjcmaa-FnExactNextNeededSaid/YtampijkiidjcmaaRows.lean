/-
  No cell of these rows narrows 'for every input' (looked for: loops, veiled, ifaces, maps, wideKeys, modest, calm, conditions, laid).
  DERIVED. THE GIVEN ROWS OF THIS SEAT. 12 by the template 'for every input the law returns true; each argument reads behind the call as it read before'; 0 by the template 'total and deterministic' (their statements: YtampijkiidjcmaaTotals.lean).
  GIVEN WITH THE SEED: the statements are not yours to turn. If you find one false, say at which input.
  Laid BY PROGRAM, IN A SANDBOX (cutbox-rows.mjs): the forced cells as the released guide's own fill.sh prints them over the translation b1219ac50dd8f5ee… (all of the seat's roots in one cut). By AI agents, Wed Nov 11 2026. No macro, syntax, notation, axiom, sorry.
-/
import Derived.Test.YtampijkiidjcmaaChecked
import GoSem.Claim
import GoSem.ClaimJoined
import GoSem.ClaimMapViews
import Derived.JoinedTies
import Derived.KernelRfl
namespace Go.Proofs.Ytampijkiidjcmaa
/- THE CELL 'sum', in the pinned program and in every row, IS THE sha256 OF THE DUMP (.gsa) THAT YtampijkiidjcmaaProg.lean LOADS. Nothing in Lean hashes anything: it is a label: what it is worth is what the hold of that sum in a sandbox is worth. -/
noncomputable def Try.pinned : Pinned := { name := "ytampijkiidjcmaa", sum := "b1219ac50dd8f5eef0767338db1a7fd32c26d17882f7ec945220df5e9315373c", checked := Try.checked }
namespace Rows
def none {H : Type} : Left H := { results := [], args := [] }

/-- 'laws.FnExactClassOfPair': WHATEVER THE INPUT: true; the input reads as it did. -/
def fnExactClassOfPairSpec : ChangeSpec := { name := "fnExactClassOfPair", fn := fun _ => fun
  | [d1, d2] => { results := [.lit (.bool true)], args := [d1, d2] }
  | _ => none }
def fnExactClassOfPairRow : OpenClaim := { program := "ytampijkiidjcmaa", sum := "b1219ac50dd8f5eef0767338db1a7fd32c26d17882f7ec945220df5e9315373c", func := "loop.example/g01074/laws.FnExactClassOfPair", spec := "fnExactClassOfPair", unfollowed := true, recurses := true, apart := false }
def FnExactClassOfPairSaid : Prop := fnExactClassOfPairRow.holds Try.pinned (OpenSpec.ofChange fnExactClassOfPairSpec)

/-- ITS FALSE NEIGHBOUR: 'it returns false'. Refute it at one input. -/
def fnExactClassOfPairWrong : ChangeSpec := { name := "fnExactClassOfPair", fn := fun _ => fun
  | [d1, d2] => { results := [.lit (.bool false)], args := [d1, d2] }
  | _ => none }
def FnExactClassOfPairWrongFalsely : Prop := fnExactClassOfPairRow.holds Try.pinned (OpenSpec.ofChange fnExactClassOfPairWrong)

/-- 'laws.FnExactPairsByClass': WHATEVER THE INPUT: true; the input reads as it did. -/
def fnExactPairsByClassSpec : ChangeSpec := { name := "fnExactPairsByClass", fn := fun _ => fun
  | [d] => { results := [.lit (.bool true)], args := [d] }
  | _ => none }
def fnExactPairsByClassRow : OpenClaim := { program := "ytampijkiidjcmaa", sum := "b1219ac50dd8f5eef0767338db1a7fd32c26d17882f7ec945220df5e9315373c", func := "loop.example/g01074/laws.FnExactPairsByClass", spec := "fnExactPairsByClass", unfollowed := true, recurses := true, apart := false }
def FnExactPairsByClassSaid : Prop := fnExactPairsByClassRow.holds Try.pinned (OpenSpec.ofChange fnExactPairsByClassSpec)

/-- ITS FALSE NEIGHBOUR: 'it returns false'. Refute it at one input. -/
def fnExactPairsByClassWrong : ChangeSpec := { name := "fnExactPairsByClass", fn := fun _ => fun
  | [d] => { results := [.lit (.bool false)], args := [d] }
  | _ => none }
def FnExactPairsByClassWrongFalsely : Prop := fnExactPairsByClassRow.holds Try.pinned (OpenSpec.ofChange fnExactPairsByClassWrong)

/-- 'laws.FnExactNextNeeded': WHATEVER THE INPUT: true; the input reads as it did. -/
def fnExactNextNeededSpec : ChangeSpec := { name := "fnExactNextNeeded", fn := fun _ => fun
  | [d] => { results := [.lit (.bool true)], args := [d] }
  | _ => none }
def fnExactNextNeededRow : OpenClaim := { program := "ytampijkiidjcmaa", sum := "b1219ac50dd8f5eef0767338db1a7fd32c26d17882f7ec945220df5e9315373c", func := "loop.example/g01074/laws.FnExactNextNeeded", spec := "fnExactNextNeeded", unfollowed := true, recurses := true, apart := false }
def FnExactNextNeededSaid : Prop := fnExactNextNeededRow.holds Try.pinned (OpenSpec.ofChange fnExactNextNeededSpec)

/-- ITS FALSE NEIGHBOUR: 'it returns false'. Refute it at one input. -/
def fnExactNextNeededWrong : ChangeSpec := { name := "fnExactNextNeeded", fn := fun _ => fun
  | [d] => { results := [.lit (.bool false)], args := [d] }
  | _ => none }
def FnExactNextNeededWrongFalsely : Prop := fnExactNextNeededRow.holds Try.pinned (OpenSpec.ofChange fnExactNextNeededWrong)

/-- 'laws.FnExactShiftLevels': WHATEVER THE INPUT: true; the input reads as it did. -/
def fnExactShiftLevelsSpec : ChangeSpec := { name := "fnExactShiftLevels", fn := fun _ => fun
  | [d1, d2] => { results := [.lit (.bool true)], args := [d1, d2] }
  | _ => none }
def fnExactShiftLevelsRow : OpenClaim := { program := "ytampijkiidjcmaa", sum := "b1219ac50dd8f5eef0767338db1a7fd32c26d17882f7ec945220df5e9315373c", func := "loop.example/g01074/laws.FnExactShiftLevels", spec := "fnExactShiftLevels", unfollowed := true, recurses := true, apart := false }
def FnExactShiftLevelsSaid : Prop := fnExactShiftLevelsRow.holds Try.pinned (OpenSpec.ofChange fnExactShiftLevelsSpec)

/-- ITS FALSE NEIGHBOUR: 'it returns false'. Refute it at one input. -/
def fnExactShiftLevelsWrong : ChangeSpec := { name := "fnExactShiftLevels", fn := fun _ => fun
  | [d1, d2] => { results := [.lit (.bool false)], args := [d1, d2] }
  | _ => none }
def FnExactShiftLevelsWrongFalsely : Prop := fnExactShiftLevelsRow.holds Try.pinned (OpenSpec.ofChange fnExactShiftLevelsWrong)

/-- 'laws.FnExactRenumberNet': WHATEVER THE INPUT: true; the input reads as it did. -/
def fnExactRenumberNetSpec : ChangeSpec := { name := "fnExactRenumberNet", fn := fun _ => fun
  | [d1, d2] => { results := [.lit (.bool true)], args := [d1, d2] }
  | _ => none }
def fnExactRenumberNetRow : OpenClaim := { program := "ytampijkiidjcmaa", sum := "b1219ac50dd8f5eef0767338db1a7fd32c26d17882f7ec945220df5e9315373c", func := "loop.example/g01074/laws.FnExactRenumberNet", spec := "fnExactRenumberNet", unfollowed := true, recurses := true, apart := false }
def FnExactRenumberNetSaid : Prop := fnExactRenumberNetRow.holds Try.pinned (OpenSpec.ofChange fnExactRenumberNetSpec)

/-- ITS FALSE NEIGHBOUR: 'it returns false'. Refute it at one input. -/
def fnExactRenumberNetWrong : ChangeSpec := { name := "fnExactRenumberNet", fn := fun _ => fun
  | [d1, d2] => { results := [.lit (.bool false)], args := [d1, d2] }
  | _ => none }
def FnExactRenumberNetWrongFalsely : Prop := fnExactRenumberNetRow.holds Try.pinned (OpenSpec.ofChange fnExactRenumberNetWrong)

/-- 'laws.FnExactIsOriented': WHATEVER THE INPUT: true; the input reads as it did. -/
def fnExactIsOrientedSpec : ChangeSpec := { name := "fnExactIsOriented", fn := fun _ => fun
  | [d1, d2] => { results := [.lit (.bool true)], args := [d1, d2] }
  | _ => none }
def fnExactIsOrientedRow : OpenClaim := { program := "ytampijkiidjcmaa", sum := "b1219ac50dd8f5eef0767338db1a7fd32c26d17882f7ec945220df5e9315373c", func := "loop.example/g01074/laws.FnExactIsOriented", spec := "fnExactIsOriented", unfollowed := true, recurses := true, apart := false }
def FnExactIsOrientedSaid : Prop := fnExactIsOrientedRow.holds Try.pinned (OpenSpec.ofChange fnExactIsOrientedSpec)

/-- ITS FALSE NEIGHBOUR: 'it returns false'. Refute it at one input. -/
def fnExactIsOrientedWrong : ChangeSpec := { name := "fnExactIsOriented", fn := fun _ => fun
  | [d1, d2] => { results := [.lit (.bool false)], args := [d1, d2] }
  | _ => none }
def FnExactIsOrientedWrongFalsely : Prop := fnExactIsOrientedRow.holds Try.pinned (OpenSpec.ofChange fnExactIsOrientedWrong)

/-- 'laws.FnExactBadWire': WHATEVER THE INPUT: true; the input reads as it did. -/
def fnExactBadWireSpec : ChangeSpec := { name := "fnExactBadWire", fn := fun _ => fun
  | [d1, d2] => { results := [.lit (.bool true)], args := [d1, d2] }
  | _ => none }
def fnExactBadWireRow : OpenClaim := { program := "ytampijkiidjcmaa", sum := "b1219ac50dd8f5eef0767338db1a7fd32c26d17882f7ec945220df5e9315373c", func := "loop.example/g01074/laws.FnExactBadWire", spec := "fnExactBadWire", unfollowed := true, recurses := true, apart := false }
def FnExactBadWireSaid : Prop := fnExactBadWireRow.holds Try.pinned (OpenSpec.ofChange fnExactBadWireSpec)

/-- ITS FALSE NEIGHBOUR: 'it returns false'. Refute it at one input. -/
def fnExactBadWireWrong : ChangeSpec := { name := "fnExactBadWire", fn := fun _ => fun
  | [d1, d2] => { results := [.lit (.bool false)], args := [d1, d2] }
  | _ => none }
def FnExactBadWireWrongFalsely : Prop := fnExactBadWireRow.holds Try.pinned (OpenSpec.ofChange fnExactBadWireWrong)

/-- 'laws.FnExactIsOrientable': WHATEVER THE INPUT: true; the input reads as it did. -/
def fnExactIsOrientableSpec : ChangeSpec := { name := "fnExactIsOrientable", fn := fun _ => fun
  | [d] => { results := [.lit (.bool true)], args := [d] }
  | _ => none }
def fnExactIsOrientableRow : OpenClaim := { program := "ytampijkiidjcmaa", sum := "b1219ac50dd8f5eef0767338db1a7fd32c26d17882f7ec945220df5e9315373c", func := "loop.example/g01074/laws.FnExactIsOrientable", spec := "fnExactIsOrientable", unfollowed := true, recurses := true, apart := false }
def FnExactIsOrientableSaid : Prop := fnExactIsOrientableRow.holds Try.pinned (OpenSpec.ofChange fnExactIsOrientableSpec)

/-- ITS FALSE NEIGHBOUR: 'it returns false'. Refute it at one input. -/
def fnExactIsOrientableWrong : ChangeSpec := { name := "fnExactIsOrientable", fn := fun _ => fun
  | [d] => { results := [.lit (.bool false)], args := [d] }
  | _ => none }
def FnExactIsOrientableWrongFalsely : Prop := fnExactIsOrientableRow.holds Try.pinned (OpenSpec.ofChange fnExactIsOrientableWrong)

/-- 'laws.FnExactOrientNet': WHATEVER THE INPUT: true; the input reads as it did. -/
def fnExactOrientNetSpec : ChangeSpec := { name := "fnExactOrientNet", fn := fun _ => fun
  | [d] => { results := [.lit (.bool true)], args := [d] }
  | _ => none }
def fnExactOrientNetRow : OpenClaim := { program := "ytampijkiidjcmaa", sum := "b1219ac50dd8f5eef0767338db1a7fd32c26d17882f7ec945220df5e9315373c", func := "loop.example/g01074/laws.FnExactOrientNet", spec := "fnExactOrientNet", unfollowed := true, recurses := true, apart := false }
def FnExactOrientNetSaid : Prop := fnExactOrientNetRow.holds Try.pinned (OpenSpec.ofChange fnExactOrientNetSpec)

/-- ITS FALSE NEIGHBOUR: 'it returns false'. Refute it at one input. -/
def fnExactOrientNetWrong : ChangeSpec := { name := "fnExactOrientNet", fn := fun _ => fun
  | [d] => { results := [.lit (.bool false)], args := [d] }
  | _ => none }
def FnExactOrientNetWrongFalsely : Prop := fnExactOrientNetRow.holds Try.pinned (OpenSpec.ofChange fnExactOrientNetWrong)

/-- 'laws.FnExactDataOf': WHATEVER THE INPUT: true; the input reads as it did. -/
def fnExactDataOfSpec : ChangeSpec := { name := "fnExactDataOf", fn := fun _ => fun
  | [d] => { results := [.lit (.bool true)], args := [d] }
  | _ => none }
def fnExactDataOfRow : OpenClaim := { program := "ytampijkiidjcmaa", sum := "b1219ac50dd8f5eef0767338db1a7fd32c26d17882f7ec945220df5e9315373c", func := "loop.example/g01074/laws.FnExactDataOf", spec := "fnExactDataOf", unfollowed := true, recurses := true, apart := false }
def FnExactDataOfSaid : Prop := fnExactDataOfRow.holds Try.pinned (OpenSpec.ofChange fnExactDataOfSpec)

/-- ITS FALSE NEIGHBOUR: 'it returns false'. Refute it at one input. -/
def fnExactDataOfWrong : ChangeSpec := { name := "fnExactDataOf", fn := fun _ => fun
  | [d] => { results := [.lit (.bool false)], args := [d] }
  | _ => none }
def FnExactDataOfWrongFalsely : Prop := fnExactDataOfRow.holds Try.pinned (OpenSpec.ofChange fnExactDataOfWrong)

/-- 'laws.FnExactValidTemplates': WHATEVER THE INPUT: true; the input reads as it did. -/
def fnExactValidTemplatesSpec : ChangeSpec := { name := "fnExactValidTemplates", fn := fun _ => fun
  | [d] => { results := [.lit (.bool true)], args := [d] }
  | _ => none }
def fnExactValidTemplatesRow : OpenClaim := { program := "ytampijkiidjcmaa", sum := "b1219ac50dd8f5eef0767338db1a7fd32c26d17882f7ec945220df5e9315373c", func := "loop.example/g01074/laws.FnExactValidTemplates", spec := "fnExactValidTemplates", unfollowed := true, recurses := true, apart := false }
def FnExactValidTemplatesSaid : Prop := fnExactValidTemplatesRow.holds Try.pinned (OpenSpec.ofChange fnExactValidTemplatesSpec)

/-- ITS FALSE NEIGHBOUR: 'it returns false'. Refute it at one input. -/
def fnExactValidTemplatesWrong : ChangeSpec := { name := "fnExactValidTemplates", fn := fun _ => fun
  | [d] => { results := [.lit (.bool false)], args := [d] }
  | _ => none }
def FnExactValidTemplatesWrongFalsely : Prop := fnExactValidTemplatesRow.holds Try.pinned (OpenSpec.ofChange fnExactValidTemplatesWrong)

/-- 'laws.FnExactGrowthOfPair': WHATEVER THE INPUT: true; the input reads as it did. -/
def fnExactGrowthOfPairSpec : ChangeSpec := { name := "fnExactGrowthOfPair", fn := fun _ => fun
  | [d1, d2, d3] => { results := [.lit (.bool true)], args := [d1, d2, d3] }
  | _ => none }
def fnExactGrowthOfPairRow : OpenClaim := { program := "ytampijkiidjcmaa", sum := "b1219ac50dd8f5eef0767338db1a7fd32c26d17882f7ec945220df5e9315373c", func := "loop.example/g01074/laws.FnExactGrowthOfPair", spec := "fnExactGrowthOfPair", unfollowed := true, recurses := true, apart := false }
def FnExactGrowthOfPairSaid : Prop := fnExactGrowthOfPairRow.holds Try.pinned (OpenSpec.ofChange fnExactGrowthOfPairSpec)

/-- ITS FALSE NEIGHBOUR: 'it returns false'. Refute it at one input. -/
def fnExactGrowthOfPairWrong : ChangeSpec := { name := "fnExactGrowthOfPair", fn := fun _ => fun
  | [d1, d2, d3] => { results := [.lit (.bool false)], args := [d1, d2, d3] }
  | _ => none }
def FnExactGrowthOfPairWrongFalsely : Prop := fnExactGrowthOfPairRow.holds Try.pinned (OpenSpec.ofChange fnExactGrowthOfPairWrong)

/- THE SECOND FORM. 'bulk': how many values and letters a reading holds, each counted each time it is reached (what is shared counts as often as it is met; a slice's spare places count too). A statement '..UptoSaid' is the law's where the arguments, and the package variables that the reading takes, are together of bulk at most 1048576: NARROWER than '..Said'. Prove '..Said' where nothing that the law and all that it calls make is longer than what came in: it says more and counts as full. Else prove '..UptoSaid'. A law counts once. -/
mutual
def uptoBulk {H : Type} : DataW H → Nat
  | .lit (.string bytes) => bytes.length + 1
  | .lit _ => 1
  | .nil => 1
  | .ptr d => uptoBulk d + 1
  | .slice elems spare => uptoBulkAll elems + uptoBulkAll spare + 1
  | .agg parts => uptoBulkAll parts + 1
  | .iface _ d => uptoBulk d + 1
  | .map entries => uptoBulkEntries entries + 1
  | .held _ => 1
def uptoBulkAll {H : Type} : List (DataW H) → Nat
  | [] => 0
  | d :: r => uptoBulk d + uptoBulkAll r
def uptoBulkEntries {H : Type} : List (Lit × DataW H) → Nat
  | [] => 0
  | x :: r => uptoBulkEntry x + uptoBulkEntries r
def uptoBulkEntry {H : Type} : Lit × DataW H → Nat
  | (.string bytes, d) => bytes.length + uptoBulk d + 1
  | (_, d) => uptoBulk d + 1
 end
def uptoSmall : (H : Type) → List (DataW H) → Bool := fun _ ds => decide (uptoBulkAll ds ≤ 1048576)
def OpenSpec.upto (s : _root_.Go.ChangeSpec) : _root_.Go.OpenSpec := { _root_.Go.OpenSpec.ofChange s with cond := some uptoSmall }

/-- 'laws.FnExactClassOfPair', WHERE WHAT IT READS IS OF BULK AT MOST 1048576: true; the input reads as it did. -/
def fnExactClassOfPairUptoRow : OpenClaim := { program := "ytampijkiidjcmaa", sum := "b1219ac50dd8f5eef0767338db1a7fd32c26d17882f7ec945220df5e9315373c", func := "loop.example/g01074/laws.FnExactClassOfPair", spec := "fnExactClassOfPair", unfollowed := true, recurses := true, apart := false, narrowed := true }
def FnExactClassOfPairUptoSaid : Prop := fnExactClassOfPairUptoRow.holds Try.pinned (OpenSpec.upto fnExactClassOfPairSpec)

/-- 'laws.FnExactPairsByClass', WHERE WHAT IT READS IS OF BULK AT MOST 1048576: true; the input reads as it did. -/
def fnExactPairsByClassUptoRow : OpenClaim := { program := "ytampijkiidjcmaa", sum := "b1219ac50dd8f5eef0767338db1a7fd32c26d17882f7ec945220df5e9315373c", func := "loop.example/g01074/laws.FnExactPairsByClass", spec := "fnExactPairsByClass", unfollowed := true, recurses := true, apart := false, narrowed := true }
def FnExactPairsByClassUptoSaid : Prop := fnExactPairsByClassUptoRow.holds Try.pinned (OpenSpec.upto fnExactPairsByClassSpec)

/-- 'laws.FnExactNextNeeded', WHERE WHAT IT READS IS OF BULK AT MOST 1048576: true; the input reads as it did. -/
def fnExactNextNeededUptoRow : OpenClaim := { program := "ytampijkiidjcmaa", sum := "b1219ac50dd8f5eef0767338db1a7fd32c26d17882f7ec945220df5e9315373c", func := "loop.example/g01074/laws.FnExactNextNeeded", spec := "fnExactNextNeeded", unfollowed := true, recurses := true, apart := false, narrowed := true }
def FnExactNextNeededUptoSaid : Prop := fnExactNextNeededUptoRow.holds Try.pinned (OpenSpec.upto fnExactNextNeededSpec)

/-- 'laws.FnExactShiftLevels', WHERE WHAT IT READS IS OF BULK AT MOST 1048576: true; the input reads as it did. -/
def fnExactShiftLevelsUptoRow : OpenClaim := { program := "ytampijkiidjcmaa", sum := "b1219ac50dd8f5eef0767338db1a7fd32c26d17882f7ec945220df5e9315373c", func := "loop.example/g01074/laws.FnExactShiftLevels", spec := "fnExactShiftLevels", unfollowed := true, recurses := true, apart := false, narrowed := true }
def FnExactShiftLevelsUptoSaid : Prop := fnExactShiftLevelsUptoRow.holds Try.pinned (OpenSpec.upto fnExactShiftLevelsSpec)

/-- 'laws.FnExactRenumberNet', WHERE WHAT IT READS IS OF BULK AT MOST 1048576: true; the input reads as it did. -/
def fnExactRenumberNetUptoRow : OpenClaim := { program := "ytampijkiidjcmaa", sum := "b1219ac50dd8f5eef0767338db1a7fd32c26d17882f7ec945220df5e9315373c", func := "loop.example/g01074/laws.FnExactRenumberNet", spec := "fnExactRenumberNet", unfollowed := true, recurses := true, apart := false, narrowed := true }
def FnExactRenumberNetUptoSaid : Prop := fnExactRenumberNetUptoRow.holds Try.pinned (OpenSpec.upto fnExactRenumberNetSpec)

/-- 'laws.FnExactIsOriented', WHERE WHAT IT READS IS OF BULK AT MOST 1048576: true; the input reads as it did. -/
def fnExactIsOrientedUptoRow : OpenClaim := { program := "ytampijkiidjcmaa", sum := "b1219ac50dd8f5eef0767338db1a7fd32c26d17882f7ec945220df5e9315373c", func := "loop.example/g01074/laws.FnExactIsOriented", spec := "fnExactIsOriented", unfollowed := true, recurses := true, apart := false, narrowed := true }
def FnExactIsOrientedUptoSaid : Prop := fnExactIsOrientedUptoRow.holds Try.pinned (OpenSpec.upto fnExactIsOrientedSpec)

/-- 'laws.FnExactBadWire', WHERE WHAT IT READS IS OF BULK AT MOST 1048576: true; the input reads as it did. -/
def fnExactBadWireUptoRow : OpenClaim := { program := "ytampijkiidjcmaa", sum := "b1219ac50dd8f5eef0767338db1a7fd32c26d17882f7ec945220df5e9315373c", func := "loop.example/g01074/laws.FnExactBadWire", spec := "fnExactBadWire", unfollowed := true, recurses := true, apart := false, narrowed := true }
def FnExactBadWireUptoSaid : Prop := fnExactBadWireUptoRow.holds Try.pinned (OpenSpec.upto fnExactBadWireSpec)

/-- 'laws.FnExactIsOrientable', WHERE WHAT IT READS IS OF BULK AT MOST 1048576: true; the input reads as it did. -/
def fnExactIsOrientableUptoRow : OpenClaim := { program := "ytampijkiidjcmaa", sum := "b1219ac50dd8f5eef0767338db1a7fd32c26d17882f7ec945220df5e9315373c", func := "loop.example/g01074/laws.FnExactIsOrientable", spec := "fnExactIsOrientable", unfollowed := true, recurses := true, apart := false, narrowed := true }
def FnExactIsOrientableUptoSaid : Prop := fnExactIsOrientableUptoRow.holds Try.pinned (OpenSpec.upto fnExactIsOrientableSpec)

/-- 'laws.FnExactOrientNet', WHERE WHAT IT READS IS OF BULK AT MOST 1048576: true; the input reads as it did. -/
def fnExactOrientNetUptoRow : OpenClaim := { program := "ytampijkiidjcmaa", sum := "b1219ac50dd8f5eef0767338db1a7fd32c26d17882f7ec945220df5e9315373c", func := "loop.example/g01074/laws.FnExactOrientNet", spec := "fnExactOrientNet", unfollowed := true, recurses := true, apart := false, narrowed := true }
def FnExactOrientNetUptoSaid : Prop := fnExactOrientNetUptoRow.holds Try.pinned (OpenSpec.upto fnExactOrientNetSpec)

/-- 'laws.FnExactDataOf', WHERE WHAT IT READS IS OF BULK AT MOST 1048576: true; the input reads as it did. -/
def fnExactDataOfUptoRow : OpenClaim := { program := "ytampijkiidjcmaa", sum := "b1219ac50dd8f5eef0767338db1a7fd32c26d17882f7ec945220df5e9315373c", func := "loop.example/g01074/laws.FnExactDataOf", spec := "fnExactDataOf", unfollowed := true, recurses := true, apart := false, narrowed := true }
def FnExactDataOfUptoSaid : Prop := fnExactDataOfUptoRow.holds Try.pinned (OpenSpec.upto fnExactDataOfSpec)

/-- 'laws.FnExactValidTemplates', WHERE WHAT IT READS IS OF BULK AT MOST 1048576: true; the input reads as it did. -/
def fnExactValidTemplatesUptoRow : OpenClaim := { program := "ytampijkiidjcmaa", sum := "b1219ac50dd8f5eef0767338db1a7fd32c26d17882f7ec945220df5e9315373c", func := "loop.example/g01074/laws.FnExactValidTemplates", spec := "fnExactValidTemplates", unfollowed := true, recurses := true, apart := false, narrowed := true }
def FnExactValidTemplatesUptoSaid : Prop := fnExactValidTemplatesUptoRow.holds Try.pinned (OpenSpec.upto fnExactValidTemplatesSpec)

/-- 'laws.FnExactGrowthOfPair', WHERE WHAT IT READS IS OF BULK AT MOST 1048576: true; the input reads as it did. -/
def fnExactGrowthOfPairUptoRow : OpenClaim := { program := "ytampijkiidjcmaa", sum := "b1219ac50dd8f5eef0767338db1a7fd32c26d17882f7ec945220df5e9315373c", func := "loop.example/g01074/laws.FnExactGrowthOfPair", spec := "fnExactGrowthOfPair", unfollowed := true, recurses := true, apart := false, narrowed := true }
def FnExactGrowthOfPairUptoSaid : Prop := fnExactGrowthOfPairUptoRow.holds Try.pinned (OpenSpec.upto fnExactGrowthOfPairSpec)

end Rows
end Go.Proofs.Ytampijkiidjcmaa
