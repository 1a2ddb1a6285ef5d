/-
  No cell of these rows narrows 'for every input' (looked for: loops, veiled, ifaces, maps, wideKeys, modest, calm, conditions, laid).
  DERIVED. THE GIVEN ROWS OF THIS SEAT. 12 by the template 'for every input the law returns true; each argument reads behind the call as it read before'; 0 by the template 'total and deterministic' (their statements: YtjddeofchiohkaaTotals.lean).
  GIVEN WITH THE SEED: the statements are not yours to turn. If you find one false, say at which input.
  Laid BY PROGRAM, IN A SANDBOX (cutbox-rows.mjs): the forced cells as the released guide's own fill.sh prints them over the translation d087369951b15813… (all of the seat's roots in one cut). By AI agents, Wed Nov 11 2026. No macro, syntax, notation, axiom, sorry.
-/
import Derived.Test.YtjddeofchiohkaaChecked
import GoSem.Claim
import GoSem.ClaimJoined
import GoSem.ClaimMapViews
import Derived.JoinedTies
import Derived.KernelRfl
namespace Go.Proofs.Ytjddeofchiohkaa
/- THE CELL 'sum', in the pinned program and in every row, IS THE sha256 OF THE DUMP (.gsa) THAT YtjddeofchiohkaaProg.lean LOADS. Nothing in Lean hashes anything: it is a label: what it is worth is what the hold of that sum in a sandbox is worth. -/
noncomputable def Try.pinned : Pinned := { name := "ytjddeofchiohkaa", sum := "d087369951b1581333c6a412ffbf62b97b7ff09dc79c1b46336fc643789c2120", checked := Try.checked }
namespace Rows
def none {H : Type} : Left H := { results := [], args := [] }

/-- 'laws.FnExactValidNet': WHATEVER THE INPUT: true; the input reads as it did. -/
def fnExactValidNetSpec : ChangeSpec := { name := "fnExactValidNet", fn := fun _ => fun
  | [d] => { results := [.lit (.bool true)], args := [d] }
  | _ => none }
def fnExactValidNetRow : OpenClaim := { program := "ytjddeofchiohkaa", sum := "d087369951b1581333c6a412ffbf62b97b7ff09dc79c1b46336fc643789c2120", func := "loop.example/g01074/laws.FnExactValidNet", spec := "fnExactValidNet", unfollowed := true, recurses := true, apart := false }
def FnExactValidNetSaid : Prop := fnExactValidNetRow.holds Try.pinned (OpenSpec.ofChange fnExactValidNetSpec)

/-- ITS FALSE NEIGHBOUR: 'it returns false'. Refute it at one input. -/
def fnExactValidNetWrong : ChangeSpec := { name := "fnExactValidNet", fn := fun _ => fun
  | [d] => { results := [.lit (.bool false)], args := [d] }
  | _ => none }
def FnExactValidNetWrongFalsely : Prop := fnExactValidNetRow.holds Try.pinned (OpenSpec.ofChange fnExactValidNetWrong)

/-- 'laws.FnExactPeerOf': WHATEVER THE INPUT: true; the input reads as it did. -/
def fnExactPeerOfSpec : ChangeSpec := { name := "fnExactPeerOf", fn := fun _ => fun
  | [d1, d2] => { results := [.lit (.bool true)], args := [d1, d2] }
  | _ => none }
def fnExactPeerOfRow : OpenClaim := { program := "ytjddeofchiohkaa", sum := "d087369951b1581333c6a412ffbf62b97b7ff09dc79c1b46336fc643789c2120", func := "loop.example/g01074/laws.FnExactPeerOf", spec := "fnExactPeerOf", unfollowed := true, recurses := true, apart := false }
def FnExactPeerOfSaid : Prop := fnExactPeerOfRow.holds Try.pinned (OpenSpec.ofChange fnExactPeerOfSpec)

/-- ITS FALSE NEIGHBOUR: 'it returns false'. Refute it at one input. -/
def fnExactPeerOfWrong : ChangeSpec := { name := "fnExactPeerOf", fn := fun _ => fun
  | [d1, d2] => { results := [.lit (.bool false)], args := [d1, d2] }
  | _ => none }
def FnExactPeerOfWrongFalsely : Prop := fnExactPeerOfRow.holds Try.pinned (OpenSpec.ofChange fnExactPeerOfWrong)

/-- 'laws.FnExactCountKind': WHATEVER THE INPUT: true; the input reads as it did. -/
def fnExactCountKindSpec : ChangeSpec := { name := "fnExactCountKind", fn := fun _ => fun
  | [d1, d2] => { results := [.lit (.bool true)], args := [d1, d2] }
  | _ => none }
def fnExactCountKindRow : OpenClaim := { program := "ytjddeofchiohkaa", sum := "d087369951b1581333c6a412ffbf62b97b7ff09dc79c1b46336fc643789c2120", func := "loop.example/g01074/laws.FnExactCountKind", spec := "fnExactCountKind", unfollowed := true, recurses := true, apart := false }
def FnExactCountKindSaid : Prop := fnExactCountKindRow.holds Try.pinned (OpenSpec.ofChange fnExactCountKindSpec)

/-- ITS FALSE NEIGHBOUR: 'it returns false'. Refute it at one input. -/
def fnExactCountKindWrong : ChangeSpec := { name := "fnExactCountKind", fn := fun _ => fun
  | [d1, d2] => { results := [.lit (.bool false)], args := [d1, d2] }
  | _ => none }
def FnExactCountKindWrongFalsely : Prop := fnExactCountKindRow.holds Try.pinned (OpenSpec.ofChange fnExactCountKindWrong)

/-- 'laws.FnExactActivePairs': WHATEVER THE INPUT: true; the input reads as it did. -/
def fnExactActivePairsSpec : ChangeSpec := { name := "fnExactActivePairs", fn := fun _ => fun
  | [d] => { results := [.lit (.bool true)], args := [d] }
  | _ => none }
def fnExactActivePairsRow : OpenClaim := { program := "ytjddeofchiohkaa", sum := "d087369951b1581333c6a412ffbf62b97b7ff09dc79c1b46336fc643789c2120", func := "loop.example/g01074/laws.FnExactActivePairs", spec := "fnExactActivePairs", unfollowed := true, recurses := true, apart := false }
def FnExactActivePairsSaid : Prop := fnExactActivePairsRow.holds Try.pinned (OpenSpec.ofChange fnExactActivePairsSpec)

/-- ITS FALSE NEIGHBOUR: 'it returns false'. Refute it at one input. -/
def fnExactActivePairsWrong : ChangeSpec := { name := "fnExactActivePairs", fn := fun _ => fun
  | [d] => { results := [.lit (.bool false)], args := [d] }
  | _ => none }
def FnExactActivePairsWrongFalsely : Prop := fnExactActivePairsRow.holds Try.pinned (OpenSpec.ofChange fnExactActivePairsWrong)

/-- 'laws.FnExactWiresOf': WHATEVER THE INPUT: true; the input reads as it did. -/
def fnExactWiresOfSpec : ChangeSpec := { name := "fnExactWiresOf", fn := fun _ => fun
  | [d] => { results := [.lit (.bool true)], args := [d] }
  | _ => none }
def fnExactWiresOfRow : OpenClaim := { program := "ytjddeofchiohkaa", sum := "d087369951b1581333c6a412ffbf62b97b7ff09dc79c1b46336fc643789c2120", func := "loop.example/g01074/laws.FnExactWiresOf", spec := "fnExactWiresOf", unfollowed := true, recurses := true, apart := false }
def FnExactWiresOfSaid : Prop := fnExactWiresOfRow.holds Try.pinned (OpenSpec.ofChange fnExactWiresOfSpec)

/-- ITS FALSE NEIGHBOUR: 'it returns false'. Refute it at one input. -/
def fnExactWiresOfWrong : ChangeSpec := { name := "fnExactWiresOf", fn := fun _ => fun
  | [d] => { results := [.lit (.bool false)], args := [d] }
  | _ => none }
def FnExactWiresOfWrongFalsely : Prop := fnExactWiresOfRow.holds Try.pinned (OpenSpec.ofChange fnExactWiresOfWrong)

/-- 'laws.FnExactTraverseFrom': WHATEVER THE INPUT: true; the input reads as it did. -/
def fnExactTraverseFromSpec : ChangeSpec := { name := "fnExactTraverseFrom", fn := fun _ => fun
  | [d1, d2] => { results := [.lit (.bool true)], args := [d1, d2] }
  | _ => none }
def fnExactTraverseFromRow : OpenClaim := { program := "ytjddeofchiohkaa", sum := "d087369951b1581333c6a412ffbf62b97b7ff09dc79c1b46336fc643789c2120", func := "loop.example/g01074/laws.FnExactTraverseFrom", spec := "fnExactTraverseFrom", unfollowed := true, recurses := true, apart := false }
def FnExactTraverseFromSaid : Prop := fnExactTraverseFromRow.holds Try.pinned (OpenSpec.ofChange fnExactTraverseFromSpec)

/-- ITS FALSE NEIGHBOUR: 'it returns false'. Refute it at one input. -/
def fnExactTraverseFromWrong : ChangeSpec := { name := "fnExactTraverseFrom", fn := fun _ => fun
  | [d1, d2] => { results := [.lit (.bool false)], args := [d1, d2] }
  | _ => none }
def FnExactTraverseFromWrongFalsely : Prop := fnExactTraverseFromRow.holds Try.pinned (OpenSpec.ofChange fnExactTraverseFromWrong)

/-- 'laws.FnExactCodeFrom': WHATEVER THE INPUT: true; the input reads as it did. -/
def fnExactCodeFromSpec : ChangeSpec := { name := "fnExactCodeFrom", fn := fun _ => fun
  | [d1, d2] => { results := [.lit (.bool true)], args := [d1, d2] }
  | _ => none }
def fnExactCodeFromRow : OpenClaim := { program := "ytjddeofchiohkaa", sum := "d087369951b1581333c6a412ffbf62b97b7ff09dc79c1b46336fc643789c2120", func := "loop.example/g01074/laws.FnExactCodeFrom", spec := "fnExactCodeFrom", unfollowed := true, recurses := true, apart := false }
def FnExactCodeFromSaid : Prop := fnExactCodeFromRow.holds Try.pinned (OpenSpec.ofChange fnExactCodeFromSpec)

/-- ITS FALSE NEIGHBOUR: 'it returns false'. Refute it at one input. -/
def fnExactCodeFromWrong : ChangeSpec := { name := "fnExactCodeFrom", fn := fun _ => fun
  | [d1, d2] => { results := [.lit (.bool false)], args := [d1, d2] }
  | _ => none }
def FnExactCodeFromWrongFalsely : Prop := fnExactCodeFromRow.holds Try.pinned (OpenSpec.ofChange fnExactCodeFromWrong)

/-- 'laws.FnExactIsLazyNormal': WHATEVER THE INPUT: true; the input reads as it did. -/
def fnExactIsLazyNormalSpec : ChangeSpec := { name := "fnExactIsLazyNormal", fn := fun _ => fun
  | [d] => { results := [.lit (.bool true)], args := [d] }
  | _ => none }
def fnExactIsLazyNormalRow : OpenClaim := { program := "ytjddeofchiohkaa", sum := "d087369951b1581333c6a412ffbf62b97b7ff09dc79c1b46336fc643789c2120", func := "loop.example/g01074/laws.FnExactIsLazyNormal", spec := "fnExactIsLazyNormal", unfollowed := true, recurses := true, apart := false }
def FnExactIsLazyNormalSaid : Prop := fnExactIsLazyNormalRow.holds Try.pinned (OpenSpec.ofChange fnExactIsLazyNormalSpec)

/-- ITS FALSE NEIGHBOUR: 'it returns false'. Refute it at one input. -/
def fnExactIsLazyNormalWrong : ChangeSpec := { name := "fnExactIsLazyNormal", fn := fun _ => fun
  | [d] => { results := [.lit (.bool false)], args := [d] }
  | _ => none }
def FnExactIsLazyNormalWrongFalsely : Prop := fnExactIsLazyNormalRow.holds Try.pinned (OpenSpec.ofChange fnExactIsLazyNormalWrong)

/-- 'laws.FnExactCountRoles': WHATEVER THE INPUT: true; the input reads as it did. -/
def fnExactCountRolesSpec : ChangeSpec := { name := "fnExactCountRoles", fn := fun _ => fun
  | [d1, d2] => { results := [.lit (.bool true)], args := [d1, d2] }
  | _ => none }
def fnExactCountRolesRow : OpenClaim := { program := "ytjddeofchiohkaa", sum := "d087369951b1581333c6a412ffbf62b97b7ff09dc79c1b46336fc643789c2120", func := "loop.example/g01074/laws.FnExactCountRoles", spec := "fnExactCountRoles", unfollowed := true, recurses := true, apart := false }
def FnExactCountRolesSaid : Prop := fnExactCountRolesRow.holds Try.pinned (OpenSpec.ofChange fnExactCountRolesSpec)

/-- ITS FALSE NEIGHBOUR: 'it returns false'. Refute it at one input. -/
def fnExactCountRolesWrong : ChangeSpec := { name := "fnExactCountRoles", fn := fun _ => fun
  | [d1, d2] => { results := [.lit (.bool false)], args := [d1, d2] }
  | _ => none }
def FnExactCountRolesWrongFalsely : Prop := fnExactCountRolesRow.holds Try.pinned (OpenSpec.ofChange fnExactCountRolesWrong)

/-- 'laws.FnExactNeededPath': WHATEVER THE INPUT: true; the input reads as it did. -/
def fnExactNeededPathSpec : ChangeSpec := { name := "fnExactNeededPath", fn := fun _ => fun
  | [d1, d2] => { results := [.lit (.bool true)], args := [d1, d2] }
  | _ => none }
def fnExactNeededPathRow : OpenClaim := { program := "ytjddeofchiohkaa", sum := "d087369951b1581333c6a412ffbf62b97b7ff09dc79c1b46336fc643789c2120", func := "loop.example/g01074/laws.FnExactNeededPath", spec := "fnExactNeededPath", unfollowed := true, recurses := true, apart := false }
def FnExactNeededPathSaid : Prop := fnExactNeededPathRow.holds Try.pinned (OpenSpec.ofChange fnExactNeededPathSpec)

/-- ITS FALSE NEIGHBOUR: 'it returns false'. Refute it at one input. -/
def fnExactNeededPathWrong : ChangeSpec := { name := "fnExactNeededPath", fn := fun _ => fun
  | [d1, d2] => { results := [.lit (.bool false)], args := [d1, d2] }
  | _ => none }
def FnExactNeededPathWrongFalsely : Prop := fnExactNeededPathRow.holds Try.pinned (OpenSpec.ofChange fnExactNeededPathWrong)

/-- 'laws.FnExactNeededPair': WHATEVER THE INPUT: true; the input reads as it did. -/
def fnExactNeededPairSpec : ChangeSpec := { name := "fnExactNeededPair", fn := fun _ => fun
  | [d1, d2] => { results := [.lit (.bool true)], args := [d1, d2] }
  | _ => none }
def fnExactNeededPairRow : OpenClaim := { program := "ytjddeofchiohkaa", sum := "d087369951b1581333c6a412ffbf62b97b7ff09dc79c1b46336fc643789c2120", func := "loop.example/g01074/laws.FnExactNeededPair", spec := "fnExactNeededPair", unfollowed := true, recurses := true, apart := false }
def FnExactNeededPairSaid : Prop := fnExactNeededPairRow.holds Try.pinned (OpenSpec.ofChange fnExactNeededPairSpec)

/-- ITS FALSE NEIGHBOUR: 'it returns false'. Refute it at one input. -/
def fnExactNeededPairWrong : ChangeSpec := { name := "fnExactNeededPair", fn := fun _ => fun
  | [d1, d2] => { results := [.lit (.bool false)], args := [d1, d2] }
  | _ => none }
def FnExactNeededPairWrongFalsely : Prop := fnExactNeededPairRow.holds Try.pinned (OpenSpec.ofChange fnExactNeededPairWrong)

/-- 'laws.FnExactFirstClash': WHATEVER THE INPUT: true; the input reads as it did. -/
def fnExactFirstClashSpec : ChangeSpec := { name := "fnExactFirstClash", fn := fun _ => fun
  | [d] => { results := [.lit (.bool true)], args := [d] }
  | _ => none }
def fnExactFirstClashRow : OpenClaim := { program := "ytjddeofchiohkaa", sum := "d087369951b1581333c6a412ffbf62b97b7ff09dc79c1b46336fc643789c2120", func := "loop.example/g01074/laws.FnExactFirstClash", spec := "fnExactFirstClash", unfollowed := true, recurses := true, apart := false }
def FnExactFirstClashSaid : Prop := fnExactFirstClashRow.holds Try.pinned (OpenSpec.ofChange fnExactFirstClashSpec)

/-- ITS FALSE NEIGHBOUR: 'it returns false'. Refute it at one input. -/
def fnExactFirstClashWrong : ChangeSpec := { name := "fnExactFirstClash", fn := fun _ => fun
  | [d] => { results := [.lit (.bool false)], args := [d] }
  | _ => none }
def FnExactFirstClashWrongFalsely : Prop := fnExactFirstClashRow.holds Try.pinned (OpenSpec.ofChange fnExactFirstClashWrong)

/- THE SECOND FORM. 'bulk': how many values and letters a reading holds, each counted each time it is reached (what is shared counts as often as it is met; a slice's spare places count too). A statement '..UptoSaid' is the law's where the arguments, and the package variables that the reading takes, are together of bulk at most 1048576: NARROWER than '..Said'. Prove '..Said' where nothing that the law and all that it calls make is longer than what came in: it says more and counts as full. Else prove '..UptoSaid'. A law counts once. -/
mutual
def uptoBulk {H : Type} : DataW H → Nat
  | .lit (.string bytes) => bytes.length + 1
  | .lit _ => 1
  | .nil => 1
  | .ptr d => uptoBulk d + 1
  | .slice elems spare => uptoBulkAll elems + uptoBulkAll spare + 1
  | .agg parts => uptoBulkAll parts + 1
  | .iface _ d => uptoBulk d + 1
  | .map entries => uptoBulkEntries entries + 1
  | .held _ => 1
def uptoBulkAll {H : Type} : List (DataW H) → Nat
  | [] => 0
  | d :: r => uptoBulk d + uptoBulkAll r
def uptoBulkEntries {H : Type} : List (Lit × DataW H) → Nat
  | [] => 0
  | x :: r => uptoBulkEntry x + uptoBulkEntries r
def uptoBulkEntry {H : Type} : Lit × DataW H → Nat
  | (.string bytes, d) => bytes.length + uptoBulk d + 1
  | (_, d) => uptoBulk d + 1
 end
def uptoSmall : (H : Type) → List (DataW H) → Bool := fun _ ds => decide (uptoBulkAll ds ≤ 1048576)
def OpenSpec.upto (s : _root_.Go.ChangeSpec) : _root_.Go.OpenSpec := { _root_.Go.OpenSpec.ofChange s with cond := some uptoSmall }

/-- 'laws.FnExactValidNet', WHERE WHAT IT READS IS OF BULK AT MOST 1048576: true; the input reads as it did. -/
def fnExactValidNetUptoRow : OpenClaim := { program := "ytjddeofchiohkaa", sum := "d087369951b1581333c6a412ffbf62b97b7ff09dc79c1b46336fc643789c2120", func := "loop.example/g01074/laws.FnExactValidNet", spec := "fnExactValidNet", unfollowed := true, recurses := true, apart := false, narrowed := true }
def FnExactValidNetUptoSaid : Prop := fnExactValidNetUptoRow.holds Try.pinned (OpenSpec.upto fnExactValidNetSpec)

/-- 'laws.FnExactPeerOf', WHERE WHAT IT READS IS OF BULK AT MOST 1048576: true; the input reads as it did. -/
def fnExactPeerOfUptoRow : OpenClaim := { program := "ytjddeofchiohkaa", sum := "d087369951b1581333c6a412ffbf62b97b7ff09dc79c1b46336fc643789c2120", func := "loop.example/g01074/laws.FnExactPeerOf", spec := "fnExactPeerOf", unfollowed := true, recurses := true, apart := false, narrowed := true }
def FnExactPeerOfUptoSaid : Prop := fnExactPeerOfUptoRow.holds Try.pinned (OpenSpec.upto fnExactPeerOfSpec)

/-- 'laws.FnExactCountKind', WHERE WHAT IT READS IS OF BULK AT MOST 1048576: true; the input reads as it did. -/
def fnExactCountKindUptoRow : OpenClaim := { program := "ytjddeofchiohkaa", sum := "d087369951b1581333c6a412ffbf62b97b7ff09dc79c1b46336fc643789c2120", func := "loop.example/g01074/laws.FnExactCountKind", spec := "fnExactCountKind", unfollowed := true, recurses := true, apart := false, narrowed := true }
def FnExactCountKindUptoSaid : Prop := fnExactCountKindUptoRow.holds Try.pinned (OpenSpec.upto fnExactCountKindSpec)

/-- 'laws.FnExactActivePairs', WHERE WHAT IT READS IS OF BULK AT MOST 1048576: true; the input reads as it did. -/
def fnExactActivePairsUptoRow : OpenClaim := { program := "ytjddeofchiohkaa", sum := "d087369951b1581333c6a412ffbf62b97b7ff09dc79c1b46336fc643789c2120", func := "loop.example/g01074/laws.FnExactActivePairs", spec := "fnExactActivePairs", unfollowed := true, recurses := true, apart := false, narrowed := true }
def FnExactActivePairsUptoSaid : Prop := fnExactActivePairsUptoRow.holds Try.pinned (OpenSpec.upto fnExactActivePairsSpec)

/-- 'laws.FnExactWiresOf', WHERE WHAT IT READS IS OF BULK AT MOST 1048576: true; the input reads as it did. -/
def fnExactWiresOfUptoRow : OpenClaim := { program := "ytjddeofchiohkaa", sum := "d087369951b1581333c6a412ffbf62b97b7ff09dc79c1b46336fc643789c2120", func := "loop.example/g01074/laws.FnExactWiresOf", spec := "fnExactWiresOf", unfollowed := true, recurses := true, apart := false, narrowed := true }
def FnExactWiresOfUptoSaid : Prop := fnExactWiresOfUptoRow.holds Try.pinned (OpenSpec.upto fnExactWiresOfSpec)

/-- 'laws.FnExactTraverseFrom', WHERE WHAT IT READS IS OF BULK AT MOST 1048576: true; the input reads as it did. -/
def fnExactTraverseFromUptoRow : OpenClaim := { program := "ytjddeofchiohkaa", sum := "d087369951b1581333c6a412ffbf62b97b7ff09dc79c1b46336fc643789c2120", func := "loop.example/g01074/laws.FnExactTraverseFrom", spec := "fnExactTraverseFrom", unfollowed := true, recurses := true, apart := false, narrowed := true }
def FnExactTraverseFromUptoSaid : Prop := fnExactTraverseFromUptoRow.holds Try.pinned (OpenSpec.upto fnExactTraverseFromSpec)

/-- 'laws.FnExactCodeFrom', WHERE WHAT IT READS IS OF BULK AT MOST 1048576: true; the input reads as it did. -/
def fnExactCodeFromUptoRow : OpenClaim := { program := "ytjddeofchiohkaa", sum := "d087369951b1581333c6a412ffbf62b97b7ff09dc79c1b46336fc643789c2120", func := "loop.example/g01074/laws.FnExactCodeFrom", spec := "fnExactCodeFrom", unfollowed := true, recurses := true, apart := false, narrowed := true }
def FnExactCodeFromUptoSaid : Prop := fnExactCodeFromUptoRow.holds Try.pinned (OpenSpec.upto fnExactCodeFromSpec)

/-- 'laws.FnExactIsLazyNormal', WHERE WHAT IT READS IS OF BULK AT MOST 1048576: true; the input reads as it did. -/
def fnExactIsLazyNormalUptoRow : OpenClaim := { program := "ytjddeofchiohkaa", sum := "d087369951b1581333c6a412ffbf62b97b7ff09dc79c1b46336fc643789c2120", func := "loop.example/g01074/laws.FnExactIsLazyNormal", spec := "fnExactIsLazyNormal", unfollowed := true, recurses := true, apart := false, narrowed := true }
def FnExactIsLazyNormalUptoSaid : Prop := fnExactIsLazyNormalUptoRow.holds Try.pinned (OpenSpec.upto fnExactIsLazyNormalSpec)

/-- 'laws.FnExactCountRoles', WHERE WHAT IT READS IS OF BULK AT MOST 1048576: true; the input reads as it did. -/
def fnExactCountRolesUptoRow : OpenClaim := { program := "ytjddeofchiohkaa", sum := "d087369951b1581333c6a412ffbf62b97b7ff09dc79c1b46336fc643789c2120", func := "loop.example/g01074/laws.FnExactCountRoles", spec := "fnExactCountRoles", unfollowed := true, recurses := true, apart := false, narrowed := true }
def FnExactCountRolesUptoSaid : Prop := fnExactCountRolesUptoRow.holds Try.pinned (OpenSpec.upto fnExactCountRolesSpec)

/-- 'laws.FnExactNeededPath', WHERE WHAT IT READS IS OF BULK AT MOST 1048576: true; the input reads as it did. -/
def fnExactNeededPathUptoRow : OpenClaim := { program := "ytjddeofchiohkaa", sum := "d087369951b1581333c6a412ffbf62b97b7ff09dc79c1b46336fc643789c2120", func := "loop.example/g01074/laws.FnExactNeededPath", spec := "fnExactNeededPath", unfollowed := true, recurses := true, apart := false, narrowed := true }
def FnExactNeededPathUptoSaid : Prop := fnExactNeededPathUptoRow.holds Try.pinned (OpenSpec.upto fnExactNeededPathSpec)

/-- 'laws.FnExactNeededPair', WHERE WHAT IT READS IS OF BULK AT MOST 1048576: true; the input reads as it did. -/
def fnExactNeededPairUptoRow : OpenClaim := { program := "ytjddeofchiohkaa", sum := "d087369951b1581333c6a412ffbf62b97b7ff09dc79c1b46336fc643789c2120", func := "loop.example/g01074/laws.FnExactNeededPair", spec := "fnExactNeededPair", unfollowed := true, recurses := true, apart := false, narrowed := true }
def FnExactNeededPairUptoSaid : Prop := fnExactNeededPairUptoRow.holds Try.pinned (OpenSpec.upto fnExactNeededPairSpec)

/-- 'laws.FnExactFirstClash', WHERE WHAT IT READS IS OF BULK AT MOST 1048576: true; the input reads as it did. -/
def fnExactFirstClashUptoRow : OpenClaim := { program := "ytjddeofchiohkaa", sum := "d087369951b1581333c6a412ffbf62b97b7ff09dc79c1b46336fc643789c2120", func := "loop.example/g01074/laws.FnExactFirstClash", spec := "fnExactFirstClash", unfollowed := true, recurses := true, apart := false, narrowed := true }
def FnExactFirstClashUptoSaid : Prop := fnExactFirstClashUptoRow.holds Try.pinned (OpenSpec.upto fnExactFirstClashSpec)

end Rows
end Go.Proofs.Ytjddeofchiohkaa
