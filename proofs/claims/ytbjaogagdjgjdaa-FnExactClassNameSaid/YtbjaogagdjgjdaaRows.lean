/-
  No cell of these rows narrows 'for every input' (looked for: loops, veiled, ifaces, maps, wideKeys, modest, calm, conditions, laid).
  DERIVED. THE GIVEN ROWS OF THIS SEAT. 4 by the template 'for every input the law returns true; each argument reads behind the call as it read before'; 0 by the template 'total and deterministic' (their statements: YtbjaogagdjgjdaaTotals.lean).
  GIVEN WITH THE SEED: the statements are not yours to turn. If you find one false, say at which input.
  Laid BY PROGRAM, IN A SANDBOX (cutbox-rows.mjs): the forced cells as the released guide's own fill.sh prints them over the translation d3b60676fd48dd0e… (all of the seat's roots in one cut). By AI agents, Wed Nov 11 2026. No macro, syntax, notation, axiom, sorry.
-/
import Derived.Test.YtbjaogagdjgjdaaChecked
import GoSem.Claim
import GoSem.ClaimJoined
import GoSem.ClaimMapViews
import Derived.JoinedTies
import Derived.KernelRfl
namespace Go.Proofs.Ytbjaogagdjgjdaa
/- THE CELL 'sum', in the pinned program and in every row, IS THE sha256 OF THE DUMP (.gsa) THAT YtbjaogagdjgjdaaProg.lean LOADS. Nothing in Lean hashes anything: it is a label: what it is worth is what the hold of that sum in a sandbox is worth. -/
noncomputable def Try.pinned : Pinned := { name := "ytbjaogagdjgjdaa", sum := "d3b60676fd48dd0e1c37fb71afb42dd9aa6365df9f7587853989f047af1bf6e5", checked := Try.checked }
namespace Rows
def none {H : Type} : Left H := { results := [], args := [] }

/-- 'laws.FnExactIsConsumer': WHATEVER THE INPUT: true; the input reads as it did. -/
def fnExactIsConsumerSpec : ChangeSpec := { name := "fnExactIsConsumer", fn := fun _ => fun
  | [d] => { results := [.lit (.bool true)], args := [d] }
  | _ => none }
def fnExactIsConsumerRow : OpenClaim := { program := "ytbjaogagdjgjdaa", sum := "d3b60676fd48dd0e1c37fb71afb42dd9aa6365df9f7587853989f047af1bf6e5", func := "loop.example/g01074/laws.FnExactIsConsumer", spec := "fnExactIsConsumer", apart := false }
def FnExactIsConsumerSaid : Prop := fnExactIsConsumerRow.holds Try.pinned (OpenSpec.ofChange fnExactIsConsumerSpec)

/-- ITS FALSE NEIGHBOUR: 'it returns false'. Refute it at one input. -/
def fnExactIsConsumerWrong : ChangeSpec := { name := "fnExactIsConsumer", fn := fun _ => fun
  | [d] => { results := [.lit (.bool false)], args := [d] }
  | _ => none }
def FnExactIsConsumerWrongFalsely : Prop := fnExactIsConsumerRow.holds Try.pinned (OpenSpec.ofChange fnExactIsConsumerWrong)

/-- 'laws.FnExactHasLevel': WHATEVER THE INPUT: true; the input reads as it did. -/
def fnExactHasLevelSpec : ChangeSpec := { name := "fnExactHasLevel", fn := fun _ => fun
  | [d] => { results := [.lit (.bool true)], args := [d] }
  | _ => none }
def fnExactHasLevelRow : OpenClaim := { program := "ytbjaogagdjgjdaa", sum := "d3b60676fd48dd0e1c37fb71afb42dd9aa6365df9f7587853989f047af1bf6e5", func := "loop.example/g01074/laws.FnExactHasLevel", spec := "fnExactHasLevel", apart := false }
def FnExactHasLevelSaid : Prop := fnExactHasLevelRow.holds Try.pinned (OpenSpec.ofChange fnExactHasLevelSpec)

/-- ITS FALSE NEIGHBOUR: 'it returns false'. Refute it at one input. -/
def fnExactHasLevelWrong : ChangeSpec := { name := "fnExactHasLevel", fn := fun _ => fun
  | [d] => { results := [.lit (.bool false)], args := [d] }
  | _ => none }
def FnExactHasLevelWrongFalsely : Prop := fnExactHasLevelRow.holds Try.pinned (OpenSpec.ofChange fnExactHasLevelWrong)

/-- 'laws.FnExactClassName': WHATEVER THE INPUT: true; the input reads as it did. -/
def fnExactClassNameSpec : ChangeSpec := { name := "fnExactClassName", fn := fun _ => fun
  | [d] => { results := [.lit (.bool true)], args := [d] }
  | _ => none }
def fnExactClassNameRow : OpenClaim := { program := "ytbjaogagdjgjdaa", sum := "d3b60676fd48dd0e1c37fb71afb42dd9aa6365df9f7587853989f047af1bf6e5", func := "loop.example/g01074/laws.FnExactClassName", spec := "fnExactClassName", apart := false }
def FnExactClassNameSaid : Prop := fnExactClassNameRow.holds Try.pinned (OpenSpec.ofChange fnExactClassNameSpec)

/-- ITS FALSE NEIGHBOUR: 'it returns false'. Refute it at one input. -/
def fnExactClassNameWrong : ChangeSpec := { name := "fnExactClassName", fn := fun _ => fun
  | [d] => { results := [.lit (.bool false)], args := [d] }
  | _ => none }
def FnExactClassNameWrongFalsely : Prop := fnExactClassNameRow.holds Try.pinned (OpenSpec.ofChange fnExactClassNameWrong)

/-- 'laws.FnExactPortsOf': WHATEVER THE INPUT: true; the input reads as it did. -/
def fnExactPortsOfSpec : ChangeSpec := { name := "fnExactPortsOf", fn := fun _ => fun
  | [d1, d2] => { results := [.lit (.bool true)], args := [d1, d2] }
  | _ => none }
def fnExactPortsOfRow : OpenClaim := { program := "ytbjaogagdjgjdaa", sum := "d3b60676fd48dd0e1c37fb71afb42dd9aa6365df9f7587853989f047af1bf6e5", func := "loop.example/g01074/laws.FnExactPortsOf", spec := "fnExactPortsOf", apart := false }
def FnExactPortsOfSaid : Prop := fnExactPortsOfRow.holds Try.pinned (OpenSpec.ofChange fnExactPortsOfSpec)

/-- ITS FALSE NEIGHBOUR: 'it returns false'. Refute it at one input. -/
def fnExactPortsOfWrong : ChangeSpec := { name := "fnExactPortsOf", fn := fun _ => fun
  | [d1, d2] => { results := [.lit (.bool false)], args := [d1, d2] }
  | _ => none }
def FnExactPortsOfWrongFalsely : Prop := fnExactPortsOfRow.holds Try.pinned (OpenSpec.ofChange fnExactPortsOfWrong)

/- THE SECOND FORM. 'bulk': how many values and letters a reading holds, each counted each time it is reached (what is shared counts as often as it is met; a slice's spare places count too). A statement '..UptoSaid' is the law's where the arguments, and the package variables that the reading takes, are together of bulk at most 1048576: NARROWER than '..Said'. Prove '..Said' where nothing that the law and all that it calls make is longer than what came in: it says more and counts as full. Else prove '..UptoSaid'. A law counts once. -/
mutual
def uptoBulk {H : Type} : DataW H → Nat
  | .lit (.string bytes) => bytes.length + 1
  | .lit _ => 1
  | .nil => 1
  | .ptr d => uptoBulk d + 1
  | .slice elems spare => uptoBulkAll elems + uptoBulkAll spare + 1
  | .agg parts => uptoBulkAll parts + 1
  | .iface _ d => uptoBulk d + 1
  | .map entries => uptoBulkEntries entries + 1
  | .held _ => 1
def uptoBulkAll {H : Type} : List (DataW H) → Nat
  | [] => 0
  | d :: r => uptoBulk d + uptoBulkAll r
def uptoBulkEntries {H : Type} : List (Lit × DataW H) → Nat
  | [] => 0
  | x :: r => uptoBulkEntry x + uptoBulkEntries r
def uptoBulkEntry {H : Type} : Lit × DataW H → Nat
  | (.string bytes, d) => bytes.length + uptoBulk d + 1
  | (_, d) => uptoBulk d + 1
 end
def uptoSmall : (H : Type) → List (DataW H) → Bool := fun _ ds => decide (uptoBulkAll ds ≤ 1048576)
def OpenSpec.upto (s : _root_.Go.ChangeSpec) : _root_.Go.OpenSpec := { _root_.Go.OpenSpec.ofChange s with cond := some uptoSmall }

/-- 'laws.FnExactIsConsumer', WHERE WHAT IT READS IS OF BULK AT MOST 1048576: true; the input reads as it did. -/
def fnExactIsConsumerUptoRow : OpenClaim := { program := "ytbjaogagdjgjdaa", sum := "d3b60676fd48dd0e1c37fb71afb42dd9aa6365df9f7587853989f047af1bf6e5", func := "loop.example/g01074/laws.FnExactIsConsumer", spec := "fnExactIsConsumer", apart := false, narrowed := true }
def FnExactIsConsumerUptoSaid : Prop := fnExactIsConsumerUptoRow.holds Try.pinned (OpenSpec.upto fnExactIsConsumerSpec)

/-- 'laws.FnExactHasLevel', WHERE WHAT IT READS IS OF BULK AT MOST 1048576: true; the input reads as it did. -/
def fnExactHasLevelUptoRow : OpenClaim := { program := "ytbjaogagdjgjdaa", sum := "d3b60676fd48dd0e1c37fb71afb42dd9aa6365df9f7587853989f047af1bf6e5", func := "loop.example/g01074/laws.FnExactHasLevel", spec := "fnExactHasLevel", apart := false, narrowed := true }
def FnExactHasLevelUptoSaid : Prop := fnExactHasLevelUptoRow.holds Try.pinned (OpenSpec.upto fnExactHasLevelSpec)

/-- 'laws.FnExactClassName', WHERE WHAT IT READS IS OF BULK AT MOST 1048576: true; the input reads as it did. -/
def fnExactClassNameUptoRow : OpenClaim := { program := "ytbjaogagdjgjdaa", sum := "d3b60676fd48dd0e1c37fb71afb42dd9aa6365df9f7587853989f047af1bf6e5", func := "loop.example/g01074/laws.FnExactClassName", spec := "fnExactClassName", apart := false, narrowed := true }
def FnExactClassNameUptoSaid : Prop := fnExactClassNameUptoRow.holds Try.pinned (OpenSpec.upto fnExactClassNameSpec)

/-- 'laws.FnExactPortsOf', WHERE WHAT IT READS IS OF BULK AT MOST 1048576: true; the input reads as it did. -/
def fnExactPortsOfUptoRow : OpenClaim := { program := "ytbjaogagdjgjdaa", sum := "d3b60676fd48dd0e1c37fb71afb42dd9aa6365df9f7587853989f047af1bf6e5", func := "loop.example/g01074/laws.FnExactPortsOf", spec := "fnExactPortsOf", apart := false, narrowed := true }
def FnExactPortsOfUptoSaid : Prop := fnExactPortsOfUptoRow.holds Try.pinned (OpenSpec.upto fnExactPortsOfSpec)

end Rows
end Go.Proofs.Ytbjaogagdjgjdaa
