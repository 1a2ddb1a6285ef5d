/-
  NARROWER THAN 'FOR EVERY INPUT', by the rows' own cells (each row's printed sentence says how): FnExactKindName: laid · FnExactKindNamed: laid.
  DERIVED. THE GIVEN ROWS OF THIS SEAT. 2 by the template 'for every input the law returns true; each argument reads behind the call as it read before'; 0 by the template 'total and deterministic' (their statements: YtebioddcnldjkaaDoorTotals.lean).
  GIVEN WITH THE SEED: the statements are not yours to turn. If you find one false, say at which input.
  Laid BY PROGRAM, IN A SANDBOX (cutbox-rows.mjs): the forced cells as the released guide's own fill.sh prints them over the translation 49804d8842a10d43… (all of the seat's roots in one cut). By AI agents, Wed Nov 11 2026. No macro, syntax, notation, axiom, sorry.
-/
import Derived.Test.YtebioddcnldjkaaDoorChecked
import GoSem.Claim
import GoSem.ClaimJoined
import GoSem.ClaimMapViews
import Derived.JoinedTies
import Derived.KernelRfl
namespace Go.Proofs.YtebioddcnldjkaaDoor
/- THE CELL 'sum', in the pinned program and in every row, IS THE sha256 OF THE DUMP (.gsa) THAT YtebioddcnldjkaaDoorProg.lean LOADS. Nothing in Lean hashes anything: it is a label: what it is worth is what the hold of that sum in a sandbox is worth. -/
noncomputable def Tryd.pinned : Pinned := { name := "ytebioddcnldjkaadoor", sum := "49804d8842a10d438f40e7548d2f9748e3b5b2e4c6b8c93bf84e2aa4dea91b29", checked := Tryd.checked }
namespace Rows
def none {H : Type} : Left H := { results := [], args := [] }

/- WHAT THE LISTED PACKAGE-LEVEL VARIABLES READ AS WHEN THE CALL BEGINS. Each datum BY PROGRAM (the guide's laid-datum.mjs) off the statement by which the dump's own 'gosem.cut.vars' lays the variable. In a bare row this is a premise. The card (YtebioddcnldjkaaDoorCards.lean) ties it to the program's text. -/
def laid_loop_example_g01074_impl_kindNames {H : Type} : DataW H := .agg [.lit (.string [114, 111, 111, 116]), .lit (.string [108, 97, 109]), .lit (.string [97, 112, 112]), .lit (.string [102, 97, 110]), .lit (.string [101, 114, 97]), .lit (.string [110, 117, 109]), .lit (.string [111, 112]), .lit (.string [111, 112, 49]), .lit (.string [99, 111, 110]), .lit (.string [109, 97, 116]), .lit (.string [115, 119, 105]), .lit (.string [114, 101, 102])]

/-- 'laws.FnExactKindName': WHATEVER THE INPUT: true; the input reads as it did. -/
def fnExactKindNameSpec : ChangeSpec := { name := "fnExactKindName", vars := ["loop.example/g01074/impl.kindNames"], fn := fun _ => fun
  | [d, g1] => { results := [.lit (.bool true)], args := [d], vars := [g1] }
  | _ => none }
def fnExactKindNameRow : OpenClaim := { program := "ytebioddcnldjkaadoor", sum := "49804d8842a10d438f40e7548d2f9748e3b5b2e4c6b8c93bf84e2aa4dea91b29", func := "loop.example/g01074/laws.FnExactKindName", spec := "fnExactKindName", named := ["loop.example/g01074/impl.kindNames"], apart := false, laid := [("loop.example/g01074/impl.kindNames", laid_loop_example_g01074_impl_kindNames)] }
def FnExactKindNameSaid : Prop := fnExactKindNameRow.holds Tryd.pinned (OpenSpec.ofChange fnExactKindNameSpec)

/-- ITS FALSE NEIGHBOUR: 'it returns false'. Refute it at one input. -/
def fnExactKindNameWrong : ChangeSpec := { name := "fnExactKindName", vars := ["loop.example/g01074/impl.kindNames"], fn := fun _ => fun
  | [d, g1] => { results := [.lit (.bool false)], args := [d], vars := [g1] }
  | _ => none }
def FnExactKindNameWrongFalsely : Prop := fnExactKindNameRow.holds Tryd.pinned (OpenSpec.ofChange fnExactKindNameWrong)

/-- 'laws.FnExactKindNamed': WHATEVER THE INPUT: true; the input reads as it did. -/
def fnExactKindNamedSpec : ChangeSpec := { name := "fnExactKindNamed", vars := ["loop.example/g01074/impl.kindNames"], fn := fun _ => fun
  | [d, g1] => { results := [.lit (.bool true)], args := [d], vars := [g1] }
  | _ => none }
def fnExactKindNamedRow : OpenClaim := { program := "ytebioddcnldjkaadoor", sum := "49804d8842a10d438f40e7548d2f9748e3b5b2e4c6b8c93bf84e2aa4dea91b29", func := "loop.example/g01074/laws.FnExactKindNamed", spec := "fnExactKindNamed", named := ["loop.example/g01074/impl.kindNames"], apart := false, laid := [("loop.example/g01074/impl.kindNames", laid_loop_example_g01074_impl_kindNames)] }
def FnExactKindNamedSaid : Prop := fnExactKindNamedRow.holds Tryd.pinned (OpenSpec.ofChange fnExactKindNamedSpec)

/-- ITS FALSE NEIGHBOUR: 'it returns false'. Refute it at one input. -/
def fnExactKindNamedWrong : ChangeSpec := { name := "fnExactKindNamed", vars := ["loop.example/g01074/impl.kindNames"], fn := fun _ => fun
  | [d, g1] => { results := [.lit (.bool false)], args := [d], vars := [g1] }
  | _ => none }
def FnExactKindNamedWrongFalsely : Prop := fnExactKindNamedRow.holds Tryd.pinned (OpenSpec.ofChange fnExactKindNamedWrong)

/- THE SECOND FORM. 'bulk': how many values and letters a reading holds, each counted each time it is reached (what is shared counts as often as it is met; a slice's spare places count too). A statement '..UptoSaid' is the law's where the arguments, and the package variables that the reading takes, are together of bulk at most 1048576: NARROWER than '..Said'. Prove '..Said' where nothing that the law and all that it calls make is longer than what came in: it says more and counts as full. Else prove '..UptoSaid'. A law counts once. -/
mutual
def uptoBulk {H : Type} : DataW H → Nat
  | .lit (.string bytes) => bytes.length + 1
  | .lit _ => 1
  | .nil => 1
  | .ptr d => uptoBulk d + 1
  | .slice elems spare => uptoBulkAll elems + uptoBulkAll spare + 1
  | .agg parts => uptoBulkAll parts + 1
  | .iface _ d => uptoBulk d + 1
  | .map entries => uptoBulkEntries entries + 1
  | .held _ => 1
def uptoBulkAll {H : Type} : List (DataW H) → Nat
  | [] => 0
  | d :: r => uptoBulk d + uptoBulkAll r
def uptoBulkEntries {H : Type} : List (Lit × DataW H) → Nat
  | [] => 0
  | x :: r => uptoBulkEntry x + uptoBulkEntries r
def uptoBulkEntry {H : Type} : Lit × DataW H → Nat
  | (.string bytes, d) => bytes.length + uptoBulk d + 1
  | (_, d) => uptoBulk d + 1
 end
def uptoSmall : (H : Type) → List (DataW H) → Bool := fun _ ds => decide (uptoBulkAll ds ≤ 1048576)
def OpenSpec.upto (s : _root_.Go.ChangeSpec) : _root_.Go.OpenSpec := { _root_.Go.OpenSpec.ofChange s with cond := some uptoSmall }

/-- 'laws.FnExactKindName', WHERE WHAT IT READS IS OF BULK AT MOST 1048576: true; the input reads as it did. -/
def fnExactKindNameUptoRow : OpenClaim := { program := "ytebioddcnldjkaadoor", sum := "49804d8842a10d438f40e7548d2f9748e3b5b2e4c6b8c93bf84e2aa4dea91b29", func := "loop.example/g01074/laws.FnExactKindName", spec := "fnExactKindName", named := ["loop.example/g01074/impl.kindNames"], apart := false, laid := [("loop.example/g01074/impl.kindNames", laid_loop_example_g01074_impl_kindNames)], narrowed := true }
def FnExactKindNameUptoSaid : Prop := fnExactKindNameUptoRow.holds Tryd.pinned (OpenSpec.upto fnExactKindNameSpec)

/-- 'laws.FnExactKindNamed', WHERE WHAT IT READS IS OF BULK AT MOST 1048576: true; the input reads as it did. -/
def fnExactKindNamedUptoRow : OpenClaim := { program := "ytebioddcnldjkaadoor", sum := "49804d8842a10d438f40e7548d2f9748e3b5b2e4c6b8c93bf84e2aa4dea91b29", func := "loop.example/g01074/laws.FnExactKindNamed", spec := "fnExactKindNamed", named := ["loop.example/g01074/impl.kindNames"], apart := false, laid := [("loop.example/g01074/impl.kindNames", laid_loop_example_g01074_impl_kindNames)], narrowed := true }
def FnExactKindNamedUptoSaid : Prop := fnExactKindNamedUptoRow.holds Tryd.pinned (OpenSpec.upto fnExactKindNamedSpec)

end Rows
end Go.Proofs.YtebioddcnldjkaaDoor
