/-
  NARROWER THAN 'FOR EVERY INPUT', by the rows' own cells (each row's printed sentence says how): FnExactSameTyped: loops · FnExactValidSignature: loops.
  DERIVED. THE GIVEN ROWS OF THIS SEAT. 5 by the template 'for every input the law returns true; each argument reads behind the call as it read before'; 0 by the template 'total and deterministic' (their statements: YtpbobilkejblgaaTotals.lean).
  GIVEN WITH THE SEED: the statements are not yours to turn. If you find one false, say at which input.
  Laid BY PROGRAM, IN A SANDBOX (cutbox-rows.mjs): the forced cells as the released guide's own fill.sh prints them over the translation f565a5f92739d39a… (all of the seat's roots in one cut). By AI agents, Wed Nov 11 2026. No macro, syntax, notation, axiom, sorry.
-/
import Derived.Test.YtpbobilkejblgaaChecked
import GoSem.Claim
import GoSem.ClaimJoined
import GoSem.ClaimMapViews
import Derived.JoinedTies
import Derived.KernelRfl
namespace Go.Proofs.Ytpbobilkejblgaa
/- THE CELL 'sum', in the pinned program and in every row, IS THE sha256 OF THE DUMP (.gsa) THAT YtpbobilkejblgaaProg.lean LOADS. Nothing in Lean hashes anything: it is a label: what it is worth is what the hold of that sum in a sandbox is worth. -/
noncomputable def Try.pinned : Pinned := { name := "ytpbobilkejblgaa", sum := "f565a5f92739d39a112db358a3a1eda564278c6ea62718583a717ec4b652567f", checked := Try.checked }
namespace Rows
def none {H : Type} : Left H := { results := [], args := [] }

/-- 'laws.FnExactOrientNet': WHATEVER THE INPUT: true; the input reads as it did. -/
def fnExactOrientNetSpec : ChangeSpec := { name := "fnExactOrientNet", fn := fun _ => fun
  | [d] => { results := [.lit (.bool true)], args := [d] }
  | _ => none }
def fnExactOrientNetRow : OpenClaim := { program := "ytpbobilkejblgaa", sum := "f565a5f92739d39a112db358a3a1eda564278c6ea62718583a717ec4b652567f", func := "loop.example/g01074/laws.FnExactOrientNet", spec := "fnExactOrientNet", unfollowed := true, recurses := true, apart := false }
def FnExactOrientNetSaid : Prop := fnExactOrientNetRow.holds Try.pinned (OpenSpec.ofChange fnExactOrientNetSpec)

/-- ITS FALSE NEIGHBOUR: 'it returns false'. Refute it at one input. -/
def fnExactOrientNetWrong : ChangeSpec := { name := "fnExactOrientNet", fn := fun _ => fun
  | [d] => { results := [.lit (.bool false)], args := [d] }
  | _ => none }
def FnExactOrientNetWrongFalsely : Prop := fnExactOrientNetRow.holds Try.pinned (OpenSpec.ofChange fnExactOrientNetWrong)

/-- 'laws.FnExactIsOrientable': WHATEVER THE INPUT: true; the input reads as it did. -/
def fnExactIsOrientableSpec : ChangeSpec := { name := "fnExactIsOrientable", fn := fun _ => fun
  | [d] => { results := [.lit (.bool true)], args := [d] }
  | _ => none }
def fnExactIsOrientableRow : OpenClaim := { program := "ytpbobilkejblgaa", sum := "f565a5f92739d39a112db358a3a1eda564278c6ea62718583a717ec4b652567f", func := "loop.example/g01074/laws.FnExactIsOrientable", spec := "fnExactIsOrientable", unfollowed := true, recurses := true, apart := false }
def FnExactIsOrientableSaid : Prop := fnExactIsOrientableRow.holds Try.pinned (OpenSpec.ofChange fnExactIsOrientableSpec)

/-- ITS FALSE NEIGHBOUR: 'it returns false'. Refute it at one input. -/
def fnExactIsOrientableWrong : ChangeSpec := { name := "fnExactIsOrientable", fn := fun _ => fun
  | [d] => { results := [.lit (.bool false)], args := [d] }
  | _ => none }
def FnExactIsOrientableWrongFalsely : Prop := fnExactIsOrientableRow.holds Try.pinned (OpenSpec.ofChange fnExactIsOrientableWrong)

/-- 'laws.FnExactDataOf': WHATEVER THE INPUT: true; the input reads as it did. -/
def fnExactDataOfSpec : ChangeSpec := { name := "fnExactDataOf", fn := fun _ => fun
  | [d] => { results := [.lit (.bool true)], args := [d] }
  | _ => none }
def fnExactDataOfRow : OpenClaim := { program := "ytpbobilkejblgaa", sum := "f565a5f92739d39a112db358a3a1eda564278c6ea62718583a717ec4b652567f", func := "loop.example/g01074/laws.FnExactDataOf", spec := "fnExactDataOf", unfollowed := true, recurses := true, apart := false }
def FnExactDataOfSaid : Prop := fnExactDataOfRow.holds Try.pinned (OpenSpec.ofChange fnExactDataOfSpec)

/-- ITS FALSE NEIGHBOUR: 'it returns false'. Refute it at one input. -/
def fnExactDataOfWrong : ChangeSpec := { name := "fnExactDataOf", fn := fun _ => fun
  | [d] => { results := [.lit (.bool false)], args := [d] }
  | _ => none }
def FnExactDataOfWrongFalsely : Prop := fnExactDataOfRow.holds Try.pinned (OpenSpec.ofChange fnExactDataOfWrong)

/-- 'laws.FnExactSameTyped': WHATEVER THE INPUT: true; the input reads as it did. -/
def fnExactSameTypedSpec : ChangeSpec := { name := "fnExactSameTyped", fn := fun _ => fun
  | [d1, d2] => { results := [.lit (.bool true)], args := [d1, d2] }
  | _ => none }
def fnExactSameTypedRow : OpenClaim := { program := "ytpbobilkejblgaa", sum := "f565a5f92739d39a112db358a3a1eda564278c6ea62718583a717ec4b652567f", func := "loop.example/g01074/laws.FnExactSameTyped", spec := "fnExactSameTyped", unfollowed := true, recurses := true, loops := true, apart := false }
def FnExactSameTypedSaid : Prop := fnExactSameTypedRow.holds Try.pinned (OpenSpec.ofChange fnExactSameTypedSpec)

/-- ITS FALSE NEIGHBOUR: 'it returns false'. Refute it at one input. -/
def fnExactSameTypedWrong : ChangeSpec := { name := "fnExactSameTyped", fn := fun _ => fun
  | [d1, d2] => { results := [.lit (.bool false)], args := [d1, d2] }
  | _ => none }
def FnExactSameTypedWrongFalsely : Prop := fnExactSameTypedRow.holds Try.pinned (OpenSpec.ofChange fnExactSameTypedWrong)

/-- 'laws.FnExactValidSignature': WHATEVER THE INPUT: true; the input reads as it did. -/
def fnExactValidSignatureSpec : ChangeSpec := { name := "fnExactValidSignature", fn := fun _ => fun
  | [d] => { results := [.lit (.bool true)], args := [d] }
  | _ => none }
def fnExactValidSignatureRow : OpenClaim := { program := "ytpbobilkejblgaa", sum := "f565a5f92739d39a112db358a3a1eda564278c6ea62718583a717ec4b652567f", func := "loop.example/g01074/laws.FnExactValidSignature", spec := "fnExactValidSignature", unfollowed := true, recurses := true, loops := true, apart := false }
def FnExactValidSignatureSaid : Prop := fnExactValidSignatureRow.holds Try.pinned (OpenSpec.ofChange fnExactValidSignatureSpec)

/-- ITS FALSE NEIGHBOUR: 'it returns false'. Refute it at one input. -/
def fnExactValidSignatureWrong : ChangeSpec := { name := "fnExactValidSignature", fn := fun _ => fun
  | [d] => { results := [.lit (.bool false)], args := [d] }
  | _ => none }
def FnExactValidSignatureWrongFalsely : Prop := fnExactValidSignatureRow.holds Try.pinned (OpenSpec.ofChange fnExactValidSignatureWrong)

/- THE SECOND FORM. 'bulk': how many values and letters a reading holds, each counted each time it is reached (what is shared counts as often as it is met; a slice's spare places count too). A statement '..UptoSaid' is the law's where the arguments, and the package variables that the reading takes, are together of bulk at most 1048576: NARROWER than '..Said'. Prove '..Said' where nothing that the law and all that it calls make is longer than what came in: it says more and counts as full. Else prove '..UptoSaid'. A law counts once. -/
mutual
def uptoBulk {H : Type} : DataW H → Nat
  | .lit (.string bytes) => bytes.length + 1
  | .lit _ => 1
  | .nil => 1
  | .ptr d => uptoBulk d + 1
  | .slice elems spare => uptoBulkAll elems + uptoBulkAll spare + 1
  | .agg parts => uptoBulkAll parts + 1
  | .iface _ d => uptoBulk d + 1
  | .map entries => uptoBulkEntries entries + 1
  | .held _ => 1
def uptoBulkAll {H : Type} : List (DataW H) → Nat
  | [] => 0
  | d :: r => uptoBulk d + uptoBulkAll r
def uptoBulkEntries {H : Type} : List (Lit × DataW H) → Nat
  | [] => 0
  | x :: r => uptoBulkEntry x + uptoBulkEntries r
def uptoBulkEntry {H : Type} : Lit × DataW H → Nat
  | (.string bytes, d) => bytes.length + uptoBulk d + 1
  | (_, d) => uptoBulk d + 1
 end
def uptoSmall : (H : Type) → List (DataW H) → Bool := fun _ ds => decide (uptoBulkAll ds ≤ 1048576)
def OpenSpec.upto (s : _root_.Go.ChangeSpec) : _root_.Go.OpenSpec := { _root_.Go.OpenSpec.ofChange s with cond := some uptoSmall }

/-- 'laws.FnExactOrientNet', WHERE WHAT IT READS IS OF BULK AT MOST 1048576: true; the input reads as it did. -/
def fnExactOrientNetUptoRow : OpenClaim := { program := "ytpbobilkejblgaa", sum := "f565a5f92739d39a112db358a3a1eda564278c6ea62718583a717ec4b652567f", func := "loop.example/g01074/laws.FnExactOrientNet", spec := "fnExactOrientNet", unfollowed := true, recurses := true, apart := false, narrowed := true }
def FnExactOrientNetUptoSaid : Prop := fnExactOrientNetUptoRow.holds Try.pinned (OpenSpec.upto fnExactOrientNetSpec)

/-- 'laws.FnExactIsOrientable', WHERE WHAT IT READS IS OF BULK AT MOST 1048576: true; the input reads as it did. -/
def fnExactIsOrientableUptoRow : OpenClaim := { program := "ytpbobilkejblgaa", sum := "f565a5f92739d39a112db358a3a1eda564278c6ea62718583a717ec4b652567f", func := "loop.example/g01074/laws.FnExactIsOrientable", spec := "fnExactIsOrientable", unfollowed := true, recurses := true, apart := false, narrowed := true }
def FnExactIsOrientableUptoSaid : Prop := fnExactIsOrientableUptoRow.holds Try.pinned (OpenSpec.upto fnExactIsOrientableSpec)

/-- 'laws.FnExactDataOf', WHERE WHAT IT READS IS OF BULK AT MOST 1048576: true; the input reads as it did. -/
def fnExactDataOfUptoRow : OpenClaim := { program := "ytpbobilkejblgaa", sum := "f565a5f92739d39a112db358a3a1eda564278c6ea62718583a717ec4b652567f", func := "loop.example/g01074/laws.FnExactDataOf", spec := "fnExactDataOf", unfollowed := true, recurses := true, apart := false, narrowed := true }
def FnExactDataOfUptoSaid : Prop := fnExactDataOfUptoRow.holds Try.pinned (OpenSpec.upto fnExactDataOfSpec)

/-- 'laws.FnExactSameTyped', WHERE WHAT IT READS IS OF BULK AT MOST 1048576: true; the input reads as it did. -/
def fnExactSameTypedUptoRow : OpenClaim := { program := "ytpbobilkejblgaa", sum := "f565a5f92739d39a112db358a3a1eda564278c6ea62718583a717ec4b652567f", func := "loop.example/g01074/laws.FnExactSameTyped", spec := "fnExactSameTyped", unfollowed := true, recurses := true, loops := true, apart := false, narrowed := true }
def FnExactSameTypedUptoSaid : Prop := fnExactSameTypedUptoRow.holds Try.pinned (OpenSpec.upto fnExactSameTypedSpec)

/-- 'laws.FnExactValidSignature', WHERE WHAT IT READS IS OF BULK AT MOST 1048576: true; the input reads as it did. -/
def fnExactValidSignatureUptoRow : OpenClaim := { program := "ytpbobilkejblgaa", sum := "f565a5f92739d39a112db358a3a1eda564278c6ea62718583a717ec4b652567f", func := "loop.example/g01074/laws.FnExactValidSignature", spec := "fnExactValidSignature", unfollowed := true, recurses := true, loops := true, apart := false, narrowed := true }
def FnExactValidSignatureUptoSaid : Prop := fnExactValidSignatureUptoRow.holds Try.pinned (OpenSpec.upto fnExactValidSignatureSpec)

end Rows
end Go.Proofs.Ytpbobilkejblgaa
