/-
  No cell of these rows narrows 'for every input' (looked for: loops, veiled, ifaces, maps, wideKeys, modest, calm, conditions, laid).
  DERIVED. THE GIVEN ROWS OF THIS SEAT. 4 by the template 'for every input the law returns true; each argument reads behind the call as it read before'; 0 by the template 'total and deterministic' (their statements: YtebioddcnldjkaaGreatTotals.lean).
  GIVEN WITH THE SEED: the statements are not yours to turn. If you find one false, say at which input.
  Laid BY PROGRAM, IN A SANDBOX (cutbox-rows.mjs): the forced cells as the released guide's own fill.sh prints them over the translation f9175d718d4fa6e1… (all of the seat's roots in one cut). By AI agents, Wed Nov 11 2026. No macro, syntax, notation, axiom, sorry.
-/
import Derived.Test.YtebioddcnldjkaaGreatChecked
import GoSem.Claim
import GoSem.ClaimJoined
import GoSem.ClaimMapViews
import Derived.JoinedTies
import Derived.KernelRfl
namespace Go.Proofs.YtebioddcnldjkaaGreat
/- THE CELL 'sum', in the pinned program and in every row, IS THE sha256 OF THE DUMP (.gsa) THAT YtebioddcnldjkaaGreatProg.lean LOADS. Nothing in Lean hashes anything: it is a label: what it is worth is what the hold of that sum in a sandbox is worth. -/
noncomputable def Tryz.pinned : Pinned := { name := "ytebioddcnldjkaagreat", sum := "f9175d718d4fa6e187b1e3fa165e537559b2d1d92960d17936bb346af7ee191b", checked := Tryz.checked }
namespace Rows
def none {H : Type} : Left H := { results := [], args := [] }

/-- 'laws.FnExactCanonicalOrder': WHATEVER THE INPUT: true; the input reads as it did. -/
def fnExactCanonicalOrderSpec : ChangeSpec := { name := "fnExactCanonicalOrder", fn := fun _ => fun
  | [d] => { results := [.lit (.bool true)], args := [d] }
  | _ => none }
def fnExactCanonicalOrderRow : OpenClaim := { program := "ytebioddcnldjkaagreat", sum := "f9175d718d4fa6e187b1e3fa165e537559b2d1d92960d17936bb346af7ee191b", func := "loop.example/g01074/laws.FnExactCanonicalOrder", spec := "fnExactCanonicalOrder", unfollowed := true, recurses := true, apart := false }
def FnExactCanonicalOrderSaid : Prop := fnExactCanonicalOrderRow.holds Tryz.pinned (OpenSpec.ofChange fnExactCanonicalOrderSpec)

/-- ITS FALSE NEIGHBOUR: 'it returns false'. Refute it at one input. -/
def fnExactCanonicalOrderWrong : ChangeSpec := { name := "fnExactCanonicalOrder", fn := fun _ => fun
  | [d] => { results := [.lit (.bool false)], args := [d] }
  | _ => none }
def FnExactCanonicalOrderWrongFalsely : Prop := fnExactCanonicalOrderRow.holds Tryz.pinned (OpenSpec.ofChange fnExactCanonicalOrderWrong)

/-- 'laws.FnExactCanonicalNet': WHATEVER THE INPUT: true; the input reads as it did. -/
def fnExactCanonicalNetSpec : ChangeSpec := { name := "fnExactCanonicalNet", fn := fun _ => fun
  | [d] => { results := [.lit (.bool true)], args := [d] }
  | _ => none }
def fnExactCanonicalNetRow : OpenClaim := { program := "ytebioddcnldjkaagreat", sum := "f9175d718d4fa6e187b1e3fa165e537559b2d1d92960d17936bb346af7ee191b", func := "loop.example/g01074/laws.FnExactCanonicalNet", spec := "fnExactCanonicalNet", unfollowed := true, recurses := true, apart := false }
def FnExactCanonicalNetSaid : Prop := fnExactCanonicalNetRow.holds Tryz.pinned (OpenSpec.ofChange fnExactCanonicalNetSpec)

/-- ITS FALSE NEIGHBOUR: 'it returns false'. Refute it at one input. -/
def fnExactCanonicalNetWrong : ChangeSpec := { name := "fnExactCanonicalNet", fn := fun _ => fun
  | [d] => { results := [.lit (.bool false)], args := [d] }
  | _ => none }
def FnExactCanonicalNetWrongFalsely : Prop := fnExactCanonicalNetRow.holds Tryz.pinned (OpenSpec.ofChange fnExactCanonicalNetWrong)

/-- 'laws.FnExactSameShape': WHATEVER THE INPUT: true; the input reads as it did. -/
def fnExactSameShapeSpec : ChangeSpec := { name := "fnExactSameShape", fn := fun _ => fun
  | [d1, d2] => { results := [.lit (.bool true)], args := [d1, d2] }
  | _ => none }
def fnExactSameShapeRow : OpenClaim := { program := "ytebioddcnldjkaagreat", sum := "f9175d718d4fa6e187b1e3fa165e537559b2d1d92960d17936bb346af7ee191b", func := "loop.example/g01074/laws.FnExactSameShape", spec := "fnExactSameShape", unfollowed := true, recurses := true, apart := false }
def FnExactSameShapeSaid : Prop := fnExactSameShapeRow.holds Tryz.pinned (OpenSpec.ofChange fnExactSameShapeSpec)

/-- ITS FALSE NEIGHBOUR: 'it returns false'. Refute it at one input. -/
def fnExactSameShapeWrong : ChangeSpec := { name := "fnExactSameShape", fn := fun _ => fun
  | [d1, d2] => { results := [.lit (.bool false)], args := [d1, d2] }
  | _ => none }
def FnExactSameShapeWrongFalsely : Prop := fnExactSameShapeRow.holds Tryz.pinned (OpenSpec.ofChange fnExactSameShapeWrong)

/-- 'laws.FnExactFindIsomorphism': WHATEVER THE INPUT: true; the input reads as it did. -/
def fnExactFindIsomorphismSpec : ChangeSpec := { name := "fnExactFindIsomorphism", fn := fun _ => fun
  | [d1, d2] => { results := [.lit (.bool true)], args := [d1, d2] }
  | _ => none }
def fnExactFindIsomorphismRow : OpenClaim := { program := "ytebioddcnldjkaagreat", sum := "f9175d718d4fa6e187b1e3fa165e537559b2d1d92960d17936bb346af7ee191b", func := "loop.example/g01074/laws.FnExactFindIsomorphism", spec := "fnExactFindIsomorphism", unfollowed := true, recurses := true, apart := false }
def FnExactFindIsomorphismSaid : Prop := fnExactFindIsomorphismRow.holds Tryz.pinned (OpenSpec.ofChange fnExactFindIsomorphismSpec)

/-- ITS FALSE NEIGHBOUR: 'it returns false'. Refute it at one input. -/
def fnExactFindIsomorphismWrong : ChangeSpec := { name := "fnExactFindIsomorphism", fn := fun _ => fun
  | [d1, d2] => { results := [.lit (.bool false)], args := [d1, d2] }
  | _ => none }
def FnExactFindIsomorphismWrongFalsely : Prop := fnExactFindIsomorphismRow.holds Tryz.pinned (OpenSpec.ofChange fnExactFindIsomorphismWrong)

/- THE SECOND FORM. 'bulk': how many values and letters a reading holds, each counted each time it is reached (what is shared counts as often as it is met; a slice's spare places count too). A statement '..UptoSaid' is the law's where the arguments, and the package variables that the reading takes, are together of bulk at most 1048576: NARROWER than '..Said'. Prove '..Said' where nothing that the law and all that it calls make is longer than what came in: it says more and counts as full. Else prove '..UptoSaid'. A law counts once. -/
mutual
def uptoBulk {H : Type} : DataW H → Nat
  | .lit (.string bytes) => bytes.length + 1
  | .lit _ => 1
  | .nil => 1
  | .ptr d => uptoBulk d + 1
  | .slice elems spare => uptoBulkAll elems + uptoBulkAll spare + 1
  | .agg parts => uptoBulkAll parts + 1
  | .iface _ d => uptoBulk d + 1
  | .map entries => uptoBulkEntries entries + 1
  | .held _ => 1
def uptoBulkAll {H : Type} : List (DataW H) → Nat
  | [] => 0
  | d :: r => uptoBulk d + uptoBulkAll r
def uptoBulkEntries {H : Type} : List (Lit × DataW H) → Nat
  | [] => 0
  | x :: r => uptoBulkEntry x + uptoBulkEntries r
def uptoBulkEntry {H : Type} : Lit × DataW H → Nat
  | (.string bytes, d) => bytes.length + uptoBulk d + 1
  | (_, d) => uptoBulk d + 1
 end
def uptoSmall : (H : Type) → List (DataW H) → Bool := fun _ ds => decide (uptoBulkAll ds ≤ 1048576)
def OpenSpec.upto (s : _root_.Go.ChangeSpec) : _root_.Go.OpenSpec := { _root_.Go.OpenSpec.ofChange s with cond := some uptoSmall }

/-- 'laws.FnExactCanonicalOrder', WHERE WHAT IT READS IS OF BULK AT MOST 1048576: true; the input reads as it did. -/
def fnExactCanonicalOrderUptoRow : OpenClaim := { program := "ytebioddcnldjkaagreat", sum := "f9175d718d4fa6e187b1e3fa165e537559b2d1d92960d17936bb346af7ee191b", func := "loop.example/g01074/laws.FnExactCanonicalOrder", spec := "fnExactCanonicalOrder", unfollowed := true, recurses := true, apart := false, narrowed := true }
def FnExactCanonicalOrderUptoSaid : Prop := fnExactCanonicalOrderUptoRow.holds Tryz.pinned (OpenSpec.upto fnExactCanonicalOrderSpec)

/-- 'laws.FnExactCanonicalNet', WHERE WHAT IT READS IS OF BULK AT MOST 1048576: true; the input reads as it did. -/
def fnExactCanonicalNetUptoRow : OpenClaim := { program := "ytebioddcnldjkaagreat", sum := "f9175d718d4fa6e187b1e3fa165e537559b2d1d92960d17936bb346af7ee191b", func := "loop.example/g01074/laws.FnExactCanonicalNet", spec := "fnExactCanonicalNet", unfollowed := true, recurses := true, apart := false, narrowed := true }
def FnExactCanonicalNetUptoSaid : Prop := fnExactCanonicalNetUptoRow.holds Tryz.pinned (OpenSpec.upto fnExactCanonicalNetSpec)

/-- 'laws.FnExactSameShape', WHERE WHAT IT READS IS OF BULK AT MOST 1048576: true; the input reads as it did. -/
def fnExactSameShapeUptoRow : OpenClaim := { program := "ytebioddcnldjkaagreat", sum := "f9175d718d4fa6e187b1e3fa165e537559b2d1d92960d17936bb346af7ee191b", func := "loop.example/g01074/laws.FnExactSameShape", spec := "fnExactSameShape", unfollowed := true, recurses := true, apart := false, narrowed := true }
def FnExactSameShapeUptoSaid : Prop := fnExactSameShapeUptoRow.holds Tryz.pinned (OpenSpec.upto fnExactSameShapeSpec)

/-- 'laws.FnExactFindIsomorphism', WHERE WHAT IT READS IS OF BULK AT MOST 1048576: true; the input reads as it did. -/
def fnExactFindIsomorphismUptoRow : OpenClaim := { program := "ytebioddcnldjkaagreat", sum := "f9175d718d4fa6e187b1e3fa165e537559b2d1d92960d17936bb346af7ee191b", func := "loop.example/g01074/laws.FnExactFindIsomorphism", spec := "fnExactFindIsomorphism", unfollowed := true, recurses := true, apart := false, narrowed := true }
def FnExactFindIsomorphismUptoSaid : Prop := fnExactFindIsomorphismUptoRow.holds Tryz.pinned (OpenSpec.upto fnExactFindIsomorphismSpec)

end Rows
end Go.Proofs.YtebioddcnldjkaaGreat
