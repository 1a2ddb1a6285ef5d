/-
  No cell of these rows narrows 'for every input' (looked for: loops, veiled, ifaces, maps, wideKeys, modest, calm, conditions, laid).
  DERIVED. THE GIVEN ROWS OF THIS SEAT. 6 by the template 'for every input the law returns true; each argument reads behind the call as it read before'; 0 by the template 'total and deterministic' (their statements: YtebioddcnldjkaaTotals.lean).
  GIVEN WITH THE SEED: the statements are not yours to turn. If you find one false, say at which input.
  Laid BY PROGRAM, IN A SANDBOX (cutbox-rows.mjs): the forced cells as the released guide's own fill.sh prints them over the translation e822d61d000ba78d… (all of the seat's roots in one cut). By AI agents, Wed Nov 11 2026. No macro, syntax, notation, axiom, sorry.
-/
import Derived.Test.YtebioddcnldjkaaChecked
import GoSem.Claim
import GoSem.ClaimJoined
import GoSem.ClaimMapViews
import Derived.JoinedTies
import Derived.KernelRfl
namespace Go.Proofs.Ytebioddcnldjkaa
/- THE CELL 'sum', in the pinned program and in every row, IS THE sha256 OF THE DUMP (.gsa) THAT YtebioddcnldjkaaProg.lean LOADS. Nothing in Lean hashes anything: it is a label: what it is worth is what the hold of that sum in a sandbox is worth. -/
noncomputable def Try.pinned : Pinned := { name := "ytebioddcnldjkaa", sum := "e822d61d000ba78d28f6c3cc3dd2a6c37a4444e02603972f5a9f66dad25b52e3", checked := Try.checked }
namespace Rows
def none {H : Type} : Left H := { results := [], args := [] }

/-- 'laws.FnExactPeerOf': WHATEVER THE INPUT: true; the input reads as it did. -/
def fnExactPeerOfSpec : ChangeSpec := { name := "fnExactPeerOf", fn := fun _ => fun
  | [d1, d2] => { results := [.lit (.bool true)], args := [d1, d2] }
  | _ => none }
def fnExactPeerOfRow : OpenClaim := { program := "ytebioddcnldjkaa", sum := "e822d61d000ba78d28f6c3cc3dd2a6c37a4444e02603972f5a9f66dad25b52e3", func := "loop.example/g01074/laws.FnExactPeerOf", spec := "fnExactPeerOf", unfollowed := true, recurses := true, apart := false }
def FnExactPeerOfSaid : Prop := fnExactPeerOfRow.holds Try.pinned (OpenSpec.ofChange fnExactPeerOfSpec)

/-- ITS FALSE NEIGHBOUR: 'it returns false'. Refute it at one input. -/
def fnExactPeerOfWrong : ChangeSpec := { name := "fnExactPeerOf", fn := fun _ => fun
  | [d1, d2] => { results := [.lit (.bool false)], args := [d1, d2] }
  | _ => none }
def FnExactPeerOfWrongFalsely : Prop := fnExactPeerOfRow.holds Try.pinned (OpenSpec.ofChange fnExactPeerOfWrong)

/-- 'laws.FnExactIsLazyNormal': WHATEVER THE INPUT: true; the input reads as it did. -/
def fnExactIsLazyNormalSpec : ChangeSpec := { name := "fnExactIsLazyNormal", fn := fun _ => fun
  | [d] => { results := [.lit (.bool true)], args := [d] }
  | _ => none }
def fnExactIsLazyNormalRow : OpenClaim := { program := "ytebioddcnldjkaa", sum := "e822d61d000ba78d28f6c3cc3dd2a6c37a4444e02603972f5a9f66dad25b52e3", func := "loop.example/g01074/laws.FnExactIsLazyNormal", spec := "fnExactIsLazyNormal", unfollowed := true, recurses := true, apart := false }
def FnExactIsLazyNormalSaid : Prop := fnExactIsLazyNormalRow.holds Try.pinned (OpenSpec.ofChange fnExactIsLazyNormalSpec)

/-- ITS FALSE NEIGHBOUR: 'it returns false'. Refute it at one input. -/
def fnExactIsLazyNormalWrong : ChangeSpec := { name := "fnExactIsLazyNormal", fn := fun _ => fun
  | [d] => { results := [.lit (.bool false)], args := [d] }
  | _ => none }
def FnExactIsLazyNormalWrongFalsely : Prop := fnExactIsLazyNormalRow.holds Try.pinned (OpenSpec.ofChange fnExactIsLazyNormalWrong)

/-- 'laws.FnExactLiveAgents': WHATEVER THE INPUT: true; the input reads as it did. -/
def fnExactLiveAgentsSpec : ChangeSpec := { name := "fnExactLiveAgents", fn := fun _ => fun
  | [d] => { results := [.lit (.bool true)], args := [d] }
  | _ => none }
def fnExactLiveAgentsRow : OpenClaim := { program := "ytebioddcnldjkaa", sum := "e822d61d000ba78d28f6c3cc3dd2a6c37a4444e02603972f5a9f66dad25b52e3", func := "loop.example/g01074/laws.FnExactLiveAgents", spec := "fnExactLiveAgents", unfollowed := true, recurses := true, apart := false }
def FnExactLiveAgentsSaid : Prop := fnExactLiveAgentsRow.holds Try.pinned (OpenSpec.ofChange fnExactLiveAgentsSpec)

/-- ITS FALSE NEIGHBOUR: 'it returns false'. Refute it at one input. -/
def fnExactLiveAgentsWrong : ChangeSpec := { name := "fnExactLiveAgents", fn := fun _ => fun
  | [d] => { results := [.lit (.bool false)], args := [d] }
  | _ => none }
def FnExactLiveAgentsWrongFalsely : Prop := fnExactLiveAgentsRow.holds Try.pinned (OpenSpec.ofChange fnExactLiveAgentsWrong)

/-- 'laws.FnExactComponentsOf': WHATEVER THE INPUT: true; the input reads as it did. -/
def fnExactComponentsOfSpec : ChangeSpec := { name := "fnExactComponentsOf", fn := fun _ => fun
  | [d] => { results := [.lit (.bool true)], args := [d] }
  | _ => none }
def fnExactComponentsOfRow : OpenClaim := { program := "ytebioddcnldjkaa", sum := "e822d61d000ba78d28f6c3cc3dd2a6c37a4444e02603972f5a9f66dad25b52e3", func := "loop.example/g01074/laws.FnExactComponentsOf", spec := "fnExactComponentsOf", unfollowed := true, recurses := true, apart := false }
def FnExactComponentsOfSaid : Prop := fnExactComponentsOfRow.holds Try.pinned (OpenSpec.ofChange fnExactComponentsOfSpec)

/-- ITS FALSE NEIGHBOUR: 'it returns false'. Refute it at one input. -/
def fnExactComponentsOfWrong : ChangeSpec := { name := "fnExactComponentsOf", fn := fun _ => fun
  | [d] => { results := [.lit (.bool false)], args := [d] }
  | _ => none }
def FnExactComponentsOfWrongFalsely : Prop := fnExactComponentsOfRow.holds Try.pinned (OpenSpec.ofChange fnExactComponentsOfWrong)

/-- 'laws.FnExactNeighborsOf': WHATEVER THE INPUT: true; the input reads as it did. -/
def fnExactNeighborsOfSpec : ChangeSpec := { name := "fnExactNeighborsOf", fn := fun _ => fun
  | [d1, d2] => { results := [.lit (.bool true)], args := [d1, d2] }
  | _ => none }
def fnExactNeighborsOfRow : OpenClaim := { program := "ytebioddcnldjkaa", sum := "e822d61d000ba78d28f6c3cc3dd2a6c37a4444e02603972f5a9f66dad25b52e3", func := "loop.example/g01074/laws.FnExactNeighborsOf", spec := "fnExactNeighborsOf", unfollowed := true, recurses := true, apart := false }
def FnExactNeighborsOfSaid : Prop := fnExactNeighborsOfRow.holds Try.pinned (OpenSpec.ofChange fnExactNeighborsOfSpec)

/-- ITS FALSE NEIGHBOUR: 'it returns false'. Refute it at one input. -/
def fnExactNeighborsOfWrong : ChangeSpec := { name := "fnExactNeighborsOf", fn := fun _ => fun
  | [d1, d2] => { results := [.lit (.bool false)], args := [d1, d2] }
  | _ => none }
def FnExactNeighborsOfWrongFalsely : Prop := fnExactNeighborsOfRow.holds Try.pinned (OpenSpec.ofChange fnExactNeighborsOfWrong)

/-- 'laws.FnExactDropGarbage': WHATEVER THE INPUT: true; the input reads as it did. -/
def fnExactDropGarbageSpec : ChangeSpec := { name := "fnExactDropGarbage", fn := fun _ => fun
  | [d] => { results := [.lit (.bool true)], args := [d] }
  | _ => none }
def fnExactDropGarbageRow : OpenClaim := { program := "ytebioddcnldjkaa", sum := "e822d61d000ba78d28f6c3cc3dd2a6c37a4444e02603972f5a9f66dad25b52e3", func := "loop.example/g01074/laws.FnExactDropGarbage", spec := "fnExactDropGarbage", unfollowed := true, recurses := true, apart := false }
def FnExactDropGarbageSaid : Prop := fnExactDropGarbageRow.holds Try.pinned (OpenSpec.ofChange fnExactDropGarbageSpec)

/-- ITS FALSE NEIGHBOUR: 'it returns false'. Refute it at one input. -/
def fnExactDropGarbageWrong : ChangeSpec := { name := "fnExactDropGarbage", fn := fun _ => fun
  | [d] => { results := [.lit (.bool false)], args := [d] }
  | _ => none }
def FnExactDropGarbageWrongFalsely : Prop := fnExactDropGarbageRow.holds Try.pinned (OpenSpec.ofChange fnExactDropGarbageWrong)

/- THE SECOND FORM. 'bulk': how many values and letters a reading holds, each counted each time it is reached (what is shared counts as often as it is met; a slice's spare places count too). A statement '..UptoSaid' is the law's where the arguments, and the package variables that the reading takes, are together of bulk at most 1048576: NARROWER than '..Said'. Prove '..Said' where nothing that the law and all that it calls make is longer than what came in: it says more and counts as full. Else prove '..UptoSaid'. A law counts once. -/
mutual
def uptoBulk {H : Type} : DataW H → Nat
  | .lit (.string bytes) => bytes.length + 1
  | .lit _ => 1
  | .nil => 1
  | .ptr d => uptoBulk d + 1
  | .slice elems spare => uptoBulkAll elems + uptoBulkAll spare + 1
  | .agg parts => uptoBulkAll parts + 1
  | .iface _ d => uptoBulk d + 1
  | .map entries => uptoBulkEntries entries + 1
  | .held _ => 1
def uptoBulkAll {H : Type} : List (DataW H) → Nat
  | [] => 0
  | d :: r => uptoBulk d + uptoBulkAll r
def uptoBulkEntries {H : Type} : List (Lit × DataW H) → Nat
  | [] => 0
  | x :: r => uptoBulkEntry x + uptoBulkEntries r
def uptoBulkEntry {H : Type} : Lit × DataW H → Nat
  | (.string bytes, d) => bytes.length + uptoBulk d + 1
  | (_, d) => uptoBulk d + 1
 end
def uptoSmall : (H : Type) → List (DataW H) → Bool := fun _ ds => decide (uptoBulkAll ds ≤ 1048576)
def OpenSpec.upto (s : _root_.Go.ChangeSpec) : _root_.Go.OpenSpec := { _root_.Go.OpenSpec.ofChange s with cond := some uptoSmall }

/-- 'laws.FnExactPeerOf', WHERE WHAT IT READS IS OF BULK AT MOST 1048576: true; the input reads as it did. -/
def fnExactPeerOfUptoRow : OpenClaim := { program := "ytebioddcnldjkaa", sum := "e822d61d000ba78d28f6c3cc3dd2a6c37a4444e02603972f5a9f66dad25b52e3", func := "loop.example/g01074/laws.FnExactPeerOf", spec := "fnExactPeerOf", unfollowed := true, recurses := true, apart := false, narrowed := true }
def FnExactPeerOfUptoSaid : Prop := fnExactPeerOfUptoRow.holds Try.pinned (OpenSpec.upto fnExactPeerOfSpec)

/-- 'laws.FnExactIsLazyNormal', WHERE WHAT IT READS IS OF BULK AT MOST 1048576: true; the input reads as it did. -/
def fnExactIsLazyNormalUptoRow : OpenClaim := { program := "ytebioddcnldjkaa", sum := "e822d61d000ba78d28f6c3cc3dd2a6c37a4444e02603972f5a9f66dad25b52e3", func := "loop.example/g01074/laws.FnExactIsLazyNormal", spec := "fnExactIsLazyNormal", unfollowed := true, recurses := true, apart := false, narrowed := true }
def FnExactIsLazyNormalUptoSaid : Prop := fnExactIsLazyNormalUptoRow.holds Try.pinned (OpenSpec.upto fnExactIsLazyNormalSpec)

/-- 'laws.FnExactLiveAgents', WHERE WHAT IT READS IS OF BULK AT MOST 1048576: true; the input reads as it did. -/
def fnExactLiveAgentsUptoRow : OpenClaim := { program := "ytebioddcnldjkaa", sum := "e822d61d000ba78d28f6c3cc3dd2a6c37a4444e02603972f5a9f66dad25b52e3", func := "loop.example/g01074/laws.FnExactLiveAgents", spec := "fnExactLiveAgents", unfollowed := true, recurses := true, apart := false, narrowed := true }
def FnExactLiveAgentsUptoSaid : Prop := fnExactLiveAgentsUptoRow.holds Try.pinned (OpenSpec.upto fnExactLiveAgentsSpec)

/-- 'laws.FnExactComponentsOf', WHERE WHAT IT READS IS OF BULK AT MOST 1048576: true; the input reads as it did. -/
def fnExactComponentsOfUptoRow : OpenClaim := { program := "ytebioddcnldjkaa", sum := "e822d61d000ba78d28f6c3cc3dd2a6c37a4444e02603972f5a9f66dad25b52e3", func := "loop.example/g01074/laws.FnExactComponentsOf", spec := "fnExactComponentsOf", unfollowed := true, recurses := true, apart := false, narrowed := true }
def FnExactComponentsOfUptoSaid : Prop := fnExactComponentsOfUptoRow.holds Try.pinned (OpenSpec.upto fnExactComponentsOfSpec)

/-- 'laws.FnExactNeighborsOf', WHERE WHAT IT READS IS OF BULK AT MOST 1048576: true; the input reads as it did. -/
def fnExactNeighborsOfUptoRow : OpenClaim := { program := "ytebioddcnldjkaa", sum := "e822d61d000ba78d28f6c3cc3dd2a6c37a4444e02603972f5a9f66dad25b52e3", func := "loop.example/g01074/laws.FnExactNeighborsOf", spec := "fnExactNeighborsOf", unfollowed := true, recurses := true, apart := false, narrowed := true }
def FnExactNeighborsOfUptoSaid : Prop := fnExactNeighborsOfUptoRow.holds Try.pinned (OpenSpec.upto fnExactNeighborsOfSpec)

/-- 'laws.FnExactDropGarbage', WHERE WHAT IT READS IS OF BULK AT MOST 1048576: true; the input reads as it did. -/
def fnExactDropGarbageUptoRow : OpenClaim := { program := "ytebioddcnldjkaa", sum := "e822d61d000ba78d28f6c3cc3dd2a6c37a4444e02603972f5a9f66dad25b52e3", func := "loop.example/g01074/laws.FnExactDropGarbage", spec := "fnExactDropGarbage", unfollowed := true, recurses := true, apart := false, narrowed := true }
def FnExactDropGarbageUptoSaid : Prop := fnExactDropGarbageUptoRow.holds Try.pinned (OpenSpec.upto fnExactDropGarbageSpec)

end Rows
end Go.Proofs.Ytebioddcnldjkaa
