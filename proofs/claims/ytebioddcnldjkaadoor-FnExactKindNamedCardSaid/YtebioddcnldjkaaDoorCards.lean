/-
  DERIVED. GIVEN WITH THE SEED: THE CARDS: each row of YtebioddcnldjkaaDoorRows.lean that lists a variable, with what it lists TIED to the program's text (the seventh form; the later family's looks); each row that meets fmt, with fmt's text TOLD by the authors' own Lean function (tested against real Go, not proved from fmt's source: count such statements apart). THE CARD IS WHAT COUNTS. Prove the row's statement (the work); the ties are given (YtebioddcnldjkaaDoorTie.lean); close each card by the builder's one call (the guide's Derived/Test/ToyasCard.lean, 'card_holds'). Laid BY PROGRAM, IN A SANDBOX (cutbox-door.mjs). By AI agents, Wed Nov 11 2026. No macro, syntax, notation, axiom, sorry.
-/
import Derived.Test.YtebioddcnldjkaaDoorRows
import GoSem.ClaimSeven
namespace Go.Proofs.YtebioddcnldjkaaDoor
namespace Rows

/-- THE TIED CARD OF 'laws.FnExactKindName'. -/
def fnExactKindNameCard : Claim7 := { stood := { row := fnExactKindNameRow, standIns := [], harness := (true, "e538663a8c00c99dae3ed5a1b780f535dc3408c16951a5b674588781b23b850a"), looks := false }, kinds := [], alts := [], laidByText := true, laidKinds := [.data], laidTests := true, laidLooks := .later }
def FnExactKindNameCardSaid : Prop := Claim7.holds Tryd.pinned (.plain (OpenSpec.ofChange fnExactKindNameSpec)) fnExactKindNameCard

/-- THE TIED CARD OF 'laws.FnExactKindNamed'. -/
def fnExactKindNamedCard : Claim7 := { stood := { row := fnExactKindNamedRow, standIns := [], harness := (true, "e538663a8c00c99dae3ed5a1b780f535dc3408c16951a5b674588781b23b850a"), looks := false }, kinds := [], alts := [], laidByText := true, laidKinds := [.data], laidTests := true, laidLooks := .later }
def FnExactKindNamedCardSaid : Prop := Claim7.holds Tryd.pinned (.plain (OpenSpec.ofChange fnExactKindNamedSpec)) fnExactKindNamedCard

/-- THE SECOND FORM's CARD OF 'laws.FnExactKindName'. -/
def fnExactKindNameUptoCard : Claim7 := { stood := { row := fnExactKindNameUptoRow, standIns := [], harness := (true, "e538663a8c00c99dae3ed5a1b780f535dc3408c16951a5b674588781b23b850a"), looks := false }, kinds := [], alts := [], laidByText := true, laidKinds := [.data], laidTests := true, laidLooks := .later }
def FnExactKindNameUptoCardSaid : Prop := Claim7.holds Tryd.pinned (.plain (OpenSpec.upto fnExactKindNameSpec)) fnExactKindNameUptoCard

/-- THE SECOND FORM's CARD OF 'laws.FnExactKindNamed'. -/
def fnExactKindNamedUptoCard : Claim7 := { stood := { row := fnExactKindNamedUptoRow, standIns := [], harness := (true, "e538663a8c00c99dae3ed5a1b780f535dc3408c16951a5b674588781b23b850a"), looks := false }, kinds := [], alts := [], laidByText := true, laidKinds := [.data], laidTests := true, laidLooks := .later }
def FnExactKindNamedUptoCardSaid : Prop := Claim7.holds Tryd.pinned (.plain (OpenSpec.upto fnExactKindNamedSpec)) fnExactKindNamedUptoCard
end Rows
end Go.Proofs.YtebioddcnldjkaaDoor
