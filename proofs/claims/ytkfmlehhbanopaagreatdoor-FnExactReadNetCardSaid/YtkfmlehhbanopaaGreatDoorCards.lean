/-
  DERIVED. GIVEN WITH THE SEED: THE CARDS: each row of YtkfmlehhbanopaaGreatDoorRows.lean that lists a variable, with what it lists TIED to the program's text (the seventh form; the later family's looks); each row that meets fmt, with fmt's text TOLD by the authors' own Lean function (tested against real Go, not proved from fmt's source: count such statements apart). THE CARD IS WHAT COUNTS. Prove the row's statement (the work); the ties are given (YtkfmlehhbanopaaGreatDoorTie.lean); close each card by the builder's one call (the guide's Derived/Test/ToyasCard.lean, 'card_holds'). Laid BY PROGRAM, IN A SANDBOX (cutbox-door.mjs). By AI agents, Wed Nov 11 2026. No macro, syntax, notation, axiom, sorry.
-/
import Derived.Test.YtkfmlehhbanopaaGreatDoorRows
import GoSem.ClaimSeven
namespace Go.Proofs.YtkfmlehhbanopaaGreatDoor
namespace Rows

/-- THE TIED CARD OF 'laws.FnExactNetText'. -/
def fnExactNetTextCard : Claim7 := { stood := { row := fnExactNetTextRow, standIns := [], harness := (true, "02cc3f692e3262fd7ecc1a4947116b57146492d8f009b71cb46507c438eded4b"), looks := true }, kinds := [], alts := [], laidByText := true, laidKinds := [.data, .data, .data, .data, .data, .pinned], laidTests := true, laidLooks := .later }
def FnExactNetTextCardSaid : Prop := Claim7.holds Tryz.pinned (.plain (OpenSpec.ofChange fnExactNetTextSpec)) fnExactNetTextCard

/-- THE TIED CARD OF 'laws.FnExactReadNet'. -/
def fnExactReadNetCard : Claim7 := { stood := { row := fnExactReadNetRow, standIns := [], harness := (true, "02cc3f692e3262fd7ecc1a4947116b57146492d8f009b71cb46507c438eded4b"), looks := true }, kinds := [], alts := [], laidByText := true, laidKinds := [.data, .data, .data, .data, .sentinel, .sentinel, .data, .pinned], laidTests := true, laidLooks := .later }
def FnExactReadNetCardSaid : Prop := Claim7.holds Tryz.pinned (.plain (OpenSpec.ofChange fnExactReadNetSpec)) fnExactReadNetCard

/-- THE SECOND FORM's CARD OF 'laws.FnExactNetText'. -/
def fnExactNetTextUptoCard : Claim7 := { stood := { row := fnExactNetTextUptoRow, standIns := [], harness := (true, "02cc3f692e3262fd7ecc1a4947116b57146492d8f009b71cb46507c438eded4b"), looks := true }, kinds := [], alts := [], laidByText := true, laidKinds := [.data, .data, .data, .data, .data, .pinned], laidTests := true, laidLooks := .later }
def FnExactNetTextUptoCardSaid : Prop := Claim7.holds Tryz.pinned (.plain (OpenSpec.upto fnExactNetTextSpec)) fnExactNetTextUptoCard

/-- THE SECOND FORM's CARD OF 'laws.FnExactReadNet'. -/
def fnExactReadNetUptoCard : Claim7 := { stood := { row := fnExactReadNetUptoRow, standIns := [], harness := (true, "02cc3f692e3262fd7ecc1a4947116b57146492d8f009b71cb46507c438eded4b"), looks := true }, kinds := [], alts := [], laidByText := true, laidKinds := [.data, .data, .data, .data, .sentinel, .sentinel, .data, .pinned], laidTests := true, laidLooks := .later }
def FnExactReadNetUptoCardSaid : Prop := Claim7.holds Tryz.pinned (.plain (OpenSpec.upto fnExactReadNetSpec)) fnExactReadNetUptoCard
end Rows
end Go.Proofs.YtkfmlehhbanopaaGreatDoor
