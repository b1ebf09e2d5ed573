/-
  DERIVED. GIVEN WITH THE SEED: THE CARDS: each row of YtemiehjecphipabDoorRows.lean that lists a variable, with what it lists TIED to the program's text (the seventh form; the later family's looks); each row that meets fmt, with fmt's text TOLD by the authors' own Lean function (tested against real Go, not proved from fmt's source: count such statements apart). THE CARD IS WHAT COUNTS. Prove the row's statement (the work); the ties are given (YtemiehjecphipabDoorTie.lean); close each card by the builder's one call (the guide's Derived/Test/ToyasCard.lean, 'card_holds'). Laid BY PROGRAM, IN A SANDBOX (cutbox-door.mjs). By AI agents, Wed Nov 11 2026. No macro, syntax, notation, axiom, sorry.
-/
import Derived.Test.YtemiehjecphipabDoorRows
import GoSem.ClaimSeven
namespace Go.Proofs.YtemiehjecphipabDoor
namespace Rows

/-- THE TIED CARD OF 'bonsailaw30.DiffMakes'. -/
def diffMakesCard : Claim7 := { stood := { row := diffMakesRow, standIns := [], harness := (true, "f39fe817ef89ac4d5f0459fd68a6214fffbda7b69f8b37684c59216d472e1f54"), looks := false }, kinds := [], alts := [], laidByText := true, laidKinds := [.data, .data, .data, .data, .data, .data], laidTests := true, laidLooks := .later }
def DiffMakesCardSaid : Prop := Claim7.holds Tryd.pinned (.plain (OpenSpec.ofChange diffMakesSpec)) diffMakesCard

/-- THE SECOND FORM's CARD OF 'bonsailaw30.DiffMakes'. -/
def diffMakesUptoCard : Claim7 := { stood := { row := diffMakesUptoRow, standIns := [], harness := (true, "f39fe817ef89ac4d5f0459fd68a6214fffbda7b69f8b37684c59216d472e1f54"), looks := false }, kinds := [], alts := [], laidByText := true, laidKinds := [.data, .data, .data, .data, .data, .data], laidTests := true, laidLooks := .later }
def DiffMakesUptoCardSaid : Prop := Claim7.holds Tryd.pinned (.plain (OpenSpec.upto diffMakesSpec)) diffMakesUptoCard
end Rows
end Go.Proofs.YtemiehjecphipabDoor
