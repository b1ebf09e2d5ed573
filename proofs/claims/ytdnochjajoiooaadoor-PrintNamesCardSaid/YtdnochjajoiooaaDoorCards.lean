/-
  DERIVED. GIVEN WITH THE SEED: THE CARDS: each row of YtdnochjajoiooaaDoorRows.lean that lists a variable, with what it lists TIED to the program's text (the seventh form; the later family's looks); each row that meets fmt, with fmt's text TOLD by the authors' own Lean function (tested against real Go, not proved from fmt's source: count such statements apart). THE CARD IS WHAT COUNTS. Prove the row's statement (the work); the ties are given (YtdnochjajoiooaaDoorTie.lean); close each card by the builder's one call (the guide's Derived/Test/ToyasCard.lean, 'card_holds'). Laid BY PROGRAM, IN A SANDBOX (cutbox-door.mjs). By AI agents, Wed Nov 11 2026. No macro, syntax, notation, axiom, sorry.
-/
import Derived.Test.YtdnochjajoiooaaDoorRows
import GoSem.ClaimSeven
namespace Go.Proofs.YtdnochjajoiooaaDoor
namespace Rows

/-- THE TIED CARD OF 'bonsailaw08.PrintNames'. -/
def printNamesCard : Claim7 := { stood := { row := printNamesRow, standIns := [], harness := (true, "987b06ed04fb6a07c25c782a09a65bb32893c9afda72e97db82109dd603177fa"), looks := false }, kinds := [], alts := [], laidByText := true, laidKinds := [.data, .data, .data, .data, .data, .data], laidTests := true, laidLooks := .later }
def PrintNamesCardSaid : Prop := Claim7.holds Tryd.pinned (.plain (OpenSpec.ofChange printNamesSpec)) printNamesCard

/-- THE TIED CARD OF 'bonsailaw09.GramNames'. -/
def gramNamesCard : Claim7 := { stood := { row := gramNamesRow, standIns := [], harness := (true, "987b06ed04fb6a07c25c782a09a65bb32893c9afda72e97db82109dd603177fa"), looks := false }, kinds := [], alts := [], laidByText := true, laidKinds := [.data, .data, .data, .data, .data, .data], laidTests := true, laidLooks := .later }
def GramNamesCardSaid : Prop := Claim7.holds Tryd.pinned (.plain (OpenSpec.ofChange gramNamesSpec)) gramNamesCard

/-- THE SECOND FORM's CARD OF 'bonsailaw08.PrintNames'. -/
def printNamesUptoCard : Claim7 := { stood := { row := printNamesUptoRow, standIns := [], harness := (true, "987b06ed04fb6a07c25c782a09a65bb32893c9afda72e97db82109dd603177fa"), looks := false }, kinds := [], alts := [], laidByText := true, laidKinds := [.data, .data, .data, .data, .data, .data], laidTests := true, laidLooks := .later }
def PrintNamesUptoCardSaid : Prop := Claim7.holds Tryd.pinned (.plain (OpenSpec.upto printNamesSpec)) printNamesUptoCard

/-- THE SECOND FORM's CARD OF 'bonsailaw09.GramNames'. -/
def gramNamesUptoCard : Claim7 := { stood := { row := gramNamesUptoRow, standIns := [], harness := (true, "987b06ed04fb6a07c25c782a09a65bb32893c9afda72e97db82109dd603177fa"), looks := false }, kinds := [], alts := [], laidByText := true, laidKinds := [.data, .data, .data, .data, .data, .data], laidTests := true, laidLooks := .later }
def GramNamesUptoCardSaid : Prop := Claim7.holds Tryd.pinned (.plain (OpenSpec.upto gramNamesSpec)) gramNamesUptoCard
end Rows
end Go.Proofs.YtdnochjajoiooaaDoor
