/-
  DERIVED. GIVEN WITH THE SEED: THE CARDS: each row of YtdcgbcdmkhleoaaDoorRows.lean that lists a variable, with what it lists TIED to the program's text (the seventh form; the later family's looks); each row that meets fmt, with fmt's text TOLD by the authors' own Lean function (tested against real Go, not proved from fmt's source: count such statements apart). THE CARD IS WHAT COUNTS. Prove the row's statement (the work); the ties are given (YtdcgbcdmkhleoaaDoorTie.lean); close each card by the builder's one call (the guide's Derived/Test/ToyasCard.lean, 'card_holds'). Laid BY PROGRAM, IN A SANDBOX (cutbox-door.mjs). By AI agents, Wed Nov 11 2026. No macro, syntax, notation, axiom, sorry.
-/
import Derived.Test.YtdcgbcdmkhleoaaDoorRows
import GoSem.ClaimSeven
namespace Go.Proofs.YtdcgbcdmkhleoaaDoor
namespace Rows

/-- THE TIED CARD OF 'bonsailaw08.PrintTells'. -/
def printTellsCard : Claim7 := { stood := { row := printTellsRow, standIns := [], harness := (true, "6d2e47fca1c69573a489569498cb43837d753f57609626f72832d12e54b1b641"), looks := false }, kinds := [], alts := [], laidByText := true, laidKinds := [.data, .data, .data, .data, .data, .data], laidTests := true, laidLooks := .later }
def PrintTellsCardSaid : Prop := Claim7.holds Tryd.pinned (.plain (OpenSpec.ofChange printTellsSpec)) printTellsCard

/-- THE TIED CARD OF 'bonsailaw08.PrintNames'. -/
def printNamesCard : Claim7 := { stood := { row := printNamesRow, standIns := [], harness := (true, "6d2e47fca1c69573a489569498cb43837d753f57609626f72832d12e54b1b641"), looks := false }, kinds := [], alts := [], laidByText := true, laidKinds := [.data, .data, .data, .data, .data, .data], laidTests := true, laidLooks := .later }
def PrintNamesCardSaid : Prop := Claim7.holds Tryd.pinned (.plain (OpenSpec.ofChange printNamesSpec)) printNamesCard

/-- THE TIED CARD OF 'bonsailaw08.PrintGrammar'. -/
def printGrammarCard : Claim7 := { stood := { row := printGrammarRow, standIns := [], harness := (true, "6d2e47fca1c69573a489569498cb43837d753f57609626f72832d12e54b1b641"), looks := false }, kinds := [], alts := [], laidByText := true, laidKinds := [.data, .data, .data, .data, .data, .data], laidTests := true, laidLooks := .later }
def PrintGrammarCardSaid : Prop := Claim7.holds Tryd.pinned (.plain (OpenSpec.ofChange printGrammarSpec)) printGrammarCard

/-- THE TIED CARD OF 'bonsailaw09.GramNames'. -/
def gramNamesCard : Claim7 := { stood := { row := gramNamesRow, standIns := [], harness := (true, "6d2e47fca1c69573a489569498cb43837d753f57609626f72832d12e54b1b641"), looks := false }, kinds := [], alts := [], laidByText := true, laidKinds := [.data, .data, .data, .data, .data, .data], laidTests := true, laidLooks := .later }
def GramNamesCardSaid : Prop := Claim7.holds Tryd.pinned (.plain (OpenSpec.ofChange gramNamesSpec)) gramNamesCard

/-- THE TIED CARD OF 'bonsailaw09.GramChanges'. -/
def gramChangesCard : Claim7 := { stood := { row := gramChangesRow, standIns := [], harness := (true, "6d2e47fca1c69573a489569498cb43837d753f57609626f72832d12e54b1b641"), looks := false }, kinds := [], alts := [], laidByText := true, laidKinds := [.data, .data, .data, .data, .data, .data], laidTests := true, laidLooks := .later }
def GramChangesCardSaid : Prop := Claim7.holds Tryd.pinned (.plain (OpenSpec.ofChange gramChangesSpec)) gramChangesCard

/-- THE SECOND FORM's CARD OF 'bonsailaw08.PrintTells'. -/
def printTellsUptoCard : Claim7 := { stood := { row := printTellsUptoRow, standIns := [], harness := (true, "6d2e47fca1c69573a489569498cb43837d753f57609626f72832d12e54b1b641"), looks := false }, kinds := [], alts := [], laidByText := true, laidKinds := [.data, .data, .data, .data, .data, .data], laidTests := true, laidLooks := .later }
def PrintTellsUptoCardSaid : Prop := Claim7.holds Tryd.pinned (.plain (OpenSpec.upto printTellsSpec)) printTellsUptoCard

/-- THE SECOND FORM's CARD OF 'bonsailaw08.PrintNames'. -/
def printNamesUptoCard : Claim7 := { stood := { row := printNamesUptoRow, standIns := [], harness := (true, "6d2e47fca1c69573a489569498cb43837d753f57609626f72832d12e54b1b641"), looks := false }, kinds := [], alts := [], laidByText := true, laidKinds := [.data, .data, .data, .data, .data, .data], laidTests := true, laidLooks := .later }
def PrintNamesUptoCardSaid : Prop := Claim7.holds Tryd.pinned (.plain (OpenSpec.upto printNamesSpec)) printNamesUptoCard

/-- THE SECOND FORM's CARD OF 'bonsailaw08.PrintGrammar'. -/
def printGrammarUptoCard : Claim7 := { stood := { row := printGrammarUptoRow, standIns := [], harness := (true, "6d2e47fca1c69573a489569498cb43837d753f57609626f72832d12e54b1b641"), looks := false }, kinds := [], alts := [], laidByText := true, laidKinds := [.data, .data, .data, .data, .data, .data], laidTests := true, laidLooks := .later }
def PrintGrammarUptoCardSaid : Prop := Claim7.holds Tryd.pinned (.plain (OpenSpec.upto printGrammarSpec)) printGrammarUptoCard

/-- THE SECOND FORM's CARD OF 'bonsailaw09.GramNames'. -/
def gramNamesUptoCard : Claim7 := { stood := { row := gramNamesUptoRow, standIns := [], harness := (true, "6d2e47fca1c69573a489569498cb43837d753f57609626f72832d12e54b1b641"), looks := false }, kinds := [], alts := [], laidByText := true, laidKinds := [.data, .data, .data, .data, .data, .data], laidTests := true, laidLooks := .later }
def GramNamesUptoCardSaid : Prop := Claim7.holds Tryd.pinned (.plain (OpenSpec.upto gramNamesSpec)) gramNamesUptoCard

/-- THE SECOND FORM's CARD OF 'bonsailaw09.GramChanges'. -/
def gramChangesUptoCard : Claim7 := { stood := { row := gramChangesUptoRow, standIns := [], harness := (true, "6d2e47fca1c69573a489569498cb43837d753f57609626f72832d12e54b1b641"), looks := false }, kinds := [], alts := [], laidByText := true, laidKinds := [.data, .data, .data, .data, .data, .data], laidTests := true, laidLooks := .later }
def GramChangesUptoCardSaid : Prop := Claim7.holds Tryd.pinned (.plain (OpenSpec.upto gramChangesSpec)) gramChangesUptoCard
end Rows
end Go.Proofs.YtdcgbcdmkhleoaaDoor
