/-
  DERIVED. GIVEN WITH THE SEED: THE CARDS: each row of YtjlohjdmekbipaaDoorRows.lean that lists a variable, with what it lists TIED to the program's text (the seventh form; the later family's looks); each row that meets fmt, with fmt's text TOLD by the authors' own Lean function (tested against real Go, not proved from fmt's source: count such statements apart). THE CARD IS WHAT COUNTS. Prove the row's statement (the work); the ties are given (YtjlohjdmekbipaaDoorTie.lean); close each card by the builder's one call (the guide's Derived/Test/ToyasCard.lean, 'card_holds'). Laid BY PROGRAM, IN A SANDBOX (cutbox-door.mjs). By AI agents, Wed Nov 11 2026. No macro, syntax, notation, axiom, sorry.
-/
import Derived.Test.YtjlohjdmekbipaaDoorRows
import GoSem.ClaimSeven
namespace Go.Proofs.YtjlohjdmekbipaaDoor
namespace Rows

/-- THE TIED CARD OF 'bonsailaw08.PrintTells'. -/
def printTellsCard : Claim7 := { stood := { row := printTellsRow, standIns := [], harness := (true, "33e55523cdc8a92fbedc9f8eef9d7ecc36d314ec0cf1156139e94fcaaaf9cc26"), looks := false }, kinds := [], alts := [], laidByText := true, laidKinds := [.data, .data, .data, .data, .data, .data], laidTests := true, laidLooks := .later }
def PrintTellsCardSaid : Prop := Claim7.holds Tryd.pinned (.plain (OpenSpec.ofChange printTellsSpec)) printTellsCard

/-- THE TIED CARD OF 'bonsailaw08.PrintLines'. -/
def printLinesCard : Claim7 := { stood := { row := printLinesRow, standIns := [], harness := (true, "33e55523cdc8a92fbedc9f8eef9d7ecc36d314ec0cf1156139e94fcaaaf9cc26"), looks := false }, kinds := [], alts := [], laidByText := true, laidKinds := [.data, .data, .data, .data, .data, .data], laidTests := true, laidLooks := .later }
def PrintLinesCardSaid : Prop := Claim7.holds Tryd.pinned (.plain (OpenSpec.ofChange printLinesSpec)) printLinesCard

/-- THE TIED CARD OF 'bonsailaw08.PrintNames'. -/
def printNamesCard : Claim7 := { stood := { row := printNamesRow, standIns := [], harness := (true, "33e55523cdc8a92fbedc9f8eef9d7ecc36d314ec0cf1156139e94fcaaaf9cc26"), looks := false }, kinds := [], alts := [], laidByText := true, laidKinds := [.data, .data, .data, .data, .data, .data], laidTests := true, laidLooks := .later }
def PrintNamesCardSaid : Prop := Claim7.holds Tryd.pinned (.plain (OpenSpec.ofChange printNamesSpec)) printNamesCard

/-- THE TIED CARD OF 'bonsailaw08.PrintGrammar'. -/
def printGrammarCard : Claim7 := { stood := { row := printGrammarRow, standIns := [], harness := (true, "33e55523cdc8a92fbedc9f8eef9d7ecc36d314ec0cf1156139e94fcaaaf9cc26"), looks := false }, kinds := [], alts := [], laidByText := true, laidKinds := [.data, .data, .data, .data, .data, .data], laidTests := true, laidLooks := .later }
def PrintGrammarCardSaid : Prop := Claim7.holds Tryd.pinned (.plain (OpenSpec.ofChange printGrammarSpec)) printGrammarCard

/-- THE TIED CARD OF 'bonsailaw08.PrintUnlike'. -/
def printUnlikeCard : Claim7 := { stood := { row := printUnlikeRow, standIns := [], harness := (true, "33e55523cdc8a92fbedc9f8eef9d7ecc36d314ec0cf1156139e94fcaaaf9cc26"), looks := false }, kinds := [], alts := [], laidByText := true, laidKinds := [.data, .data, .data, .data, .data, .data], laidTests := true, laidLooks := .later }
def PrintUnlikeCardSaid : Prop := Claim7.holds Tryd.pinned (.plain (OpenSpec.ofChange printUnlikeSpec)) printUnlikeCard

/-- THE TIED CARD OF 'bonsailaw08.PrintParts'. -/
def printPartsCard : Claim7 := { stood := { row := printPartsRow, standIns := [], harness := (true, "33e55523cdc8a92fbedc9f8eef9d7ecc36d314ec0cf1156139e94fcaaaf9cc26"), looks := false }, kinds := [], alts := [], laidByText := true, laidKinds := [.data, .data, .data, .data, .data, .data], laidTests := true, laidLooks := .later }
def PrintPartsCardSaid : Prop := Claim7.holds Tryd.pinned (.plain (OpenSpec.ofChange printPartsSpec)) printPartsCard

/-- THE TIED CARD OF 'bonsailaw09.GramChanges'. -/
def gramChangesCard : Claim7 := { stood := { row := gramChangesRow, standIns := [], harness := (true, "33e55523cdc8a92fbedc9f8eef9d7ecc36d314ec0cf1156139e94fcaaaf9cc26"), looks := false }, kinds := [], alts := [], laidByText := true, laidKinds := [.data, .data, .data, .data, .data, .data], laidTests := true, laidLooks := .later }
def GramChangesCardSaid : Prop := Claim7.holds Tryd.pinned (.plain (OpenSpec.ofChange gramChangesSpec)) gramChangesCard

/-- THE TIED CARD OF 'bonsailaw09.GramSame'. -/
def gramSameCard : Claim7 := { stood := { row := gramSameRow, standIns := [], harness := (true, "33e55523cdc8a92fbedc9f8eef9d7ecc36d314ec0cf1156139e94fcaaaf9cc26"), looks := false }, kinds := [], alts := [], laidByText := true, laidKinds := [.data, .data, .data, .data, .data, .data], laidTests := true, laidLooks := .later }
def GramSameCardSaid : Prop := Claim7.holds Tryd.pinned (.plain (OpenSpec.ofChange gramSameSpec)) gramSameCard

/-- THE TIED CARD OF 'bonsailaw09.GramChanged'. -/
def gramChangedCard : Claim7 := { stood := { row := gramChangedRow, standIns := [], harness := (true, "33e55523cdc8a92fbedc9f8eef9d7ecc36d314ec0cf1156139e94fcaaaf9cc26"), looks := false }, kinds := [], alts := [], laidByText := true, laidKinds := [.data, .data, .data, .data, .data, .data], laidTests := true, laidLooks := .later }
def GramChangedCardSaid : Prop := Claim7.holds Tryd.pinned (.plain (OpenSpec.ofChange gramChangedSpec)) gramChangedCard

/-- THE TIED CARD OF 'bonsailaw09.GramFound'. -/
def gramFoundCard : Claim7 := { stood := { row := gramFoundRow, standIns := [], harness := (true, "33e55523cdc8a92fbedc9f8eef9d7ecc36d314ec0cf1156139e94fcaaaf9cc26"), looks := false }, kinds := [], alts := [], laidByText := true, laidKinds := [.data, .data, .data, .data, .data, .data], laidTests := true, laidLooks := .later }
def GramFoundCardSaid : Prop := Claim7.holds Tryd.pinned (.plain (OpenSpec.ofChange gramFoundSpec)) gramFoundCard

/-- THE SECOND FORM's CARD OF 'bonsailaw08.PrintTells'. -/
def printTellsUptoCard : Claim7 := { stood := { row := printTellsUptoRow, standIns := [], harness := (true, "33e55523cdc8a92fbedc9f8eef9d7ecc36d314ec0cf1156139e94fcaaaf9cc26"), looks := false }, kinds := [], alts := [], laidByText := true, laidKinds := [.data, .data, .data, .data, .data, .data], laidTests := true, laidLooks := .later }
def PrintTellsUptoCardSaid : Prop := Claim7.holds Tryd.pinned (.plain (OpenSpec.upto printTellsSpec)) printTellsUptoCard

/-- THE SECOND FORM's CARD OF 'bonsailaw08.PrintLines'. -/
def printLinesUptoCard : Claim7 := { stood := { row := printLinesUptoRow, standIns := [], harness := (true, "33e55523cdc8a92fbedc9f8eef9d7ecc36d314ec0cf1156139e94fcaaaf9cc26"), looks := false }, kinds := [], alts := [], laidByText := true, laidKinds := [.data, .data, .data, .data, .data, .data], laidTests := true, laidLooks := .later }
def PrintLinesUptoCardSaid : Prop := Claim7.holds Tryd.pinned (.plain (OpenSpec.upto printLinesSpec)) printLinesUptoCard

/-- THE SECOND FORM's CARD OF 'bonsailaw08.PrintNames'. -/
def printNamesUptoCard : Claim7 := { stood := { row := printNamesUptoRow, standIns := [], harness := (true, "33e55523cdc8a92fbedc9f8eef9d7ecc36d314ec0cf1156139e94fcaaaf9cc26"), looks := false }, kinds := [], alts := [], laidByText := true, laidKinds := [.data, .data, .data, .data, .data, .data], laidTests := true, laidLooks := .later }
def PrintNamesUptoCardSaid : Prop := Claim7.holds Tryd.pinned (.plain (OpenSpec.upto printNamesSpec)) printNamesUptoCard

/-- THE SECOND FORM's CARD OF 'bonsailaw08.PrintGrammar'. -/
def printGrammarUptoCard : Claim7 := { stood := { row := printGrammarUptoRow, standIns := [], harness := (true, "33e55523cdc8a92fbedc9f8eef9d7ecc36d314ec0cf1156139e94fcaaaf9cc26"), looks := false }, kinds := [], alts := [], laidByText := true, laidKinds := [.data, .data, .data, .data, .data, .data], laidTests := true, laidLooks := .later }
def PrintGrammarUptoCardSaid : Prop := Claim7.holds Tryd.pinned (.plain (OpenSpec.upto printGrammarSpec)) printGrammarUptoCard

/-- THE SECOND FORM's CARD OF 'bonsailaw08.PrintUnlike'. -/
def printUnlikeUptoCard : Claim7 := { stood := { row := printUnlikeUptoRow, standIns := [], harness := (true, "33e55523cdc8a92fbedc9f8eef9d7ecc36d314ec0cf1156139e94fcaaaf9cc26"), looks := false }, kinds := [], alts := [], laidByText := true, laidKinds := [.data, .data, .data, .data, .data, .data], laidTests := true, laidLooks := .later }
def PrintUnlikeUptoCardSaid : Prop := Claim7.holds Tryd.pinned (.plain (OpenSpec.upto printUnlikeSpec)) printUnlikeUptoCard

/-- THE SECOND FORM's CARD OF 'bonsailaw08.PrintParts'. -/
def printPartsUptoCard : Claim7 := { stood := { row := printPartsUptoRow, standIns := [], harness := (true, "33e55523cdc8a92fbedc9f8eef9d7ecc36d314ec0cf1156139e94fcaaaf9cc26"), looks := false }, kinds := [], alts := [], laidByText := true, laidKinds := [.data, .data, .data, .data, .data, .data], laidTests := true, laidLooks := .later }
def PrintPartsUptoCardSaid : Prop := Claim7.holds Tryd.pinned (.plain (OpenSpec.upto printPartsSpec)) printPartsUptoCard

/-- THE SECOND FORM's CARD OF 'bonsailaw09.GramChanges'. -/
def gramChangesUptoCard : Claim7 := { stood := { row := gramChangesUptoRow, standIns := [], harness := (true, "33e55523cdc8a92fbedc9f8eef9d7ecc36d314ec0cf1156139e94fcaaaf9cc26"), looks := false }, kinds := [], alts := [], laidByText := true, laidKinds := [.data, .data, .data, .data, .data, .data], laidTests := true, laidLooks := .later }
def GramChangesUptoCardSaid : Prop := Claim7.holds Tryd.pinned (.plain (OpenSpec.upto gramChangesSpec)) gramChangesUptoCard

/-- THE SECOND FORM's CARD OF 'bonsailaw09.GramSame'. -/
def gramSameUptoCard : Claim7 := { stood := { row := gramSameUptoRow, standIns := [], harness := (true, "33e55523cdc8a92fbedc9f8eef9d7ecc36d314ec0cf1156139e94fcaaaf9cc26"), looks := false }, kinds := [], alts := [], laidByText := true, laidKinds := [.data, .data, .data, .data, .data, .data], laidTests := true, laidLooks := .later }
def GramSameUptoCardSaid : Prop := Claim7.holds Tryd.pinned (.plain (OpenSpec.upto gramSameSpec)) gramSameUptoCard

/-- THE SECOND FORM's CARD OF 'bonsailaw09.GramChanged'. -/
def gramChangedUptoCard : Claim7 := { stood := { row := gramChangedUptoRow, standIns := [], harness := (true, "33e55523cdc8a92fbedc9f8eef9d7ecc36d314ec0cf1156139e94fcaaaf9cc26"), looks := false }, kinds := [], alts := [], laidByText := true, laidKinds := [.data, .data, .data, .data, .data, .data], laidTests := true, laidLooks := .later }
def GramChangedUptoCardSaid : Prop := Claim7.holds Tryd.pinned (.plain (OpenSpec.upto gramChangedSpec)) gramChangedUptoCard

/-- THE SECOND FORM's CARD OF 'bonsailaw09.GramFound'. -/
def gramFoundUptoCard : Claim7 := { stood := { row := gramFoundUptoRow, standIns := [], harness := (true, "33e55523cdc8a92fbedc9f8eef9d7ecc36d314ec0cf1156139e94fcaaaf9cc26"), looks := false }, kinds := [], alts := [], laidByText := true, laidKinds := [.data, .data, .data, .data, .data, .data], laidTests := true, laidLooks := .later }
def GramFoundUptoCardSaid : Prop := Claim7.holds Tryd.pinned (.plain (OpenSpec.upto gramFoundSpec)) gramFoundUptoCard
end Rows
end Go.Proofs.YtjlohjdmekbipaaDoor
