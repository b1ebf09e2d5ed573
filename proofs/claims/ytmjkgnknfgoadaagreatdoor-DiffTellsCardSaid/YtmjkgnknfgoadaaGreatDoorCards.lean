/-
  DERIVED. GIVEN WITH THE SEED: THE CARDS: each row of YtmjkgnknfgoadaaGreatDoorRows.lean that lists a variable, with what it lists TIED to the program's text (the seventh form; the later family's looks); each row that meets fmt, with fmt's text TOLD by the authors' own Lean function (tested against real Go, not proved from fmt's source: count such statements apart). THE CARD IS WHAT COUNTS. Prove the row's statement (the work); the ties are given (YtmjkgnknfgoadaaGreatDoorTie.lean); close each card by the builder's one call (the guide's Derived/Test/ToyasCard.lean, 'card_holds'). Laid BY PROGRAM, IN A SANDBOX (cutbox-door.mjs). By AI agents, Wed Nov 11 2026. No macro, syntax, notation, axiom, sorry.
-/
import Derived.Test.YtmjkgnknfgoadaaGreatDoorRows
import GoSem.ClaimSeven
namespace Go.Proofs.YtmjkgnknfgoadaaGreatDoor
namespace Rows

/-- THE TIED CARD OF 'bonsailaw09.GramTells'. -/
def gramTellsCard : Claim7 := { stood := { row := gramTellsRow, standIns := [], harness := (true, "a6da614e836727e2aaa594fe1dcd5704dd2bcf55476cb7e6a092a54ea0b457af"), looks := false }, kinds := [], alts := [], laidByText := true, laidKinds := [.data, .data, .data, .data, .data, .data], laidTests := true, laidLooks := .later }
def GramTellsCardSaid : Prop := Claim7.holds Tryz.pinned (.plain (OpenSpec.ofChange gramTellsSpec)) gramTellsCard

/-- THE TIED CARD OF 'bonsailaw30.DiffTells'. -/
def diffTellsCard : Claim7 := { stood := { row := diffTellsRow, standIns := [], harness := (true, "a6da614e836727e2aaa594fe1dcd5704dd2bcf55476cb7e6a092a54ea0b457af"), looks := false }, kinds := [], alts := [], laidByText := true, laidKinds := [.data, .data, .data, .data, .data, .data], laidTests := true, laidLooks := .later }
def DiffTellsCardSaid : Prop := Claim7.holds Tryz.pinned (.plain (OpenSpec.ofChange diffTellsSpec)) diffTellsCard

/-- THE TIED CARD OF 'bonsailaw18.PathAll'. -/
def pathAllCard : Claim7 := { stood := { row := pathAllRow, standIns := [], harness := (true, "a6da614e836727e2aaa594fe1dcd5704dd2bcf55476cb7e6a092a54ea0b457af"), looks := false }, kinds := [], alts := [], laidByText := true, laidKinds := [.data, .data, .data, .data, .data, .data], laidTests := true, laidLooks := .later }
def PathAllCardSaid : Prop := Claim7.holds Tryz.pinned (.plain (OpenSpec.ofChange pathAllSpec)) pathAllCard

/-- THE TIED CARD OF 'bonsailaw18.PathNames'. -/
def pathNamesCard : Claim7 := { stood := { row := pathNamesRow, standIns := [], harness := (true, "a6da614e836727e2aaa594fe1dcd5704dd2bcf55476cb7e6a092a54ea0b457af"), looks := false }, kinds := [], alts := [], laidByText := true, laidKinds := [.data, .data, .data, .data, .data, .data], laidTests := true, laidLooks := .later }
def PathNamesCardSaid : Prop := Claim7.holds Tryz.pinned (.plain (OpenSpec.ofChange pathNamesSpec)) pathNamesCard

/-- THE TIED CARD OF 'bonsailaw18.PathGrammar'. -/
def pathGrammarCard : Claim7 := { stood := { row := pathGrammarRow, standIns := [], harness := (true, "a6da614e836727e2aaa594fe1dcd5704dd2bcf55476cb7e6a092a54ea0b457af"), looks := false }, kinds := [], alts := [], laidByText := true, laidKinds := [.data, .data, .data, .data, .data, .data], laidTests := true, laidLooks := .later }
def PathGrammarCardSaid : Prop := Claim7.holds Tryz.pinned (.plain (OpenSpec.ofChange pathGrammarSpec)) pathGrammarCard

/-- THE SECOND FORM's CARD OF 'bonsailaw09.GramTells'. -/
def gramTellsUptoCard : Claim7 := { stood := { row := gramTellsUptoRow, standIns := [], harness := (true, "a6da614e836727e2aaa594fe1dcd5704dd2bcf55476cb7e6a092a54ea0b457af"), looks := false }, kinds := [], alts := [], laidByText := true, laidKinds := [.data, .data, .data, .data, .data, .data], laidTests := true, laidLooks := .later }
def GramTellsUptoCardSaid : Prop := Claim7.holds Tryz.pinned (.plain (OpenSpec.upto gramTellsSpec)) gramTellsUptoCard

/-- THE SECOND FORM's CARD OF 'bonsailaw30.DiffTells'. -/
def diffTellsUptoCard : Claim7 := { stood := { row := diffTellsUptoRow, standIns := [], harness := (true, "a6da614e836727e2aaa594fe1dcd5704dd2bcf55476cb7e6a092a54ea0b457af"), looks := false }, kinds := [], alts := [], laidByText := true, laidKinds := [.data, .data, .data, .data, .data, .data], laidTests := true, laidLooks := .later }
def DiffTellsUptoCardSaid : Prop := Claim7.holds Tryz.pinned (.plain (OpenSpec.upto diffTellsSpec)) diffTellsUptoCard

/-- THE SECOND FORM's CARD OF 'bonsailaw18.PathAll'. -/
def pathAllUptoCard : Claim7 := { stood := { row := pathAllUptoRow, standIns := [], harness := (true, "a6da614e836727e2aaa594fe1dcd5704dd2bcf55476cb7e6a092a54ea0b457af"), looks := false }, kinds := [], alts := [], laidByText := true, laidKinds := [.data, .data, .data, .data, .data, .data], laidTests := true, laidLooks := .later }
def PathAllUptoCardSaid : Prop := Claim7.holds Tryz.pinned (.plain (OpenSpec.upto pathAllSpec)) pathAllUptoCard

/-- THE SECOND FORM's CARD OF 'bonsailaw18.PathNames'. -/
def pathNamesUptoCard : Claim7 := { stood := { row := pathNamesUptoRow, standIns := [], harness := (true, "a6da614e836727e2aaa594fe1dcd5704dd2bcf55476cb7e6a092a54ea0b457af"), looks := false }, kinds := [], alts := [], laidByText := true, laidKinds := [.data, .data, .data, .data, .data, .data], laidTests := true, laidLooks := .later }
def PathNamesUptoCardSaid : Prop := Claim7.holds Tryz.pinned (.plain (OpenSpec.upto pathNamesSpec)) pathNamesUptoCard

/-- THE SECOND FORM's CARD OF 'bonsailaw18.PathGrammar'. -/
def pathGrammarUptoCard : Claim7 := { stood := { row := pathGrammarUptoRow, standIns := [], harness := (true, "a6da614e836727e2aaa594fe1dcd5704dd2bcf55476cb7e6a092a54ea0b457af"), looks := false }, kinds := [], alts := [], laidByText := true, laidKinds := [.data, .data, .data, .data, .data, .data], laidTests := true, laidLooks := .later }
def PathGrammarUptoCardSaid : Prop := Claim7.holds Tryz.pinned (.plain (OpenSpec.upto pathGrammarSpec)) pathGrammarUptoCard
end Rows
end Go.Proofs.YtmjkgnknfgoadaaGreatDoor
