/-
  DERIVED. GIVEN WITH THE SEED: THE CARDS: each row of YtbfjanfhgpgmdaaDoorRows.lean that lists a variable, with what it lists TIED to the program's text (the seventh form; the later family's looks); each row that meets fmt, with fmt's text TOLD by the authors' own Lean function (tested against real Go, not proved from fmt's source: count such statements apart). THE CARD IS WHAT COUNTS. Prove the row's statement (the work); the ties are given (YtbfjanfhgpgmdaaDoorTie.lean); close each card by the builder's one call (the guide's Derived/Test/ToyasCard.lean, 'card_holds'). Laid BY PROGRAM, IN A SANDBOX (cutbox-door.mjs). By AI agents, Wed Nov 11 2026. No macro, syntax, notation, axiom, sorry.
-/
import Derived.Test.YtbfjanfhgpgmdaaDoorRows
import GoSem.ClaimSeven
namespace Go.Proofs.YtbfjanfhgpgmdaaDoor
namespace Rows

/-- THE TIED CARD OF 'bonsailaw30.DiffBack'. -/
def diffBackCard : Claim7 := { stood := { row := diffBackRow, standIns := [], harness := (true, "c36678833f6a9f87b342882bbe52db6c03b30932d6dab3301d47e02c76657a8e"), looks := false }, kinds := [], alts := [], laidByText := true, laidKinds := [.data], laidTests := true, laidLooks := .later }
def DiffBackCardSaid : Prop := Claim7.holds Tryd.pinned (.plain (OpenSpec.ofChange diffBackSpec)) diffBackCard

/-- THE TIED CARD OF 'bonsailaw30.DiffDoes'. -/
def diffDoesCard : Claim7 := { stood := { row := diffDoesRow, standIns := [], harness := (true, "c36678833f6a9f87b342882bbe52db6c03b30932d6dab3301d47e02c76657a8e"), looks := false }, kinds := [], alts := [], laidByText := true, laidKinds := [.data], laidTests := true, laidLooks := .later }
def DiffDoesCardSaid : Prop := Claim7.holds Tryd.pinned (.plain (OpenSpec.ofChange diffDoesSpec)) diffDoesCard

/-- THE TIED CARD OF 'bonsailaw30.DiffFewest'. -/
def diffFewestCard : Claim7 := { stood := { row := diffFewestRow, standIns := [], harness := (true, "c36678833f6a9f87b342882bbe52db6c03b30932d6dab3301d47e02c76657a8e"), looks := false }, kinds := [], alts := [], laidByText := true, laidKinds := [.data], laidTests := true, laidLooks := .later }
def DiffFewestCardSaid : Prop := Claim7.holds Tryd.pinned (.plain (OpenSpec.ofChange diffFewestSpec)) diffFewestCard

/-- THE TIED CARD OF 'bonsailaw18.PathTells'. -/
def pathTellsCard : Claim7 := { stood := { row := pathTellsRow, standIns := [], harness := (true, "c36678833f6a9f87b342882bbe52db6c03b30932d6dab3301d47e02c76657a8e"), looks := false }, kinds := [], alts := [], laidByText := true, laidKinds := [.data], laidTests := true, laidLooks := .later }
def PathTellsCardSaid : Prop := Claim7.holds Tryd.pinned (.plain (OpenSpec.ofChange pathTellsSpec)) pathTellsCard

/-- THE TIED CARD OF 'bonsailaw18.PathApart'. -/
def pathApartCard : Claim7 := { stood := { row := pathApartRow, standIns := [], harness := (true, "c36678833f6a9f87b342882bbe52db6c03b30932d6dab3301d47e02c76657a8e"), looks := false }, kinds := [], alts := [], laidByText := true, laidKinds := [.data], laidTests := true, laidLooks := .later }
def PathApartCardSaid : Prop := Claim7.holds Tryd.pinned (.plain (OpenSpec.ofChange pathApartSpec)) pathApartCard

/-- THE TIED CARD OF 'bonsailaw18.PathPut'. -/
def pathPutCard : Claim7 := { stood := { row := pathPutRow, standIns := [], harness := (true, "c36678833f6a9f87b342882bbe52db6c03b30932d6dab3301d47e02c76657a8e"), looks := false }, kinds := [], alts := [], laidByText := true, laidKinds := [.data], laidTests := true, laidLooks := .later }
def PathPutCardSaid : Prop := Claim7.holds Tryd.pinned (.plain (OpenSpec.ofChange pathPutSpec)) pathPutCard

/-- THE SECOND FORM's CARD OF 'bonsailaw30.DiffBack'. -/
def diffBackUptoCard : Claim7 := { stood := { row := diffBackUptoRow, standIns := [], harness := (true, "c36678833f6a9f87b342882bbe52db6c03b30932d6dab3301d47e02c76657a8e"), looks := false }, kinds := [], alts := [], laidByText := true, laidKinds := [.data], laidTests := true, laidLooks := .later }
def DiffBackUptoCardSaid : Prop := Claim7.holds Tryd.pinned (.plain (OpenSpec.upto diffBackSpec)) diffBackUptoCard

/-- THE SECOND FORM's CARD OF 'bonsailaw30.DiffDoes'. -/
def diffDoesUptoCard : Claim7 := { stood := { row := diffDoesUptoRow, standIns := [], harness := (true, "c36678833f6a9f87b342882bbe52db6c03b30932d6dab3301d47e02c76657a8e"), looks := false }, kinds := [], alts := [], laidByText := true, laidKinds := [.data], laidTests := true, laidLooks := .later }
def DiffDoesUptoCardSaid : Prop := Claim7.holds Tryd.pinned (.plain (OpenSpec.upto diffDoesSpec)) diffDoesUptoCard

/-- THE SECOND FORM's CARD OF 'bonsailaw30.DiffFewest'. -/
def diffFewestUptoCard : Claim7 := { stood := { row := diffFewestUptoRow, standIns := [], harness := (true, "c36678833f6a9f87b342882bbe52db6c03b30932d6dab3301d47e02c76657a8e"), looks := false }, kinds := [], alts := [], laidByText := true, laidKinds := [.data], laidTests := true, laidLooks := .later }
def DiffFewestUptoCardSaid : Prop := Claim7.holds Tryd.pinned (.plain (OpenSpec.upto diffFewestSpec)) diffFewestUptoCard

/-- THE SECOND FORM's CARD OF 'bonsailaw18.PathTells'. -/
def pathTellsUptoCard : Claim7 := { stood := { row := pathTellsUptoRow, standIns := [], harness := (true, "c36678833f6a9f87b342882bbe52db6c03b30932d6dab3301d47e02c76657a8e"), looks := false }, kinds := [], alts := [], laidByText := true, laidKinds := [.data], laidTests := true, laidLooks := .later }
def PathTellsUptoCardSaid : Prop := Claim7.holds Tryd.pinned (.plain (OpenSpec.upto pathTellsSpec)) pathTellsUptoCard

/-- THE SECOND FORM's CARD OF 'bonsailaw18.PathApart'. -/
def pathApartUptoCard : Claim7 := { stood := { row := pathApartUptoRow, standIns := [], harness := (true, "c36678833f6a9f87b342882bbe52db6c03b30932d6dab3301d47e02c76657a8e"), looks := false }, kinds := [], alts := [], laidByText := true, laidKinds := [.data], laidTests := true, laidLooks := .later }
def PathApartUptoCardSaid : Prop := Claim7.holds Tryd.pinned (.plain (OpenSpec.upto pathApartSpec)) pathApartUptoCard

/-- THE SECOND FORM's CARD OF 'bonsailaw18.PathPut'. -/
def pathPutUptoCard : Claim7 := { stood := { row := pathPutUptoRow, standIns := [], harness := (true, "c36678833f6a9f87b342882bbe52db6c03b30932d6dab3301d47e02c76657a8e"), looks := false }, kinds := [], alts := [], laidByText := true, laidKinds := [.data], laidTests := true, laidLooks := .later }
def PathPutUptoCardSaid : Prop := Claim7.holds Tryd.pinned (.plain (OpenSpec.upto pathPutSpec)) pathPutUptoCard
end Rows
end Go.Proofs.YtbfjanfhgpgmdaaDoor
