/-
  DERIVED. GIVEN WITH THE SEED: THE CARDS: each row of YtfncfmiccomgcaaDoorRows.lean that lists a variable, with what it lists TIED to the program's text (the seventh form; the later family's looks); each row that meets fmt, with fmt's text TOLD by the authors' own Lean function (tested against real Go, not proved from fmt's source: count such statements apart). THE CARD IS WHAT COUNTS. Prove the row's statement (the work); the ties are given (YtfncfmiccomgcaaDoorTie.lean); close each card by the builder's one call (the guide's Derived/Test/ToyasCard.lean, 'card_holds'). Laid BY PROGRAM, IN A SANDBOX (cutbox-door.mjs). By AI agents, Wed Nov 11 2026. No macro, syntax, notation, axiom, sorry.
-/
import Derived.Test.YtfncfmiccomgcaaDoorRows
import GoSem.ClaimSeven
namespace Go.Proofs.YtfncfmiccomgcaaDoor
namespace Rows

/-- THE TIED CARD OF 'bonsailaw18.PathTells'. -/
def pathTellsCard : Claim7 := { stood := { row := pathTellsRow, standIns := [], harness := (true, "7f95cc0e94c6c2dc1ca99d20abc6e23932a605a91c32d5ba11e61d7b70d370a4"), looks := false }, kinds := [], alts := [], laidByText := true, laidKinds := [.data], laidTests := true, laidLooks := .later }
def PathTellsCardSaid : Prop := Claim7.holds Tryd.pinned (.plain (OpenSpec.ofChange pathTellsSpec)) pathTellsCard

/-- THE TIED CARD OF 'bonsailaw18.PathApart'. -/
def pathApartCard : Claim7 := { stood := { row := pathApartRow, standIns := [], harness := (true, "7f95cc0e94c6c2dc1ca99d20abc6e23932a605a91c32d5ba11e61d7b70d370a4"), looks := false }, kinds := [], alts := [], laidByText := true, laidKinds := [.data], laidTests := true, laidLooks := .later }
def PathApartCardSaid : Prop := Claim7.holds Tryd.pinned (.plain (OpenSpec.ofChange pathApartSpec)) pathApartCard

/-- THE TIED CARD OF 'bonsailaw18.PathPut'. -/
def pathPutCard : Claim7 := { stood := { row := pathPutRow, standIns := [], harness := (true, "7f95cc0e94c6c2dc1ca99d20abc6e23932a605a91c32d5ba11e61d7b70d370a4"), looks := false }, kinds := [], alts := [], laidByText := true, laidKinds := [.data], laidTests := true, laidLooks := .later }
def PathPutCardSaid : Prop := Claim7.holds Tryd.pinned (.plain (OpenSpec.ofChange pathPutSpec)) pathPutCard

/-- THE SECOND FORM's CARD OF 'bonsailaw18.PathTells'. -/
def pathTellsUptoCard : Claim7 := { stood := { row := pathTellsUptoRow, standIns := [], harness := (true, "7f95cc0e94c6c2dc1ca99d20abc6e23932a605a91c32d5ba11e61d7b70d370a4"), looks := false }, kinds := [], alts := [], laidByText := true, laidKinds := [.data], laidTests := true, laidLooks := .later }
def PathTellsUptoCardSaid : Prop := Claim7.holds Tryd.pinned (.plain (OpenSpec.upto pathTellsSpec)) pathTellsUptoCard

/-- THE SECOND FORM's CARD OF 'bonsailaw18.PathApart'. -/
def pathApartUptoCard : Claim7 := { stood := { row := pathApartUptoRow, standIns := [], harness := (true, "7f95cc0e94c6c2dc1ca99d20abc6e23932a605a91c32d5ba11e61d7b70d370a4"), looks := false }, kinds := [], alts := [], laidByText := true, laidKinds := [.data], laidTests := true, laidLooks := .later }
def PathApartUptoCardSaid : Prop := Claim7.holds Tryd.pinned (.plain (OpenSpec.upto pathApartSpec)) pathApartUptoCard

/-- THE SECOND FORM's CARD OF 'bonsailaw18.PathPut'. -/
def pathPutUptoCard : Claim7 := { stood := { row := pathPutUptoRow, standIns := [], harness := (true, "7f95cc0e94c6c2dc1ca99d20abc6e23932a605a91c32d5ba11e61d7b70d370a4"), looks := false }, kinds := [], alts := [], laidByText := true, laidKinds := [.data], laidTests := true, laidLooks := .later }
def PathPutUptoCardSaid : Prop := Claim7.holds Tryd.pinned (.plain (OpenSpec.upto pathPutSpec)) pathPutUptoCard
end Rows
end Go.Proofs.YtfncfmiccomgcaaDoor
