/-
  DERIVED. GIVEN WITH THE SEED: THE CARDS: each row of YtpfokabdpmjobaaDoorRows.lean that lists a variable, with what it lists TIED to the program's text (the seventh form; the later family's looks); each row that meets fmt, with fmt's text TOLD by the authors' own Lean function (tested against real Go, not proved from fmt's source: count such statements apart). THE CARD IS WHAT COUNTS. Prove the row's statement (the work); the ties are given (YtpfokabdpmjobaaDoorTie.lean); close each card by the builder's one call (the guide's Derived/Test/ToyasCard.lean, 'card_holds'). Laid BY PROGRAM, IN A SANDBOX (cutbox-door.mjs). By AI agents, Wed Nov 11 2026. No macro, syntax, notation, axiom, sorry.
-/
import Derived.Test.YtpfokabdpmjobaaDoorRows
import GoSem.ClaimSeven
namespace Go.Proofs.YtpfokabdpmjobaaDoor
namespace Rows

/-- THE TIED CARD OF 'bonsailaw07.ParseRows'. -/
def parseRowsCard : Claim7 := { stood := { row := parseRowsRow, standIns := [], harness := (true, "dd997d63c72f893da170d0fa20afad605768315f0abdf9563db17cd6c6172c8c"), looks := false }, kinds := [], alts := [], laidByText := true, laidKinds := [.data], laidTests := true, laidLooks := .later }
def ParseRowsCardSaid : Prop := Claim7.holds Tryd.pinned (.plain (OpenSpec.ofChange parseRowsSpec)) parseRowsCard

/-- THE SECOND FORM's CARD OF 'bonsailaw07.ParseRows'. -/
def parseRowsUptoCard : Claim7 := { stood := { row := parseRowsUptoRow, standIns := [], harness := (true, "dd997d63c72f893da170d0fa20afad605768315f0abdf9563db17cd6c6172c8c"), looks := false }, kinds := [], alts := [], laidByText := true, laidKinds := [.data], laidTests := true, laidLooks := .later }
def ParseRowsUptoCardSaid : Prop := Claim7.holds Tryd.pinned (.plain (OpenSpec.upto parseRowsSpec)) parseRowsUptoCard
end Rows
end Go.Proofs.YtpfokabdpmjobaaDoor
