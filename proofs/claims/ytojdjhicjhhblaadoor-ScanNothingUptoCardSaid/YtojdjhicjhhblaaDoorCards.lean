/-
  DERIVED. GIVEN WITH THE SEED: THE CARDS: each row of YtojdjhicjhhblaaDoorRows.lean that lists a variable, with what it lists TIED to the program's text (the seventh form; the later family's looks); each row that meets fmt, with fmt's text TOLD by the authors' own Lean function (tested against real Go, not proved from fmt's source: count such statements apart). THE CARD IS WHAT COUNTS. Prove the row's statement (the work); the ties are given (YtojdjhicjhhblaaDoorTie.lean); close each card by the builder's one call (the guide's Derived/Test/ToyasCard.lean, 'card_holds'). Laid BY PROGRAM, IN A SANDBOX (cutbox-door.mjs). By AI agents, Wed Nov 11 2026. No macro, syntax, notation, axiom, sorry.
-/
import Derived.Test.YtojdjhicjhhblaaDoorRows
import GoSem.ClaimSeven
namespace Go.Proofs.YtojdjhicjhhblaaDoor
namespace Rows

/-- THE TIED CARD OF 'nomenclatorlaw13.ScanNothing'. -/
def scanNothingCard : Claim7 := { stood := { row := scanNothingRow, standIns := [], harness := (true, "0bd20fcdd6aa4ebdf2cfcec56b31e4ec1e491ff54760555bf756466d76c5f677"), looks := false }, kinds := [], alts := [], laidByText := true, laidKinds := [.data, .pinned], laidTests := true, laidLooks := .later }
def ScanNothingCardSaid : Prop := Claim7.holds Tryd.pinned (.plain (OpenSpec.ofChange scanNothingSpec)) scanNothingCard

/-- THE SECOND FORM's CARD OF 'nomenclatorlaw13.ScanNothing'. -/
def scanNothingUptoCard : Claim7 := { stood := { row := scanNothingUptoRow, standIns := [], harness := (true, "0bd20fcdd6aa4ebdf2cfcec56b31e4ec1e491ff54760555bf756466d76c5f677"), looks := false }, kinds := [], alts := [], laidByText := true, laidKinds := [.data, .pinned], laidTests := true, laidLooks := .later }
def ScanNothingUptoCardSaid : Prop := Claim7.holds Tryd.pinned (.plain (OpenSpec.upto scanNothingSpec)) scanNothingUptoCard
end Rows
end Go.Proofs.YtojdjhicjhhblaaDoor
