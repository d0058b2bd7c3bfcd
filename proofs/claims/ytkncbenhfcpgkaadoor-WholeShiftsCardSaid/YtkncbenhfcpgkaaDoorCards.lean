/-
  DERIVED. GIVEN WITH THE SEED: THE CARDS: each row of YtkncbenhfcpgkaaDoorRows.lean that lists a variable, with what it lists TIED to the program's text (the seventh form; the later family's looks); each row that meets fmt, with fmt's text TOLD by the authors' own Lean function (tested against real Go, not proved from fmt's source: count such statements apart). THE CARD IS WHAT COUNTS. Prove the row's statement (the work); the ties are given (YtkncbenhfcpgkaaDoorTie.lean); close each card by the builder's one call (the guide's Derived/Test/ToyasCard.lean, 'card_holds'). Laid BY PROGRAM, IN A SANDBOX (cutbox-door.mjs). By AI agents, Wed Nov 11 2026. No macro, syntax, notation, axiom, sorry.
-/
import Derived.Test.YtkncbenhfcpgkaaDoorRows
import GoSem.ClaimSeven
namespace Go.Proofs.YtkncbenhfcpgkaaDoor
namespace Rows

/-- THE TIED CARD OF 'polestarlaw01.WholeSquares'. -/
def wholeSquaresCard : Claim7 := { stood := { row := wholeSquaresRow, standIns := [], harness := (true, "965a32fc03d5a5de23378a90af1f99b620ee89daa5768090bce96ab7f5902bf5"), looks := false }, kinds := [], alts := [], laidByText := true, laidKinds := [.data, .data, .data], laidTests := true, laidLooks := .later }
def WholeSquaresCardSaid : Prop := Claim7.holds Tryd.pinned (.plain (OpenSpec.ofChange wholeSquaresSpec)) wholeSquaresCard

/-- THE TIED CARD OF 'polestarlaw01.WholeShifts'. -/
def wholeShiftsCard : Claim7 := { stood := { row := wholeShiftsRow, standIns := [], harness := (true, "965a32fc03d5a5de23378a90af1f99b620ee89daa5768090bce96ab7f5902bf5"), looks := false }, kinds := [], alts := [], laidByText := true, laidKinds := [.data, .data, .data], laidTests := true, laidLooks := .later }
def WholeShiftsCardSaid : Prop := Claim7.holds Tryd.pinned (.plain (OpenSpec.ofChange wholeShiftsSpec)) wholeShiftsCard

/-- THE SECOND FORM's CARD OF 'polestarlaw01.WholeSquares'. -/
def wholeSquaresUptoCard : Claim7 := { stood := { row := wholeSquaresUptoRow, standIns := [], harness := (true, "965a32fc03d5a5de23378a90af1f99b620ee89daa5768090bce96ab7f5902bf5"), looks := false }, kinds := [], alts := [], laidByText := true, laidKinds := [.data, .data, .data], laidTests := true, laidLooks := .later }
def WholeSquaresUptoCardSaid : Prop := Claim7.holds Tryd.pinned (.plain (OpenSpec.upto wholeSquaresSpec)) wholeSquaresUptoCard

/-- THE SECOND FORM's CARD OF 'polestarlaw01.WholeShifts'. -/
def wholeShiftsUptoCard : Claim7 := { stood := { row := wholeShiftsUptoRow, standIns := [], harness := (true, "965a32fc03d5a5de23378a90af1f99b620ee89daa5768090bce96ab7f5902bf5"), looks := false }, kinds := [], alts := [], laidByText := true, laidKinds := [.data, .data, .data], laidTests := true, laidLooks := .later }
def WholeShiftsUptoCardSaid : Prop := Claim7.holds Tryd.pinned (.plain (OpenSpec.upto wholeShiftsSpec)) wholeShiftsUptoCard
end Rows
end Go.Proofs.YtkncbenhfcpgkaaDoor
