/-
  DERIVED. GIVEN WITH THE SEED: THE CARDS: each row of YtpcdiijmhllejaaGreatDoorRows.lean that lists a variable, with what it lists TIED to the program's text (the seventh form; the later family's looks); each row that meets fmt, with fmt's text TOLD by the authors' own Lean function (tested against real Go, not proved from fmt's source: count such statements apart). THE CARD IS WHAT COUNTS. Prove the row's statement (the work); the ties are given (YtpcdiijmhllejaaGreatDoorTie.lean); close each card by the builder's one call (the guide's Derived/Test/ToyasCard.lean, 'card_holds'). Laid BY PROGRAM, IN A SANDBOX (cutbox-door.mjs). By AI agents, Wed Nov 11 2026. No macro, syntax, notation, axiom, sorry.
-/
import Derived.Test.YtpcdiijmhllejaaGreatDoorRows
import GoSem.ClaimSeven
namespace Go.Proofs.YtpcdiijmhllejaaGreatDoor
namespace Rows

/-- THE TIED CARD OF 'polestarlaw01.WholeSums'. -/
def wholeSumsCard : Claim7 := { stood := { row := wholeSumsRow, standIns := [], harness := (true, "811b1164e9e0f43ccf0045610364daaa818100c61319be6bb18c5fe201d2e702"), looks := false }, kinds := [], alts := [], laidByText := true, laidKinds := [.data, .data, .data], laidTests := true, laidLooks := .later }
def WholeSumsCardSaid : Prop := Claim7.holds Tryz.pinned (.plain (OpenSpec.ofChange wholeSumsSpec)) wholeSumsCard

/-- THE TIED CARD OF 'polestarlaw01.WholeParts'. -/
def wholePartsCard : Claim7 := { stood := { row := wholePartsRow, standIns := [], harness := (true, "811b1164e9e0f43ccf0045610364daaa818100c61319be6bb18c5fe201d2e702"), looks := false }, kinds := [], alts := [], laidByText := true, laidKinds := [.data, .data, .data], laidTests := true, laidLooks := .later }
def WholePartsCardSaid : Prop := Claim7.holds Tryz.pinned (.plain (OpenSpec.ofChange wholePartsSpec)) wholePartsCard

/-- THE TIED CARD OF 'polestarlaw01.WholeRoots'. -/
def wholeRootsCard : Claim7 := { stood := { row := wholeRootsRow, standIns := [], harness := (true, "811b1164e9e0f43ccf0045610364daaa818100c61319be6bb18c5fe201d2e702"), looks := false }, kinds := [], alts := [], laidByText := true, laidKinds := [.data, .data, .data], laidTests := true, laidLooks := .later }
def WholeRootsCardSaid : Prop := Claim7.holds Tryz.pinned (.plain (OpenSpec.ofChange wholeRootsSpec)) wholeRootsCard

/-- THE SECOND FORM's CARD OF 'polestarlaw01.WholeSums'. -/
def wholeSumsUptoCard : Claim7 := { stood := { row := wholeSumsUptoRow, standIns := [], harness := (true, "811b1164e9e0f43ccf0045610364daaa818100c61319be6bb18c5fe201d2e702"), looks := false }, kinds := [], alts := [], laidByText := true, laidKinds := [.data, .data, .data], laidTests := true, laidLooks := .later }
def WholeSumsUptoCardSaid : Prop := Claim7.holds Tryz.pinned (.plain (OpenSpec.upto wholeSumsSpec)) wholeSumsUptoCard

/-- THE SECOND FORM's CARD OF 'polestarlaw01.WholeParts'. -/
def wholePartsUptoCard : Claim7 := { stood := { row := wholePartsUptoRow, standIns := [], harness := (true, "811b1164e9e0f43ccf0045610364daaa818100c61319be6bb18c5fe201d2e702"), looks := false }, kinds := [], alts := [], laidByText := true, laidKinds := [.data, .data, .data], laidTests := true, laidLooks := .later }
def WholePartsUptoCardSaid : Prop := Claim7.holds Tryz.pinned (.plain (OpenSpec.upto wholePartsSpec)) wholePartsUptoCard

/-- THE SECOND FORM's CARD OF 'polestarlaw01.WholeRoots'. -/
def wholeRootsUptoCard : Claim7 := { stood := { row := wholeRootsUptoRow, standIns := [], harness := (true, "811b1164e9e0f43ccf0045610364daaa818100c61319be6bb18c5fe201d2e702"), looks := false }, kinds := [], alts := [], laidByText := true, laidKinds := [.data, .data, .data], laidTests := true, laidLooks := .later }
def WholeRootsUptoCardSaid : Prop := Claim7.holds Tryz.pinned (.plain (OpenSpec.upto wholeRootsSpec)) wholeRootsUptoCard
end Rows
end Go.Proofs.YtpcdiijmhllejaaGreatDoor
