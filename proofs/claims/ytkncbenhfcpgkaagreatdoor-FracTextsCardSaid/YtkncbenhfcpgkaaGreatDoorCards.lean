/-
  DERIVED. GIVEN WITH THE SEED: THE CARDS: each row of YtkncbenhfcpgkaaGreatDoorRows.lean that lists a variable, with what it lists TIED to the program's text (the seventh form; the later family's looks); each row that meets fmt, with fmt's text TOLD by the authors' own Lean function (tested against real Go, not proved from fmt's source: count such statements apart). THE CARD IS WHAT COUNTS. Prove the row's statement (the work); the ties are given (YtkncbenhfcpgkaaGreatDoorTie.lean); close each card by the builder's one call (the guide's Derived/Test/ToyasCard.lean, 'card_holds'). Laid BY PROGRAM, IN A SANDBOX (cutbox-door.mjs). By AI agents, Wed Nov 11 2026. No macro, syntax, notation, axiom, sorry.
-/
import Derived.Test.YtkncbenhfcpgkaaGreatDoorRows
import GoSem.ClaimSeven
namespace Go.Proofs.YtkncbenhfcpgkaaGreatDoor
namespace Rows

/-- THE TIED CARD OF 'polestarlaw01.WholeRoots'. -/
def wholeRootsCard : Claim7 := { stood := { row := wholeRootsRow, standIns := [], harness := (true, "82fc06bb3b04f6fc6c802d03981501de60b7a768456c797f216e0b279259d49d"), looks := true }, kinds := [], alts := [], laidByText := true, laidKinds := [.data, .data, .data], laidTests := true, laidLooks := .later }
def WholeRootsCardSaid : Prop := Claim7.holds Tryz.pinned (.plain (OpenSpec.ofChange wholeRootsSpec)) wholeRootsCard

/-- THE TIED CARD OF 'polestarlaw02.FracRoots'. -/
def fracRootsCard : Claim7 := { stood := { row := fracRootsRow, standIns := [], harness := (true, "82fc06bb3b04f6fc6c802d03981501de60b7a768456c797f216e0b279259d49d"), looks := true }, kinds := [], alts := [], laidByText := true, laidKinds := [.data, .data, .data], laidTests := true, laidLooks := .later }
def FracRootsCardSaid : Prop := Claim7.holds Tryz.pinned (.plain (OpenSpec.ofChange fracRootsSpec)) fracRootsCard

/-- THE TIED CARD OF 'polestarlaw02.FracTexts'. -/
def fracTextsCard : Claim7 := { stood := { row := fracTextsRow, standIns := [], harness := (true, "82fc06bb3b04f6fc6c802d03981501de60b7a768456c797f216e0b279259d49d"), looks := true }, kinds := [], alts := [], laidByText := true, laidKinds := [.data, .data, .data, .data, .sentinel, .sentinel, .pinned], laidTests := true, laidLooks := .later }
def FracTextsCardSaid : Prop := Claim7.holds Tryz.pinned (.plain (OpenSpec.ofChange fracTextsSpec)) fracTextsCard

/-- THE SECOND FORM's CARD OF 'polestarlaw01.WholeRoots'. -/
def wholeRootsUptoCard : Claim7 := { stood := { row := wholeRootsUptoRow, standIns := [], harness := (true, "82fc06bb3b04f6fc6c802d03981501de60b7a768456c797f216e0b279259d49d"), looks := true }, kinds := [], alts := [], laidByText := true, laidKinds := [.data, .data, .data], laidTests := true, laidLooks := .later }
def WholeRootsUptoCardSaid : Prop := Claim7.holds Tryz.pinned (.plain (OpenSpec.upto wholeRootsSpec)) wholeRootsUptoCard

/-- THE SECOND FORM's CARD OF 'polestarlaw02.FracRoots'. -/
def fracRootsUptoCard : Claim7 := { stood := { row := fracRootsUptoRow, standIns := [], harness := (true, "82fc06bb3b04f6fc6c802d03981501de60b7a768456c797f216e0b279259d49d"), looks := true }, kinds := [], alts := [], laidByText := true, laidKinds := [.data, .data, .data], laidTests := true, laidLooks := .later }
def FracRootsUptoCardSaid : Prop := Claim7.holds Tryz.pinned (.plain (OpenSpec.upto fracRootsSpec)) fracRootsUptoCard

/-- THE SECOND FORM's CARD OF 'polestarlaw02.FracTexts'. -/
def fracTextsUptoCard : Claim7 := { stood := { row := fracTextsUptoRow, standIns := [], harness := (true, "82fc06bb3b04f6fc6c802d03981501de60b7a768456c797f216e0b279259d49d"), looks := true }, kinds := [], alts := [], laidByText := true, laidKinds := [.data, .data, .data, .data, .sentinel, .sentinel, .pinned], laidTests := true, laidLooks := .later }
def FracTextsUptoCardSaid : Prop := Claim7.holds Tryz.pinned (.plain (OpenSpec.upto fracTextsSpec)) fracTextsUptoCard
end Rows
end Go.Proofs.YtkncbenhfcpgkaaGreatDoor
