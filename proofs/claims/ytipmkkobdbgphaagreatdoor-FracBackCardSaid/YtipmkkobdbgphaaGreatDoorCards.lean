/-
  DERIVED. GIVEN WITH THE SEED: THE CARDS: each row of YtipmkkobdbgphaaGreatDoorRows.lean that lists a variable, with what it lists TIED to the program's text (the seventh form; the later family's looks); each row that meets fmt, with fmt's text TOLD by the authors' own Lean function (tested against real Go, not proved from fmt's source: count such statements apart). THE CARD IS WHAT COUNTS. Prove the row's statement (the work); the ties are given (YtipmkkobdbgphaaGreatDoorTie.lean); close each card by the builder's one call (the guide's Derived/Test/ToyasCard.lean, 'card_holds'). Laid BY PROGRAM, IN A SANDBOX (cutbox-door.mjs). By AI agents, Wed Nov 11 2026. No macro, syntax, notation, axiom, sorry.
-/
import Derived.Test.YtipmkkobdbgphaaGreatDoorRows
import GoSem.ClaimSeven
namespace Go.Proofs.YtipmkkobdbgphaaGreatDoor
namespace Rows

/-- THE TIED CARD OF 'polestarlaw02.FracFloats'. -/
def fracFloatsCard : Claim7 := { stood := { row := fracFloatsRow, standIns := [], harness := (true, "d1b3d4019fb187255edfb83302b31367486e821dc4c65e94a3279dbb429f97ae"), looks := true }, kinds := [], alts := [], laidByText := true, laidKinds := [.data, .data, .data], laidTests := true, laidLooks := .later }
def FracFloatsCardSaid : Prop := Claim7.holds Tryz.pinned (.plain (OpenSpec.ofChange fracFloatsSpec)) fracFloatsCard

/-- THE TIED CARD OF 'polestarlaw02.FracNear'. -/
def fracNearCard : Claim7 := { stood := { row := fracNearRow, standIns := [], harness := (true, "d1b3d4019fb187255edfb83302b31367486e821dc4c65e94a3279dbb429f97ae"), looks := true }, kinds := [], alts := [], laidByText := true, laidKinds := [.data, .data, .data], laidTests := true, laidLooks := .later }
def FracNearCardSaid : Prop := Claim7.holds Tryz.pinned (.plain (OpenSpec.ofChange fracNearSpec)) fracNearCard

/-- THE TIED CARD OF 'polestarlaw02.FracTexts'. -/
def fracTextsCard : Claim7 := { stood := { row := fracTextsRow, standIns := [], harness := (true, "d1b3d4019fb187255edfb83302b31367486e821dc4c65e94a3279dbb429f97ae"), looks := true }, kinds := [], alts := [], laidByText := true, laidKinds := [.data, .data, .data, .data, .sentinel, .sentinel, .pinned], laidTests := true, laidLooks := .later }
def FracTextsCardSaid : Prop := Claim7.holds Tryz.pinned (.plain (OpenSpec.ofChange fracTextsSpec)) fracTextsCard

/-- THE TIED CARD OF 'polestarlaw02.FracBack'. -/
def fracBackCard : Claim7 := { stood := { row := fracBackRow, standIns := [], harness := (true, "d1b3d4019fb187255edfb83302b31367486e821dc4c65e94a3279dbb429f97ae"), looks := true }, kinds := [], alts := [], laidByText := true, laidKinds := [.data, .data, .data, .data, .sentinel, .sentinel, .pinned], laidTests := true, laidLooks := .later }
def FracBackCardSaid : Prop := Claim7.holds Tryz.pinned (.plain (OpenSpec.ofChange fracBackSpec)) fracBackCard

/-- THE TIED CARD OF 'polestarlaw02.FracNames'. -/
def fracNamesCard : Claim7 := { stood := { row := fracNamesRow, standIns := [], harness := (true, "d1b3d4019fb187255edfb83302b31367486e821dc4c65e94a3279dbb429f97ae"), looks := true }, kinds := [], alts := [], laidByText := true, laidKinds := [.data, .data, .data, .data, .sentinel, .sentinel, .pinned], laidTests := true, laidLooks := .later }
def FracNamesCardSaid : Prop := Claim7.holds Tryz.pinned (.plain (OpenSpec.ofChange fracNamesSpec)) fracNamesCard

/-- THE SECOND FORM's CARD OF 'polestarlaw02.FracFloats'. -/
def fracFloatsUptoCard : Claim7 := { stood := { row := fracFloatsUptoRow, standIns := [], harness := (true, "d1b3d4019fb187255edfb83302b31367486e821dc4c65e94a3279dbb429f97ae"), looks := true }, kinds := [], alts := [], laidByText := true, laidKinds := [.data, .data, .data], laidTests := true, laidLooks := .later }
def FracFloatsUptoCardSaid : Prop := Claim7.holds Tryz.pinned (.plain (OpenSpec.upto fracFloatsSpec)) fracFloatsUptoCard

/-- THE SECOND FORM's CARD OF 'polestarlaw02.FracNear'. -/
def fracNearUptoCard : Claim7 := { stood := { row := fracNearUptoRow, standIns := [], harness := (true, "d1b3d4019fb187255edfb83302b31367486e821dc4c65e94a3279dbb429f97ae"), looks := true }, kinds := [], alts := [], laidByText := true, laidKinds := [.data, .data, .data], laidTests := true, laidLooks := .later }
def FracNearUptoCardSaid : Prop := Claim7.holds Tryz.pinned (.plain (OpenSpec.upto fracNearSpec)) fracNearUptoCard

/-- THE SECOND FORM's CARD OF 'polestarlaw02.FracTexts'. -/
def fracTextsUptoCard : Claim7 := { stood := { row := fracTextsUptoRow, standIns := [], harness := (true, "d1b3d4019fb187255edfb83302b31367486e821dc4c65e94a3279dbb429f97ae"), looks := true }, kinds := [], alts := [], laidByText := true, laidKinds := [.data, .data, .data, .data, .sentinel, .sentinel, .pinned], laidTests := true, laidLooks := .later }
def FracTextsUptoCardSaid : Prop := Claim7.holds Tryz.pinned (.plain (OpenSpec.upto fracTextsSpec)) fracTextsUptoCard

/-- THE SECOND FORM's CARD OF 'polestarlaw02.FracBack'. -/
def fracBackUptoCard : Claim7 := { stood := { row := fracBackUptoRow, standIns := [], harness := (true, "d1b3d4019fb187255edfb83302b31367486e821dc4c65e94a3279dbb429f97ae"), looks := true }, kinds := [], alts := [], laidByText := true, laidKinds := [.data, .data, .data, .data, .sentinel, .sentinel, .pinned], laidTests := true, laidLooks := .later }
def FracBackUptoCardSaid : Prop := Claim7.holds Tryz.pinned (.plain (OpenSpec.upto fracBackSpec)) fracBackUptoCard

/-- THE SECOND FORM's CARD OF 'polestarlaw02.FracNames'. -/
def fracNamesUptoCard : Claim7 := { stood := { row := fracNamesUptoRow, standIns := [], harness := (true, "d1b3d4019fb187255edfb83302b31367486e821dc4c65e94a3279dbb429f97ae"), looks := true }, kinds := [], alts := [], laidByText := true, laidKinds := [.data, .data, .data, .data, .sentinel, .sentinel, .pinned], laidTests := true, laidLooks := .later }
def FracNamesUptoCardSaid : Prop := Claim7.holds Tryz.pinned (.plain (OpenSpec.upto fracNamesSpec)) fracNamesUptoCard
end Rows
end Go.Proofs.YtipmkkobdbgphaaGreatDoor
