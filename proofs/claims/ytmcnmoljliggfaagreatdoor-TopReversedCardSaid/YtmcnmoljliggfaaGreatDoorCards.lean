/-
  DERIVED. GIVEN WITH THE SEED: THE CARDS: each row of YtmcnmoljliggfaaGreatDoorRows.lean that lists a variable, with what it lists TIED to the program's text (the seventh form; the later family's looks); each row that meets fmt, with fmt's text TOLD by the authors' own Lean function (tested against real Go, not proved from fmt's source: count such statements apart). THE CARD IS WHAT COUNTS. Prove the row's statement (the work); the ties are given (YtmcnmoljliggfaaGreatDoorTie.lean); close each card by the builder's one call (the guide's Derived/Test/ToyasCard.lean, 'card_holds'). Laid BY PROGRAM, IN A SANDBOX (cutbox-door.mjs). By AI agents, Wed Nov 11 2026. No macro, syntax, notation, axiom, sorry.
-/
import Derived.Test.YtmcnmoljliggfaaGreatDoorRows
import GoSem.ClaimSeven
namespace Go.Proofs.YtmcnmoljliggfaaGreatDoor
namespace Rows

/-- THE TIED CARD OF 'polestartop.TopCut'. -/
def topCutCard : Claim7 := { stood := { row := topCutRow, standIns := [], harness := (true, "5bc141d57d1220cf2e5ab8e8386f15e3013a2aa4c3ae17791378f9ef746c6935"), looks := false }, kinds := [], alts := [], laidByText := true, laidKinds := [.data, .data, .data], laidTests := true, laidLooks := .later }
def TopCutCardSaid : Prop := Claim7.holds Tryz.pinned (.plain (OpenSpec.ofChange topCutSpec)) topCutCard

/-- THE TIED CARD OF 'polestartop.TopCross'. -/
def topCrossCard : Claim7 := { stood := { row := topCrossRow, standIns := [], harness := (true, "5bc141d57d1220cf2e5ab8e8386f15e3013a2aa4c3ae17791378f9ef746c6935"), looks := false }, kinds := [], alts := [], laidByText := true, laidKinds := [.data, .data, .data], laidTests := true, laidLooks := .later }
def TopCrossCardSaid : Prop := Claim7.holds Tryz.pinned (.plain (OpenSpec.ofChange topCrossSpec)) topCrossCard

/-- THE TIED CARD OF 'polestartop.TopReversed'. -/
def topReversedCard : Claim7 := { stood := { row := topReversedRow, standIns := [], harness := (true, "5bc141d57d1220cf2e5ab8e8386f15e3013a2aa4c3ae17791378f9ef746c6935"), looks := false }, kinds := [], alts := [], laidByText := true, laidKinds := [.data, .data, .data], laidTests := true, laidLooks := .later }
def TopReversedCardSaid : Prop := Claim7.holds Tryz.pinned (.plain (OpenSpec.ofChange topReversedSpec)) topReversedCard

/-- THE SECOND FORM's CARD OF 'polestartop.TopCut'. -/
def topCutUptoCard : Claim7 := { stood := { row := topCutUptoRow, standIns := [], harness := (true, "5bc141d57d1220cf2e5ab8e8386f15e3013a2aa4c3ae17791378f9ef746c6935"), looks := false }, kinds := [], alts := [], laidByText := true, laidKinds := [.data, .data, .data], laidTests := true, laidLooks := .later }
def TopCutUptoCardSaid : Prop := Claim7.holds Tryz.pinned (.plain (OpenSpec.upto topCutSpec)) topCutUptoCard

/-- THE SECOND FORM's CARD OF 'polestartop.TopCross'. -/
def topCrossUptoCard : Claim7 := { stood := { row := topCrossUptoRow, standIns := [], harness := (true, "5bc141d57d1220cf2e5ab8e8386f15e3013a2aa4c3ae17791378f9ef746c6935"), looks := false }, kinds := [], alts := [], laidByText := true, laidKinds := [.data, .data, .data], laidTests := true, laidLooks := .later }
def TopCrossUptoCardSaid : Prop := Claim7.holds Tryz.pinned (.plain (OpenSpec.upto topCrossSpec)) topCrossUptoCard

/-- THE SECOND FORM's CARD OF 'polestartop.TopReversed'. -/
def topReversedUptoCard : Claim7 := { stood := { row := topReversedUptoRow, standIns := [], harness := (true, "5bc141d57d1220cf2e5ab8e8386f15e3013a2aa4c3ae17791378f9ef746c6935"), looks := false }, kinds := [], alts := [], laidByText := true, laidKinds := [.data, .data, .data], laidTests := true, laidLooks := .later }
def TopReversedUptoCardSaid : Prop := Claim7.holds Tryz.pinned (.plain (OpenSpec.upto topReversedSpec)) topReversedUptoCard
end Rows
end Go.Proofs.YtmcnmoljliggfaaGreatDoor
