/-
  DERIVED. GIVEN WITH THE SEED: THE CARDS: each row of YtpcdiijmhllejaaDoorRows.lean that lists a variable, with what it lists TIED to the program's text (the seventh form; the later family's looks); each row that meets fmt, with fmt's text TOLD by the authors' own Lean function (tested against real Go, not proved from fmt's source: count such statements apart). THE CARD IS WHAT COUNTS. Prove the row's statement (the work); the ties are given (YtpcdiijmhllejaaDoorTie.lean); close each card by the builder's one call (the guide's Derived/Test/ToyasCard.lean, 'card_holds'). Laid BY PROGRAM, IN A SANDBOX (cutbox-door.mjs). By AI agents, Wed Nov 11 2026. No macro, syntax, notation, axiom, sorry.
-/
import Derived.Test.YtpcdiijmhllejaaDoorRows
import GoSem.ClaimSeven
namespace Go.Proofs.YtpcdiijmhllejaaDoor
namespace Rows

/-- THE TIED CARD OF 'polestarlaw01.WholeCommon'. -/
def wholeCommonCard : Claim7 := { stood := { row := wholeCommonRow, standIns := [], harness := (true, "dfb6d3e3b0bc77d553c90af2e025be81829ad1d062e8c9cbfa80809bd9db4496"), looks := false }, kinds := [], alts := [], laidByText := true, laidKinds := [.data, .data, .data], laidTests := true, laidLooks := .later }
def WholeCommonCardSaid : Prop := Claim7.holds Tryd.pinned (.plain (OpenSpec.ofChange wholeCommonSpec)) wholeCommonCard

/-- THE TIED CARD OF 'polestarlaw01.WholeDivides'. -/
def wholeDividesCard : Claim7 := { stood := { row := wholeDividesRow, standIns := [], harness := (true, "dfb6d3e3b0bc77d553c90af2e025be81829ad1d062e8c9cbfa80809bd9db4496"), looks := false }, kinds := [], alts := [], laidByText := true, laidKinds := [.data, .data, .data], laidTests := true, laidLooks := .later }
def WholeDividesCardSaid : Prop := Claim7.holds Tryd.pinned (.plain (OpenSpec.ofChange wholeDividesSpec)) wholeDividesCard

/-- THE TIED CARD OF 'polestarlaw01.WholeRing'. -/
def wholeRingCard : Claim7 := { stood := { row := wholeRingRow, standIns := [], harness := (true, "dfb6d3e3b0bc77d553c90af2e025be81829ad1d062e8c9cbfa80809bd9db4496"), looks := false }, kinds := [], alts := [], laidByText := true, laidKinds := [.data, .data, .data], laidTests := true, laidLooks := .later }
def WholeRingCardSaid : Prop := Claim7.holds Tryd.pinned (.plain (OpenSpec.ofChange wholeRingSpec)) wholeRingCard

/-- THE TIED CARD OF 'polestarlaw01.WholeOrder'. -/
def wholeOrderCard : Claim7 := { stood := { row := wholeOrderRow, standIns := [], harness := (true, "dfb6d3e3b0bc77d553c90af2e025be81829ad1d062e8c9cbfa80809bd9db4496"), looks := false }, kinds := [], alts := [], laidByText := true, laidKinds := [.data, .data, .data], laidTests := true, laidLooks := .later }
def WholeOrderCardSaid : Prop := Claim7.holds Tryd.pinned (.plain (OpenSpec.ofChange wholeOrderSpec)) wholeOrderCard

/-- THE TIED CARD OF 'polestarlaw01.WholeSquares'. -/
def wholeSquaresCard : Claim7 := { stood := { row := wholeSquaresRow, standIns := [], harness := (true, "dfb6d3e3b0bc77d553c90af2e025be81829ad1d062e8c9cbfa80809bd9db4496"), looks := false }, kinds := [], alts := [], laidByText := true, laidKinds := [.data, .data, .data], laidTests := true, laidLooks := .later }
def WholeSquaresCardSaid : Prop := Claim7.holds Tryd.pinned (.plain (OpenSpec.ofChange wholeSquaresSpec)) wholeSquaresCard

/-- THE TIED CARD OF 'polestarlaw01.WholeShifts'. -/
def wholeShiftsCard : Claim7 := { stood := { row := wholeShiftsRow, standIns := [], harness := (true, "dfb6d3e3b0bc77d553c90af2e025be81829ad1d062e8c9cbfa80809bd9db4496"), looks := false }, kinds := [], alts := [], laidByText := true, laidKinds := [.data, .data, .data], laidTests := true, laidLooks := .later }
def WholeShiftsCardSaid : Prop := Claim7.holds Tryd.pinned (.plain (OpenSpec.ofChange wholeShiftsSpec)) wholeShiftsCard

/-- THE SECOND FORM's CARD OF 'polestarlaw01.WholeCommon'. -/
def wholeCommonUptoCard : Claim7 := { stood := { row := wholeCommonUptoRow, standIns := [], harness := (true, "dfb6d3e3b0bc77d553c90af2e025be81829ad1d062e8c9cbfa80809bd9db4496"), looks := false }, kinds := [], alts := [], laidByText := true, laidKinds := [.data, .data, .data], laidTests := true, laidLooks := .later }
def WholeCommonUptoCardSaid : Prop := Claim7.holds Tryd.pinned (.plain (OpenSpec.upto wholeCommonSpec)) wholeCommonUptoCard

/-- THE SECOND FORM's CARD OF 'polestarlaw01.WholeDivides'. -/
def wholeDividesUptoCard : Claim7 := { stood := { row := wholeDividesUptoRow, standIns := [], harness := (true, "dfb6d3e3b0bc77d553c90af2e025be81829ad1d062e8c9cbfa80809bd9db4496"), looks := false }, kinds := [], alts := [], laidByText := true, laidKinds := [.data, .data, .data], laidTests := true, laidLooks := .later }
def WholeDividesUptoCardSaid : Prop := Claim7.holds Tryd.pinned (.plain (OpenSpec.upto wholeDividesSpec)) wholeDividesUptoCard

/-- THE SECOND FORM's CARD OF 'polestarlaw01.WholeRing'. -/
def wholeRingUptoCard : Claim7 := { stood := { row := wholeRingUptoRow, standIns := [], harness := (true, "dfb6d3e3b0bc77d553c90af2e025be81829ad1d062e8c9cbfa80809bd9db4496"), looks := false }, kinds := [], alts := [], laidByText := true, laidKinds := [.data, .data, .data], laidTests := true, laidLooks := .later }
def WholeRingUptoCardSaid : Prop := Claim7.holds Tryd.pinned (.plain (OpenSpec.upto wholeRingSpec)) wholeRingUptoCard

/-- THE SECOND FORM's CARD OF 'polestarlaw01.WholeOrder'. -/
def wholeOrderUptoCard : Claim7 := { stood := { row := wholeOrderUptoRow, standIns := [], harness := (true, "dfb6d3e3b0bc77d553c90af2e025be81829ad1d062e8c9cbfa80809bd9db4496"), looks := false }, kinds := [], alts := [], laidByText := true, laidKinds := [.data, .data, .data], laidTests := true, laidLooks := .later }
def WholeOrderUptoCardSaid : Prop := Claim7.holds Tryd.pinned (.plain (OpenSpec.upto wholeOrderSpec)) wholeOrderUptoCard

/-- THE SECOND FORM's CARD OF 'polestarlaw01.WholeSquares'. -/
def wholeSquaresUptoCard : Claim7 := { stood := { row := wholeSquaresUptoRow, standIns := [], harness := (true, "dfb6d3e3b0bc77d553c90af2e025be81829ad1d062e8c9cbfa80809bd9db4496"), looks := false }, kinds := [], alts := [], laidByText := true, laidKinds := [.data, .data, .data], laidTests := true, laidLooks := .later }
def WholeSquaresUptoCardSaid : Prop := Claim7.holds Tryd.pinned (.plain (OpenSpec.upto wholeSquaresSpec)) wholeSquaresUptoCard

/-- THE SECOND FORM's CARD OF 'polestarlaw01.WholeShifts'. -/
def wholeShiftsUptoCard : Claim7 := { stood := { row := wholeShiftsUptoRow, standIns := [], harness := (true, "dfb6d3e3b0bc77d553c90af2e025be81829ad1d062e8c9cbfa80809bd9db4496"), looks := false }, kinds := [], alts := [], laidByText := true, laidKinds := [.data, .data, .data], laidTests := true, laidLooks := .later }
def WholeShiftsUptoCardSaid : Prop := Claim7.holds Tryd.pinned (.plain (OpenSpec.upto wholeShiftsSpec)) wholeShiftsUptoCard
end Rows
end Go.Proofs.YtpcdiijmhllejaaDoor
