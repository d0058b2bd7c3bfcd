/-
  DERIVED. GIVEN WITH THE SEED: THE CARDS: each row of YtadmoheohmbieaaDoorRows.lean that lists a variable, with what it lists TIED to the program's text (the seventh form; the later family's looks); each row that meets fmt, with fmt's text TOLD by the authors' own Lean function (tested against real Go, not proved from fmt's source: count such statements apart). THE CARD IS WHAT COUNTS. Prove the row's statement (the work); the ties are given (YtadmoheohmbieaaDoorTie.lean); close each card by the builder's one call (the guide's Derived/Test/ToyasCard.lean, 'card_holds'). Laid BY PROGRAM, IN A SANDBOX (cutbox-door.mjs). By AI agents, Wed Nov 11 2026. No macro, syntax, notation, axiom, sorry.
-/
import Derived.Test.YtadmoheohmbieaaDoorRows
import GoSem.ClaimSeven
namespace Go.Proofs.YtadmoheohmbieaaDoor
namespace Rows

/-- THE TIED CARD OF 'polestarlaw02.FracOrder'. -/
def fracOrderCard : Claim7 := { stood := { row := fracOrderRow, standIns := [], harness := (true, "2774048124bad081a81358d999d78b96671eb9dd6d306dd06b36886ef17141cd"), looks := false }, kinds := [], alts := [], laidByText := true, laidKinds := [.data, .data, .data], laidTests := true, laidLooks := .later }
def FracOrderCardSaid : Prop := Claim7.holds Tryd.pinned (.plain (OpenSpec.ofChange fracOrderSpec)) fracOrderCard

/-- THE TIED CARD OF 'polestarlaw02.FracRing'. -/
def fracRingCard : Claim7 := { stood := { row := fracRingRow, standIns := [], harness := (true, "2774048124bad081a81358d999d78b96671eb9dd6d306dd06b36886ef17141cd"), looks := false }, kinds := [], alts := [], laidByText := true, laidKinds := [.data, .data, .data], laidTests := true, laidLooks := .later }
def FracRingCardSaid : Prop := Claim7.holds Tryd.pinned (.plain (OpenSpec.ofChange fracRingSpec)) fracRingCard

/-- THE SECOND FORM's CARD OF 'polestarlaw02.FracOrder'. -/
def fracOrderUptoCard : Claim7 := { stood := { row := fracOrderUptoRow, standIns := [], harness := (true, "2774048124bad081a81358d999d78b96671eb9dd6d306dd06b36886ef17141cd"), looks := false }, kinds := [], alts := [], laidByText := true, laidKinds := [.data, .data, .data], laidTests := true, laidLooks := .later }
def FracOrderUptoCardSaid : Prop := Claim7.holds Tryd.pinned (.plain (OpenSpec.upto fracOrderSpec)) fracOrderUptoCard

/-- THE SECOND FORM's CARD OF 'polestarlaw02.FracRing'. -/
def fracRingUptoCard : Claim7 := { stood := { row := fracRingUptoRow, standIns := [], harness := (true, "2774048124bad081a81358d999d78b96671eb9dd6d306dd06b36886ef17141cd"), looks := false }, kinds := [], alts := [], laidByText := true, laidKinds := [.data, .data, .data], laidTests := true, laidLooks := .later }
def FracRingUptoCardSaid : Prop := Claim7.holds Tryd.pinned (.plain (OpenSpec.upto fracRingSpec)) fracRingUptoCard
end Rows
end Go.Proofs.YtadmoheohmbieaaDoor
