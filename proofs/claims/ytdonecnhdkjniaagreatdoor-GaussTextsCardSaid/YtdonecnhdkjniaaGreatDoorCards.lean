/-
  DERIVED. GIVEN WITH THE SEED: THE CARDS: each row of YtdonecnhdkjniaaGreatDoorRows.lean that lists a variable, with what it lists TIED to the program's text (the seventh form; the later family's looks); each row that meets fmt, with fmt's text TOLD by the authors' own Lean function (tested against real Go, not proved from fmt's source: count such statements apart). THE CARD IS WHAT COUNTS. Prove the row's statement (the work); the ties are given (YtdonecnhdkjniaaGreatDoorTie.lean); close each card by the builder's one call (the guide's Derived/Test/ToyasCard.lean, 'card_holds'). Laid BY PROGRAM, IN A SANDBOX (cutbox-door.mjs). By AI agents, Wed Nov 11 2026. No macro, syntax, notation, axiom, sorry.
-/
import Derived.Test.YtdonecnhdkjniaaGreatDoorRows
import GoSem.ClaimSeven
namespace Go.Proofs.YtdonecnhdkjniaaGreatDoor
namespace Rows

/-- THE TIED CARD OF 'polestarlaw03.GaussTexts'. -/
def gaussTextsCard : Claim7 := { stood := { row := gaussTextsRow, standIns := [], harness := (true, "a8beb58568762803760fd5f2f4aa9a31f1d941a3cf311367276ffc071cca70a2"), looks := true }, kinds := [], alts := [], laidByText := true, laidKinds := [.data, .data, .data, .data, .sentinel, .sentinel, .pinned], laidTests := true, laidLooks := .later }
def GaussTextsCardSaid : Prop := Claim7.holds Tryz.pinned (.plain (OpenSpec.ofChange gaussTextsSpec)) gaussTextsCard

/-- THE TIED CARD OF 'polestarlaw03.GaussSpells'. -/
def gaussSpellsCard : Claim7 := { stood := { row := gaussSpellsRow, standIns := [], harness := (true, "a8beb58568762803760fd5f2f4aa9a31f1d941a3cf311367276ffc071cca70a2"), looks := true }, kinds := [], alts := [], laidByText := true, laidKinds := [.data, .data, .data, .data, .sentinel, .sentinel, .pinned], laidTests := true, laidLooks := .later }
def GaussSpellsCardSaid : Prop := Claim7.holds Tryz.pinned (.plain (OpenSpec.ofChange gaussSpellsSpec)) gaussSpellsCard

/-- THE SECOND FORM's CARD OF 'polestarlaw03.GaussTexts'. -/
def gaussTextsUptoCard : Claim7 := { stood := { row := gaussTextsUptoRow, standIns := [], harness := (true, "a8beb58568762803760fd5f2f4aa9a31f1d941a3cf311367276ffc071cca70a2"), looks := true }, kinds := [], alts := [], laidByText := true, laidKinds := [.data, .data, .data, .data, .sentinel, .sentinel, .pinned], laidTests := true, laidLooks := .later }
def GaussTextsUptoCardSaid : Prop := Claim7.holds Tryz.pinned (.plain (OpenSpec.upto gaussTextsSpec)) gaussTextsUptoCard

/-- THE SECOND FORM's CARD OF 'polestarlaw03.GaussSpells'. -/
def gaussSpellsUptoCard : Claim7 := { stood := { row := gaussSpellsUptoRow, standIns := [], harness := (true, "a8beb58568762803760fd5f2f4aa9a31f1d941a3cf311367276ffc071cca70a2"), looks := true }, kinds := [], alts := [], laidByText := true, laidKinds := [.data, .data, .data, .data, .sentinel, .sentinel, .pinned], laidTests := true, laidLooks := .later }
def GaussSpellsUptoCardSaid : Prop := Claim7.holds Tryz.pinned (.plain (OpenSpec.upto gaussSpellsSpec)) gaussSpellsUptoCard
end Rows
end Go.Proofs.YtdonecnhdkjniaaGreatDoor
