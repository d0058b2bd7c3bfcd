/-
  DERIVED. GIVEN WITH THE SEED: THE CARDS: each row of YthlehkjcfhnplaaGreatDoorRows.lean that lists a variable, with what it lists TIED to the program's text (the seventh form; the later family's looks); each row that meets fmt, with fmt's text TOLD by the authors' own Lean function (tested against real Go, not proved from fmt's source: count such statements apart). THE CARD IS WHAT COUNTS. Prove the row's statement (the work); the ties are given (YthlehkjcfhnplaaGreatDoorTie.lean); close each card by the builder's one call (the guide's Derived/Test/ToyasCard.lean, 'card_holds'). Laid BY PROGRAM, IN A SANDBOX (cutbox-door.mjs). By AI agents, Wed Nov 11 2026. No macro, syntax, notation, axiom, sorry.
-/
import Derived.Test.YthlehkjcfhnplaaGreatDoorRows
import GoSem.ClaimSeven
namespace Go.Proofs.YthlehkjcfhnplaaGreatDoor
namespace Rows

/-- THE TIED CARD OF 'polestarlaw03.GaussSmall'. -/
def gaussSmallCard : Claim7 := { stood := { row := gaussSmallRow, standIns := [], harness := (true, "0534986b5baa2b165cf69ee841878965dadd4dc19b58214b8d796009d6b977ea"), looks := true }, kinds := [], alts := [], laidByText := true, laidKinds := [.data, .data, .data], laidTests := true, laidLooks := .later }
def GaussSmallCardSaid : Prop := Claim7.holds Tryz.pinned (.plain (OpenSpec.ofChange gaussSmallSpec)) gaussSmallCard

/-- THE TIED CARD OF 'polestarlaw03.GaussReckons'. -/
def gaussReckonsCard : Claim7 := { stood := { row := gaussReckonsRow, standIns := [], harness := (true, "0534986b5baa2b165cf69ee841878965dadd4dc19b58214b8d796009d6b977ea"), looks := true }, kinds := [], alts := [], laidByText := true, laidKinds := [.data, .data, .data], laidTests := true, laidLooks := .later }
def GaussReckonsCardSaid : Prop := Claim7.holds Tryz.pinned (.plain (OpenSpec.ofChange gaussReckonsSpec)) gaussReckonsCard

/-- THE TIED CARD OF 'polestarlaw03.GaussField'. -/
def gaussFieldCard : Claim7 := { stood := { row := gaussFieldRow, standIns := [], harness := (true, "0534986b5baa2b165cf69ee841878965dadd4dc19b58214b8d796009d6b977ea"), looks := true }, kinds := [], alts := [], laidByText := true, laidKinds := [.data, .data, .data], laidTests := true, laidLooks := .later }
def GaussFieldCardSaid : Prop := Claim7.holds Tryz.pinned (.plain (OpenSpec.ofChange gaussFieldSpec)) gaussFieldCard

/-- THE TIED CARD OF 'polestarlaw03.GaussParts'. -/
def gaussPartsCard : Claim7 := { stood := { row := gaussPartsRow, standIns := [], harness := (true, "0534986b5baa2b165cf69ee841878965dadd4dc19b58214b8d796009d6b977ea"), looks := true }, kinds := [], alts := [], laidByText := true, laidKinds := [.data, .data, .data], laidTests := true, laidLooks := .later }
def GaussPartsCardSaid : Prop := Claim7.holds Tryz.pinned (.plain (OpenSpec.ofChange gaussPartsSpec)) gaussPartsCard

/-- THE TIED CARD OF 'polestarlaw03.GaussNorms'. -/
def gaussNormsCard : Claim7 := { stood := { row := gaussNormsRow, standIns := [], harness := (true, "0534986b5baa2b165cf69ee841878965dadd4dc19b58214b8d796009d6b977ea"), looks := true }, kinds := [], alts := [], laidByText := true, laidKinds := [.data, .data, .data], laidTests := true, laidLooks := .later }
def GaussNormsCardSaid : Prop := Claim7.holds Tryz.pinned (.plain (OpenSpec.ofChange gaussNormsSpec)) gaussNormsCard

/-- THE TIED CARD OF 'polestarlaw03.GaussCircle'. -/
def gaussCircleCard : Claim7 := { stood := { row := gaussCircleRow, standIns := [], harness := (true, "0534986b5baa2b165cf69ee841878965dadd4dc19b58214b8d796009d6b977ea"), looks := true }, kinds := [], alts := [], laidByText := true, laidKinds := [.data, .data, .data], laidTests := true, laidLooks := .later }
def GaussCircleCardSaid : Prop := Claim7.holds Tryz.pinned (.plain (OpenSpec.ofChange gaussCircleSpec)) gaussCircleCard

/-- THE TIED CARD OF 'polestarlaw03.GaussTexts'. -/
def gaussTextsCard : Claim7 := { stood := { row := gaussTextsRow, standIns := [], harness := (true, "0534986b5baa2b165cf69ee841878965dadd4dc19b58214b8d796009d6b977ea"), looks := true }, kinds := [], alts := [], laidByText := true, laidKinds := [.data, .data, .data, .data, .sentinel, .sentinel, .pinned], laidTests := true, laidLooks := .later }
def GaussTextsCardSaid : Prop := Claim7.holds Tryz.pinned (.plain (OpenSpec.ofChange gaussTextsSpec)) gaussTextsCard

/-- THE TIED CARD OF 'polestarlaw03.GaussSpells'. -/
def gaussSpellsCard : Claim7 := { stood := { row := gaussSpellsRow, standIns := [], harness := (true, "0534986b5baa2b165cf69ee841878965dadd4dc19b58214b8d796009d6b977ea"), looks := true }, kinds := [], alts := [], laidByText := true, laidKinds := [.data, .data, .data, .data, .sentinel, .sentinel, .pinned], laidTests := true, laidLooks := .later }
def GaussSpellsCardSaid : Prop := Claim7.holds Tryz.pinned (.plain (OpenSpec.ofChange gaussSpellsSpec)) gaussSpellsCard

/-- THE SECOND FORM's CARD OF 'polestarlaw03.GaussSmall'. -/
def gaussSmallUptoCard : Claim7 := { stood := { row := gaussSmallUptoRow, standIns := [], harness := (true, "0534986b5baa2b165cf69ee841878965dadd4dc19b58214b8d796009d6b977ea"), looks := true }, kinds := [], alts := [], laidByText := true, laidKinds := [.data, .data, .data], laidTests := true, laidLooks := .later }
def GaussSmallUptoCardSaid : Prop := Claim7.holds Tryz.pinned (.plain (OpenSpec.upto gaussSmallSpec)) gaussSmallUptoCard

/-- THE SECOND FORM's CARD OF 'polestarlaw03.GaussReckons'. -/
def gaussReckonsUptoCard : Claim7 := { stood := { row := gaussReckonsUptoRow, standIns := [], harness := (true, "0534986b5baa2b165cf69ee841878965dadd4dc19b58214b8d796009d6b977ea"), looks := true }, kinds := [], alts := [], laidByText := true, laidKinds := [.data, .data, .data], laidTests := true, laidLooks := .later }
def GaussReckonsUptoCardSaid : Prop := Claim7.holds Tryz.pinned (.plain (OpenSpec.upto gaussReckonsSpec)) gaussReckonsUptoCard

/-- THE SECOND FORM's CARD OF 'polestarlaw03.GaussField'. -/
def gaussFieldUptoCard : Claim7 := { stood := { row := gaussFieldUptoRow, standIns := [], harness := (true, "0534986b5baa2b165cf69ee841878965dadd4dc19b58214b8d796009d6b977ea"), looks := true }, kinds := [], alts := [], laidByText := true, laidKinds := [.data, .data, .data], laidTests := true, laidLooks := .later }
def GaussFieldUptoCardSaid : Prop := Claim7.holds Tryz.pinned (.plain (OpenSpec.upto gaussFieldSpec)) gaussFieldUptoCard

/-- THE SECOND FORM's CARD OF 'polestarlaw03.GaussParts'. -/
def gaussPartsUptoCard : Claim7 := { stood := { row := gaussPartsUptoRow, standIns := [], harness := (true, "0534986b5baa2b165cf69ee841878965dadd4dc19b58214b8d796009d6b977ea"), looks := true }, kinds := [], alts := [], laidByText := true, laidKinds := [.data, .data, .data], laidTests := true, laidLooks := .later }
def GaussPartsUptoCardSaid : Prop := Claim7.holds Tryz.pinned (.plain (OpenSpec.upto gaussPartsSpec)) gaussPartsUptoCard

/-- THE SECOND FORM's CARD OF 'polestarlaw03.GaussNorms'. -/
def gaussNormsUptoCard : Claim7 := { stood := { row := gaussNormsUptoRow, standIns := [], harness := (true, "0534986b5baa2b165cf69ee841878965dadd4dc19b58214b8d796009d6b977ea"), looks := true }, kinds := [], alts := [], laidByText := true, laidKinds := [.data, .data, .data], laidTests := true, laidLooks := .later }
def GaussNormsUptoCardSaid : Prop := Claim7.holds Tryz.pinned (.plain (OpenSpec.upto gaussNormsSpec)) gaussNormsUptoCard

/-- THE SECOND FORM's CARD OF 'polestarlaw03.GaussCircle'. -/
def gaussCircleUptoCard : Claim7 := { stood := { row := gaussCircleUptoRow, standIns := [], harness := (true, "0534986b5baa2b165cf69ee841878965dadd4dc19b58214b8d796009d6b977ea"), looks := true }, kinds := [], alts := [], laidByText := true, laidKinds := [.data, .data, .data], laidTests := true, laidLooks := .later }
def GaussCircleUptoCardSaid : Prop := Claim7.holds Tryz.pinned (.plain (OpenSpec.upto gaussCircleSpec)) gaussCircleUptoCard

/-- THE SECOND FORM's CARD OF 'polestarlaw03.GaussTexts'. -/
def gaussTextsUptoCard : Claim7 := { stood := { row := gaussTextsUptoRow, standIns := [], harness := (true, "0534986b5baa2b165cf69ee841878965dadd4dc19b58214b8d796009d6b977ea"), looks := true }, kinds := [], alts := [], laidByText := true, laidKinds := [.data, .data, .data, .data, .sentinel, .sentinel, .pinned], laidTests := true, laidLooks := .later }
def GaussTextsUptoCardSaid : Prop := Claim7.holds Tryz.pinned (.plain (OpenSpec.upto gaussTextsSpec)) gaussTextsUptoCard

/-- THE SECOND FORM's CARD OF 'polestarlaw03.GaussSpells'. -/
def gaussSpellsUptoCard : Claim7 := { stood := { row := gaussSpellsUptoRow, standIns := [], harness := (true, "0534986b5baa2b165cf69ee841878965dadd4dc19b58214b8d796009d6b977ea"), looks := true }, kinds := [], alts := [], laidByText := true, laidKinds := [.data, .data, .data, .data, .sentinel, .sentinel, .pinned], laidTests := true, laidLooks := .later }
def GaussSpellsUptoCardSaid : Prop := Claim7.holds Tryz.pinned (.plain (OpenSpec.upto gaussSpellsSpec)) gaussSpellsUptoCard
end Rows
end Go.Proofs.YthlehkjcfhnplaaGreatDoor
