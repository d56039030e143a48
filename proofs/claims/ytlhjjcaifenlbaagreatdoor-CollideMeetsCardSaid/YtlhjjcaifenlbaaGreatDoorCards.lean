/-
  DERIVED. GIVEN WITH THE SEED: THE CARDS: each row of YtlhjjcaifenlbaaGreatDoorRows.lean that lists a variable, with what it lists TIED to the program's text (the seventh form; the later family's looks); each row that meets fmt, with fmt's text TOLD by the authors' own Lean function (tested against real Go, not proved from fmt's source: count such statements apart). THE CARD IS WHAT COUNTS. Prove the row's statement (the work); the ties are given (YtlhjjcaifenlbaaGreatDoorTie.lean); close each card by the builder's one call (the guide's Derived/Test/ToyasCard.lean, 'card_holds'). Laid BY PROGRAM, IN A SANDBOX (cutbox-door.mjs). By AI agents, Wed Nov 11 2026. No macro, syntax, notation, axiom, sorry.
-/
import Derived.Test.YtlhjjcaifenlbaaGreatDoorRows
import GoSem.ClaimSeven
namespace Go.Proofs.YtlhjjcaifenlbaaGreatDoor
namespace Rows

/-- THE TIED CARD OF 'cellularlaw52.RecipeChecks'. -/
def recipeChecksCard : Claim7 := { stood := { row := recipeChecksRow, standIns := [], harness := (true, "a0d120ab5a0a97af189823172ea92309c9632fcc077b1692c4a7b05bc555aa30"), looks := false }, kinds := [], alts := [], laidByText := true, laidKinds := [.data, .data, .data, .widerDeep], laidTests := true, laidLooks := .later }
def RecipeChecksCardSaid : Prop := Claim7.holds Tryz.pinned (.plain (OpenSpec.ofChange recipeChecksSpec)) recipeChecksCard

/-- THE TIED CARD OF 'cellularlaw52.RecipeBoth'. -/
def recipeBothCard : Claim7 := { stood := { row := recipeBothRow, standIns := [], harness := (true, "a0d120ab5a0a97af189823172ea92309c9632fcc077b1692c4a7b05bc555aa30"), looks := false }, kinds := [], alts := [], laidByText := true, laidKinds := [.data, .data, .data, .widerDeep], laidTests := true, laidLooks := .later }
def RecipeBothCardSaid : Prop := Claim7.holds Tryz.pinned (.plain (OpenSpec.ofChange recipeBothSpec)) recipeBothCard

/-- THE TIED CARD OF 'cellularlaw51.CollideMeets'. -/
def collideMeetsCard : Claim7 := { stood := { row := collideMeetsRow, standIns := [], harness := (true, "a0d120ab5a0a97af189823172ea92309c9632fcc077b1692c4a7b05bc555aa30"), looks := false }, kinds := [], alts := [], laidByText := true, laidKinds := [.data, .data, .data, .widerDeep], laidTests := true, laidLooks := .later }
def CollideMeetsCardSaid : Prop := Claim7.holds Tryz.pinned (.plain (OpenSpec.ofChange collideMeetsSpec)) collideMeetsCard

/-- THE TIED CARD OF 'cellularlaw51.CollideResults'. -/
def collideResultsCard : Claim7 := { stood := { row := collideResultsRow, standIns := [], harness := (true, "a0d120ab5a0a97af189823172ea92309c9632fcc077b1692c4a7b05bc555aa30"), looks := false }, kinds := [], alts := [], laidByText := true, laidKinds := [.data, .data, .data, .widerDeep], laidTests := true, laidLooks := .later }
def CollideResultsCardSaid : Prop := Claim7.holds Tryz.pinned (.plain (OpenSpec.ofChange collideResultsSpec)) collideResultsCard

/-- THE TIED CARD OF 'cellularlaw51.CollideOffsets'. -/
def collideOffsetsCard : Claim7 := { stood := { row := collideOffsetsRow, standIns := [], harness := (true, "a0d120ab5a0a97af189823172ea92309c9632fcc077b1692c4a7b05bc555aa30"), looks := false }, kinds := [], alts := [], laidByText := true, laidKinds := [.data, .data, .data, .widerDeep], laidTests := true, laidLooks := .later }
def CollideOffsetsCardSaid : Prop := Claim7.holds Tryz.pinned (.plain (OpenSpec.ofChange collideOffsetsSpec)) collideOffsetsCard

/-- THE TIED CARD OF 'cellularlaw51.CollideAlone'. -/
def collideAloneCard : Claim7 := { stood := { row := collideAloneRow, standIns := [], harness := (true, "a0d120ab5a0a97af189823172ea92309c9632fcc077b1692c4a7b05bc555aa30"), looks := false }, kinds := [], alts := [], laidByText := true, laidKinds := [.data, .data, .data, .widerDeep], laidTests := true, laidLooks := .later }
def CollideAloneCardSaid : Prop := Claim7.holds Tryz.pinned (.plain (OpenSpec.ofChange collideAloneSpec)) collideAloneCard

/-- THE TIED CARD OF 'cellularlaw51.CollideOrders'. -/
def collideOrdersCard : Claim7 := { stood := { row := collideOrdersRow, standIns := [], harness := (true, "a0d120ab5a0a97af189823172ea92309c9632fcc077b1692c4a7b05bc555aa30"), looks := false }, kinds := [], alts := [], laidByText := true, laidKinds := [.data, .data, .data, .widerDeep], laidTests := true, laidLooks := .later }
def CollideOrdersCardSaid : Prop := Claim7.holds Tryz.pinned (.plain (OpenSpec.ofChange collideOrdersSpec)) collideOrdersCard

/-- THE SECOND FORM's CARD OF 'cellularlaw52.RecipeChecks'. -/
def recipeChecksUptoCard : Claim7 := { stood := { row := recipeChecksUptoRow, standIns := [], harness := (true, "a0d120ab5a0a97af189823172ea92309c9632fcc077b1692c4a7b05bc555aa30"), looks := false }, kinds := [], alts := [], laidByText := true, laidKinds := [.data, .data, .data, .widerDeep], laidTests := true, laidLooks := .later }
def RecipeChecksUptoCardSaid : Prop := Claim7.holds Tryz.pinned (.plain (OpenSpec.upto recipeChecksSpec)) recipeChecksUptoCard

/-- THE SECOND FORM's CARD OF 'cellularlaw52.RecipeBoth'. -/
def recipeBothUptoCard : Claim7 := { stood := { row := recipeBothUptoRow, standIns := [], harness := (true, "a0d120ab5a0a97af189823172ea92309c9632fcc077b1692c4a7b05bc555aa30"), looks := false }, kinds := [], alts := [], laidByText := true, laidKinds := [.data, .data, .data, .widerDeep], laidTests := true, laidLooks := .later }
def RecipeBothUptoCardSaid : Prop := Claim7.holds Tryz.pinned (.plain (OpenSpec.upto recipeBothSpec)) recipeBothUptoCard

/-- THE SECOND FORM's CARD OF 'cellularlaw51.CollideMeets'. -/
def collideMeetsUptoCard : Claim7 := { stood := { row := collideMeetsUptoRow, standIns := [], harness := (true, "a0d120ab5a0a97af189823172ea92309c9632fcc077b1692c4a7b05bc555aa30"), looks := false }, kinds := [], alts := [], laidByText := true, laidKinds := [.data, .data, .data, .widerDeep], laidTests := true, laidLooks := .later }
def CollideMeetsUptoCardSaid : Prop := Claim7.holds Tryz.pinned (.plain (OpenSpec.upto collideMeetsSpec)) collideMeetsUptoCard

/-- THE SECOND FORM's CARD OF 'cellularlaw51.CollideResults'. -/
def collideResultsUptoCard : Claim7 := { stood := { row := collideResultsUptoRow, standIns := [], harness := (true, "a0d120ab5a0a97af189823172ea92309c9632fcc077b1692c4a7b05bc555aa30"), looks := false }, kinds := [], alts := [], laidByText := true, laidKinds := [.data, .data, .data, .widerDeep], laidTests := true, laidLooks := .later }
def CollideResultsUptoCardSaid : Prop := Claim7.holds Tryz.pinned (.plain (OpenSpec.upto collideResultsSpec)) collideResultsUptoCard

/-- THE SECOND FORM's CARD OF 'cellularlaw51.CollideOffsets'. -/
def collideOffsetsUptoCard : Claim7 := { stood := { row := collideOffsetsUptoRow, standIns := [], harness := (true, "a0d120ab5a0a97af189823172ea92309c9632fcc077b1692c4a7b05bc555aa30"), looks := false }, kinds := [], alts := [], laidByText := true, laidKinds := [.data, .data, .data, .widerDeep], laidTests := true, laidLooks := .later }
def CollideOffsetsUptoCardSaid : Prop := Claim7.holds Tryz.pinned (.plain (OpenSpec.upto collideOffsetsSpec)) collideOffsetsUptoCard

/-- THE SECOND FORM's CARD OF 'cellularlaw51.CollideAlone'. -/
def collideAloneUptoCard : Claim7 := { stood := { row := collideAloneUptoRow, standIns := [], harness := (true, "a0d120ab5a0a97af189823172ea92309c9632fcc077b1692c4a7b05bc555aa30"), looks := false }, kinds := [], alts := [], laidByText := true, laidKinds := [.data, .data, .data, .widerDeep], laidTests := true, laidLooks := .later }
def CollideAloneUptoCardSaid : Prop := Claim7.holds Tryz.pinned (.plain (OpenSpec.upto collideAloneSpec)) collideAloneUptoCard

/-- THE SECOND FORM's CARD OF 'cellularlaw51.CollideOrders'. -/
def collideOrdersUptoCard : Claim7 := { stood := { row := collideOrdersUptoRow, standIns := [], harness := (true, "a0d120ab5a0a97af189823172ea92309c9632fcc077b1692c4a7b05bc555aa30"), looks := false }, kinds := [], alts := [], laidByText := true, laidKinds := [.data, .data, .data, .widerDeep], laidTests := true, laidLooks := .later }
def CollideOrdersUptoCardSaid : Prop := Claim7.holds Tryz.pinned (.plain (OpenSpec.upto collideOrdersSpec)) collideOrdersUptoCard
end Rows
end Go.Proofs.YtlhjjcaifenlbaaGreatDoor
