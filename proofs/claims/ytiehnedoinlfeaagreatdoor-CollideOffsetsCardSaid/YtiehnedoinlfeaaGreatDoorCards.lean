/-
  DERIVED. GIVEN WITH THE SEED: THE CARDS: each row of YtiehnedoinlfeaaGreatDoorRows.lean that lists a variable, with what it lists TIED to the program's text (the seventh form; the later family's looks); each row that meets fmt, with fmt's text TOLD by the authors' own Lean function (tested against real Go, not proved from fmt's source: count such statements apart). THE CARD IS WHAT COUNTS. Prove the row's statement (the work); the ties are given (YtiehnedoinlfeaaGreatDoorTie.lean); close each card by the builder's one call (the guide's Derived/Test/ToyasCard.lean, 'card_holds'). Laid BY PROGRAM, IN A SANDBOX (cutbox-door.mjs). By AI agents, Wed Nov 11 2026. No macro, syntax, notation, axiom, sorry.
-/
import Derived.Test.YtiehnedoinlfeaaGreatDoorRows
import GoSem.ClaimSeven
namespace Go.Proofs.YtiehnedoinlfeaaGreatDoor
namespace Rows

/-- THE TIED CARD OF 'cellularlaw51.CollideOffsets'. -/
def collideOffsetsCard : Claim7 := { stood := { row := collideOffsetsRow, standIns := [], harness := (true, "cbc8eb0f51b801c452da43ed788c3efbfda546ca332f15b68a1dec8ae99ccdc0"), looks := false }, kinds := [], alts := [], laidByText := true, laidKinds := [.data, .data, .data, .widerDeep], laidTests := true, laidLooks := .later }
def CollideOffsetsCardSaid : Prop := Claim7.holds Tryz.pinned (.plain (OpenSpec.ofChange collideOffsetsSpec)) collideOffsetsCard

/-- THE SECOND FORM's CARD OF 'cellularlaw51.CollideOffsets'. -/
def collideOffsetsUptoCard : Claim7 := { stood := { row := collideOffsetsUptoRow, standIns := [], harness := (true, "cbc8eb0f51b801c452da43ed788c3efbfda546ca332f15b68a1dec8ae99ccdc0"), looks := false }, kinds := [], alts := [], laidByText := true, laidKinds := [.data, .data, .data, .widerDeep], laidTests := true, laidLooks := .later }
def CollideOffsetsUptoCardSaid : Prop := Claim7.holds Tryz.pinned (.plain (OpenSpec.upto collideOffsetsSpec)) collideOffsetsUptoCard
end Rows
end Go.Proofs.YtiehnedoinlfeaaGreatDoor
