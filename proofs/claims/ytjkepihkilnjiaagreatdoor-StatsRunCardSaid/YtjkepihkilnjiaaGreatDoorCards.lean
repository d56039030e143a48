/-
  DERIVED. GIVEN WITH THE SEED: THE CARDS: each row of YtjkepihkilnjiaaGreatDoorRows.lean that lists a variable, with what it lists TIED to the program's text (the seventh form; the later family's looks); each row that meets fmt, with fmt's text TOLD by the authors' own Lean function (tested against real Go, not proved from fmt's source: count such statements apart). THE CARD IS WHAT COUNTS. Prove the row's statement (the work); the ties are given (YtjkepihkilnjiaaGreatDoorTie.lean); close each card by the builder's one call (the guide's Derived/Test/ToyasCard.lean, 'card_holds'). Laid BY PROGRAM, IN A SANDBOX (cutbox-door.mjs). By AI agents, Wed Nov 11 2026. No macro, syntax, notation, axiom, sorry.
-/
import Derived.Test.YtjkepihkilnjiaaGreatDoorRows
import GoSem.ClaimSeven
namespace Go.Proofs.YtjkepihkilnjiaaGreatDoor
namespace Rows

/-- THE TIED CARD OF 'cellularlaw39.StatsRun'. -/
def statsRunCard : Claim7 := { stood := { row := statsRunRow, standIns := [], harness := (true, "cf5391e8af02728e44ff80dab0b948af114d28708d334e69e7a8b999dfa44862"), looks := false }, kinds := [], alts := [], laidByText := true, laidKinds := [.data, .data, .data], laidTests := true, laidLooks := .later }
def StatsRunCardSaid : Prop := Claim7.holds Tryz.pinned (.plain (OpenSpec.ofChange statsRunSpec)) statsRunCard

/-- THE SECOND FORM's CARD OF 'cellularlaw39.StatsRun'. -/
def statsRunUptoCard : Claim7 := { stood := { row := statsRunUptoRow, standIns := [], harness := (true, "cf5391e8af02728e44ff80dab0b948af114d28708d334e69e7a8b999dfa44862"), looks := false }, kinds := [], alts := [], laidByText := true, laidKinds := [.data, .data, .data], laidTests := true, laidLooks := .later }
def StatsRunUptoCardSaid : Prop := Claim7.holds Tryz.pinned (.plain (OpenSpec.upto statsRunSpec)) statsRunUptoCard
end Rows
end Go.Proofs.YtjkepihkilnjiaaGreatDoor
