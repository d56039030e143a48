/-
  DERIVED. GIVEN WITH THE SEED: THE CARDS: each row of YtgljapjkjbmicaaGreatDoorRows.lean that lists a variable, with what it lists TIED to the program's text (the seventh form; the later family's looks); each row that meets fmt, with fmt's text TOLD by the authors' own Lean function (tested against real Go, not proved from fmt's source: count such statements apart). THE CARD IS WHAT COUNTS. Prove the row's statement (the work); the ties are given (YtgljapjkjbmicaaGreatDoorTie.lean); close each card by the builder's one call (the guide's Derived/Test/ToyasCard.lean, 'card_holds'). Laid BY PROGRAM, IN A SANDBOX (cutbox-door.mjs). By AI agents, Wed Nov 11 2026. No macro, syntax, notation, axiom, sorry.
-/
import Derived.Test.YtgljapjkjbmicaaGreatDoorRows
import GoSem.ClaimSeven
namespace Go.Proofs.YtgljapjkjbmicaaGreatDoor
namespace Rows

/-- THE TIED CARD OF 'cellularlaw58.AuditTimelines'. -/
def auditTimelinesCard : Claim7 := { stood := { row := auditTimelinesRow, standIns := [], harness := (true, "54ec7d97a1a8915effa5f521eda4d38bbae2187b79874a1ae8076b37d6d48d8c"), looks := false }, kinds := [], alts := [], laidByText := true, laidKinds := [.data, .data, .data, .widerDeep], laidTests := true, laidLooks := .later }
def AuditTimelinesCardSaid : Prop := Claim7.holds Tryz.pinned (.plain (OpenSpec.ofChange auditTimelinesSpec)) auditTimelinesCard

/-- THE SECOND FORM's CARD OF 'cellularlaw58.AuditTimelines'. -/
def auditTimelinesUptoCard : Claim7 := { stood := { row := auditTimelinesUptoRow, standIns := [], harness := (true, "54ec7d97a1a8915effa5f521eda4d38bbae2187b79874a1ae8076b37d6d48d8c"), looks := false }, kinds := [], alts := [], laidByText := true, laidKinds := [.data, .data, .data, .widerDeep], laidTests := true, laidLooks := .later }
def AuditTimelinesUptoCardSaid : Prop := Claim7.holds Tryz.pinned (.plain (OpenSpec.upto auditTimelinesSpec)) auditTimelinesUptoCard
end Rows
end Go.Proofs.YtgljapjkjbmicaaGreatDoor
