/-
  DERIVED. GIVEN WITH THE SEED: THE CARDS: each row of YtbpkmkgnkpeefaaGreatDoorRows.lean that lists a variable, with what it lists TIED to the program's text (the seventh form; the later family's looks); each row that meets fmt, with fmt's text TOLD by the authors' own Lean function (tested against real Go, not proved from fmt's source: count such statements apart). THE CARD IS WHAT COUNTS. Prove the row's statement (the work); the ties are given (YtbpkmkgnkpeefaaGreatDoorTie.lean); close each card by the builder's one call (the guide's Derived/Test/ToyasCard.lean, 'card_holds'). Laid BY PROGRAM, IN A SANDBOX (cutbox-door.mjs). By AI agents, Wed Nov 11 2026. No macro, syntax, notation, axiom, sorry.
-/
import Derived.Test.YtbpkmkgnkpeefaaGreatDoorRows
import GoSem.ClaimSeven
namespace Go.Proofs.YtbpkmkgnkpeefaaGreatDoor
namespace Rows

/-- THE TIED CARD OF 'cellularlaw58.AuditQuads'. -/
def auditQuadsCard : Claim7 := { stood := { row := auditQuadsRow, standIns := [], harness := (true, "6619961ff850741b5521fb5058952414df39fdf20b2be5eb4373b2ced65491cc"), looks := false }, kinds := [], alts := [], laidByText := true, laidKinds := [.data, .data, .data, .widerDeep], laidTests := true, laidLooks := .later }
def AuditQuadsCardSaid : Prop := Claim7.holds Tryz.pinned (.plain (OpenSpec.ofChange auditQuadsSpec)) auditQuadsCard

/-- THE TIED CARD OF 'cellularlaw58.AuditRules'. -/
def auditRulesCard : Claim7 := { stood := { row := auditRulesRow, standIns := [], harness := (true, "6619961ff850741b5521fb5058952414df39fdf20b2be5eb4373b2ced65491cc"), looks := false }, kinds := [], alts := [], laidByText := true, laidKinds := [.data, .data, .data, .widerDeep], laidTests := true, laidLooks := .later }
def AuditRulesCardSaid : Prop := Claim7.holds Tryz.pinned (.plain (OpenSpec.ofChange auditRulesSpec)) auditRulesCard

/-- THE TIED CARD OF 'cellularlaw58.AuditTimelines'. -/
def auditTimelinesCard : Claim7 := { stood := { row := auditTimelinesRow, standIns := [], harness := (true, "6619961ff850741b5521fb5058952414df39fdf20b2be5eb4373b2ced65491cc"), looks := false }, kinds := [], alts := [], laidByText := true, laidKinds := [.data, .data, .data, .widerDeep], laidTests := true, laidLooks := .later }
def AuditTimelinesCardSaid : Prop := Claim7.holds Tryz.pinned (.plain (OpenSpec.ofChange auditTimelinesSpec)) auditTimelinesCard

/-- THE SECOND FORM's CARD OF 'cellularlaw58.AuditQuads'. -/
def auditQuadsUptoCard : Claim7 := { stood := { row := auditQuadsUptoRow, standIns := [], harness := (true, "6619961ff850741b5521fb5058952414df39fdf20b2be5eb4373b2ced65491cc"), looks := false }, kinds := [], alts := [], laidByText := true, laidKinds := [.data, .data, .data, .widerDeep], laidTests := true, laidLooks := .later }
def AuditQuadsUptoCardSaid : Prop := Claim7.holds Tryz.pinned (.plain (OpenSpec.upto auditQuadsSpec)) auditQuadsUptoCard

/-- THE SECOND FORM's CARD OF 'cellularlaw58.AuditRules'. -/
def auditRulesUptoCard : Claim7 := { stood := { row := auditRulesUptoRow, standIns := [], harness := (true, "6619961ff850741b5521fb5058952414df39fdf20b2be5eb4373b2ced65491cc"), looks := false }, kinds := [], alts := [], laidByText := true, laidKinds := [.data, .data, .data, .widerDeep], laidTests := true, laidLooks := .later }
def AuditRulesUptoCardSaid : Prop := Claim7.holds Tryz.pinned (.plain (OpenSpec.upto auditRulesSpec)) auditRulesUptoCard

/-- THE SECOND FORM's CARD OF 'cellularlaw58.AuditTimelines'. -/
def auditTimelinesUptoCard : Claim7 := { stood := { row := auditTimelinesUptoRow, standIns := [], harness := (true, "6619961ff850741b5521fb5058952414df39fdf20b2be5eb4373b2ced65491cc"), looks := false }, kinds := [], alts := [], laidByText := true, laidKinds := [.data, .data, .data, .widerDeep], laidTests := true, laidLooks := .later }
def AuditTimelinesUptoCardSaid : Prop := Claim7.holds Tryz.pinned (.plain (OpenSpec.upto auditTimelinesSpec)) auditTimelinesUptoCard
end Rows
end Go.Proofs.YtbpkmkgnkpeefaaGreatDoor
