/-
  DERIVED. GIVEN WITH THE SEED: THE CARDS: each row of YtfllcbohggcmfaaGreatDoorRows.lean that lists a variable, with what it lists TIED to the program's text (the seventh form; the later family's looks); each row that meets fmt, with fmt's text TOLD by the authors' own Lean function (tested against real Go, not proved from fmt's source: count such statements apart). THE CARD IS WHAT COUNTS. Prove the row's statement (the work); the ties are given (YtfllcbohggcmfaaGreatDoorTie.lean); close each card by the builder's one call (the guide's Derived/Test/ToyasCard.lean, 'card_holds'). Laid BY PROGRAM, IN A SANDBOX (cutbox-door.mjs). By AI agents, Wed Nov 11 2026. No macro, syntax, notation, axiom, sorry.
-/
import Derived.Test.YtfllcbohggcmfaaGreatDoorRows
import GoSem.ClaimSeven
namespace Go.Proofs.YtfllcbohggcmfaaGreatDoor
namespace Rows

/-- THE TIED CARD OF 'cellularlaw32.CoordsParses'. -/
def coordsParsesCard : Claim7 := { stood := { row := coordsParsesRow, standIns := [], harness := (true, "febfebed711448d57d16bbe97803c1ca1e3f4738db35c539d550df317552c3d4"), looks := true }, kinds := [], alts := [], laidByText := true, laidKinds := [.data, .data, .data, .data, .sentinel, .sentinel, .pinned], laidTests := true, laidLooks := .later }
def CoordsParsesCardSaid : Prop := Claim7.holds Tryz.pinned (.plain (OpenSpec.ofChange coordsParsesSpec)) coordsParsesCard

/-- THE TIED CARD OF 'cellularlaw32.CoordsLong'. -/
def coordsLongCard : Claim7 := { stood := { row := coordsLongRow, standIns := [], harness := (true, "febfebed711448d57d16bbe97803c1ca1e3f4738db35c539d550df317552c3d4"), looks := true }, kinds := [], alts := [], laidByText := true, laidKinds := [.data, .data, .data, .data, .sentinel, .sentinel, .pinned], laidTests := true, laidLooks := .later }
def CoordsLongCardSaid : Prop := Claim7.holds Tryz.pinned (.plain (OpenSpec.ofChange coordsLongSpec)) coordsLongCard

/-- THE TIED CARD OF 'cellularlaw32.CoordsTexts'. -/
def coordsTextsCard : Claim7 := { stood := { row := coordsTextsRow, standIns := [], harness := (true, "febfebed711448d57d16bbe97803c1ca1e3f4738db35c539d550df317552c3d4"), looks := true }, kinds := [], alts := [], laidByText := true, laidKinds := [.data, .data, .data, .data, .sentinel, .sentinel, .pinned], laidTests := true, laidLooks := .later }
def CoordsTextsCardSaid : Prop := Claim7.holds Tryz.pinned (.plain (OpenSpec.ofChange coordsTextsSpec)) coordsTextsCard

/-- THE TIED CARD OF 'cellularlaw32.CoordsAccepts'. -/
def coordsAcceptsCard : Claim7 := { stood := { row := coordsAcceptsRow, standIns := [], harness := (true, "febfebed711448d57d16bbe97803c1ca1e3f4738db35c539d550df317552c3d4"), looks := true }, kinds := [], alts := [], laidByText := true, laidKinds := [.data, .data, .data, .data, .sentinel, .sentinel, .pinned], laidTests := true, laidLooks := .later }
def CoordsAcceptsCardSaid : Prop := Claim7.holds Tryz.pinned (.plain (OpenSpec.ofChange coordsAcceptsSpec)) coordsAcceptsCard

/-- THE TIED CARD OF 'cellularlaw32.CoordsOrders'. -/
def coordsOrdersCard : Claim7 := { stood := { row := coordsOrdersRow, standIns := [], harness := (true, "febfebed711448d57d16bbe97803c1ca1e3f4738db35c539d550df317552c3d4"), looks := true }, kinds := [], alts := [], laidByText := true, laidKinds := [.data, .data, .data, .data, .sentinel, .sentinel, .pinned], laidTests := true, laidLooks := .later }
def CoordsOrdersCardSaid : Prop := Claim7.holds Tryz.pinned (.plain (OpenSpec.ofChange coordsOrdersSpec)) coordsOrdersCard

/-- THE TIED CARD OF 'cellularlaw32.CoordsKinds'. -/
def coordsKindsCard : Claim7 := { stood := { row := coordsKindsRow, standIns := [], harness := (true, "febfebed711448d57d16bbe97803c1ca1e3f4738db35c539d550df317552c3d4"), looks := true }, kinds := [], alts := [], laidByText := true, laidKinds := [.data, .data, .data, .data, .sentinel, .sentinel, .pinned], laidTests := true, laidLooks := .later }
def CoordsKindsCardSaid : Prop := Claim7.holds Tryz.pinned (.plain (OpenSpec.ofChange coordsKindsSpec)) coordsKindsCard

/-- THE SECOND FORM's CARD OF 'cellularlaw32.CoordsParses'. -/
def coordsParsesUptoCard : Claim7 := { stood := { row := coordsParsesUptoRow, standIns := [], harness := (true, "febfebed711448d57d16bbe97803c1ca1e3f4738db35c539d550df317552c3d4"), looks := true }, kinds := [], alts := [], laidByText := true, laidKinds := [.data, .data, .data, .data, .sentinel, .sentinel, .pinned], laidTests := true, laidLooks := .later }
def CoordsParsesUptoCardSaid : Prop := Claim7.holds Tryz.pinned (.plain (OpenSpec.upto coordsParsesSpec)) coordsParsesUptoCard

/-- THE SECOND FORM's CARD OF 'cellularlaw32.CoordsLong'. -/
def coordsLongUptoCard : Claim7 := { stood := { row := coordsLongUptoRow, standIns := [], harness := (true, "febfebed711448d57d16bbe97803c1ca1e3f4738db35c539d550df317552c3d4"), looks := true }, kinds := [], alts := [], laidByText := true, laidKinds := [.data, .data, .data, .data, .sentinel, .sentinel, .pinned], laidTests := true, laidLooks := .later }
def CoordsLongUptoCardSaid : Prop := Claim7.holds Tryz.pinned (.plain (OpenSpec.upto coordsLongSpec)) coordsLongUptoCard

/-- THE SECOND FORM's CARD OF 'cellularlaw32.CoordsTexts'. -/
def coordsTextsUptoCard : Claim7 := { stood := { row := coordsTextsUptoRow, standIns := [], harness := (true, "febfebed711448d57d16bbe97803c1ca1e3f4738db35c539d550df317552c3d4"), looks := true }, kinds := [], alts := [], laidByText := true, laidKinds := [.data, .data, .data, .data, .sentinel, .sentinel, .pinned], laidTests := true, laidLooks := .later }
def CoordsTextsUptoCardSaid : Prop := Claim7.holds Tryz.pinned (.plain (OpenSpec.upto coordsTextsSpec)) coordsTextsUptoCard

/-- THE SECOND FORM's CARD OF 'cellularlaw32.CoordsAccepts'. -/
def coordsAcceptsUptoCard : Claim7 := { stood := { row := coordsAcceptsUptoRow, standIns := [], harness := (true, "febfebed711448d57d16bbe97803c1ca1e3f4738db35c539d550df317552c3d4"), looks := true }, kinds := [], alts := [], laidByText := true, laidKinds := [.data, .data, .data, .data, .sentinel, .sentinel, .pinned], laidTests := true, laidLooks := .later }
def CoordsAcceptsUptoCardSaid : Prop := Claim7.holds Tryz.pinned (.plain (OpenSpec.upto coordsAcceptsSpec)) coordsAcceptsUptoCard

/-- THE SECOND FORM's CARD OF 'cellularlaw32.CoordsOrders'. -/
def coordsOrdersUptoCard : Claim7 := { stood := { row := coordsOrdersUptoRow, standIns := [], harness := (true, "febfebed711448d57d16bbe97803c1ca1e3f4738db35c539d550df317552c3d4"), looks := true }, kinds := [], alts := [], laidByText := true, laidKinds := [.data, .data, .data, .data, .sentinel, .sentinel, .pinned], laidTests := true, laidLooks := .later }
def CoordsOrdersUptoCardSaid : Prop := Claim7.holds Tryz.pinned (.plain (OpenSpec.upto coordsOrdersSpec)) coordsOrdersUptoCard

/-- THE SECOND FORM's CARD OF 'cellularlaw32.CoordsKinds'. -/
def coordsKindsUptoCard : Claim7 := { stood := { row := coordsKindsUptoRow, standIns := [], harness := (true, "febfebed711448d57d16bbe97803c1ca1e3f4738db35c539d550df317552c3d4"), looks := true }, kinds := [], alts := [], laidByText := true, laidKinds := [.data, .data, .data, .data, .sentinel, .sentinel, .pinned], laidTests := true, laidLooks := .later }
def CoordsKindsUptoCardSaid : Prop := Claim7.holds Tryz.pinned (.plain (OpenSpec.upto coordsKindsSpec)) coordsKindsUptoCard
end Rows
end Go.Proofs.YtfllcbohggcmfaaGreatDoor
