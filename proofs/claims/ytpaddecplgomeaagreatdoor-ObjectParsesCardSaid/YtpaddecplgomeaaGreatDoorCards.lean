/-
  DERIVED. GIVEN WITH THE SEED: THE CARDS: each row of YtpaddecplgomeaaGreatDoorRows.lean that lists a variable, with what it lists TIED to the program's text (the seventh form; the later family's looks); each row that meets fmt, with fmt's text TOLD by the authors' own Lean function (tested against real Go, not proved from fmt's source: count such statements apart). THE CARD IS WHAT COUNTS. Prove the row's statement (the work); the ties are given (YtpaddecplgomeaaGreatDoorTie.lean); close each card by the builder's one call (the guide's Derived/Test/ToyasCard.lean, 'card_holds'). Laid BY PROGRAM, IN A SANDBOX (cutbox-door.mjs). By AI agents, Wed Nov 11 2026. No macro, syntax, notation, axiom, sorry.
-/
import Derived.Test.YtpaddecplgomeaaGreatDoorRows
import GoSem.ClaimSeven
namespace Go.Proofs.YtpaddecplgomeaaGreatDoor
namespace Rows

/-- THE TIED CARD OF 'cellularlaw35.ObjectOf'. -/
def objectOfCard : Claim7 := { stood := { row := objectOfRow, standIns := [], harness := (true, "996bfb6380a12e11a973e2af814bc3a377c61a04a10986a7d2f6e38183645053"), looks := true }, kinds := [], alts := [], laidByText := true, laidKinds := [.data, .data, .data, .data, .widerDeep, .sentinel, .sentinel, .pinned], laidTests := true, laidLooks := .later }
def ObjectOfCardSaid : Prop := Claim7.holds Tryz.pinned (.plain (OpenSpec.ofChange objectOfSpec)) objectOfCard

/-- THE TIED CARD OF 'cellularlaw35.ObjectIdentity'. -/
def objectIdentityCard : Claim7 := { stood := { row := objectIdentityRow, standIns := [], harness := (true, "996bfb6380a12e11a973e2af814bc3a377c61a04a10986a7d2f6e38183645053"), looks := true }, kinds := [], alts := [], laidByText := true, laidKinds := [.data, .data, .data, .data, .widerDeep, .sentinel, .sentinel, .pinned], laidTests := true, laidLooks := .later }
def ObjectIdentityCardSaid : Prop := Claim7.holds Tryz.pinned (.plain (OpenSpec.ofChange objectIdentitySpec)) objectIdentityCard

/-- THE TIED CARD OF 'cellularlaw35.ObjectTexts'. -/
def objectTextsCard : Claim7 := { stood := { row := objectTextsRow, standIns := [], harness := (true, "996bfb6380a12e11a973e2af814bc3a377c61a04a10986a7d2f6e38183645053"), looks := true }, kinds := [], alts := [], laidByText := true, laidKinds := [.data, .data, .data, .data, .widerDeep, .sentinel, .sentinel, .pinned], laidTests := true, laidLooks := .later }
def ObjectTextsCardSaid : Prop := Claim7.holds Tryz.pinned (.plain (OpenSpec.ofChange objectTextsSpec)) objectTextsCard

/-- THE TIED CARD OF 'cellularlaw35.ObjectParses'. -/
def objectParsesCard : Claim7 := { stood := { row := objectParsesRow, standIns := [], harness := (true, "996bfb6380a12e11a973e2af814bc3a377c61a04a10986a7d2f6e38183645053"), looks := true }, kinds := [], alts := [], laidByText := true, laidKinds := [.data, .data, .data, .data, .widerDeep, .sentinel, .sentinel, .pinned], laidTests := true, laidLooks := .later }
def ObjectParsesCardSaid : Prop := Claim7.holds Tryz.pinned (.plain (OpenSpec.ofChange objectParsesSpec)) objectParsesCard

/-- THE TIED CARD OF 'cellularlaw35.ObjectRight'. -/
def objectRightCard : Claim7 := { stood := { row := objectRightRow, standIns := [], harness := (true, "996bfb6380a12e11a973e2af814bc3a377c61a04a10986a7d2f6e38183645053"), looks := true }, kinds := [], alts := [], laidByText := true, laidKinds := [.data, .data, .data, .data, .widerDeep, .sentinel, .sentinel, .pinned], laidTests := true, laidLooks := .later }
def ObjectRightCardSaid : Prop := Claim7.holds Tryz.pinned (.plain (OpenSpec.ofChange objectRightSpec)) objectRightCard

/-- THE SECOND FORM's CARD OF 'cellularlaw35.ObjectOf'. -/
def objectOfUptoCard : Claim7 := { stood := { row := objectOfUptoRow, standIns := [], harness := (true, "996bfb6380a12e11a973e2af814bc3a377c61a04a10986a7d2f6e38183645053"), looks := true }, kinds := [], alts := [], laidByText := true, laidKinds := [.data, .data, .data, .data, .widerDeep, .sentinel, .sentinel, .pinned], laidTests := true, laidLooks := .later }
def ObjectOfUptoCardSaid : Prop := Claim7.holds Tryz.pinned (.plain (OpenSpec.upto objectOfSpec)) objectOfUptoCard

/-- THE SECOND FORM's CARD OF 'cellularlaw35.ObjectIdentity'. -/
def objectIdentityUptoCard : Claim7 := { stood := { row := objectIdentityUptoRow, standIns := [], harness := (true, "996bfb6380a12e11a973e2af814bc3a377c61a04a10986a7d2f6e38183645053"), looks := true }, kinds := [], alts := [], laidByText := true, laidKinds := [.data, .data, .data, .data, .widerDeep, .sentinel, .sentinel, .pinned], laidTests := true, laidLooks := .later }
def ObjectIdentityUptoCardSaid : Prop := Claim7.holds Tryz.pinned (.plain (OpenSpec.upto objectIdentitySpec)) objectIdentityUptoCard

/-- THE SECOND FORM's CARD OF 'cellularlaw35.ObjectTexts'. -/
def objectTextsUptoCard : Claim7 := { stood := { row := objectTextsUptoRow, standIns := [], harness := (true, "996bfb6380a12e11a973e2af814bc3a377c61a04a10986a7d2f6e38183645053"), looks := true }, kinds := [], alts := [], laidByText := true, laidKinds := [.data, .data, .data, .data, .widerDeep, .sentinel, .sentinel, .pinned], laidTests := true, laidLooks := .later }
def ObjectTextsUptoCardSaid : Prop := Claim7.holds Tryz.pinned (.plain (OpenSpec.upto objectTextsSpec)) objectTextsUptoCard

/-- THE SECOND FORM's CARD OF 'cellularlaw35.ObjectParses'. -/
def objectParsesUptoCard : Claim7 := { stood := { row := objectParsesUptoRow, standIns := [], harness := (true, "996bfb6380a12e11a973e2af814bc3a377c61a04a10986a7d2f6e38183645053"), looks := true }, kinds := [], alts := [], laidByText := true, laidKinds := [.data, .data, .data, .data, .widerDeep, .sentinel, .sentinel, .pinned], laidTests := true, laidLooks := .later }
def ObjectParsesUptoCardSaid : Prop := Claim7.holds Tryz.pinned (.plain (OpenSpec.upto objectParsesSpec)) objectParsesUptoCard

/-- THE SECOND FORM's CARD OF 'cellularlaw35.ObjectRight'. -/
def objectRightUptoCard : Claim7 := { stood := { row := objectRightUptoRow, standIns := [], harness := (true, "996bfb6380a12e11a973e2af814bc3a377c61a04a10986a7d2f6e38183645053"), looks := true }, kinds := [], alts := [], laidByText := true, laidKinds := [.data, .data, .data, .data, .widerDeep, .sentinel, .sentinel, .pinned], laidTests := true, laidLooks := .later }
def ObjectRightUptoCardSaid : Prop := Claim7.holds Tryz.pinned (.plain (OpenSpec.upto objectRightSpec)) objectRightUptoCard
end Rows
end Go.Proofs.YtpaddecplgomeaaGreatDoor
