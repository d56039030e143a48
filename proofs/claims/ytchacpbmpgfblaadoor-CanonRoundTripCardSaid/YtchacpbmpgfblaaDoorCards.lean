/-
  DERIVED. GIVEN WITH THE SEED: THE CARDS: each row of YtchacpbmpgfblaaDoorRows.lean that lists a variable, with what it lists TIED to the program's text (the seventh form; the later family's looks); each row that meets fmt, with fmt's text TOLD by the authors' own Lean function (tested against real Go, not proved from fmt's source: count such statements apart). THE CARD IS WHAT COUNTS. Prove the row's statement (the work); the ties are given (YtchacpbmpgfblaaDoorTie.lean); close each card by the builder's one call (the guide's Derived/Test/ToyasCard.lean, 'card_holds'). Laid BY PROGRAM, IN A SANDBOX (cutbox-door.mjs). By AI agents, Wed Nov 11 2026. No macro, syntax, notation, axiom, sorry.
-/
import Derived.Test.YtchacpbmpgfblaaDoorRows
import GoSem.ClaimSeven
namespace Go.Proofs.YtchacpbmpgfblaaDoor
namespace Rows

/-- THE TIED CARD OF 'cellularlaw33.CanonCodes'. -/
def canonCodesCard : Claim7 := { stood := { row := canonCodesRow, standIns := [], harness := (true, "d6ebebd559ab9fde7be6d5941ab145727736c480c5f7f2566ec5c435eac5bf0f"), looks := false }, kinds := [], alts := [], laidByText := true, laidKinds := [.data, .data, .data, .widerDeep], laidTests := true, laidLooks := .later }
def CanonCodesCardSaid : Prop := Claim7.holds Tryd.pinned (.plain (OpenSpec.ofChange canonCodesSpec)) canonCodesCard

/-- THE TIED CARD OF 'cellularlaw33.CanonOneForm'. -/
def canonOneFormCard : Claim7 := { stood := { row := canonOneFormRow, standIns := [], harness := (true, "d6ebebd559ab9fde7be6d5941ab145727736c480c5f7f2566ec5c435eac5bf0f"), looks := false }, kinds := [], alts := [], laidByText := true, laidKinds := [.data, .data, .data, .widerDeep], laidTests := true, laidLooks := .later }
def CanonOneFormCardSaid : Prop := Claim7.holds Tryd.pinned (.plain (OpenSpec.ofChange canonOneFormSpec)) canonOneFormCard

/-- THE TIED CARD OF 'cellularlaw33.CanonRoundTrip'. -/
def canonRoundTripCard : Claim7 := { stood := { row := canonRoundTripRow, standIns := [], harness := (true, "d6ebebd559ab9fde7be6d5941ab145727736c480c5f7f2566ec5c435eac5bf0f"), looks := false }, kinds := [], alts := [], laidByText := true, laidKinds := [.data, .data, .data, .widerDeep], laidTests := true, laidLooks := .later }
def CanonRoundTripCardSaid : Prop := Claim7.holds Tryd.pinned (.plain (OpenSpec.ofChange canonRoundTripSpec)) canonRoundTripCard

/-- THE TIED CARD OF 'cellularlaw33.CanonGroups'. -/
def canonGroupsCard : Claim7 := { stood := { row := canonGroupsRow, standIns := [], harness := (true, "d6ebebd559ab9fde7be6d5941ab145727736c480c5f7f2566ec5c435eac5bf0f"), looks := false }, kinds := [], alts := [], laidByText := true, laidKinds := [.data, .data, .data, .widerDeep], laidTests := true, laidLooks := .later }
def CanonGroupsCardSaid : Prop := Claim7.holds Tryd.pinned (.plain (OpenSpec.ofChange canonGroupsSpec)) canonGroupsCard

/-- THE SECOND FORM's CARD OF 'cellularlaw33.CanonCodes'. -/
def canonCodesUptoCard : Claim7 := { stood := { row := canonCodesUptoRow, standIns := [], harness := (true, "d6ebebd559ab9fde7be6d5941ab145727736c480c5f7f2566ec5c435eac5bf0f"), looks := false }, kinds := [], alts := [], laidByText := true, laidKinds := [.data, .data, .data, .widerDeep], laidTests := true, laidLooks := .later }
def CanonCodesUptoCardSaid : Prop := Claim7.holds Tryd.pinned (.plain (OpenSpec.upto canonCodesSpec)) canonCodesUptoCard

/-- THE SECOND FORM's CARD OF 'cellularlaw33.CanonOneForm'. -/
def canonOneFormUptoCard : Claim7 := { stood := { row := canonOneFormUptoRow, standIns := [], harness := (true, "d6ebebd559ab9fde7be6d5941ab145727736c480c5f7f2566ec5c435eac5bf0f"), looks := false }, kinds := [], alts := [], laidByText := true, laidKinds := [.data, .data, .data, .widerDeep], laidTests := true, laidLooks := .later }
def CanonOneFormUptoCardSaid : Prop := Claim7.holds Tryd.pinned (.plain (OpenSpec.upto canonOneFormSpec)) canonOneFormUptoCard

/-- THE SECOND FORM's CARD OF 'cellularlaw33.CanonRoundTrip'. -/
def canonRoundTripUptoCard : Claim7 := { stood := { row := canonRoundTripUptoRow, standIns := [], harness := (true, "d6ebebd559ab9fde7be6d5941ab145727736c480c5f7f2566ec5c435eac5bf0f"), looks := false }, kinds := [], alts := [], laidByText := true, laidKinds := [.data, .data, .data, .widerDeep], laidTests := true, laidLooks := .later }
def CanonRoundTripUptoCardSaid : Prop := Claim7.holds Tryd.pinned (.plain (OpenSpec.upto canonRoundTripSpec)) canonRoundTripUptoCard

/-- THE SECOND FORM's CARD OF 'cellularlaw33.CanonGroups'. -/
def canonGroupsUptoCard : Claim7 := { stood := { row := canonGroupsUptoRow, standIns := [], harness := (true, "d6ebebd559ab9fde7be6d5941ab145727736c480c5f7f2566ec5c435eac5bf0f"), looks := false }, kinds := [], alts := [], laidByText := true, laidKinds := [.data, .data, .data, .widerDeep], laidTests := true, laidLooks := .later }
def CanonGroupsUptoCardSaid : Prop := Claim7.holds Tryd.pinned (.plain (OpenSpec.upto canonGroupsSpec)) canonGroupsUptoCard
end Rows
end Go.Proofs.YtchacpbmpgfblaaDoor
