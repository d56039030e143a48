/-
  DERIVED. GIVEN WITH THE SEED: THE CARDS: each row of YtchacpbmpgfblaaGreatDoorRows.lean that lists a variable, with what it lists TIED to the program's text (the seventh form; the later family's looks); each row that meets fmt, with fmt's text TOLD by the authors' own Lean function (tested against real Go, not proved from fmt's source: count such statements apart). THE CARD IS WHAT COUNTS. Prove the row's statement (the work); the ties are given (YtchacpbmpgfblaaGreatDoorTie.lean); close each card by the builder's one call (the guide's Derived/Test/ToyasCard.lean, 'card_holds'). Laid BY PROGRAM, IN A SANDBOX (cutbox-door.mjs). By AI agents, Wed Nov 11 2026. No macro, syntax, notation, axiom, sorry.
-/
import Derived.Test.YtchacpbmpgfblaaGreatDoorRows
import GoSem.ClaimSeven
namespace Go.Proofs.YtchacpbmpgfblaaGreatDoor
namespace Rows

/-- THE TIED CARD OF 'cellularlaw33.CanonForms'. -/
def canonFormsCard : Claim7 := { stood := { row := canonFormsRow, standIns := [], harness := (true, "f43248351653e74e48b95f65c1a955b9efb241a33dca0889fe3788aea75c14c9"), looks := false }, kinds := [], alts := [], laidByText := true, laidKinds := [.data, .data, .data, .widerDeep], laidTests := true, laidLooks := .later }
def CanonFormsCardSaid : Prop := Claim7.holds Tryz.pinned (.plain (OpenSpec.ofChange canonFormsSpec)) canonFormsCard

/-- THE TIED CARD OF 'cellularlaw33.CanonAlike'. -/
def canonAlikeCard : Claim7 := { stood := { row := canonAlikeRow, standIns := [], harness := (true, "f43248351653e74e48b95f65c1a955b9efb241a33dca0889fe3788aea75c14c9"), looks := false }, kinds := [], alts := [], laidByText := true, laidKinds := [.data, .data, .data, .widerDeep], laidTests := true, laidLooks := .later }
def CanonAlikeCardSaid : Prop := Claim7.holds Tryz.pinned (.plain (OpenSpec.ofChange canonAlikeSpec)) canonAlikeCard

/-- THE SECOND FORM's CARD OF 'cellularlaw33.CanonForms'. -/
def canonFormsUptoCard : Claim7 := { stood := { row := canonFormsUptoRow, standIns := [], harness := (true, "f43248351653e74e48b95f65c1a955b9efb241a33dca0889fe3788aea75c14c9"), looks := false }, kinds := [], alts := [], laidByText := true, laidKinds := [.data, .data, .data, .widerDeep], laidTests := true, laidLooks := .later }
def CanonFormsUptoCardSaid : Prop := Claim7.holds Tryz.pinned (.plain (OpenSpec.upto canonFormsSpec)) canonFormsUptoCard

/-- THE SECOND FORM's CARD OF 'cellularlaw33.CanonAlike'. -/
def canonAlikeUptoCard : Claim7 := { stood := { row := canonAlikeUptoRow, standIns := [], harness := (true, "f43248351653e74e48b95f65c1a955b9efb241a33dca0889fe3788aea75c14c9"), looks := false }, kinds := [], alts := [], laidByText := true, laidKinds := [.data, .data, .data, .widerDeep], laidTests := true, laidLooks := .later }
def CanonAlikeUptoCardSaid : Prop := Claim7.holds Tryz.pinned (.plain (OpenSpec.upto canonAlikeSpec)) canonAlikeUptoCard
end Rows
end Go.Proofs.YtchacpbmpgfblaaGreatDoor
