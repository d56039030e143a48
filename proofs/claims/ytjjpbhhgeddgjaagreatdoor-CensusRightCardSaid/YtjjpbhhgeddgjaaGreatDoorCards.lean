/-
  DERIVED. GIVEN WITH THE SEED: THE CARDS: each row of YtjjpbhhgeddgjaaGreatDoorRows.lean that lists a variable, with what it lists TIED to the program's text (the seventh form; the later family's looks); each row that meets fmt, with fmt's text TOLD by the authors' own Lean function (tested against real Go, not proved from fmt's source: count such statements apart). THE CARD IS WHAT COUNTS. Prove the row's statement (the work); the ties are given (YtjjpbhhgeddgjaaGreatDoorTie.lean); close each card by the builder's one call (the guide's Derived/Test/ToyasCard.lean, 'card_holds'). Laid BY PROGRAM, IN A SANDBOX (cutbox-door.mjs). By AI agents, Wed Nov 11 2026. No macro, syntax, notation, axiom, sorry.
-/
import Derived.Test.YtjjpbhhgeddgjaaGreatDoorRows
import GoSem.ClaimSeven
namespace Go.Proofs.YtjjpbhhgeddgjaaGreatDoor
namespace Rows

/-- THE TIED CARD OF 'cellularlaw38.CensusAdds'. -/
def censusAddsCard : Claim7 := { stood := { row := censusAddsRow, standIns := [], harness := (true, "8f5e747d5a09438ce2e5dad71b4b839e53a45f68155a0744378fc87045a04f0d"), looks := false }, kinds := [], alts := [], laidByText := true, laidKinds := [.data, .data, .data, .widerDeep], laidTests := true, laidLooks := .later }
def CensusAddsCardSaid : Prop := Claim7.holds Tryz.pinned (.plain (OpenSpec.ofChange censusAddsSpec)) censusAddsCard

/-- THE TIED CARD OF 'cellularlaw38.CensusRight'. -/
def censusRightCard : Claim7 := { stood := { row := censusRightRow, standIns := [], harness := (true, "8f5e747d5a09438ce2e5dad71b4b839e53a45f68155a0744378fc87045a04f0d"), looks := false }, kinds := [], alts := [], laidByText := true, laidKinds := [.data, .data, .data, .widerDeep], laidTests := true, laidLooks := .later }
def CensusRightCardSaid : Prop := Claim7.holds Tryz.pinned (.plain (OpenSpec.ofChange censusRightSpec)) censusRightCard

/-- THE SECOND FORM's CARD OF 'cellularlaw38.CensusAdds'. -/
def censusAddsUptoCard : Claim7 := { stood := { row := censusAddsUptoRow, standIns := [], harness := (true, "8f5e747d5a09438ce2e5dad71b4b839e53a45f68155a0744378fc87045a04f0d"), looks := false }, kinds := [], alts := [], laidByText := true, laidKinds := [.data, .data, .data, .widerDeep], laidTests := true, laidLooks := .later }
def CensusAddsUptoCardSaid : Prop := Claim7.holds Tryz.pinned (.plain (OpenSpec.upto censusAddsSpec)) censusAddsUptoCard

/-- THE SECOND FORM's CARD OF 'cellularlaw38.CensusRight'. -/
def censusRightUptoCard : Claim7 := { stood := { row := censusRightUptoRow, standIns := [], harness := (true, "8f5e747d5a09438ce2e5dad71b4b839e53a45f68155a0744378fc87045a04f0d"), looks := false }, kinds := [], alts := [], laidByText := true, laidKinds := [.data, .data, .data, .widerDeep], laidTests := true, laidLooks := .later }
def CensusRightUptoCardSaid : Prop := Claim7.holds Tryz.pinned (.plain (OpenSpec.upto censusRightSpec)) censusRightUptoCard
end Rows
end Go.Proofs.YtjjpbhhgeddgjaaGreatDoor
