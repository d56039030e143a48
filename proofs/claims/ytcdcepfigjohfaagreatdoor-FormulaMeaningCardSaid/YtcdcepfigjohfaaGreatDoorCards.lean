/-
  DERIVED. GIVEN WITH THE SEED: THE CARDS: each row of YtcdcepfigjohfaaGreatDoorRows.lean that lists a variable, with what it lists TIED to the program's text (the seventh form; the later family's looks); each row that meets fmt, with fmt's text TOLD by the authors' own Lean function (tested against real Go, not proved from fmt's source: count such statements apart). THE CARD IS WHAT COUNTS. Prove the row's statement (the work); the ties are given (YtcdcepfigjohfaaGreatDoorTie.lean); close each card by the builder's one call (the guide's Derived/Test/ToyasCard.lean, 'card_holds'). Laid BY PROGRAM, IN A SANDBOX (cutbox-door.mjs). By AI agents, Wed Nov 11 2026. No macro, syntax, notation, axiom, sorry.
-/
import Derived.Test.YtcdcepfigjohfaaGreatDoorRows
import GoSem.ClaimSeven
namespace Go.Proofs.YtcdcepfigjohfaaGreatDoor
namespace Rows

/-- THE TIED CARD OF 'cellularlaw40.FormulaRights'. -/
def formulaRightsCard : Claim7 := { stood := { row := formulaRightsRow, standIns := [], harness := (true, "a15786dfed7f501183f01b7da881d1d2625f920a68c30dcbf7968c9119c0d596"), looks := true }, kinds := [], alts := [], laidByText := true, laidKinds := [.data, .data, .data, .data, .sentinel, .sentinel, .pinned], laidTests := true, laidLooks := .later }
def FormulaRightsCardSaid : Prop := Claim7.holds Tryz.pinned (.plain (OpenSpec.ofChange formulaRightsSpec)) formulaRightsCard

/-- THE TIED CARD OF 'cellularlaw40.FormulaSorts'. -/
def formulaSortsCard : Claim7 := { stood := { row := formulaSortsRow, standIns := [], harness := (true, "a15786dfed7f501183f01b7da881d1d2625f920a68c30dcbf7968c9119c0d596"), looks := true }, kinds := [], alts := [], laidByText := true, laidKinds := [.data, .data, .data, .data, .sentinel, .sentinel, .pinned], laidTests := true, laidLooks := .later }
def FormulaSortsCardSaid : Prop := Claim7.holds Tryz.pinned (.plain (OpenSpec.ofChange formulaSortsSpec)) formulaSortsCard

/-- THE TIED CARD OF 'cellularlaw40.FormulaAssumes'. -/
def formulaAssumesCard : Claim7 := { stood := { row := formulaAssumesRow, standIns := [], harness := (true, "a15786dfed7f501183f01b7da881d1d2625f920a68c30dcbf7968c9119c0d596"), looks := true }, kinds := [], alts := [], laidByText := true, laidKinds := [.data, .data, .data, .data, .sentinel, .sentinel, .pinned], laidTests := true, laidLooks := .later }
def FormulaAssumesCardSaid : Prop := Claim7.holds Tryz.pinned (.plain (OpenSpec.ofChange formulaAssumesSpec)) formulaAssumesCard

/-- THE TIED CARD OF 'cellularlaw40.FormulaTexts'. -/
def formulaTextsCard : Claim7 := { stood := { row := formulaTextsRow, standIns := [], harness := (true, "a15786dfed7f501183f01b7da881d1d2625f920a68c30dcbf7968c9119c0d596"), looks := true }, kinds := [], alts := [], laidByText := true, laidKinds := [.data, .data, .data, .data, .sentinel, .sentinel, .pinned], laidTests := true, laidLooks := .later }
def FormulaTextsCardSaid : Prop := Claim7.holds Tryz.pinned (.plain (OpenSpec.ofChange formulaTextsSpec)) formulaTextsCard

/-- THE TIED CARD OF 'cellularlaw40.FormulaReturns'. -/
def formulaReturnsCard : Claim7 := { stood := { row := formulaReturnsRow, standIns := [], harness := (true, "a15786dfed7f501183f01b7da881d1d2625f920a68c30dcbf7968c9119c0d596"), looks := true }, kinds := [], alts := [], laidByText := true, laidKinds := [.data, .data, .data, .data, .sentinel, .sentinel, .pinned], laidTests := true, laidLooks := .later }
def FormulaReturnsCardSaid : Prop := Claim7.holds Tryz.pinned (.plain (OpenSpec.ofChange formulaReturnsSpec)) formulaReturnsCard

/-- THE TIED CARD OF 'cellularlaw40.FormulaMeaning'. -/
def formulaMeaningCard : Claim7 := { stood := { row := formulaMeaningRow, standIns := [], harness := (true, "a15786dfed7f501183f01b7da881d1d2625f920a68c30dcbf7968c9119c0d596"), looks := true }, kinds := [], alts := [], laidByText := true, laidKinds := [.data, .data, .data, .data, .sentinel, .sentinel, .pinned], laidTests := true, laidLooks := .later }
def FormulaMeaningCardSaid : Prop := Claim7.holds Tryz.pinned (.plain (OpenSpec.ofChange formulaMeaningSpec)) formulaMeaningCard

/-- THE SECOND FORM's CARD OF 'cellularlaw40.FormulaRights'. -/
def formulaRightsUptoCard : Claim7 := { stood := { row := formulaRightsUptoRow, standIns := [], harness := (true, "a15786dfed7f501183f01b7da881d1d2625f920a68c30dcbf7968c9119c0d596"), looks := true }, kinds := [], alts := [], laidByText := true, laidKinds := [.data, .data, .data, .data, .sentinel, .sentinel, .pinned], laidTests := true, laidLooks := .later }
def FormulaRightsUptoCardSaid : Prop := Claim7.holds Tryz.pinned (.plain (OpenSpec.upto formulaRightsSpec)) formulaRightsUptoCard

/-- THE SECOND FORM's CARD OF 'cellularlaw40.FormulaSorts'. -/
def formulaSortsUptoCard : Claim7 := { stood := { row := formulaSortsUptoRow, standIns := [], harness := (true, "a15786dfed7f501183f01b7da881d1d2625f920a68c30dcbf7968c9119c0d596"), looks := true }, kinds := [], alts := [], laidByText := true, laidKinds := [.data, .data, .data, .data, .sentinel, .sentinel, .pinned], laidTests := true, laidLooks := .later }
def FormulaSortsUptoCardSaid : Prop := Claim7.holds Tryz.pinned (.plain (OpenSpec.upto formulaSortsSpec)) formulaSortsUptoCard

/-- THE SECOND FORM's CARD OF 'cellularlaw40.FormulaAssumes'. -/
def formulaAssumesUptoCard : Claim7 := { stood := { row := formulaAssumesUptoRow, standIns := [], harness := (true, "a15786dfed7f501183f01b7da881d1d2625f920a68c30dcbf7968c9119c0d596"), looks := true }, kinds := [], alts := [], laidByText := true, laidKinds := [.data, .data, .data, .data, .sentinel, .sentinel, .pinned], laidTests := true, laidLooks := .later }
def FormulaAssumesUptoCardSaid : Prop := Claim7.holds Tryz.pinned (.plain (OpenSpec.upto formulaAssumesSpec)) formulaAssumesUptoCard

/-- THE SECOND FORM's CARD OF 'cellularlaw40.FormulaTexts'. -/
def formulaTextsUptoCard : Claim7 := { stood := { row := formulaTextsUptoRow, standIns := [], harness := (true, "a15786dfed7f501183f01b7da881d1d2625f920a68c30dcbf7968c9119c0d596"), looks := true }, kinds := [], alts := [], laidByText := true, laidKinds := [.data, .data, .data, .data, .sentinel, .sentinel, .pinned], laidTests := true, laidLooks := .later }
def FormulaTextsUptoCardSaid : Prop := Claim7.holds Tryz.pinned (.plain (OpenSpec.upto formulaTextsSpec)) formulaTextsUptoCard

/-- THE SECOND FORM's CARD OF 'cellularlaw40.FormulaReturns'. -/
def formulaReturnsUptoCard : Claim7 := { stood := { row := formulaReturnsUptoRow, standIns := [], harness := (true, "a15786dfed7f501183f01b7da881d1d2625f920a68c30dcbf7968c9119c0d596"), looks := true }, kinds := [], alts := [], laidByText := true, laidKinds := [.data, .data, .data, .data, .sentinel, .sentinel, .pinned], laidTests := true, laidLooks := .later }
def FormulaReturnsUptoCardSaid : Prop := Claim7.holds Tryz.pinned (.plain (OpenSpec.upto formulaReturnsSpec)) formulaReturnsUptoCard

/-- THE SECOND FORM's CARD OF 'cellularlaw40.FormulaMeaning'. -/
def formulaMeaningUptoCard : Claim7 := { stood := { row := formulaMeaningUptoRow, standIns := [], harness := (true, "a15786dfed7f501183f01b7da881d1d2625f920a68c30dcbf7968c9119c0d596"), looks := true }, kinds := [], alts := [], laidByText := true, laidKinds := [.data, .data, .data, .data, .sentinel, .sentinel, .pinned], laidTests := true, laidLooks := .later }
def FormulaMeaningUptoCardSaid : Prop := Claim7.holds Tryz.pinned (.plain (OpenSpec.upto formulaMeaningSpec)) formulaMeaningUptoCard
end Rows
end Go.Proofs.YtcdcepfigjohfaaGreatDoor
