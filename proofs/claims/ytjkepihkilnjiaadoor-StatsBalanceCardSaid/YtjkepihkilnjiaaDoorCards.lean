/-
  DERIVED. GIVEN WITH THE SEED: THE CARDS: each row of YtjkepihkilnjiaaDoorRows.lean that lists a variable, with what it lists TIED to the program's text (the seventh form; the later family's looks); each row that meets fmt, with fmt's text TOLD by the authors' own Lean function (tested against real Go, not proved from fmt's source: count such statements apart). THE CARD IS WHAT COUNTS. Prove the row's statement (the work); the ties are given (YtjkepihkilnjiaaDoorTie.lean); close each card by the builder's one call (the guide's Derived/Test/ToyasCard.lean, 'card_holds'). Laid BY PROGRAM, IN A SANDBOX (cutbox-door.mjs). By AI agents, Wed Nov 11 2026. No macro, syntax, notation, axiom, sorry.
-/
import Derived.Test.YtjkepihkilnjiaaDoorRows
import GoSem.ClaimSeven
namespace Go.Proofs.YtjkepihkilnjiaaDoor
namespace Rows

/-- THE TIED CARD OF 'cellularlaw39.StatsOf'. -/
def statsOfCard : Claim7 := { stood := { row := statsOfRow, standIns := [], harness := (true, "39c1679e4b998f6b63d2f9ee2600da7d206cac2dd1fe90685023bac030800e15"), looks := false }, kinds := [], alts := [], laidByText := true, laidKinds := [.data, .data, .data], laidTests := true, laidLooks := .later }
def StatsOfCardSaid : Prop := Claim7.holds Tryd.pinned (.plain (OpenSpec.ofChange statsOfSpec)) statsOfCard

/-- THE TIED CARD OF 'cellularlaw39.StatsStates'. -/
def statsStatesCard : Claim7 := { stood := { row := statsStatesRow, standIns := [], harness := (true, "39c1679e4b998f6b63d2f9ee2600da7d206cac2dd1fe90685023bac030800e15"), looks := false }, kinds := [], alts := [], laidByText := true, laidKinds := [.data, .data, .data], laidTests := true, laidLooks := .later }
def StatsStatesCardSaid : Prop := Claim7.holds Tryd.pinned (.plain (OpenSpec.ofChange statsStatesSpec)) statsStatesCard

/-- THE TIED CARD OF 'cellularlaw39.StatsRatio'. -/
def statsRatioCard : Claim7 := { stood := { row := statsRatioRow, standIns := [], harness := (true, "39c1679e4b998f6b63d2f9ee2600da7d206cac2dd1fe90685023bac030800e15"), looks := false }, kinds := [], alts := [], laidByText := true, laidKinds := [.data, .data, .data], laidTests := true, laidLooks := .later }
def StatsRatioCardSaid : Prop := Claim7.holds Tryd.pinned (.plain (OpenSpec.ofChange statsRatioSpec)) statsRatioCard

/-- THE TIED CARD OF 'cellularlaw39.StatsText'. -/
def statsTextCard : Claim7 := { stood := { row := statsTextRow, standIns := [], harness := (true, "39c1679e4b998f6b63d2f9ee2600da7d206cac2dd1fe90685023bac030800e15"), looks := false }, kinds := [], alts := [], laidByText := true, laidKinds := [.data, .data, .data], laidTests := true, laidLooks := .later }
def StatsTextCardSaid : Prop := Claim7.holds Tryd.pinned (.plain (OpenSpec.ofChange statsTextSpec)) statsTextCard

/-- THE TIED CARD OF 'cellularlaw39.StatsBalance'. -/
def statsBalanceCard : Claim7 := { stood := { row := statsBalanceRow, standIns := [], harness := (true, "39c1679e4b998f6b63d2f9ee2600da7d206cac2dd1fe90685023bac030800e15"), looks := false }, kinds := [], alts := [], laidByText := true, laidKinds := [.data, .data, .data], laidTests := true, laidLooks := .later }
def StatsBalanceCardSaid : Prop := Claim7.holds Tryd.pinned (.plain (OpenSpec.ofChange statsBalanceSpec)) statsBalanceCard

/-- THE SECOND FORM's CARD OF 'cellularlaw39.StatsOf'. -/
def statsOfUptoCard : Claim7 := { stood := { row := statsOfUptoRow, standIns := [], harness := (true, "39c1679e4b998f6b63d2f9ee2600da7d206cac2dd1fe90685023bac030800e15"), looks := false }, kinds := [], alts := [], laidByText := true, laidKinds := [.data, .data, .data], laidTests := true, laidLooks := .later }
def StatsOfUptoCardSaid : Prop := Claim7.holds Tryd.pinned (.plain (OpenSpec.upto statsOfSpec)) statsOfUptoCard

/-- THE SECOND FORM's CARD OF 'cellularlaw39.StatsStates'. -/
def statsStatesUptoCard : Claim7 := { stood := { row := statsStatesUptoRow, standIns := [], harness := (true, "39c1679e4b998f6b63d2f9ee2600da7d206cac2dd1fe90685023bac030800e15"), looks := false }, kinds := [], alts := [], laidByText := true, laidKinds := [.data, .data, .data], laidTests := true, laidLooks := .later }
def StatsStatesUptoCardSaid : Prop := Claim7.holds Tryd.pinned (.plain (OpenSpec.upto statsStatesSpec)) statsStatesUptoCard

/-- THE SECOND FORM's CARD OF 'cellularlaw39.StatsRatio'. -/
def statsRatioUptoCard : Claim7 := { stood := { row := statsRatioUptoRow, standIns := [], harness := (true, "39c1679e4b998f6b63d2f9ee2600da7d206cac2dd1fe90685023bac030800e15"), looks := false }, kinds := [], alts := [], laidByText := true, laidKinds := [.data, .data, .data], laidTests := true, laidLooks := .later }
def StatsRatioUptoCardSaid : Prop := Claim7.holds Tryd.pinned (.plain (OpenSpec.upto statsRatioSpec)) statsRatioUptoCard

/-- THE SECOND FORM's CARD OF 'cellularlaw39.StatsText'. -/
def statsTextUptoCard : Claim7 := { stood := { row := statsTextUptoRow, standIns := [], harness := (true, "39c1679e4b998f6b63d2f9ee2600da7d206cac2dd1fe90685023bac030800e15"), looks := false }, kinds := [], alts := [], laidByText := true, laidKinds := [.data, .data, .data], laidTests := true, laidLooks := .later }
def StatsTextUptoCardSaid : Prop := Claim7.holds Tryd.pinned (.plain (OpenSpec.upto statsTextSpec)) statsTextUptoCard

/-- THE SECOND FORM's CARD OF 'cellularlaw39.StatsBalance'. -/
def statsBalanceUptoCard : Claim7 := { stood := { row := statsBalanceUptoRow, standIns := [], harness := (true, "39c1679e4b998f6b63d2f9ee2600da7d206cac2dd1fe90685023bac030800e15"), looks := false }, kinds := [], alts := [], laidByText := true, laidKinds := [.data, .data, .data], laidTests := true, laidLooks := .later }
def StatsBalanceUptoCardSaid : Prop := Claim7.holds Tryd.pinned (.plain (OpenSpec.upto statsBalanceSpec)) statsBalanceUptoCard
end Rows
end Go.Proofs.YtjkepihkilnjiaaDoor
