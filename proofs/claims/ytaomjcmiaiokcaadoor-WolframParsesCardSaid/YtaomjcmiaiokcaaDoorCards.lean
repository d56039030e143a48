/-
  DERIVED. GIVEN WITH THE SEED: THE CARDS: each row of YtaomjcmiaiokcaaDoorRows.lean that lists a variable, with what it lists TIED to the program's text (the seventh form; the later family's looks); each row that meets fmt, with fmt's text TOLD by the authors' own Lean function (tested against real Go, not proved from fmt's source: count such statements apart). THE CARD IS WHAT COUNTS. Prove the row's statement (the work); the ties are given (YtaomjcmiaiokcaaDoorTie.lean); close each card by the builder's one call (the guide's Derived/Test/ToyasCard.lean, 'card_holds'). Laid BY PROGRAM, IN A SANDBOX (cutbox-door.mjs). By AI agents, Wed Nov 11 2026. No macro, syntax, notation, axiom, sorry.
-/
import Derived.Test.YtaomjcmiaiokcaaDoorRows
import GoSem.ClaimSeven
namespace Go.Proofs.YtaomjcmiaiokcaaDoor
namespace Rows

/-- THE TIED CARD OF 'cellularlaw10.WolframElementary'. -/
def wolframElementaryCard : Claim7 := { stood := { row := wolframElementaryRow, standIns := [], harness := (true, "f5a3dca893d96b871c100958541a6d9fd2c4557356384b8eff8eea70fdc1bb94"), looks := true }, kinds := [], alts := [], laidByText := true, laidKinds := [.data, .data, .data, .data, .sentinel, .sentinel, .pinned], laidTests := true, laidLooks := .later }
def WolframElementaryCardSaid : Prop := Claim7.holds Tryd.pinned (.plain (OpenSpec.ofChange wolframElementarySpec)) wolframElementaryCard

/-- THE TIED CARD OF 'cellularlaw10.WolframNumbers'. -/
def wolframNumbersCard : Claim7 := { stood := { row := wolframNumbersRow, standIns := [], harness := (true, "f5a3dca893d96b871c100958541a6d9fd2c4557356384b8eff8eea70fdc1bb94"), looks := true }, kinds := [], alts := [], laidByText := true, laidKinds := [.data, .data, .data, .data, .sentinel, .sentinel, .pinned], laidTests := true, laidLooks := .later }
def WolframNumbersCardSaid : Prop := Claim7.holds Tryd.pinned (.plain (OpenSpec.ofChange wolframNumbersSpec)) wolframNumbersCard

/-- THE TIED CARD OF 'cellularlaw10.WolframTurns'. -/
def wolframTurnsCard : Claim7 := { stood := { row := wolframTurnsRow, standIns := [], harness := (true, "f5a3dca893d96b871c100958541a6d9fd2c4557356384b8eff8eea70fdc1bb94"), looks := true }, kinds := [], alts := [], laidByText := true, laidKinds := [.data, .data, .data, .data, .sentinel, .sentinel, .pinned], laidTests := true, laidLooks := .later }
def WolframTurnsCardSaid : Prop := Claim7.holds Tryd.pinned (.plain (OpenSpec.ofChange wolframTurnsSpec)) wolframTurnsCard

/-- THE TIED CARD OF 'cellularlaw10.WolframParses'. -/
def wolframParsesCard : Claim7 := { stood := { row := wolframParsesRow, standIns := [], harness := (true, "f5a3dca893d96b871c100958541a6d9fd2c4557356384b8eff8eea70fdc1bb94"), looks := true }, kinds := [], alts := [], laidByText := true, laidKinds := [.data, .data, .data, .data, .sentinel, .sentinel, .pinned], laidTests := true, laidLooks := .later }
def WolframParsesCardSaid : Prop := Claim7.holds Tryd.pinned (.plain (OpenSpec.ofChange wolframParsesSpec)) wolframParsesCard

/-- THE TIED CARD OF 'cellularlaw10.WolframDigits'. -/
def wolframDigitsCard : Claim7 := { stood := { row := wolframDigitsRow, standIns := [], harness := (true, "f5a3dca893d96b871c100958541a6d9fd2c4557356384b8eff8eea70fdc1bb94"), looks := true }, kinds := [], alts := [], laidByText := true, laidKinds := [.data, .data, .data, .data, .sentinel, .sentinel, .pinned], laidTests := true, laidLooks := .later }
def WolframDigitsCardSaid : Prop := Claim7.holds Tryd.pinned (.plain (OpenSpec.ofChange wolframDigitsSpec)) wolframDigitsCard

/-- THE TIED CARD OF 'cellularlaw10.WolframCodes'. -/
def wolframCodesCard : Claim7 := { stood := { row := wolframCodesRow, standIns := [], harness := (true, "f5a3dca893d96b871c100958541a6d9fd2c4557356384b8eff8eea70fdc1bb94"), looks := true }, kinds := [], alts := [], laidByText := true, laidKinds := [.data, .data, .data, .data, .sentinel, .sentinel, .pinned], laidTests := true, laidLooks := .later }
def WolframCodesCardSaid : Prop := Claim7.holds Tryd.pinned (.plain (OpenSpec.ofChange wolframCodesSpec)) wolframCodesCard

/-- THE SECOND FORM's CARD OF 'cellularlaw10.WolframElementary'. -/
def wolframElementaryUptoCard : Claim7 := { stood := { row := wolframElementaryUptoRow, standIns := [], harness := (true, "f5a3dca893d96b871c100958541a6d9fd2c4557356384b8eff8eea70fdc1bb94"), looks := true }, kinds := [], alts := [], laidByText := true, laidKinds := [.data, .data, .data, .data, .sentinel, .sentinel, .pinned], laidTests := true, laidLooks := .later }
def WolframElementaryUptoCardSaid : Prop := Claim7.holds Tryd.pinned (.plain (OpenSpec.upto wolframElementarySpec)) wolframElementaryUptoCard

/-- THE SECOND FORM's CARD OF 'cellularlaw10.WolframNumbers'. -/
def wolframNumbersUptoCard : Claim7 := { stood := { row := wolframNumbersUptoRow, standIns := [], harness := (true, "f5a3dca893d96b871c100958541a6d9fd2c4557356384b8eff8eea70fdc1bb94"), looks := true }, kinds := [], alts := [], laidByText := true, laidKinds := [.data, .data, .data, .data, .sentinel, .sentinel, .pinned], laidTests := true, laidLooks := .later }
def WolframNumbersUptoCardSaid : Prop := Claim7.holds Tryd.pinned (.plain (OpenSpec.upto wolframNumbersSpec)) wolframNumbersUptoCard

/-- THE SECOND FORM's CARD OF 'cellularlaw10.WolframTurns'. -/
def wolframTurnsUptoCard : Claim7 := { stood := { row := wolframTurnsUptoRow, standIns := [], harness := (true, "f5a3dca893d96b871c100958541a6d9fd2c4557356384b8eff8eea70fdc1bb94"), looks := true }, kinds := [], alts := [], laidByText := true, laidKinds := [.data, .data, .data, .data, .sentinel, .sentinel, .pinned], laidTests := true, laidLooks := .later }
def WolframTurnsUptoCardSaid : Prop := Claim7.holds Tryd.pinned (.plain (OpenSpec.upto wolframTurnsSpec)) wolframTurnsUptoCard

/-- THE SECOND FORM's CARD OF 'cellularlaw10.WolframParses'. -/
def wolframParsesUptoCard : Claim7 := { stood := { row := wolframParsesUptoRow, standIns := [], harness := (true, "f5a3dca893d96b871c100958541a6d9fd2c4557356384b8eff8eea70fdc1bb94"), looks := true }, kinds := [], alts := [], laidByText := true, laidKinds := [.data, .data, .data, .data, .sentinel, .sentinel, .pinned], laidTests := true, laidLooks := .later }
def WolframParsesUptoCardSaid : Prop := Claim7.holds Tryd.pinned (.plain (OpenSpec.upto wolframParsesSpec)) wolframParsesUptoCard

/-- THE SECOND FORM's CARD OF 'cellularlaw10.WolframDigits'. -/
def wolframDigitsUptoCard : Claim7 := { stood := { row := wolframDigitsUptoRow, standIns := [], harness := (true, "f5a3dca893d96b871c100958541a6d9fd2c4557356384b8eff8eea70fdc1bb94"), looks := true }, kinds := [], alts := [], laidByText := true, laidKinds := [.data, .data, .data, .data, .sentinel, .sentinel, .pinned], laidTests := true, laidLooks := .later }
def WolframDigitsUptoCardSaid : Prop := Claim7.holds Tryd.pinned (.plain (OpenSpec.upto wolframDigitsSpec)) wolframDigitsUptoCard

/-- THE SECOND FORM's CARD OF 'cellularlaw10.WolframCodes'. -/
def wolframCodesUptoCard : Claim7 := { stood := { row := wolframCodesUptoRow, standIns := [], harness := (true, "f5a3dca893d96b871c100958541a6d9fd2c4557356384b8eff8eea70fdc1bb94"), looks := true }, kinds := [], alts := [], laidByText := true, laidKinds := [.data, .data, .data, .data, .sentinel, .sentinel, .pinned], laidTests := true, laidLooks := .later }
def WolframCodesUptoCardSaid : Prop := Claim7.holds Tryd.pinned (.plain (OpenSpec.upto wolframCodesSpec)) wolframCodesUptoCard
end Rows
end Go.Proofs.YtaomjcmiaiokcaaDoor
