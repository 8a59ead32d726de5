/-
  DERIVED. GIVEN WITH THE SEED: THE CARDS: each row of YtgidnbkbmjjihaaGreatDoorRows.lean that lists a variable, with what it lists TIED to the program's text (the seventh form; the later family's looks); each row that meets fmt, with fmt's text TOLD by the authors' own Lean function (tested against real Go, not proved from fmt's source: count such statements apart). THE CARD IS WHAT COUNTS. Prove the row's statement (the work); the ties are given (YtgidnbkbmjjihaaGreatDoorTie.lean); close each card by the builder's one call (the guide's Derived/Test/ToyasCard.lean, 'card_holds'). Laid BY PROGRAM, IN A SANDBOX (cutbox-door.mjs). By AI agents, Wed Nov 11 2026. No macro, syntax, notation, axiom, sorry.
-/
import Derived.Test.YtgidnbkbmjjihaaGreatDoorRows
import GoSem.ClaimSeven
namespace Go.Proofs.YtgidnbkbmjjihaaGreatDoor
namespace Rows

/-- THE TIED CARD OF 'quarrylaw12.LexerAgain'. -/
def lexerAgainCard : Claim7 := { stood := { row := lexerAgainRow, standIns := [], harness := (true, "1be6741d4dc333e6b10fb12995818f13840309ade5b25d60490a6f7d9e36f78e"), looks := true }, kinds := [], alts := [], laidByText := true, laidKinds := [.data, .data, .data, .data, .handle, .sentinel, .sentinel, .pinned], laidTests := true, laidLooks := .later }
def LexerAgainCardSaid : Prop := Claim7.holds Tryz.pinned (.plain (OpenSpec.ofChange lexerAgainSpec)) lexerAgainCard

/-- THE TIED CARD OF 'quarrylaw16.EvalConstant'. -/
def evalConstantCard : Claim7 := { stood := { row := evalConstantRow, standIns := [], harness := (true, "1be6741d4dc333e6b10fb12995818f13840309ade5b25d60490a6f7d9e36f78e"), looks := true }, kinds := [], alts := [], laidByText := true, laidKinds := [.data, .data, .data, .sentinel, .sentinel], laidTests := true, laidLooks := .later }
def EvalConstantCardSaid : Prop := Claim7.holds Tryz.pinned (.plain (OpenSpec.ofChange evalConstantSpec)) evalConstantCard

/-- THE TIED CARD OF 'quarrylaw16.EvalPart'. -/
def evalPartCard : Claim7 := { stood := { row := evalPartRow, standIns := [], harness := (true, "1be6741d4dc333e6b10fb12995818f13840309ade5b25d60490a6f7d9e36f78e"), looks := true }, kinds := [], alts := [], laidByText := true, laidKinds := [.data, .data, .data, .sentinel, .sentinel], laidTests := true, laidLooks := .later }
def EvalPartCardSaid : Prop := Claim7.holds Tryz.pinned (.plain (OpenSpec.ofChange evalPartSpec)) evalPartCard

/-- THE TIED CARD OF 'quarrylaw16.EvalDecides'. -/
def evalDecidesCard : Claim7 := { stood := { row := evalDecidesRow, standIns := [], harness := (true, "1be6741d4dc333e6b10fb12995818f13840309ade5b25d60490a6f7d9e36f78e"), looks := true }, kinds := [], alts := [], laidByText := true, laidKinds := [.data, .data, .data, .sentinel, .sentinel], laidTests := true, laidLooks := .later }
def EvalDecidesCardSaid : Prop := Claim7.holds Tryz.pinned (.plain (OpenSpec.ofChange evalDecidesSpec)) evalDecidesCard

/-- THE TIED CARD OF 'quarrylaw13.ExprDeep'. -/
def exprDeepCard : Claim7 := { stood := { row := exprDeepRow, standIns := [], harness := (true, "1be6741d4dc333e6b10fb12995818f13840309ade5b25d60490a6f7d9e36f78e"), looks := true }, kinds := [], alts := [], laidByText := true, laidKinds := [.data, .data, .data, .data, .handle, .sentinel, .sentinel, .pinned], laidTests := true, laidLooks := .later }
def ExprDeepCardSaid : Prop := Claim7.holds Tryz.pinned (.plain (OpenSpec.ofChange exprDeepSpec)) exprDeepCard

/-- THE TIED CARD OF 'quarrylaw13.ExprBack'. -/
def exprBackCard : Claim7 := { stood := { row := exprBackRow, standIns := [], harness := (true, "1be6741d4dc333e6b10fb12995818f13840309ade5b25d60490a6f7d9e36f78e"), looks := true }, kinds := [], alts := [], laidByText := true, laidKinds := [.data, .data, .data, .data, .handle, .sentinel, .sentinel, .pinned], laidTests := true, laidLooks := .later }
def ExprBackCardSaid : Prop := Claim7.holds Tryz.pinned (.plain (OpenSpec.ofChange exprBackSpec)) exprBackCard

/-- THE TIED CARD OF 'quarrylaw13.ExprBrackets'. -/
def exprBracketsCard : Claim7 := { stood := { row := exprBracketsRow, standIns := [], harness := (true, "1be6741d4dc333e6b10fb12995818f13840309ade5b25d60490a6f7d9e36f78e"), looks := true }, kinds := [], alts := [], laidByText := true, laidKinds := [.data, .data, .data, .data, .handle, .sentinel, .sentinel, .pinned], laidTests := true, laidLooks := .later }
def ExprBracketsCardSaid : Prop := Claim7.holds Tryz.pinned (.plain (OpenSpec.ofChange exprBracketsSpec)) exprBracketsCard

/-- THE TIED CARD OF 'quarrylaw13.ExprLeft'. -/
def exprLeftCard : Claim7 := { stood := { row := exprLeftRow, standIns := [], harness := (true, "1be6741d4dc333e6b10fb12995818f13840309ade5b25d60490a6f7d9e36f78e"), looks := true }, kinds := [], alts := [], laidByText := true, laidKinds := [.data, .data, .data, .data, .handle, .sentinel, .sentinel, .pinned], laidTests := true, laidLooks := .later }
def ExprLeftCardSaid : Prop := Claim7.holds Tryz.pinned (.plain (OpenSpec.ofChange exprLeftSpec)) exprLeftCard

/-- THE TIED CARD OF 'quarrylaw15.NamesAgain'. -/
def namesAgainCard : Claim7 := { stood := { row := namesAgainRow, standIns := [], harness := (true, "1be6741d4dc333e6b10fb12995818f13840309ade5b25d60490a6f7d9e36f78e"), looks := true }, kinds := [], alts := [], laidByText := true, laidKinds := [.data, .data, .data, .sentinel, .sentinel], laidTests := true, laidLooks := .later }
def NamesAgainCardSaid : Prop := Claim7.holds Tryz.pinned (.plain (OpenSpec.ofChange namesAgainSpec)) namesAgainCard

/-- THE TIED CARD OF 'quarrylaw15.NamesAlias'. -/
def namesAliasCard : Claim7 := { stood := { row := namesAliasRow, standIns := [], harness := (true, "1be6741d4dc333e6b10fb12995818f13840309ade5b25d60490a6f7d9e36f78e"), looks := true }, kinds := [], alts := [], laidByText := true, laidKinds := [.data, .data, .data, .sentinel, .sentinel], laidTests := true, laidLooks := .later }
def NamesAliasCardSaid : Prop := Claim7.holds Tryz.pinned (.plain (OpenSpec.ofChange namesAliasSpec)) namesAliasCard

/-- THE TIED CARD OF 'quarrylaw15.NamesTypes'. -/
def namesTypesCard : Claim7 := { stood := { row := namesTypesRow, standIns := [], harness := (true, "1be6741d4dc333e6b10fb12995818f13840309ade5b25d60490a6f7d9e36f78e"), looks := true }, kinds := [], alts := [], laidByText := true, laidKinds := [.data, .data, .data, .sentinel, .sentinel], laidTests := true, laidLooks := .later }
def NamesTypesCardSaid : Prop := Claim7.holds Tryz.pinned (.plain (OpenSpec.ofChange namesTypesSpec)) namesTypesCard

/-- THE SECOND FORM's CARD OF 'quarrylaw12.LexerAgain'. -/
def lexerAgainUptoCard : Claim7 := { stood := { row := lexerAgainUptoRow, standIns := [], harness := (true, "1be6741d4dc333e6b10fb12995818f13840309ade5b25d60490a6f7d9e36f78e"), looks := true }, kinds := [], alts := [], laidByText := true, laidKinds := [.data, .data, .data, .data, .handle, .sentinel, .sentinel, .pinned], laidTests := true, laidLooks := .later }
def LexerAgainUptoCardSaid : Prop := Claim7.holds Tryz.pinned (.plain (OpenSpec.upto lexerAgainSpec)) lexerAgainUptoCard

/-- THE SECOND FORM's CARD OF 'quarrylaw16.EvalConstant'. -/
def evalConstantUptoCard : Claim7 := { stood := { row := evalConstantUptoRow, standIns := [], harness := (true, "1be6741d4dc333e6b10fb12995818f13840309ade5b25d60490a6f7d9e36f78e"), looks := true }, kinds := [], alts := [], laidByText := true, laidKinds := [.data, .data, .data, .sentinel, .sentinel], laidTests := true, laidLooks := .later }
def EvalConstantUptoCardSaid : Prop := Claim7.holds Tryz.pinned (.plain (OpenSpec.upto evalConstantSpec)) evalConstantUptoCard

/-- THE SECOND FORM's CARD OF 'quarrylaw16.EvalPart'. -/
def evalPartUptoCard : Claim7 := { stood := { row := evalPartUptoRow, standIns := [], harness := (true, "1be6741d4dc333e6b10fb12995818f13840309ade5b25d60490a6f7d9e36f78e"), looks := true }, kinds := [], alts := [], laidByText := true, laidKinds := [.data, .data, .data, .sentinel, .sentinel], laidTests := true, laidLooks := .later }
def EvalPartUptoCardSaid : Prop := Claim7.holds Tryz.pinned (.plain (OpenSpec.upto evalPartSpec)) evalPartUptoCard

/-- THE SECOND FORM's CARD OF 'quarrylaw16.EvalDecides'. -/
def evalDecidesUptoCard : Claim7 := { stood := { row := evalDecidesUptoRow, standIns := [], harness := (true, "1be6741d4dc333e6b10fb12995818f13840309ade5b25d60490a6f7d9e36f78e"), looks := true }, kinds := [], alts := [], laidByText := true, laidKinds := [.data, .data, .data, .sentinel, .sentinel], laidTests := true, laidLooks := .later }
def EvalDecidesUptoCardSaid : Prop := Claim7.holds Tryz.pinned (.plain (OpenSpec.upto evalDecidesSpec)) evalDecidesUptoCard

/-- THE SECOND FORM's CARD OF 'quarrylaw13.ExprDeep'. -/
def exprDeepUptoCard : Claim7 := { stood := { row := exprDeepUptoRow, standIns := [], harness := (true, "1be6741d4dc333e6b10fb12995818f13840309ade5b25d60490a6f7d9e36f78e"), looks := true }, kinds := [], alts := [], laidByText := true, laidKinds := [.data, .data, .data, .data, .handle, .sentinel, .sentinel, .pinned], laidTests := true, laidLooks := .later }
def ExprDeepUptoCardSaid : Prop := Claim7.holds Tryz.pinned (.plain (OpenSpec.upto exprDeepSpec)) exprDeepUptoCard

/-- THE SECOND FORM's CARD OF 'quarrylaw13.ExprBack'. -/
def exprBackUptoCard : Claim7 := { stood := { row := exprBackUptoRow, standIns := [], harness := (true, "1be6741d4dc333e6b10fb12995818f13840309ade5b25d60490a6f7d9e36f78e"), looks := true }, kinds := [], alts := [], laidByText := true, laidKinds := [.data, .data, .data, .data, .handle, .sentinel, .sentinel, .pinned], laidTests := true, laidLooks := .later }
def ExprBackUptoCardSaid : Prop := Claim7.holds Tryz.pinned (.plain (OpenSpec.upto exprBackSpec)) exprBackUptoCard

/-- THE SECOND FORM's CARD OF 'quarrylaw13.ExprBrackets'. -/
def exprBracketsUptoCard : Claim7 := { stood := { row := exprBracketsUptoRow, standIns := [], harness := (true, "1be6741d4dc333e6b10fb12995818f13840309ade5b25d60490a6f7d9e36f78e"), looks := true }, kinds := [], alts := [], laidByText := true, laidKinds := [.data, .data, .data, .data, .handle, .sentinel, .sentinel, .pinned], laidTests := true, laidLooks := .later }
def ExprBracketsUptoCardSaid : Prop := Claim7.holds Tryz.pinned (.plain (OpenSpec.upto exprBracketsSpec)) exprBracketsUptoCard

/-- THE SECOND FORM's CARD OF 'quarrylaw13.ExprLeft'. -/
def exprLeftUptoCard : Claim7 := { stood := { row := exprLeftUptoRow, standIns := [], harness := (true, "1be6741d4dc333e6b10fb12995818f13840309ade5b25d60490a6f7d9e36f78e"), looks := true }, kinds := [], alts := [], laidByText := true, laidKinds := [.data, .data, .data, .data, .handle, .sentinel, .sentinel, .pinned], laidTests := true, laidLooks := .later }
def ExprLeftUptoCardSaid : Prop := Claim7.holds Tryz.pinned (.plain (OpenSpec.upto exprLeftSpec)) exprLeftUptoCard

/-- THE SECOND FORM's CARD OF 'quarrylaw15.NamesAgain'. -/
def namesAgainUptoCard : Claim7 := { stood := { row := namesAgainUptoRow, standIns := [], harness := (true, "1be6741d4dc333e6b10fb12995818f13840309ade5b25d60490a6f7d9e36f78e"), looks := true }, kinds := [], alts := [], laidByText := true, laidKinds := [.data, .data, .data, .sentinel, .sentinel], laidTests := true, laidLooks := .later }
def NamesAgainUptoCardSaid : Prop := Claim7.holds Tryz.pinned (.plain (OpenSpec.upto namesAgainSpec)) namesAgainUptoCard

/-- THE SECOND FORM's CARD OF 'quarrylaw15.NamesAlias'. -/
def namesAliasUptoCard : Claim7 := { stood := { row := namesAliasUptoRow, standIns := [], harness := (true, "1be6741d4dc333e6b10fb12995818f13840309ade5b25d60490a6f7d9e36f78e"), looks := true }, kinds := [], alts := [], laidByText := true, laidKinds := [.data, .data, .data, .sentinel, .sentinel], laidTests := true, laidLooks := .later }
def NamesAliasUptoCardSaid : Prop := Claim7.holds Tryz.pinned (.plain (OpenSpec.upto namesAliasSpec)) namesAliasUptoCard

/-- THE SECOND FORM's CARD OF 'quarrylaw15.NamesTypes'. -/
def namesTypesUptoCard : Claim7 := { stood := { row := namesTypesUptoRow, standIns := [], harness := (true, "1be6741d4dc333e6b10fb12995818f13840309ade5b25d60490a6f7d9e36f78e"), looks := true }, kinds := [], alts := [], laidByText := true, laidKinds := [.data, .data, .data, .sentinel, .sentinel], laidTests := true, laidLooks := .later }
def NamesTypesUptoCardSaid : Prop := Claim7.holds Tryz.pinned (.plain (OpenSpec.upto namesTypesSpec)) namesTypesUptoCard
end Rows
end Go.Proofs.YtgidnbkbmjjihaaGreatDoor
