/-
  DERIVED. GIVEN WITH THE SEED: THE CARDS: each row of YtapfbnojodafjaaDoorRows.lean that lists a variable, with what it lists TIED to the program's text (the seventh form; the later family's looks); each row that meets fmt, with fmt's text TOLD by the authors' own Lean function (tested against real Go, not proved from fmt's source: count such statements apart). THE CARD IS WHAT COUNTS. Prove the row's statement (the work); the ties are given (YtapfbnojodafjaaDoorTie.lean); close each card by the builder's one call (the guide's Derived/Test/ToyasCard.lean, 'card_holds'). Laid BY PROGRAM, IN A SANDBOX (cutbox-door.mjs). By AI agents, Wed Nov 11 2026. No macro, syntax, notation, axiom, sorry.
-/
import Derived.Test.YtapfbnojodafjaaDoorRows
import GoSem.ClaimSeven
namespace Go.Proofs.YtapfbnojodafjaaDoor
namespace Rows

/-- THE TIED CARD OF 'laws.FnExactFormatInt'. -/
def fnExactFormatIntCard : Claim7 := { stood := { row := fnExactFormatIntRow, standIns := [], harness := (true, "1dc5cc706430d64c5bd781bbe9ea4e2371982735e6032e3316128b34afd58229"), looks := false }, kinds := [], alts := [], laidByText := true, laidKinds := [.data, .data, .data], laidTests := true, laidLooks := .later }
def FnExactFormatIntCardSaid : Prop := Claim7.holds Tryd.pinned (.plain (OpenSpec.ofChange fnExactFormatIntSpec)) fnExactFormatIntCard

/-- THE TIED CARD OF 'laws.FnNumbers'. -/
def fnNumbersCard : Claim7 := { stood := { row := fnNumbersRow, standIns := [], harness := (true, "1dc5cc706430d64c5bd781bbe9ea4e2371982735e6032e3316128b34afd58229"), looks := false }, kinds := [], alts := [], laidByText := true, laidKinds := [.data, .data, .data], laidTests := true, laidLooks := .later }
def FnNumbersCardSaid : Prop := Claim7.holds Tryd.pinned (.plain (OpenSpec.ofChange fnNumbersSpec)) fnNumbersCard

/-- THE TIED CARD OF 'laws.FnHexText'. -/
def fnHexTextCard : Claim7 := { stood := { row := fnHexTextRow, standIns := [], harness := (true, "1dc5cc706430d64c5bd781bbe9ea4e2371982735e6032e3316128b34afd58229"), looks := false }, kinds := [], alts := [], laidByText := true, laidKinds := [.data, .data, .data], laidTests := true, laidLooks := .later }
def FnHexTextCardSaid : Prop := Claim7.holds Tryd.pinned (.plain (OpenSpec.ofChange fnHexTextSpec)) fnHexTextCard

/-- THE TIED CARD OF 'laws.FnFieldsAgain'. -/
def fnFieldsAgainCard : Claim7 := { stood := { row := fnFieldsAgainRow, standIns := [], harness := (true, "1dc5cc706430d64c5bd781bbe9ea4e2371982735e6032e3316128b34afd58229"), looks := false }, kinds := [], alts := [], laidByText := true, laidKinds := [.data, .data, .data], laidTests := true, laidLooks := .later }
def FnFieldsAgainCardSaid : Prop := Claim7.holds Tryd.pinned (.plain (OpenSpec.ofChange fnFieldsAgainSpec)) fnFieldsAgainCard

/-- THE TIED CARD OF 'laws.FnExactFormatTok'. -/
def fnExactFormatTokCard : Claim7 := { stood := { row := fnExactFormatTokRow, standIns := [], harness := (true, "1dc5cc706430d64c5bd781bbe9ea4e2371982735e6032e3316128b34afd58229"), looks := false }, kinds := [], alts := [], laidByText := true, laidKinds := [.data, .data, .data], laidTests := true, laidLooks := .later }
def FnExactFormatTokCardSaid : Prop := Claim7.holds Tryd.pinned (.plain (OpenSpec.ofChange fnExactFormatTokSpec)) fnExactFormatTokCard

/-- THE TIED CARD OF 'laws.FnExactParseTok'. -/
def fnExactParseTokCard : Claim7 := { stood := { row := fnExactParseTokRow, standIns := [], harness := (true, "1dc5cc706430d64c5bd781bbe9ea4e2371982735e6032e3316128b34afd58229"), looks := false }, kinds := [], alts := [], laidByText := true, laidKinds := [.data, .data, .data], laidTests := true, laidLooks := .later }
def FnExactParseTokCardSaid : Prop := Claim7.holds Tryd.pinned (.plain (OpenSpec.ofChange fnExactParseTokSpec)) fnExactParseTokCard

/-- THE TIED CARD OF 'laws.FnExactFormatExpr'. -/
def fnExactFormatExprCard : Claim7 := { stood := { row := fnExactFormatExprRow, standIns := [], harness := (true, "1dc5cc706430d64c5bd781bbe9ea4e2371982735e6032e3316128b34afd58229"), looks := false }, kinds := [], alts := [], laidByText := true, laidKinds := [.data, .data, .data], laidTests := true, laidLooks := .later }
def FnExactFormatExprCardSaid : Prop := Claim7.holds Tryd.pinned (.plain (OpenSpec.ofChange fnExactFormatExprSpec)) fnExactFormatExprCard

/-- THE TIED CARD OF 'laws.FnExactParseExpr'. -/
def fnExactParseExprCard : Claim7 := { stood := { row := fnExactParseExprRow, standIns := [], harness := (true, "1dc5cc706430d64c5bd781bbe9ea4e2371982735e6032e3316128b34afd58229"), looks := false }, kinds := [], alts := [], laidByText := true, laidKinds := [.data, .data, .data], laidTests := true, laidLooks := .later }
def FnExactParseExprCardSaid : Prop := Claim7.holds Tryd.pinned (.plain (OpenSpec.ofChange fnExactParseExprSpec)) fnExactParseExprCard

/-- THE TIED CARD OF 'laws.FnExpressions'. -/
def fnExpressionsCard : Claim7 := { stood := { row := fnExpressionsRow, standIns := [], harness := (true, "1dc5cc706430d64c5bd781bbe9ea4e2371982735e6032e3316128b34afd58229"), looks := false }, kinds := [], alts := [], laidByText := true, laidKinds := [.data, .data, .data], laidTests := true, laidLooks := .later }
def FnExpressionsCardSaid : Prop := Claim7.holds Tryd.pinned (.plain (OpenSpec.ofChange fnExpressionsSpec)) fnExpressionsCard

/-- THE TIED CARD OF 'laws.FnExactFormatLine'. -/
def fnExactFormatLineCard : Claim7 := { stood := { row := fnExactFormatLineRow, standIns := [], harness := (true, "1dc5cc706430d64c5bd781bbe9ea4e2371982735e6032e3316128b34afd58229"), looks := false }, kinds := [], alts := [], laidByText := true, laidKinds := [.data, .data, .data], laidTests := true, laidLooks := .later }
def FnExactFormatLineCardSaid : Prop := Claim7.holds Tryd.pinned (.plain (OpenSpec.ofChange fnExactFormatLineSpec)) fnExactFormatLineCard

/-- THE TIED CARD OF 'laws.FnExactFormatProgram'. -/
def fnExactFormatProgramCard : Claim7 := { stood := { row := fnExactFormatProgramRow, standIns := [], harness := (true, "1dc5cc706430d64c5bd781bbe9ea4e2371982735e6032e3316128b34afd58229"), looks := false }, kinds := [], alts := [], laidByText := true, laidKinds := [.data, .data, .data], laidTests := true, laidLooks := .later }
def FnExactFormatProgramCardSaid : Prop := Claim7.holds Tryd.pinned (.plain (OpenSpec.ofChange fnExactFormatProgramSpec)) fnExactFormatProgramCard

/-- THE TIED CARD OF 'laws.FnProgramText'. -/
def fnProgramTextCard : Claim7 := { stood := { row := fnProgramTextRow, standIns := [], harness := (true, "1dc5cc706430d64c5bd781bbe9ea4e2371982735e6032e3316128b34afd58229"), looks := false }, kinds := [], alts := [], laidByText := true, laidKinds := [.data, .data, .data, .data, .pinned], laidTests := true, laidLooks := .later }
def FnProgramTextCardSaid : Prop := Claim7.holds Tryd.pinned (.plain (OpenSpec.ofChange fnProgramTextSpec)) fnProgramTextCard

/-- THE SECOND FORM's CARD OF 'laws.FnExactFormatInt'. -/
def fnExactFormatIntUptoCard : Claim7 := { stood := { row := fnExactFormatIntUptoRow, standIns := [], harness := (true, "1dc5cc706430d64c5bd781bbe9ea4e2371982735e6032e3316128b34afd58229"), looks := false }, kinds := [], alts := [], laidByText := true, laidKinds := [.data, .data, .data], laidTests := true, laidLooks := .later }
def FnExactFormatIntUptoCardSaid : Prop := Claim7.holds Tryd.pinned (.plain (OpenSpec.upto fnExactFormatIntSpec)) fnExactFormatIntUptoCard

/-- THE SECOND FORM's CARD OF 'laws.FnNumbers'. -/
def fnNumbersUptoCard : Claim7 := { stood := { row := fnNumbersUptoRow, standIns := [], harness := (true, "1dc5cc706430d64c5bd781bbe9ea4e2371982735e6032e3316128b34afd58229"), looks := false }, kinds := [], alts := [], laidByText := true, laidKinds := [.data, .data, .data], laidTests := true, laidLooks := .later }
def FnNumbersUptoCardSaid : Prop := Claim7.holds Tryd.pinned (.plain (OpenSpec.upto fnNumbersSpec)) fnNumbersUptoCard

/-- THE SECOND FORM's CARD OF 'laws.FnHexText'. -/
def fnHexTextUptoCard : Claim7 := { stood := { row := fnHexTextUptoRow, standIns := [], harness := (true, "1dc5cc706430d64c5bd781bbe9ea4e2371982735e6032e3316128b34afd58229"), looks := false }, kinds := [], alts := [], laidByText := true, laidKinds := [.data, .data, .data], laidTests := true, laidLooks := .later }
def FnHexTextUptoCardSaid : Prop := Claim7.holds Tryd.pinned (.plain (OpenSpec.upto fnHexTextSpec)) fnHexTextUptoCard

/-- THE SECOND FORM's CARD OF 'laws.FnFieldsAgain'. -/
def fnFieldsAgainUptoCard : Claim7 := { stood := { row := fnFieldsAgainUptoRow, standIns := [], harness := (true, "1dc5cc706430d64c5bd781bbe9ea4e2371982735e6032e3316128b34afd58229"), looks := false }, kinds := [], alts := [], laidByText := true, laidKinds := [.data, .data, .data], laidTests := true, laidLooks := .later }
def FnFieldsAgainUptoCardSaid : Prop := Claim7.holds Tryd.pinned (.plain (OpenSpec.upto fnFieldsAgainSpec)) fnFieldsAgainUptoCard

/-- THE SECOND FORM's CARD OF 'laws.FnExactFormatTok'. -/
def fnExactFormatTokUptoCard : Claim7 := { stood := { row := fnExactFormatTokUptoRow, standIns := [], harness := (true, "1dc5cc706430d64c5bd781bbe9ea4e2371982735e6032e3316128b34afd58229"), looks := false }, kinds := [], alts := [], laidByText := true, laidKinds := [.data, .data, .data], laidTests := true, laidLooks := .later }
def FnExactFormatTokUptoCardSaid : Prop := Claim7.holds Tryd.pinned (.plain (OpenSpec.upto fnExactFormatTokSpec)) fnExactFormatTokUptoCard

/-- THE SECOND FORM's CARD OF 'laws.FnExactParseTok'. -/
def fnExactParseTokUptoCard : Claim7 := { stood := { row := fnExactParseTokUptoRow, standIns := [], harness := (true, "1dc5cc706430d64c5bd781bbe9ea4e2371982735e6032e3316128b34afd58229"), looks := false }, kinds := [], alts := [], laidByText := true, laidKinds := [.data, .data, .data], laidTests := true, laidLooks := .later }
def FnExactParseTokUptoCardSaid : Prop := Claim7.holds Tryd.pinned (.plain (OpenSpec.upto fnExactParseTokSpec)) fnExactParseTokUptoCard

/-- THE SECOND FORM's CARD OF 'laws.FnExactFormatExpr'. -/
def fnExactFormatExprUptoCard : Claim7 := { stood := { row := fnExactFormatExprUptoRow, standIns := [], harness := (true, "1dc5cc706430d64c5bd781bbe9ea4e2371982735e6032e3316128b34afd58229"), looks := false }, kinds := [], alts := [], laidByText := true, laidKinds := [.data, .data, .data], laidTests := true, laidLooks := .later }
def FnExactFormatExprUptoCardSaid : Prop := Claim7.holds Tryd.pinned (.plain (OpenSpec.upto fnExactFormatExprSpec)) fnExactFormatExprUptoCard

/-- THE SECOND FORM's CARD OF 'laws.FnExactParseExpr'. -/
def fnExactParseExprUptoCard : Claim7 := { stood := { row := fnExactParseExprUptoRow, standIns := [], harness := (true, "1dc5cc706430d64c5bd781bbe9ea4e2371982735e6032e3316128b34afd58229"), looks := false }, kinds := [], alts := [], laidByText := true, laidKinds := [.data, .data, .data], laidTests := true, laidLooks := .later }
def FnExactParseExprUptoCardSaid : Prop := Claim7.holds Tryd.pinned (.plain (OpenSpec.upto fnExactParseExprSpec)) fnExactParseExprUptoCard

/-- THE SECOND FORM's CARD OF 'laws.FnExpressions'. -/
def fnExpressionsUptoCard : Claim7 := { stood := { row := fnExpressionsUptoRow, standIns := [], harness := (true, "1dc5cc706430d64c5bd781bbe9ea4e2371982735e6032e3316128b34afd58229"), looks := false }, kinds := [], alts := [], laidByText := true, laidKinds := [.data, .data, .data], laidTests := true, laidLooks := .later }
def FnExpressionsUptoCardSaid : Prop := Claim7.holds Tryd.pinned (.plain (OpenSpec.upto fnExpressionsSpec)) fnExpressionsUptoCard

/-- THE SECOND FORM's CARD OF 'laws.FnExactFormatLine'. -/
def fnExactFormatLineUptoCard : Claim7 := { stood := { row := fnExactFormatLineUptoRow, standIns := [], harness := (true, "1dc5cc706430d64c5bd781bbe9ea4e2371982735e6032e3316128b34afd58229"), looks := false }, kinds := [], alts := [], laidByText := true, laidKinds := [.data, .data, .data], laidTests := true, laidLooks := .later }
def FnExactFormatLineUptoCardSaid : Prop := Claim7.holds Tryd.pinned (.plain (OpenSpec.upto fnExactFormatLineSpec)) fnExactFormatLineUptoCard

/-- THE SECOND FORM's CARD OF 'laws.FnExactFormatProgram'. -/
def fnExactFormatProgramUptoCard : Claim7 := { stood := { row := fnExactFormatProgramUptoRow, standIns := [], harness := (true, "1dc5cc706430d64c5bd781bbe9ea4e2371982735e6032e3316128b34afd58229"), looks := false }, kinds := [], alts := [], laidByText := true, laidKinds := [.data, .data, .data], laidTests := true, laidLooks := .later }
def FnExactFormatProgramUptoCardSaid : Prop := Claim7.holds Tryd.pinned (.plain (OpenSpec.upto fnExactFormatProgramSpec)) fnExactFormatProgramUptoCard

/-- THE SECOND FORM's CARD OF 'laws.FnProgramText'. -/
def fnProgramTextUptoCard : Claim7 := { stood := { row := fnProgramTextUptoRow, standIns := [], harness := (true, "1dc5cc706430d64c5bd781bbe9ea4e2371982735e6032e3316128b34afd58229"), looks := false }, kinds := [], alts := [], laidByText := true, laidKinds := [.data, .data, .data, .data, .pinned], laidTests := true, laidLooks := .later }
def FnProgramTextUptoCardSaid : Prop := Claim7.holds Tryd.pinned (.plain (OpenSpec.upto fnProgramTextSpec)) fnProgramTextUptoCard
end Rows
end Go.Proofs.YtapfbnojodafjaaDoor
