/-
  DERIVED. GIVEN WITH THE SEED: THE CARDS: each row of YtclldakoinnhhaaDoorRows.lean that lists a variable, with what it lists TIED to the program's text (the seventh form; the later family's looks); each row that meets fmt, with fmt's text TOLD by the authors' own Lean function (tested against real Go, not proved from fmt's source: count such statements apart). THE CARD IS WHAT COUNTS. Prove the row's statement (the work); the ties are given (YtclldakoinnhhaaDoorTie.lean); close each card by the builder's one call (the guide's Derived/Test/ToyasCard.lean, 'card_holds'). Laid BY PROGRAM, IN A SANDBOX (cutbox-door.mjs). By AI agents, Wed Nov 11 2026. No macro, syntax, notation, axiom, sorry.
-/
import Derived.Test.YtclldakoinnhhaaDoorRows
import GoSem.ClaimSeven
namespace Go.Proofs.YtclldakoinnhhaaDoor
namespace Rows

/-- THE TIED CARD OF 'laws.FnExpressions'. -/
def fnExpressionsCard : Claim7 := { stood := { row := fnExpressionsRow, standIns := [], harness := (true, "d50dcd84c46f0d781ab7b62011ba445f123b03a407879f89767c8d41790028ee"), looks := false }, kinds := [], alts := [], laidByText := true, laidKinds := [.data, .data, .data], laidTests := true, laidLooks := .later }
def FnExpressionsCardSaid : Prop := Claim7.holds Tryd.pinned (.plain (OpenSpec.ofChange fnExpressionsSpec)) fnExpressionsCard

/-- THE TIED CARD OF 'laws.FnProgramText'. -/
def fnProgramTextCard : Claim7 := { stood := { row := fnProgramTextRow, standIns := [], harness := (true, "d50dcd84c46f0d781ab7b62011ba445f123b03a407879f89767c8d41790028ee"), looks := false }, kinds := [], alts := [], laidByText := true, laidKinds := [.data, .data, .data, .data, .pinned], laidTests := true, laidLooks := .later }
def FnProgramTextCardSaid : Prop := Claim7.holds Tryd.pinned (.plain (OpenSpec.ofChange fnProgramTextSpec)) fnProgramTextCard

/-- THE SECOND FORM's CARD OF 'laws.FnExpressions'. -/
def fnExpressionsUptoCard : Claim7 := { stood := { row := fnExpressionsUptoRow, standIns := [], harness := (true, "d50dcd84c46f0d781ab7b62011ba445f123b03a407879f89767c8d41790028ee"), looks := false }, kinds := [], alts := [], laidByText := true, laidKinds := [.data, .data, .data], laidTests := true, laidLooks := .later }
def FnExpressionsUptoCardSaid : Prop := Claim7.holds Tryd.pinned (.plain (OpenSpec.upto fnExpressionsSpec)) fnExpressionsUptoCard

/-- THE SECOND FORM's CARD OF 'laws.FnProgramText'. -/
def fnProgramTextUptoCard : Claim7 := { stood := { row := fnProgramTextUptoRow, standIns := [], harness := (true, "d50dcd84c46f0d781ab7b62011ba445f123b03a407879f89767c8d41790028ee"), looks := false }, kinds := [], alts := [], laidByText := true, laidKinds := [.data, .data, .data, .data, .pinned], laidTests := true, laidLooks := .later }
def FnProgramTextUptoCardSaid : Prop := Claim7.holds Tryd.pinned (.plain (OpenSpec.upto fnProgramTextSpec)) fnProgramTextUptoCard
end Rows
end Go.Proofs.YtclldakoinnhhaaDoor
