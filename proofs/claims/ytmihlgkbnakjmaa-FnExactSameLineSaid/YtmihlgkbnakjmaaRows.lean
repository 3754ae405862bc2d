/-
  No cell of these rows narrows 'for every input' (looked for: loops, veiled, ifaces, maps, wideKeys, modest, calm, conditions, laid).
  DERIVED. THE GIVEN ROWS OF THIS SEAT. 12 by the template 'for every input the law returns true; each argument reads behind the call as it read before'; 0 by the template 'total and deterministic' (their statements: YtmihlgkbnakjmaaTotals.lean).
  GIVEN WITH THE SEED: the statements are not yours to turn. If you find one false, say at which input.
  Laid BY PROGRAM, IN A SANDBOX (cutbox-rows.mjs): the forced cells as the released guide's own fill.sh prints them over the translation 96411c21b139e546… (all of the seat's roots in one cut). By AI agents, Wed Nov 11 2026. No macro, syntax, notation, axiom, sorry.
-/
import Derived.Test.YtmihlgkbnakjmaaChecked
import GoSem.Claim
import GoSem.ClaimJoined
import GoSem.ClaimMapViews
import Derived.JoinedTies
import Derived.KernelRfl
namespace Go.Proofs.Ytmihlgkbnakjmaa
/- THE CELL 'sum', in the pinned program and in every row, IS THE sha256 OF THE DUMP (.gsa) THAT YtmihlgkbnakjmaaProg.lean LOADS. Nothing in Lean hashes anything: it is a label: what it is worth is what the hold of that sum in a sandbox is worth. -/
noncomputable def Try.pinned : Pinned := { name := "ytmihlgkbnakjmaa", sum := "96411c21b139e546b467dca86676a238e098c93369de9234689ed7f986fbd6d4", checked := Try.checked }
namespace Rows
def none {H : Type} : Left H := { results := [], args := [] }

/-- 'laws.FnExactSymbolAt': WHATEVER THE INPUT: true; the input reads as it did. -/
def fnExactSymbolAtSpec : ChangeSpec := { name := "fnExactSymbolAt", fn := fun _ => fun
  | [d1, d2] => { results := [.lit (.bool true)], args := [d1, d2] }
  | _ => none }
def fnExactSymbolAtRow : OpenClaim := { program := "ytmihlgkbnakjmaa", sum := "96411c21b139e546b467dca86676a238e098c93369de9234689ed7f986fbd6d4", func := "loop.example/g03314/laws.FnExactSymbolAt", spec := "fnExactSymbolAt", apart := false }
def FnExactSymbolAtSaid : Prop := fnExactSymbolAtRow.holds Try.pinned (OpenSpec.ofChange fnExactSymbolAtSpec)

/-- ITS FALSE NEIGHBOUR: 'it returns false'. Refute it at one input. -/
def fnExactSymbolAtWrong : ChangeSpec := { name := "fnExactSymbolAt", fn := fun _ => fun
  | [d1, d2] => { results := [.lit (.bool false)], args := [d1, d2] }
  | _ => none }
def FnExactSymbolAtWrongFalsely : Prop := fnExactSymbolAtRow.holds Try.pinned (OpenSpec.ofChange fnExactSymbolAtWrong)

/-- 'laws.FnExactVariableWords': WHATEVER THE INPUT: true; the input reads as it did. -/
def fnExactVariableWordsSpec : ChangeSpec := { name := "fnExactVariableWords", fn := fun _ => fun
  | [d] => { results := [.lit (.bool true)], args := [d] }
  | _ => none }
def fnExactVariableWordsRow : OpenClaim := { program := "ytmihlgkbnakjmaa", sum := "96411c21b139e546b467dca86676a238e098c93369de9234689ed7f986fbd6d4", func := "loop.example/g03314/laws.FnExactVariableWords", spec := "fnExactVariableWords", apart := false }
def FnExactVariableWordsSaid : Prop := fnExactVariableWordsRow.holds Try.pinned (OpenSpec.ofChange fnExactVariableWordsSpec)

/-- ITS FALSE NEIGHBOUR: 'it returns false'. Refute it at one input. -/
def fnExactVariableWordsWrong : ChangeSpec := { name := "fnExactVariableWords", fn := fun _ => fun
  | [d] => { results := [.lit (.bool false)], args := [d] }
  | _ => none }
def FnExactVariableWordsWrongFalsely : Prop := fnExactVariableWordsRow.holds Try.pinned (OpenSpec.ofChange fnExactVariableWordsWrong)

/-- 'laws.FnExactExprEnd': WHATEVER THE INPUT: true; the input reads as it did. -/
def fnExactExprEndSpec : ChangeSpec := { name := "fnExactExprEnd", fn := fun _ => fun
  | [d1, d2] => { results := [.lit (.bool true)], args := [d1, d2] }
  | _ => none }
def fnExactExprEndRow : OpenClaim := { program := "ytmihlgkbnakjmaa", sum := "96411c21b139e546b467dca86676a238e098c93369de9234689ed7f986fbd6d4", func := "loop.example/g03314/laws.FnExactExprEnd", spec := "fnExactExprEnd", apart := false }
def FnExactExprEndSaid : Prop := fnExactExprEndRow.holds Try.pinned (OpenSpec.ofChange fnExactExprEndSpec)

/-- ITS FALSE NEIGHBOUR: 'it returns false'. Refute it at one input. -/
def fnExactExprEndWrong : ChangeSpec := { name := "fnExactExprEnd", fn := fun _ => fun
  | [d1, d2] => { results := [.lit (.bool false)], args := [d1, d2] }
  | _ => none }
def FnExactExprEndWrongFalsely : Prop := fnExactExprEndRow.holds Try.pinned (OpenSpec.ofChange fnExactExprEndWrong)

/-- 'laws.FnExactExprOk': WHATEVER THE INPUT: true; the input reads as it did. -/
def fnExactExprOkSpec : ChangeSpec := { name := "fnExactExprOk", fn := fun _ => fun
  | [d] => { results := [.lit (.bool true)], args := [d] }
  | _ => none }
def fnExactExprOkRow : OpenClaim := { program := "ytmihlgkbnakjmaa", sum := "96411c21b139e546b467dca86676a238e098c93369de9234689ed7f986fbd6d4", func := "loop.example/g03314/laws.FnExactExprOk", spec := "fnExactExprOk", apart := false }
def FnExactExprOkSaid : Prop := fnExactExprOkRow.holds Try.pinned (OpenSpec.ofChange fnExactExprOkSpec)

/-- ITS FALSE NEIGHBOUR: 'it returns false'. Refute it at one input. -/
def fnExactExprOkWrong : ChangeSpec := { name := "fnExactExprOk", fn := fun _ => fun
  | [d] => { results := [.lit (.bool false)], args := [d] }
  | _ => none }
def FnExactExprOkWrongFalsely : Prop := fnExactExprOkRow.holds Try.pinned (OpenSpec.ofChange fnExactExprOkWrong)

/-- 'laws.FnExactSameLine': WHATEVER THE INPUT: true; the input reads as it did. -/
def fnExactSameLineSpec : ChangeSpec := { name := "fnExactSameLine", fn := fun _ => fun
  | [d1, d2] => { results := [.lit (.bool true)], args := [d1, d2] }
  | _ => none }
def fnExactSameLineRow : OpenClaim := { program := "ytmihlgkbnakjmaa", sum := "96411c21b139e546b467dca86676a238e098c93369de9234689ed7f986fbd6d4", func := "loop.example/g03314/laws.FnExactSameLine", spec := "fnExactSameLine", apart := false }
def FnExactSameLineSaid : Prop := fnExactSameLineRow.holds Try.pinned (OpenSpec.ofChange fnExactSameLineSpec)

/-- ITS FALSE NEIGHBOUR: 'it returns false'. Refute it at one input. -/
def fnExactSameLineWrong : ChangeSpec := { name := "fnExactSameLine", fn := fun _ => fun
  | [d1, d2] => { results := [.lit (.bool false)], args := [d1, d2] }
  | _ => none }
def FnExactSameLineWrongFalsely : Prop := fnExactSameLineRow.holds Try.pinned (OpenSpec.ofChange fnExactSameLineWrong)

/-- 'laws.FnExactFindFunction': WHATEVER THE INPUT: true; the input reads as it did. -/
def fnExactFindFunctionSpec : ChangeSpec := { name := "fnExactFindFunction", fn := fun _ => fun
  | [d1, d2] => { results := [.lit (.bool true)], args := [d1, d2] }
  | _ => none }
def fnExactFindFunctionRow : OpenClaim := { program := "ytmihlgkbnakjmaa", sum := "96411c21b139e546b467dca86676a238e098c93369de9234689ed7f986fbd6d4", func := "loop.example/g03314/laws.FnExactFindFunction", spec := "fnExactFindFunction", apart := false }
def FnExactFindFunctionSaid : Prop := fnExactFindFunctionRow.holds Try.pinned (OpenSpec.ofChange fnExactFindFunctionSpec)

/-- ITS FALSE NEIGHBOUR: 'it returns false'. Refute it at one input. -/
def fnExactFindFunctionWrong : ChangeSpec := { name := "fnExactFindFunction", fn := fun _ => fun
  | [d1, d2] => { results := [.lit (.bool false)], args := [d1, d2] }
  | _ => none }
def FnExactFindFunctionWrongFalsely : Prop := fnExactFindFunctionRow.holds Try.pinned (OpenSpec.ofChange fnExactFindFunctionWrong)

/-- 'laws.FnExactEndOf': WHATEVER THE INPUT: true; the input reads as it did. -/
def fnExactEndOfSpec : ChangeSpec := { name := "fnExactEndOf", fn := fun _ => fun
  | [d1, d2] => { results := [.lit (.bool true)], args := [d1, d2] }
  | _ => none }
def fnExactEndOfRow : OpenClaim := { program := "ytmihlgkbnakjmaa", sum := "96411c21b139e546b467dca86676a238e098c93369de9234689ed7f986fbd6d4", func := "loop.example/g03314/laws.FnExactEndOf", spec := "fnExactEndOf", apart := false }
def FnExactEndOfSaid : Prop := fnExactEndOfRow.holds Try.pinned (OpenSpec.ofChange fnExactEndOfSpec)

/-- ITS FALSE NEIGHBOUR: 'it returns false'. Refute it at one input. -/
def fnExactEndOfWrong : ChangeSpec := { name := "fnExactEndOf", fn := fun _ => fun
  | [d1, d2] => { results := [.lit (.bool false)], args := [d1, d2] }
  | _ => none }
def FnExactEndOfWrongFalsely : Prop := fnExactEndOfRow.holds Try.pinned (OpenSpec.ofChange fnExactEndOfWrong)

/-- 'laws.FnExactOperands': WHATEVER THE INPUT: true; the input reads as it did. -/
def fnExactOperandsSpec : ChangeSpec := { name := "fnExactOperands", fn := fun _ => fun
  | [d1, d2] => { results := [.lit (.bool true)], args := [d1, d2] }
  | _ => none }
def fnExactOperandsRow : OpenClaim := { program := "ytmihlgkbnakjmaa", sum := "96411c21b139e546b467dca86676a238e098c93369de9234689ed7f986fbd6d4", func := "loop.example/g03314/laws.FnExactOperands", spec := "fnExactOperands", apart := false }
def FnExactOperandsSaid : Prop := fnExactOperandsRow.holds Try.pinned (OpenSpec.ofChange fnExactOperandsSpec)

/-- ITS FALSE NEIGHBOUR: 'it returns false'. Refute it at one input. -/
def fnExactOperandsWrong : ChangeSpec := { name := "fnExactOperands", fn := fun _ => fun
  | [d1, d2] => { results := [.lit (.bool false)], args := [d1, d2] }
  | _ => none }
def FnExactOperandsWrongFalsely : Prop := fnExactOperandsRow.holds Try.pinned (OpenSpec.ofChange fnExactOperandsWrong)

/-- 'laws.FnExactElseOf': WHATEVER THE INPUT: true; the input reads as it did. -/
def fnExactElseOfSpec : ChangeSpec := { name := "fnExactElseOf", fn := fun _ => fun
  | [d1, d2] => { results := [.lit (.bool true)], args := [d1, d2] }
  | _ => none }
def fnExactElseOfRow : OpenClaim := { program := "ytmihlgkbnakjmaa", sum := "96411c21b139e546b467dca86676a238e098c93369de9234689ed7f986fbd6d4", func := "loop.example/g03314/laws.FnExactElseOf", spec := "fnExactElseOf", apart := false }
def FnExactElseOfSaid : Prop := fnExactElseOfRow.holds Try.pinned (OpenSpec.ofChange fnExactElseOfSpec)

/-- ITS FALSE NEIGHBOUR: 'it returns false'. Refute it at one input. -/
def fnExactElseOfWrong : ChangeSpec := { name := "fnExactElseOf", fn := fun _ => fun
  | [d1, d2] => { results := [.lit (.bool false)], args := [d1, d2] }
  | _ => none }
def FnExactElseOfWrongFalsely : Prop := fnExactElseOfRow.holds Try.pinned (OpenSpec.ofChange fnExactElseOfWrong)

/-- 'laws.FnExactFunctionLines': WHATEVER THE INPUT: true; the input reads as it did. -/
def fnExactFunctionLinesSpec : ChangeSpec := { name := "fnExactFunctionLines", fn := fun _ => fun
  | [d] => { results := [.lit (.bool true)], args := [d] }
  | _ => none }
def fnExactFunctionLinesRow : OpenClaim := { program := "ytmihlgkbnakjmaa", sum := "96411c21b139e546b467dca86676a238e098c93369de9234689ed7f986fbd6d4", func := "loop.example/g03314/laws.FnExactFunctionLines", spec := "fnExactFunctionLines", apart := false }
def FnExactFunctionLinesSaid : Prop := fnExactFunctionLinesRow.holds Try.pinned (OpenSpec.ofChange fnExactFunctionLinesSpec)

/-- ITS FALSE NEIGHBOUR: 'it returns false'. Refute it at one input. -/
def fnExactFunctionLinesWrong : ChangeSpec := { name := "fnExactFunctionLines", fn := fun _ => fun
  | [d] => { results := [.lit (.bool false)], args := [d] }
  | _ => none }
def FnExactFunctionLinesWrongFalsely : Prop := fnExactFunctionLinesRow.holds Try.pinned (OpenSpec.ofChange fnExactFunctionLinesWrong)

/-- 'laws.FnExactImageOk': WHATEVER THE INPUT: true; the input reads as it did. -/
def fnExactImageOkSpec : ChangeSpec := { name := "fnExactImageOk", fn := fun _ => fun
  | [d] => { results := [.lit (.bool true)], args := [d] }
  | _ => none }
def fnExactImageOkRow : OpenClaim := { program := "ytmihlgkbnakjmaa", sum := "96411c21b139e546b467dca86676a238e098c93369de9234689ed7f986fbd6d4", func := "loop.example/g03314/laws.FnExactImageOk", spec := "fnExactImageOk", apart := false }
def FnExactImageOkSaid : Prop := fnExactImageOkRow.holds Try.pinned (OpenSpec.ofChange fnExactImageOkSpec)

/-- ITS FALSE NEIGHBOUR: 'it returns false'. Refute it at one input. -/
def fnExactImageOkWrong : ChangeSpec := { name := "fnExactImageOk", fn := fun _ => fun
  | [d] => { results := [.lit (.bool false)], args := [d] }
  | _ => none }
def FnExactImageOkWrongFalsely : Prop := fnExactImageOkRow.holds Try.pinned (OpenSpec.ofChange fnExactImageOkWrong)

/-- 'laws.FnExactFoldExpr': WHATEVER THE INPUT: true; the input reads as it did. -/
def fnExactFoldExprSpec : ChangeSpec := { name := "fnExactFoldExpr", fn := fun _ => fun
  | [d] => { results := [.lit (.bool true)], args := [d] }
  | _ => none }
def fnExactFoldExprRow : OpenClaim := { program := "ytmihlgkbnakjmaa", sum := "96411c21b139e546b467dca86676a238e098c93369de9234689ed7f986fbd6d4", func := "loop.example/g03314/laws.FnExactFoldExpr", spec := "fnExactFoldExpr", recurses := true, apart := false }
def FnExactFoldExprSaid : Prop := fnExactFoldExprRow.holds Try.pinned (OpenSpec.ofChange fnExactFoldExprSpec)

/-- ITS FALSE NEIGHBOUR: 'it returns false'. Refute it at one input. -/
def fnExactFoldExprWrong : ChangeSpec := { name := "fnExactFoldExpr", fn := fun _ => fun
  | [d] => { results := [.lit (.bool false)], args := [d] }
  | _ => none }
def FnExactFoldExprWrongFalsely : Prop := fnExactFoldExprRow.holds Try.pinned (OpenSpec.ofChange fnExactFoldExprWrong)

/- THE SECOND FORM. 'bulk': how many values and letters a reading holds, each counted each time it is reached (what is shared counts as often as it is met; a slice's spare places count too). A statement '..UptoSaid' is the law's where the arguments, and the package variables that the reading takes, are together of bulk at most 1048576: NARROWER than '..Said'. Prove '..Said' where nothing that the law and all that it calls make is longer than what came in: it says more and counts as full. Else prove '..UptoSaid'. A law counts once. -/
mutual
def uptoBulk {H : Type} : DataW H → Nat
  | .lit (.string bytes) => bytes.length + 1
  | .lit _ => 1
  | .nil => 1
  | .ptr d => uptoBulk d + 1
  | .slice elems spare => uptoBulkAll elems + uptoBulkAll spare + 1
  | .agg parts => uptoBulkAll parts + 1
  | .iface _ d => uptoBulk d + 1
  | .map entries => uptoBulkEntries entries + 1
  | .held _ => 1
def uptoBulkAll {H : Type} : List (DataW H) → Nat
  | [] => 0
  | d :: r => uptoBulk d + uptoBulkAll r
def uptoBulkEntries {H : Type} : List (Lit × DataW H) → Nat
  | [] => 0
  | x :: r => uptoBulkEntry x + uptoBulkEntries r
def uptoBulkEntry {H : Type} : Lit × DataW H → Nat
  | (.string bytes, d) => bytes.length + uptoBulk d + 1
  | (_, d) => uptoBulk d + 1
 end
def uptoSmall : (H : Type) → List (DataW H) → Bool := fun _ ds => decide (uptoBulkAll ds ≤ 1048576)
def OpenSpec.upto (s : _root_.Go.ChangeSpec) : _root_.Go.OpenSpec := { _root_.Go.OpenSpec.ofChange s with cond := some uptoSmall }

/-- 'laws.FnExactSymbolAt', WHERE WHAT IT READS IS OF BULK AT MOST 1048576: true; the input reads as it did. -/
def fnExactSymbolAtUptoRow : OpenClaim := { program := "ytmihlgkbnakjmaa", sum := "96411c21b139e546b467dca86676a238e098c93369de9234689ed7f986fbd6d4", func := "loop.example/g03314/laws.FnExactSymbolAt", spec := "fnExactSymbolAt", apart := false, narrowed := true }
def FnExactSymbolAtUptoSaid : Prop := fnExactSymbolAtUptoRow.holds Try.pinned (OpenSpec.upto fnExactSymbolAtSpec)

/-- 'laws.FnExactVariableWords', WHERE WHAT IT READS IS OF BULK AT MOST 1048576: true; the input reads as it did. -/
def fnExactVariableWordsUptoRow : OpenClaim := { program := "ytmihlgkbnakjmaa", sum := "96411c21b139e546b467dca86676a238e098c93369de9234689ed7f986fbd6d4", func := "loop.example/g03314/laws.FnExactVariableWords", spec := "fnExactVariableWords", apart := false, narrowed := true }
def FnExactVariableWordsUptoSaid : Prop := fnExactVariableWordsUptoRow.holds Try.pinned (OpenSpec.upto fnExactVariableWordsSpec)

/-- 'laws.FnExactExprEnd', WHERE WHAT IT READS IS OF BULK AT MOST 1048576: true; the input reads as it did. -/
def fnExactExprEndUptoRow : OpenClaim := { program := "ytmihlgkbnakjmaa", sum := "96411c21b139e546b467dca86676a238e098c93369de9234689ed7f986fbd6d4", func := "loop.example/g03314/laws.FnExactExprEnd", spec := "fnExactExprEnd", apart := false, narrowed := true }
def FnExactExprEndUptoSaid : Prop := fnExactExprEndUptoRow.holds Try.pinned (OpenSpec.upto fnExactExprEndSpec)

/-- 'laws.FnExactExprOk', WHERE WHAT IT READS IS OF BULK AT MOST 1048576: true; the input reads as it did. -/
def fnExactExprOkUptoRow : OpenClaim := { program := "ytmihlgkbnakjmaa", sum := "96411c21b139e546b467dca86676a238e098c93369de9234689ed7f986fbd6d4", func := "loop.example/g03314/laws.FnExactExprOk", spec := "fnExactExprOk", apart := false, narrowed := true }
def FnExactExprOkUptoSaid : Prop := fnExactExprOkUptoRow.holds Try.pinned (OpenSpec.upto fnExactExprOkSpec)

/-- 'laws.FnExactSameLine', WHERE WHAT IT READS IS OF BULK AT MOST 1048576: true; the input reads as it did. -/
def fnExactSameLineUptoRow : OpenClaim := { program := "ytmihlgkbnakjmaa", sum := "96411c21b139e546b467dca86676a238e098c93369de9234689ed7f986fbd6d4", func := "loop.example/g03314/laws.FnExactSameLine", spec := "fnExactSameLine", apart := false, narrowed := true }
def FnExactSameLineUptoSaid : Prop := fnExactSameLineUptoRow.holds Try.pinned (OpenSpec.upto fnExactSameLineSpec)

/-- 'laws.FnExactFindFunction', WHERE WHAT IT READS IS OF BULK AT MOST 1048576: true; the input reads as it did. -/
def fnExactFindFunctionUptoRow : OpenClaim := { program := "ytmihlgkbnakjmaa", sum := "96411c21b139e546b467dca86676a238e098c93369de9234689ed7f986fbd6d4", func := "loop.example/g03314/laws.FnExactFindFunction", spec := "fnExactFindFunction", apart := false, narrowed := true }
def FnExactFindFunctionUptoSaid : Prop := fnExactFindFunctionUptoRow.holds Try.pinned (OpenSpec.upto fnExactFindFunctionSpec)

/-- 'laws.FnExactEndOf', WHERE WHAT IT READS IS OF BULK AT MOST 1048576: true; the input reads as it did. -/
def fnExactEndOfUptoRow : OpenClaim := { program := "ytmihlgkbnakjmaa", sum := "96411c21b139e546b467dca86676a238e098c93369de9234689ed7f986fbd6d4", func := "loop.example/g03314/laws.FnExactEndOf", spec := "fnExactEndOf", apart := false, narrowed := true }
def FnExactEndOfUptoSaid : Prop := fnExactEndOfUptoRow.holds Try.pinned (OpenSpec.upto fnExactEndOfSpec)

/-- 'laws.FnExactOperands', WHERE WHAT IT READS IS OF BULK AT MOST 1048576: true; the input reads as it did. -/
def fnExactOperandsUptoRow : OpenClaim := { program := "ytmihlgkbnakjmaa", sum := "96411c21b139e546b467dca86676a238e098c93369de9234689ed7f986fbd6d4", func := "loop.example/g03314/laws.FnExactOperands", spec := "fnExactOperands", apart := false, narrowed := true }
def FnExactOperandsUptoSaid : Prop := fnExactOperandsUptoRow.holds Try.pinned (OpenSpec.upto fnExactOperandsSpec)

/-- 'laws.FnExactElseOf', WHERE WHAT IT READS IS OF BULK AT MOST 1048576: true; the input reads as it did. -/
def fnExactElseOfUptoRow : OpenClaim := { program := "ytmihlgkbnakjmaa", sum := "96411c21b139e546b467dca86676a238e098c93369de9234689ed7f986fbd6d4", func := "loop.example/g03314/laws.FnExactElseOf", spec := "fnExactElseOf", apart := false, narrowed := true }
def FnExactElseOfUptoSaid : Prop := fnExactElseOfUptoRow.holds Try.pinned (OpenSpec.upto fnExactElseOfSpec)

/-- 'laws.FnExactFunctionLines', WHERE WHAT IT READS IS OF BULK AT MOST 1048576: true; the input reads as it did. -/
def fnExactFunctionLinesUptoRow : OpenClaim := { program := "ytmihlgkbnakjmaa", sum := "96411c21b139e546b467dca86676a238e098c93369de9234689ed7f986fbd6d4", func := "loop.example/g03314/laws.FnExactFunctionLines", spec := "fnExactFunctionLines", apart := false, narrowed := true }
def FnExactFunctionLinesUptoSaid : Prop := fnExactFunctionLinesUptoRow.holds Try.pinned (OpenSpec.upto fnExactFunctionLinesSpec)

/-- 'laws.FnExactImageOk', WHERE WHAT IT READS IS OF BULK AT MOST 1048576: true; the input reads as it did. -/
def fnExactImageOkUptoRow : OpenClaim := { program := "ytmihlgkbnakjmaa", sum := "96411c21b139e546b467dca86676a238e098c93369de9234689ed7f986fbd6d4", func := "loop.example/g03314/laws.FnExactImageOk", spec := "fnExactImageOk", apart := false, narrowed := true }
def FnExactImageOkUptoSaid : Prop := fnExactImageOkUptoRow.holds Try.pinned (OpenSpec.upto fnExactImageOkSpec)

/-- 'laws.FnExactFoldExpr', WHERE WHAT IT READS IS OF BULK AT MOST 1048576: true; the input reads as it did. -/
def fnExactFoldExprUptoRow : OpenClaim := { program := "ytmihlgkbnakjmaa", sum := "96411c21b139e546b467dca86676a238e098c93369de9234689ed7f986fbd6d4", func := "loop.example/g03314/laws.FnExactFoldExpr", spec := "fnExactFoldExpr", recurses := true, apart := false, narrowed := true }
def FnExactFoldExprUptoSaid : Prop := fnExactFoldExprUptoRow.holds Try.pinned (OpenSpec.upto fnExactFoldExprSpec)

end Rows
end Go.Proofs.Ytmihlgkbnakjmaa
