/-
  No cell of these rows narrows 'for every input' (looked for: loops, veiled, ifaces, maps, wideKeys, modest, calm, conditions, laid).
  DERIVED. THE GIVEN ROWS OF THIS SEAT. 11 by the template 'for every input the law returns true; each argument reads behind the call as it read before'; 0 by the template 'total and deterministic' (their statements: YthhlimbaoenkkaaTotals.lean).
  GIVEN WITH THE SEED: the statements are not yours to turn. If you find one false, say at which input.
  Laid BY PROGRAM, IN A SANDBOX (cutbox-rows.mjs): the forced cells as the released guide's own fill.sh prints them over the translation 04c779caefaee21e… (all of the seat's roots in one cut). By AI agents, Wed Nov 11 2026. No macro, syntax, notation, axiom, sorry.
-/
import Derived.Test.YthhlimbaoenkkaaChecked
import GoSem.Claim
import GoSem.ClaimJoined
import GoSem.ClaimMapViews
import Derived.JoinedTies
import Derived.KernelRfl
namespace Go.Proofs.Ythhlimbaoenkkaa
/- THE CELL 'sum', in the pinned program and in every row, IS THE sha256 OF THE DUMP (.gsa) THAT YthhlimbaoenkkaaProg.lean LOADS. Nothing in Lean hashes anything: it is a label: what it is worth is what the hold of that sum in a sandbox is worth. -/
noncomputable def Try.pinned : Pinned := { name := "ythhlimbaoenkkaa", sum := "04c779caefaee21e48bf9b9704f17b086193eda721ce491b69bc9068641d24f3", checked := Try.checked }
namespace Rows
def none {H : Type} : Left H := { results := [], args := [] }

/-- 'laws.FnOps': WHATEVER THE INPUT: true; the input reads as it did. -/
def fnOpsSpec : ChangeSpec := { name := "fnOps", fn := fun _ => fun
  | [d] => { results := [.lit (.bool true)], args := [d] }
  | _ => none }
def fnOpsRow : OpenClaim := { program := "ythhlimbaoenkkaa", sum := "04c779caefaee21e48bf9b9704f17b086193eda721ce491b69bc9068641d24f3", func := "loop.example/g03314/laws.FnOps", spec := "fnOps", apart := false }
def FnOpsSaid : Prop := fnOpsRow.holds Try.pinned (OpenSpec.ofChange fnOpsSpec)

/-- ITS FALSE NEIGHBOUR: 'it returns false'. Refute it at one input. -/
def fnOpsWrong : ChangeSpec := { name := "fnOps", fn := fun _ => fun
  | [d] => { results := [.lit (.bool false)], args := [d] }
  | _ => none }
def FnOpsWrongFalsely : Prop := fnOpsRow.holds Try.pinned (OpenSpec.ofChange fnOpsWrong)

/-- 'laws.FnExactVariableWords': WHATEVER THE INPUT: true; the input reads as it did. -/
def fnExactVariableWordsSpec : ChangeSpec := { name := "fnExactVariableWords", fn := fun _ => fun
  | [d] => { results := [.lit (.bool true)], args := [d] }
  | _ => none }
def fnExactVariableWordsRow : OpenClaim := { program := "ythhlimbaoenkkaa", sum := "04c779caefaee21e48bf9b9704f17b086193eda721ce491b69bc9068641d24f3", func := "loop.example/g03314/laws.FnExactVariableWords", spec := "fnExactVariableWords", apart := false }
def FnExactVariableWordsSaid : Prop := fnExactVariableWordsRow.holds Try.pinned (OpenSpec.ofChange fnExactVariableWordsSpec)

/-- ITS FALSE NEIGHBOUR: 'it returns false'. Refute it at one input. -/
def fnExactVariableWordsWrong : ChangeSpec := { name := "fnExactVariableWords", fn := fun _ => fun
  | [d] => { results := [.lit (.bool false)], args := [d] }
  | _ => none }
def FnExactVariableWordsWrongFalsely : Prop := fnExactVariableWordsRow.holds Try.pinned (OpenSpec.ofChange fnExactVariableWordsWrong)

/-- 'laws.FnExactFoldExpr': WHATEVER THE INPUT: true; the input reads as it did. -/
def fnExactFoldExprSpec : ChangeSpec := { name := "fnExactFoldExpr", fn := fun _ => fun
  | [d] => { results := [.lit (.bool true)], args := [d] }
  | _ => none }
def fnExactFoldExprRow : OpenClaim := { program := "ythhlimbaoenkkaa", sum := "04c779caefaee21e48bf9b9704f17b086193eda721ce491b69bc9068641d24f3", func := "loop.example/g03314/laws.FnExactFoldExpr", spec := "fnExactFoldExpr", recurses := true, apart := false }
def FnExactFoldExprSaid : Prop := fnExactFoldExprRow.holds Try.pinned (OpenSpec.ofChange fnExactFoldExprSpec)

/-- ITS FALSE NEIGHBOUR: 'it returns false'. Refute it at one input. -/
def fnExactFoldExprWrong : ChangeSpec := { name := "fnExactFoldExpr", fn := fun _ => fun
  | [d] => { results := [.lit (.bool false)], args := [d] }
  | _ => none }
def FnExactFoldExprWrongFalsely : Prop := fnExactFoldExprRow.holds Try.pinned (OpenSpec.ofChange fnExactFoldExprWrong)

/-- 'laws.FnExactSpaceOk': WHATEVER THE INPUT: true; the input reads as it did. -/
def fnExactSpaceOkSpec : ChangeSpec := { name := "fnExactSpaceOk", fn := fun _ => fun
  | [d] => { results := [.lit (.bool true)], args := [d] }
  | _ => none }
def fnExactSpaceOkRow : OpenClaim := { program := "ythhlimbaoenkkaa", sum := "04c779caefaee21e48bf9b9704f17b086193eda721ce491b69bc9068641d24f3", func := "loop.example/g03314/laws.FnExactSpaceOk", spec := "fnExactSpaceOk", apart := false }
def FnExactSpaceOkSaid : Prop := fnExactSpaceOkRow.holds Try.pinned (OpenSpec.ofChange fnExactSpaceOkSpec)

/-- ITS FALSE NEIGHBOUR: 'it returns false'. Refute it at one input. -/
def fnExactSpaceOkWrong : ChangeSpec := { name := "fnExactSpaceOk", fn := fun _ => fun
  | [d] => { results := [.lit (.bool false)], args := [d] }
  | _ => none }
def FnExactSpaceOkWrongFalsely : Prop := fnExactSpaceOkRow.holds Try.pinned (OpenSpec.ofChange fnExactSpaceOkWrong)

/-- 'laws.FnExactLocate': WHATEVER THE INPUT: true; the input reads as it did. -/
def fnExactLocateSpec : ChangeSpec := { name := "fnExactLocate", fn := fun _ => fun
  | [d1, d2] => { results := [.lit (.bool true)], args := [d1, d2] }
  | _ => none }
def fnExactLocateRow : OpenClaim := { program := "ythhlimbaoenkkaa", sum := "04c779caefaee21e48bf9b9704f17b086193eda721ce491b69bc9068641d24f3", func := "loop.example/g03314/laws.FnExactLocate", spec := "fnExactLocate", apart := false }
def FnExactLocateSaid : Prop := fnExactLocateRow.holds Try.pinned (OpenSpec.ofChange fnExactLocateSpec)

/-- ITS FALSE NEIGHBOUR: 'it returns false'. Refute it at one input. -/
def fnExactLocateWrong : ChangeSpec := { name := "fnExactLocate", fn := fun _ => fun
  | [d1, d2] => { results := [.lit (.bool false)], args := [d1, d2] }
  | _ => none }
def FnExactLocateWrongFalsely : Prop := fnExactLocateRow.holds Try.pinned (OpenSpec.ofChange fnExactLocateWrong)

/-- 'laws.FnExactFetchOp': WHATEVER THE INPUT: true; the input reads as it did. -/
def fnExactFetchOpSpec : ChangeSpec := { name := "fnExactFetchOp", fn := fun _ => fun
  | [d1, d2] => { results := [.lit (.bool true)], args := [d1, d2] }
  | _ => none }
def fnExactFetchOpRow : OpenClaim := { program := "ythhlimbaoenkkaa", sum := "04c779caefaee21e48bf9b9704f17b086193eda721ce491b69bc9068641d24f3", func := "loop.example/g03314/laws.FnExactFetchOp", spec := "fnExactFetchOp", apart := false }
def FnExactFetchOpSaid : Prop := fnExactFetchOpRow.holds Try.pinned (OpenSpec.ofChange fnExactFetchOpSpec)

/-- ITS FALSE NEIGHBOUR: 'it returns false'. Refute it at one input. -/
def fnExactFetchOpWrong : ChangeSpec := { name := "fnExactFetchOp", fn := fun _ => fun
  | [d1, d2] => { results := [.lit (.bool false)], args := [d1, d2] }
  | _ => none }
def FnExactFetchOpWrongFalsely : Prop := fnExactFetchOpRow.holds Try.pinned (OpenSpec.ofChange fnExactFetchOpWrong)

/-- 'laws.FnExactFunctionAt': WHATEVER THE INPUT: true; the input reads as it did. -/
def fnExactFunctionAtSpec : ChangeSpec := { name := "fnExactFunctionAt", fn := fun _ => fun
  | [d1, d2] => { results := [.lit (.bool true)], args := [d1, d2] }
  | _ => none }
def fnExactFunctionAtRow : OpenClaim := { program := "ythhlimbaoenkkaa", sum := "04c779caefaee21e48bf9b9704f17b086193eda721ce491b69bc9068641d24f3", func := "loop.example/g03314/laws.FnExactFunctionAt", spec := "fnExactFunctionAt", apart := false }
def FnExactFunctionAtSaid : Prop := fnExactFunctionAtRow.holds Try.pinned (OpenSpec.ofChange fnExactFunctionAtSpec)

/-- ITS FALSE NEIGHBOUR: 'it returns false'. Refute it at one input. -/
def fnExactFunctionAtWrong : ChangeSpec := { name := "fnExactFunctionAt", fn := fun _ => fun
  | [d1, d2] => { results := [.lit (.bool false)], args := [d1, d2] }
  | _ => none }
def FnExactFunctionAtWrongFalsely : Prop := fnExactFunctionAtRow.holds Try.pinned (OpenSpec.ofChange fnExactFunctionAtWrong)

/-- 'laws.FnBlocks': WHATEVER THE INPUT: true; the input reads as it did. -/
def fnBlocksSpec : ChangeSpec := { name := "fnBlocks", fn := fun _ => fun
  | [d] => { results := [.lit (.bool true)], args := [d] }
  | _ => none }
def fnBlocksRow : OpenClaim := { program := "ythhlimbaoenkkaa", sum := "04c779caefaee21e48bf9b9704f17b086193eda721ce491b69bc9068641d24f3", func := "loop.example/g03314/laws.FnBlocks", spec := "fnBlocks", recurses := true, apart := false }
def FnBlocksSaid : Prop := fnBlocksRow.holds Try.pinned (OpenSpec.ofChange fnBlocksSpec)

/-- ITS FALSE NEIGHBOUR: 'it returns false'. Refute it at one input. -/
def fnBlocksWrong : ChangeSpec := { name := "fnBlocks", fn := fun _ => fun
  | [d] => { results := [.lit (.bool false)], args := [d] }
  | _ => none }
def FnBlocksWrongFalsely : Prop := fnBlocksRow.holds Try.pinned (OpenSpec.ofChange fnBlocksWrong)

/-- 'laws.FnExactProgramOk': WHATEVER THE INPUT: true; the input reads as it did. -/
def fnExactProgramOkSpec : ChangeSpec := { name := "fnExactProgramOk", fn := fun _ => fun
  | [d] => { results := [.lit (.bool true)], args := [d] }
  | _ => none }
def fnExactProgramOkRow : OpenClaim := { program := "ythhlimbaoenkkaa", sum := "04c779caefaee21e48bf9b9704f17b086193eda721ce491b69bc9068641d24f3", func := "loop.example/g03314/laws.FnExactProgramOk", spec := "fnExactProgramOk", apart := false }
def FnExactProgramOkSaid : Prop := fnExactProgramOkRow.holds Try.pinned (OpenSpec.ofChange fnExactProgramOkSpec)

/-- ITS FALSE NEIGHBOUR: 'it returns false'. Refute it at one input. -/
def fnExactProgramOkWrong : ChangeSpec := { name := "fnExactProgramOk", fn := fun _ => fun
  | [d] => { results := [.lit (.bool false)], args := [d] }
  | _ => none }
def FnExactProgramOkWrongFalsely : Prop := fnExactProgramOkRow.holds Try.pinned (OpenSpec.ofChange fnExactProgramOkWrong)

/-- 'laws.FnExactSavedTokens': WHATEVER THE INPUT: true; the input reads as it did. -/
def fnExactSavedTokensSpec : ChangeSpec := { name := "fnExactSavedTokens", fn := fun _ => fun
  | [d] => { results := [.lit (.bool true)], args := [d] }
  | _ => none }
def fnExactSavedTokensRow : OpenClaim := { program := "ythhlimbaoenkkaa", sum := "04c779caefaee21e48bf9b9704f17b086193eda721ce491b69bc9068641d24f3", func := "loop.example/g03314/laws.FnExactSavedTokens", spec := "fnExactSavedTokens", recurses := true, apart := false }
def FnExactSavedTokensSaid : Prop := fnExactSavedTokensRow.holds Try.pinned (OpenSpec.ofChange fnExactSavedTokensSpec)

/-- ITS FALSE NEIGHBOUR: 'it returns false'. Refute it at one input. -/
def fnExactSavedTokensWrong : ChangeSpec := { name := "fnExactSavedTokens", fn := fun _ => fun
  | [d] => { results := [.lit (.bool false)], args := [d] }
  | _ => none }
def FnExactSavedTokensWrongFalsely : Prop := fnExactSavedTokensRow.holds Try.pinned (OpenSpec.ofChange fnExactSavedTokensWrong)

/-- 'laws.FnExactFoldProgram': WHATEVER THE INPUT: true; the input reads as it did. -/
def fnExactFoldProgramSpec : ChangeSpec := { name := "fnExactFoldProgram", fn := fun _ => fun
  | [d] => { results := [.lit (.bool true)], args := [d] }
  | _ => none }
def fnExactFoldProgramRow : OpenClaim := { program := "ythhlimbaoenkkaa", sum := "04c779caefaee21e48bf9b9704f17b086193eda721ce491b69bc9068641d24f3", func := "loop.example/g03314/laws.FnExactFoldProgram", spec := "fnExactFoldProgram", recurses := true, apart := false }
def FnExactFoldProgramSaid : Prop := fnExactFoldProgramRow.holds Try.pinned (OpenSpec.ofChange fnExactFoldProgramSpec)

/-- ITS FALSE NEIGHBOUR: 'it returns false'. Refute it at one input. -/
def fnExactFoldProgramWrong : ChangeSpec := { name := "fnExactFoldProgram", fn := fun _ => fun
  | [d] => { results := [.lit (.bool false)], args := [d] }
  | _ => none }
def FnExactFoldProgramWrongFalsely : Prop := fnExactFoldProgramRow.holds Try.pinned (OpenSpec.ofChange fnExactFoldProgramWrong)

/- THE SECOND FORM. 'bulk': how many values and letters a reading holds, each counted each time it is reached (what is shared counts as often as it is met; a slice's spare places count too). A statement '..UptoSaid' is the law's where the arguments, and the package variables that the reading takes, are together of bulk at most 1048576: NARROWER than '..Said'. Prove '..Said' where nothing that the law and all that it calls make is longer than what came in: it says more and counts as full. Else prove '..UptoSaid'. A law counts once. -/
mutual
def uptoBulk {H : Type} : DataW H → Nat
  | .lit (.string bytes) => bytes.length + 1
  | .lit _ => 1
  | .nil => 1
  | .ptr d => uptoBulk d + 1
  | .slice elems spare => uptoBulkAll elems + uptoBulkAll spare + 1
  | .agg parts => uptoBulkAll parts + 1
  | .iface _ d => uptoBulk d + 1
  | .map entries => uptoBulkEntries entries + 1
  | .held _ => 1
def uptoBulkAll {H : Type} : List (DataW H) → Nat
  | [] => 0
  | d :: r => uptoBulk d + uptoBulkAll r
def uptoBulkEntries {H : Type} : List (Lit × DataW H) → Nat
  | [] => 0
  | x :: r => uptoBulkEntry x + uptoBulkEntries r
def uptoBulkEntry {H : Type} : Lit × DataW H → Nat
  | (.string bytes, d) => bytes.length + uptoBulk d + 1
  | (_, d) => uptoBulk d + 1
 end
def uptoSmall : (H : Type) → List (DataW H) → Bool := fun _ ds => decide (uptoBulkAll ds ≤ 1048576)
def OpenSpec.upto (s : _root_.Go.ChangeSpec) : _root_.Go.OpenSpec := { _root_.Go.OpenSpec.ofChange s with cond := some uptoSmall }

/-- 'laws.FnOps', WHERE WHAT IT READS IS OF BULK AT MOST 1048576: true; the input reads as it did. -/
def fnOpsUptoRow : OpenClaim := { program := "ythhlimbaoenkkaa", sum := "04c779caefaee21e48bf9b9704f17b086193eda721ce491b69bc9068641d24f3", func := "loop.example/g03314/laws.FnOps", spec := "fnOps", apart := false, narrowed := true }
def FnOpsUptoSaid : Prop := fnOpsUptoRow.holds Try.pinned (OpenSpec.upto fnOpsSpec)

/-- 'laws.FnExactVariableWords', WHERE WHAT IT READS IS OF BULK AT MOST 1048576: true; the input reads as it did. -/
def fnExactVariableWordsUptoRow : OpenClaim := { program := "ythhlimbaoenkkaa", sum := "04c779caefaee21e48bf9b9704f17b086193eda721ce491b69bc9068641d24f3", func := "loop.example/g03314/laws.FnExactVariableWords", spec := "fnExactVariableWords", apart := false, narrowed := true }
def FnExactVariableWordsUptoSaid : Prop := fnExactVariableWordsUptoRow.holds Try.pinned (OpenSpec.upto fnExactVariableWordsSpec)

/-- 'laws.FnExactFoldExpr', WHERE WHAT IT READS IS OF BULK AT MOST 1048576: true; the input reads as it did. -/
def fnExactFoldExprUptoRow : OpenClaim := { program := "ythhlimbaoenkkaa", sum := "04c779caefaee21e48bf9b9704f17b086193eda721ce491b69bc9068641d24f3", func := "loop.example/g03314/laws.FnExactFoldExpr", spec := "fnExactFoldExpr", recurses := true, apart := false, narrowed := true }
def FnExactFoldExprUptoSaid : Prop := fnExactFoldExprUptoRow.holds Try.pinned (OpenSpec.upto fnExactFoldExprSpec)

/-- 'laws.FnExactSpaceOk', WHERE WHAT IT READS IS OF BULK AT MOST 1048576: true; the input reads as it did. -/
def fnExactSpaceOkUptoRow : OpenClaim := { program := "ythhlimbaoenkkaa", sum := "04c779caefaee21e48bf9b9704f17b086193eda721ce491b69bc9068641d24f3", func := "loop.example/g03314/laws.FnExactSpaceOk", spec := "fnExactSpaceOk", apart := false, narrowed := true }
def FnExactSpaceOkUptoSaid : Prop := fnExactSpaceOkUptoRow.holds Try.pinned (OpenSpec.upto fnExactSpaceOkSpec)

/-- 'laws.FnExactLocate', WHERE WHAT IT READS IS OF BULK AT MOST 1048576: true; the input reads as it did. -/
def fnExactLocateUptoRow : OpenClaim := { program := "ythhlimbaoenkkaa", sum := "04c779caefaee21e48bf9b9704f17b086193eda721ce491b69bc9068641d24f3", func := "loop.example/g03314/laws.FnExactLocate", spec := "fnExactLocate", apart := false, narrowed := true }
def FnExactLocateUptoSaid : Prop := fnExactLocateUptoRow.holds Try.pinned (OpenSpec.upto fnExactLocateSpec)

/-- 'laws.FnExactFetchOp', WHERE WHAT IT READS IS OF BULK AT MOST 1048576: true; the input reads as it did. -/
def fnExactFetchOpUptoRow : OpenClaim := { program := "ythhlimbaoenkkaa", sum := "04c779caefaee21e48bf9b9704f17b086193eda721ce491b69bc9068641d24f3", func := "loop.example/g03314/laws.FnExactFetchOp", spec := "fnExactFetchOp", apart := false, narrowed := true }
def FnExactFetchOpUptoSaid : Prop := fnExactFetchOpUptoRow.holds Try.pinned (OpenSpec.upto fnExactFetchOpSpec)

/-- 'laws.FnExactFunctionAt', WHERE WHAT IT READS IS OF BULK AT MOST 1048576: true; the input reads as it did. -/
def fnExactFunctionAtUptoRow : OpenClaim := { program := "ythhlimbaoenkkaa", sum := "04c779caefaee21e48bf9b9704f17b086193eda721ce491b69bc9068641d24f3", func := "loop.example/g03314/laws.FnExactFunctionAt", spec := "fnExactFunctionAt", apart := false, narrowed := true }
def FnExactFunctionAtUptoSaid : Prop := fnExactFunctionAtUptoRow.holds Try.pinned (OpenSpec.upto fnExactFunctionAtSpec)

/-- 'laws.FnBlocks', WHERE WHAT IT READS IS OF BULK AT MOST 1048576: true; the input reads as it did. -/
def fnBlocksUptoRow : OpenClaim := { program := "ythhlimbaoenkkaa", sum := "04c779caefaee21e48bf9b9704f17b086193eda721ce491b69bc9068641d24f3", func := "loop.example/g03314/laws.FnBlocks", spec := "fnBlocks", recurses := true, apart := false, narrowed := true }
def FnBlocksUptoSaid : Prop := fnBlocksUptoRow.holds Try.pinned (OpenSpec.upto fnBlocksSpec)

/-- 'laws.FnExactProgramOk', WHERE WHAT IT READS IS OF BULK AT MOST 1048576: true; the input reads as it did. -/
def fnExactProgramOkUptoRow : OpenClaim := { program := "ythhlimbaoenkkaa", sum := "04c779caefaee21e48bf9b9704f17b086193eda721ce491b69bc9068641d24f3", func := "loop.example/g03314/laws.FnExactProgramOk", spec := "fnExactProgramOk", apart := false, narrowed := true }
def FnExactProgramOkUptoSaid : Prop := fnExactProgramOkUptoRow.holds Try.pinned (OpenSpec.upto fnExactProgramOkSpec)

/-- 'laws.FnExactSavedTokens', WHERE WHAT IT READS IS OF BULK AT MOST 1048576: true; the input reads as it did. -/
def fnExactSavedTokensUptoRow : OpenClaim := { program := "ythhlimbaoenkkaa", sum := "04c779caefaee21e48bf9b9704f17b086193eda721ce491b69bc9068641d24f3", func := "loop.example/g03314/laws.FnExactSavedTokens", spec := "fnExactSavedTokens", recurses := true, apart := false, narrowed := true }
def FnExactSavedTokensUptoSaid : Prop := fnExactSavedTokensUptoRow.holds Try.pinned (OpenSpec.upto fnExactSavedTokensSpec)

/-- 'laws.FnExactFoldProgram', WHERE WHAT IT READS IS OF BULK AT MOST 1048576: true; the input reads as it did. -/
def fnExactFoldProgramUptoRow : OpenClaim := { program := "ythhlimbaoenkkaa", sum := "04c779caefaee21e48bf9b9704f17b086193eda721ce491b69bc9068641d24f3", func := "loop.example/g03314/laws.FnExactFoldProgram", spec := "fnExactFoldProgram", recurses := true, apart := false, narrowed := true }
def FnExactFoldProgramUptoSaid : Prop := fnExactFoldProgramUptoRow.holds Try.pinned (OpenSpec.upto fnExactFoldProgramSpec)

end Rows
end Go.Proofs.Ythhlimbaoenkkaa
