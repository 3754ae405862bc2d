/-
  No cell of these rows narrows 'for every input' (looked for: loops, veiled, ifaces, maps, wideKeys, modest, calm, conditions, laid).
  DERIVED. THE GIVEN ROWS OF THIS SEAT. 13 by the template 'for every input the law returns true; each argument reads behind the call as it read before'; 0 by the template 'total and deterministic' (their statements: YtjlmkkgokknjjaaTotals.lean).
  GIVEN WITH THE SEED: the statements are not yours to turn. If you find one false, say at which input.
  Laid BY PROGRAM, IN A SANDBOX (cutbox-rows.mjs): the forced cells as the released guide's own fill.sh prints them over the translation af9f25c7ddd40ad4… (all of the seat's roots in one cut). By AI agents, Wed Nov 11 2026. No macro, syntax, notation, axiom, sorry.
-/
import Derived.Test.YtjlmkkgokknjjaaChecked
import GoSem.Claim
import GoSem.ClaimJoined
import GoSem.ClaimMapViews
import Derived.JoinedTies
import Derived.KernelRfl
namespace Go.Proofs.Ytjlmkkgokknjjaa
/- THE CELL 'sum', in the pinned program and in every row, IS THE sha256 OF THE DUMP (.gsa) THAT YtjlmkkgokknjjaaProg.lean LOADS. Nothing in Lean hashes anything: it is a label: what it is worth is what the hold of that sum in a sandbox is worth. -/
noncomputable def Try.pinned : Pinned := { name := "ytjlmkkgokknjjaa", sum := "af9f25c7ddd40ad431d77a51dbfbefee442c2feacc5ca26ab01fcb915163bf69", checked := Try.checked }
namespace Rows
def none {H : Type} : Left H := { results := [], args := [] }

/-- 'laws.FnExactLineOk': WHATEVER THE INPUT: true; the input reads as it did. -/
def fnExactLineOkSpec : ChangeSpec := { name := "fnExactLineOk", fn := fun _ => fun
  | [d] => { results := [.lit (.bool true)], args := [d] }
  | _ => none }
def fnExactLineOkRow : OpenClaim := { program := "ytjlmkkgokknjjaa", sum := "af9f25c7ddd40ad431d77a51dbfbefee442c2feacc5ca26ab01fcb915163bf69", func := "loop.example/g03314/laws.FnExactLineOk", spec := "fnExactLineOk", apart := false }
def FnExactLineOkSaid : Prop := fnExactLineOkRow.holds Try.pinned (OpenSpec.ofChange fnExactLineOkSpec)

/-- ITS FALSE NEIGHBOUR: 'it returns false'. Refute it at one input. -/
def fnExactLineOkWrong : ChangeSpec := { name := "fnExactLineOk", fn := fun _ => fun
  | [d] => { results := [.lit (.bool false)], args := [d] }
  | _ => none }
def FnExactLineOkWrongFalsely : Prop := fnExactLineOkRow.holds Try.pinned (OpenSpec.ofChange fnExactLineOkWrong)

/-- 'laws.FnExactLocalsOf': WHATEVER THE INPUT: true; the input reads as it did. -/
def fnExactLocalsOfSpec : ChangeSpec := { name := "fnExactLocalsOf", fn := fun _ => fun
  | [d1, d2] => { results := [.lit (.bool true)], args := [d1, d2] }
  | _ => none }
def fnExactLocalsOfRow : OpenClaim := { program := "ytjlmkkgokknjjaa", sum := "af9f25c7ddd40ad431d77a51dbfbefee442c2feacc5ca26ab01fcb915163bf69", func := "loop.example/g03314/laws.FnExactLocalsOf", spec := "fnExactLocalsOf", apart := false }
def FnExactLocalsOfSaid : Prop := fnExactLocalsOfRow.holds Try.pinned (OpenSpec.ofChange fnExactLocalsOfSpec)

/-- ITS FALSE NEIGHBOUR: 'it returns false'. Refute it at one input. -/
def fnExactLocalsOfWrong : ChangeSpec := { name := "fnExactLocalsOf", fn := fun _ => fun
  | [d1, d2] => { results := [.lit (.bool false)], args := [d1, d2] }
  | _ => none }
def FnExactLocalsOfWrongFalsely : Prop := fnExactLocalsOfRow.holds Try.pinned (OpenSpec.ofChange fnExactLocalsOfWrong)

/-- 'laws.FnExactProgramOk': WHATEVER THE INPUT: true; the input reads as it did. -/
def fnExactProgramOkSpec : ChangeSpec := { name := "fnExactProgramOk", fn := fun _ => fun
  | [d] => { results := [.lit (.bool true)], args := [d] }
  | _ => none }
def fnExactProgramOkRow : OpenClaim := { program := "ytjlmkkgokknjjaa", sum := "af9f25c7ddd40ad431d77a51dbfbefee442c2feacc5ca26ab01fcb915163bf69", func := "loop.example/g03314/laws.FnExactProgramOk", spec := "fnExactProgramOk", apart := false }
def FnExactProgramOkSaid : Prop := fnExactProgramOkRow.holds Try.pinned (OpenSpec.ofChange fnExactProgramOkSpec)

/-- ITS FALSE NEIGHBOUR: 'it returns false'. Refute it at one input. -/
def fnExactProgramOkWrong : ChangeSpec := { name := "fnExactProgramOk", fn := fun _ => fun
  | [d] => { results := [.lit (.bool false)], args := [d] }
  | _ => none }
def FnExactProgramOkWrongFalsely : Prop := fnExactProgramOkRow.holds Try.pinned (OpenSpec.ofChange fnExactProgramOkWrong)

/-- 'laws.FnExactFoldProgram': WHATEVER THE INPUT: true; the input reads as it did. -/
def fnExactFoldProgramSpec : ChangeSpec := { name := "fnExactFoldProgram", fn := fun _ => fun
  | [d] => { results := [.lit (.bool true)], args := [d] }
  | _ => none }
def fnExactFoldProgramRow : OpenClaim := { program := "ytjlmkkgokknjjaa", sum := "af9f25c7ddd40ad431d77a51dbfbefee442c2feacc5ca26ab01fcb915163bf69", func := "loop.example/g03314/laws.FnExactFoldProgram", spec := "fnExactFoldProgram", recurses := true, apart := false }
def FnExactFoldProgramSaid : Prop := fnExactFoldProgramRow.holds Try.pinned (OpenSpec.ofChange fnExactFoldProgramSpec)

/-- ITS FALSE NEIGHBOUR: 'it returns false'. Refute it at one input. -/
def fnExactFoldProgramWrong : ChangeSpec := { name := "fnExactFoldProgram", fn := fun _ => fun
  | [d] => { results := [.lit (.bool false)], args := [d] }
  | _ => none }
def FnExactFoldProgramWrongFalsely : Prop := fnExactFoldProgramRow.holds Try.pinned (OpenSpec.ofChange fnExactFoldProgramWrong)

/-- 'laws.FnExactSavedTokens': WHATEVER THE INPUT: true; the input reads as it did. -/
def fnExactSavedTokensSpec : ChangeSpec := { name := "fnExactSavedTokens", fn := fun _ => fun
  | [d] => { results := [.lit (.bool true)], args := [d] }
  | _ => none }
def fnExactSavedTokensRow : OpenClaim := { program := "ytjlmkkgokknjjaa", sum := "af9f25c7ddd40ad431d77a51dbfbefee442c2feacc5ca26ab01fcb915163bf69", func := "loop.example/g03314/laws.FnExactSavedTokens", spec := "fnExactSavedTokens", recurses := true, apart := false }
def FnExactSavedTokensSaid : Prop := fnExactSavedTokensRow.holds Try.pinned (OpenSpec.ofChange fnExactSavedTokensSpec)

/-- ITS FALSE NEIGHBOUR: 'it returns false'. Refute it at one input. -/
def fnExactSavedTokensWrong : ChangeSpec := { name := "fnExactSavedTokens", fn := fun _ => fun
  | [d] => { results := [.lit (.bool false)], args := [d] }
  | _ => none }
def FnExactSavedTokensWrongFalsely : Prop := fnExactSavedTokensRow.holds Try.pinned (OpenSpec.ofChange fnExactSavedTokensWrong)

/-- 'laws.FnExactSpaceOk': WHATEVER THE INPUT: true; the input reads as it did. -/
def fnExactSpaceOkSpec : ChangeSpec := { name := "fnExactSpaceOk", fn := fun _ => fun
  | [d] => { results := [.lit (.bool true)], args := [d] }
  | _ => none }
def fnExactSpaceOkRow : OpenClaim := { program := "ytjlmkkgokknjjaa", sum := "af9f25c7ddd40ad431d77a51dbfbefee442c2feacc5ca26ab01fcb915163bf69", func := "loop.example/g03314/laws.FnExactSpaceOk", spec := "fnExactSpaceOk", apart := false }
def FnExactSpaceOkSaid : Prop := fnExactSpaceOkRow.holds Try.pinned (OpenSpec.ofChange fnExactSpaceOkSpec)

/-- ITS FALSE NEIGHBOUR: 'it returns false'. Refute it at one input. -/
def fnExactSpaceOkWrong : ChangeSpec := { name := "fnExactSpaceOk", fn := fun _ => fun
  | [d] => { results := [.lit (.bool false)], args := [d] }
  | _ => none }
def FnExactSpaceOkWrongFalsely : Prop := fnExactSpaceOkRow.holds Try.pinned (OpenSpec.ofChange fnExactSpaceOkWrong)

/-- 'laws.FnExactLocate': WHATEVER THE INPUT: true; the input reads as it did. -/
def fnExactLocateSpec : ChangeSpec := { name := "fnExactLocate", fn := fun _ => fun
  | [d1, d2] => { results := [.lit (.bool true)], args := [d1, d2] }
  | _ => none }
def fnExactLocateRow : OpenClaim := { program := "ytjlmkkgokknjjaa", sum := "af9f25c7ddd40ad431d77a51dbfbefee442c2feacc5ca26ab01fcb915163bf69", func := "loop.example/g03314/laws.FnExactLocate", spec := "fnExactLocate", apart := false }
def FnExactLocateSaid : Prop := fnExactLocateRow.holds Try.pinned (OpenSpec.ofChange fnExactLocateSpec)

/-- ITS FALSE NEIGHBOUR: 'it returns false'. Refute it at one input. -/
def fnExactLocateWrong : ChangeSpec := { name := "fnExactLocate", fn := fun _ => fun
  | [d1, d2] => { results := [.lit (.bool false)], args := [d1, d2] }
  | _ => none }
def FnExactLocateWrongFalsely : Prop := fnExactLocateRow.holds Try.pinned (OpenSpec.ofChange fnExactLocateWrong)

/-- 'laws.FnExactFetchOp': WHATEVER THE INPUT: true; the input reads as it did. -/
def fnExactFetchOpSpec : ChangeSpec := { name := "fnExactFetchOp", fn := fun _ => fun
  | [d1, d2] => { results := [.lit (.bool true)], args := [d1, d2] }
  | _ => none }
def fnExactFetchOpRow : OpenClaim := { program := "ytjlmkkgokknjjaa", sum := "af9f25c7ddd40ad431d77a51dbfbefee442c2feacc5ca26ab01fcb915163bf69", func := "loop.example/g03314/laws.FnExactFetchOp", spec := "fnExactFetchOp", apart := false }
def FnExactFetchOpSaid : Prop := fnExactFetchOpRow.holds Try.pinned (OpenSpec.ofChange fnExactFetchOpSpec)

/-- ITS FALSE NEIGHBOUR: 'it returns false'. Refute it at one input. -/
def fnExactFetchOpWrong : ChangeSpec := { name := "fnExactFetchOp", fn := fun _ => fun
  | [d1, d2] => { results := [.lit (.bool false)], args := [d1, d2] }
  | _ => none }
def FnExactFetchOpWrongFalsely : Prop := fnExactFetchOpRow.holds Try.pinned (OpenSpec.ofChange fnExactFetchOpWrong)

/-- 'laws.FnExactFunctionAt': WHATEVER THE INPUT: true; the input reads as it did. -/
def fnExactFunctionAtSpec : ChangeSpec := { name := "fnExactFunctionAt", fn := fun _ => fun
  | [d1, d2] => { results := [.lit (.bool true)], args := [d1, d2] }
  | _ => none }
def fnExactFunctionAtRow : OpenClaim := { program := "ytjlmkkgokknjjaa", sum := "af9f25c7ddd40ad431d77a51dbfbefee442c2feacc5ca26ab01fcb915163bf69", func := "loop.example/g03314/laws.FnExactFunctionAt", spec := "fnExactFunctionAt", apart := false }
def FnExactFunctionAtSaid : Prop := fnExactFunctionAtRow.holds Try.pinned (OpenSpec.ofChange fnExactFunctionAtSpec)

/-- ITS FALSE NEIGHBOUR: 'it returns false'. Refute it at one input. -/
def fnExactFunctionAtWrong : ChangeSpec := { name := "fnExactFunctionAt", fn := fun _ => fun
  | [d1, d2] => { results := [.lit (.bool false)], args := [d1, d2] }
  | _ => none }
def FnExactFunctionAtWrongFalsely : Prop := fnExactFunctionAtRow.holds Try.pinned (OpenSpec.ofChange fnExactFunctionAtWrong)

/-- 'laws.FnExactSplitFields': WHATEVER THE INPUT: true; the input reads as it did. -/
def fnExactSplitFieldsSpec : ChangeSpec := { name := "fnExactSplitFields", fn := fun _ => fun
  | [d] => { results := [.lit (.bool true)], args := [d] }
  | _ => none }
def fnExactSplitFieldsRow : OpenClaim := { program := "ytjlmkkgokknjjaa", sum := "af9f25c7ddd40ad431d77a51dbfbefee442c2feacc5ca26ab01fcb915163bf69", func := "loop.example/g03314/laws.FnExactSplitFields", spec := "fnExactSplitFields", apart := false }
def FnExactSplitFieldsSaid : Prop := fnExactSplitFieldsRow.holds Try.pinned (OpenSpec.ofChange fnExactSplitFieldsSpec)

/-- ITS FALSE NEIGHBOUR: 'it returns false'. Refute it at one input. -/
def fnExactSplitFieldsWrong : ChangeSpec := { name := "fnExactSplitFields", fn := fun _ => fun
  | [d] => { results := [.lit (.bool false)], args := [d] }
  | _ => none }
def FnExactSplitFieldsWrongFalsely : Prop := fnExactSplitFieldsRow.holds Try.pinned (OpenSpec.ofChange fnExactSplitFieldsWrong)

/-- 'laws.FnBlocks': WHATEVER THE INPUT: true; the input reads as it did. -/
def fnBlocksSpec : ChangeSpec := { name := "fnBlocks", fn := fun _ => fun
  | [d] => { results := [.lit (.bool true)], args := [d] }
  | _ => none }
def fnBlocksRow : OpenClaim := { program := "ytjlmkkgokknjjaa", sum := "af9f25c7ddd40ad431d77a51dbfbefee442c2feacc5ca26ab01fcb915163bf69", func := "loop.example/g03314/laws.FnBlocks", spec := "fnBlocks", recurses := true, apart := false }
def FnBlocksSaid : Prop := fnBlocksRow.holds Try.pinned (OpenSpec.ofChange fnBlocksSpec)

/-- ITS FALSE NEIGHBOUR: 'it returns false'. Refute it at one input. -/
def fnBlocksWrong : ChangeSpec := { name := "fnBlocks", fn := fun _ => fun
  | [d] => { results := [.lit (.bool false)], args := [d] }
  | _ => none }
def FnBlocksWrongFalsely : Prop := fnBlocksRow.holds Try.pinned (OpenSpec.ofChange fnBlocksWrong)

/-- 'laws.FnExactParseUint': WHATEVER THE INPUT: true; the input reads as it did. -/
def fnExactParseUintSpec : ChangeSpec := { name := "fnExactParseUint", fn := fun _ => fun
  | [d] => { results := [.lit (.bool true)], args := [d] }
  | _ => none }
def fnExactParseUintRow : OpenClaim := { program := "ytjlmkkgokknjjaa", sum := "af9f25c7ddd40ad431d77a51dbfbefee442c2feacc5ca26ab01fcb915163bf69", func := "loop.example/g03314/laws.FnExactParseUint", spec := "fnExactParseUint", apart := false }
def FnExactParseUintSaid : Prop := fnExactParseUintRow.holds Try.pinned (OpenSpec.ofChange fnExactParseUintSpec)

/-- ITS FALSE NEIGHBOUR: 'it returns false'. Refute it at one input. -/
def fnExactParseUintWrong : ChangeSpec := { name := "fnExactParseUint", fn := fun _ => fun
  | [d] => { results := [.lit (.bool false)], args := [d] }
  | _ => none }
def FnExactParseUintWrongFalsely : Prop := fnExactParseUintRow.holds Try.pinned (OpenSpec.ofChange fnExactParseUintWrong)

/-- 'laws.FnOps': WHATEVER THE INPUT: true; the input reads as it did. -/
def fnOpsSpec : ChangeSpec := { name := "fnOps", fn := fun _ => fun
  | [d] => { results := [.lit (.bool true)], args := [d] }
  | _ => none }
def fnOpsRow : OpenClaim := { program := "ytjlmkkgokknjjaa", sum := "af9f25c7ddd40ad431d77a51dbfbefee442c2feacc5ca26ab01fcb915163bf69", func := "loop.example/g03314/laws.FnOps", spec := "fnOps", apart := false }
def FnOpsSaid : Prop := fnOpsRow.holds Try.pinned (OpenSpec.ofChange fnOpsSpec)

/-- ITS FALSE NEIGHBOUR: 'it returns false'. Refute it at one input. -/
def fnOpsWrong : ChangeSpec := { name := "fnOps", fn := fun _ => fun
  | [d] => { results := [.lit (.bool false)], args := [d] }
  | _ => none }
def FnOpsWrongFalsely : Prop := fnOpsRow.holds Try.pinned (OpenSpec.ofChange fnOpsWrong)

/- THE SECOND FORM. 'bulk': how many values and letters a reading holds, each counted each time it is reached (what is shared counts as often as it is met; a slice's spare places count too). A statement '..UptoSaid' is the law's where the arguments, and the package variables that the reading takes, are together of bulk at most 1048576: NARROWER than '..Said'. Prove '..Said' where nothing that the law and all that it calls make is longer than what came in: it says more and counts as full. Else prove '..UptoSaid'. A law counts once. -/
mutual
def uptoBulk {H : Type} : DataW H → Nat
  | .lit (.string bytes) => bytes.length + 1
  | .lit _ => 1
  | .nil => 1
  | .ptr d => uptoBulk d + 1
  | .slice elems spare => uptoBulkAll elems + uptoBulkAll spare + 1
  | .agg parts => uptoBulkAll parts + 1
  | .iface _ d => uptoBulk d + 1
  | .map entries => uptoBulkEntries entries + 1
  | .held _ => 1
def uptoBulkAll {H : Type} : List (DataW H) → Nat
  | [] => 0
  | d :: r => uptoBulk d + uptoBulkAll r
def uptoBulkEntries {H : Type} : List (Lit × DataW H) → Nat
  | [] => 0
  | x :: r => uptoBulkEntry x + uptoBulkEntries r
def uptoBulkEntry {H : Type} : Lit × DataW H → Nat
  | (.string bytes, d) => bytes.length + uptoBulk d + 1
  | (_, d) => uptoBulk d + 1
 end
def uptoSmall : (H : Type) → List (DataW H) → Bool := fun _ ds => decide (uptoBulkAll ds ≤ 1048576)
def OpenSpec.upto (s : _root_.Go.ChangeSpec) : _root_.Go.OpenSpec := { _root_.Go.OpenSpec.ofChange s with cond := some uptoSmall }

/-- 'laws.FnExactLineOk', WHERE WHAT IT READS IS OF BULK AT MOST 1048576: true; the input reads as it did. -/
def fnExactLineOkUptoRow : OpenClaim := { program := "ytjlmkkgokknjjaa", sum := "af9f25c7ddd40ad431d77a51dbfbefee442c2feacc5ca26ab01fcb915163bf69", func := "loop.example/g03314/laws.FnExactLineOk", spec := "fnExactLineOk", apart := false, narrowed := true }
def FnExactLineOkUptoSaid : Prop := fnExactLineOkUptoRow.holds Try.pinned (OpenSpec.upto fnExactLineOkSpec)

/-- 'laws.FnExactLocalsOf', WHERE WHAT IT READS IS OF BULK AT MOST 1048576: true; the input reads as it did. -/
def fnExactLocalsOfUptoRow : OpenClaim := { program := "ytjlmkkgokknjjaa", sum := "af9f25c7ddd40ad431d77a51dbfbefee442c2feacc5ca26ab01fcb915163bf69", func := "loop.example/g03314/laws.FnExactLocalsOf", spec := "fnExactLocalsOf", apart := false, narrowed := true }
def FnExactLocalsOfUptoSaid : Prop := fnExactLocalsOfUptoRow.holds Try.pinned (OpenSpec.upto fnExactLocalsOfSpec)

/-- 'laws.FnExactProgramOk', WHERE WHAT IT READS IS OF BULK AT MOST 1048576: true; the input reads as it did. -/
def fnExactProgramOkUptoRow : OpenClaim := { program := "ytjlmkkgokknjjaa", sum := "af9f25c7ddd40ad431d77a51dbfbefee442c2feacc5ca26ab01fcb915163bf69", func := "loop.example/g03314/laws.FnExactProgramOk", spec := "fnExactProgramOk", apart := false, narrowed := true }
def FnExactProgramOkUptoSaid : Prop := fnExactProgramOkUptoRow.holds Try.pinned (OpenSpec.upto fnExactProgramOkSpec)

/-- 'laws.FnExactFoldProgram', WHERE WHAT IT READS IS OF BULK AT MOST 1048576: true; the input reads as it did. -/
def fnExactFoldProgramUptoRow : OpenClaim := { program := "ytjlmkkgokknjjaa", sum := "af9f25c7ddd40ad431d77a51dbfbefee442c2feacc5ca26ab01fcb915163bf69", func := "loop.example/g03314/laws.FnExactFoldProgram", spec := "fnExactFoldProgram", recurses := true, apart := false, narrowed := true }
def FnExactFoldProgramUptoSaid : Prop := fnExactFoldProgramUptoRow.holds Try.pinned (OpenSpec.upto fnExactFoldProgramSpec)

/-- 'laws.FnExactSavedTokens', WHERE WHAT IT READS IS OF BULK AT MOST 1048576: true; the input reads as it did. -/
def fnExactSavedTokensUptoRow : OpenClaim := { program := "ytjlmkkgokknjjaa", sum := "af9f25c7ddd40ad431d77a51dbfbefee442c2feacc5ca26ab01fcb915163bf69", func := "loop.example/g03314/laws.FnExactSavedTokens", spec := "fnExactSavedTokens", recurses := true, apart := false, narrowed := true }
def FnExactSavedTokensUptoSaid : Prop := fnExactSavedTokensUptoRow.holds Try.pinned (OpenSpec.upto fnExactSavedTokensSpec)

/-- 'laws.FnExactSpaceOk', WHERE WHAT IT READS IS OF BULK AT MOST 1048576: true; the input reads as it did. -/
def fnExactSpaceOkUptoRow : OpenClaim := { program := "ytjlmkkgokknjjaa", sum := "af9f25c7ddd40ad431d77a51dbfbefee442c2feacc5ca26ab01fcb915163bf69", func := "loop.example/g03314/laws.FnExactSpaceOk", spec := "fnExactSpaceOk", apart := false, narrowed := true }
def FnExactSpaceOkUptoSaid : Prop := fnExactSpaceOkUptoRow.holds Try.pinned (OpenSpec.upto fnExactSpaceOkSpec)

/-- 'laws.FnExactLocate', WHERE WHAT IT READS IS OF BULK AT MOST 1048576: true; the input reads as it did. -/
def fnExactLocateUptoRow : OpenClaim := { program := "ytjlmkkgokknjjaa", sum := "af9f25c7ddd40ad431d77a51dbfbefee442c2feacc5ca26ab01fcb915163bf69", func := "loop.example/g03314/laws.FnExactLocate", spec := "fnExactLocate", apart := false, narrowed := true }
def FnExactLocateUptoSaid : Prop := fnExactLocateUptoRow.holds Try.pinned (OpenSpec.upto fnExactLocateSpec)

/-- 'laws.FnExactFetchOp', WHERE WHAT IT READS IS OF BULK AT MOST 1048576: true; the input reads as it did. -/
def fnExactFetchOpUptoRow : OpenClaim := { program := "ytjlmkkgokknjjaa", sum := "af9f25c7ddd40ad431d77a51dbfbefee442c2feacc5ca26ab01fcb915163bf69", func := "loop.example/g03314/laws.FnExactFetchOp", spec := "fnExactFetchOp", apart := false, narrowed := true }
def FnExactFetchOpUptoSaid : Prop := fnExactFetchOpUptoRow.holds Try.pinned (OpenSpec.upto fnExactFetchOpSpec)

/-- 'laws.FnExactFunctionAt', WHERE WHAT IT READS IS OF BULK AT MOST 1048576: true; the input reads as it did. -/
def fnExactFunctionAtUptoRow : OpenClaim := { program := "ytjlmkkgokknjjaa", sum := "af9f25c7ddd40ad431d77a51dbfbefee442c2feacc5ca26ab01fcb915163bf69", func := "loop.example/g03314/laws.FnExactFunctionAt", spec := "fnExactFunctionAt", apart := false, narrowed := true }
def FnExactFunctionAtUptoSaid : Prop := fnExactFunctionAtUptoRow.holds Try.pinned (OpenSpec.upto fnExactFunctionAtSpec)

/-- 'laws.FnExactSplitFields', WHERE WHAT IT READS IS OF BULK AT MOST 1048576: true; the input reads as it did. -/
def fnExactSplitFieldsUptoRow : OpenClaim := { program := "ytjlmkkgokknjjaa", sum := "af9f25c7ddd40ad431d77a51dbfbefee442c2feacc5ca26ab01fcb915163bf69", func := "loop.example/g03314/laws.FnExactSplitFields", spec := "fnExactSplitFields", apart := false, narrowed := true }
def FnExactSplitFieldsUptoSaid : Prop := fnExactSplitFieldsUptoRow.holds Try.pinned (OpenSpec.upto fnExactSplitFieldsSpec)

/-- 'laws.FnBlocks', WHERE WHAT IT READS IS OF BULK AT MOST 1048576: true; the input reads as it did. -/
def fnBlocksUptoRow : OpenClaim := { program := "ytjlmkkgokknjjaa", sum := "af9f25c7ddd40ad431d77a51dbfbefee442c2feacc5ca26ab01fcb915163bf69", func := "loop.example/g03314/laws.FnBlocks", spec := "fnBlocks", recurses := true, apart := false, narrowed := true }
def FnBlocksUptoSaid : Prop := fnBlocksUptoRow.holds Try.pinned (OpenSpec.upto fnBlocksSpec)

/-- 'laws.FnExactParseUint', WHERE WHAT IT READS IS OF BULK AT MOST 1048576: true; the input reads as it did. -/
def fnExactParseUintUptoRow : OpenClaim := { program := "ytjlmkkgokknjjaa", sum := "af9f25c7ddd40ad431d77a51dbfbefee442c2feacc5ca26ab01fcb915163bf69", func := "loop.example/g03314/laws.FnExactParseUint", spec := "fnExactParseUint", apart := false, narrowed := true }
def FnExactParseUintUptoSaid : Prop := fnExactParseUintUptoRow.holds Try.pinned (OpenSpec.upto fnExactParseUintSpec)

/-- 'laws.FnOps', WHERE WHAT IT READS IS OF BULK AT MOST 1048576: true; the input reads as it did. -/
def fnOpsUptoRow : OpenClaim := { program := "ytjlmkkgokknjjaa", sum := "af9f25c7ddd40ad431d77a51dbfbefee442c2feacc5ca26ab01fcb915163bf69", func := "loop.example/g03314/laws.FnOps", spec := "fnOps", apart := false, narrowed := true }
def FnOpsUptoSaid : Prop := fnOpsUptoRow.holds Try.pinned (OpenSpec.upto fnOpsSpec)

end Rows
end Go.Proofs.Ytjlmkkgokknjjaa
