/-
  NARROWER THAN 'FOR EVERY INPUT', by the rows' own cells (each row's printed sentence says how): FnExactFormatInt: laid · FnNumbers: laid · FnHexText: laid · FnFieldsAgain: laid · FnExactFormatTok: laid · FnExactParseTok: laid · FnExactFormatExpr: laid · FnExactParseExpr: laid · FnExpressions: laid · FnExactFormatLine: laid · FnExactFormatProgram: laid · FnProgramText: laid.
  DERIVED. THE GIVEN ROWS OF THIS SEAT. 12 by the template 'for every input the law returns true; each argument reads behind the call as it read before'; 0 by the template 'total and deterministic' (their statements: YtapfbnojodafjaaDoorTotals.lean).
  GIVEN WITH THE SEED: the statements are not yours to turn. If you find one false, say at which input.
  Laid BY PROGRAM, IN A SANDBOX (cutbox-rows.mjs): the forced cells as the released guide's own fill.sh prints them over the translation 3b3a1e607a62fc77… (all of the seat's roots in one cut). By AI agents, Wed Nov 11 2026. No macro, syntax, notation, axiom, sorry.
-/
import Derived.Test.YtapfbnojodafjaaDoorChecked
import GoSem.PinnedTables
import GoSem.Claim
import GoSem.ClaimJoined
import GoSem.ClaimMapViews
import Derived.JoinedTies
import Derived.KernelRfl
namespace Go.Proofs.YtapfbnojodafjaaDoor
/- THE CELL 'sum', in the pinned program and in every row, IS THE sha256 OF THE DUMP (.gsa) THAT YtapfbnojodafjaaDoorProg.lean LOADS. Nothing in Lean hashes anything: it is a label: what it is worth is what the hold of that sum in a sandbox is worth. -/
noncomputable def Tryd.pinned : Pinned := { name := "ytapfbnojodafjaadoor", sum := "3b3a1e607a62fc7788a7bfb75f0d4891e5eede7920f8f1f9bc49aa8b6e424bd8", checked := Tryd.checked }
namespace Rows
def none {H : Type} : Left H := { results := [], args := [] }

/- WHAT THE LISTED PACKAGE-LEVEL VARIABLES READ AS WHEN THE CALL BEGINS. Each datum BY PROGRAM (the guide's laid-datum.mjs) off the statement by which the dump's own 'gosem.cut.vars' lays the variable. In a bare row this is a premise. The card (YtapfbnojodafjaaDoorCards.lean) ties it to the program's text. -/
def laid_math_bits_deBruijn32tab {H : Type} : DataW H := .agg [.lit (.int .u8 0), .lit (.int .u8 1), .lit (.int .u8 28), .lit (.int .u8 2), .lit (.int .u8 29), .lit (.int .u8 14), .lit (.int .u8 24), .lit (.int .u8 3), .lit (.int .u8 30), .lit (.int .u8 22), .lit (.int .u8 20), .lit (.int .u8 15), .lit (.int .u8 25), .lit (.int .u8 17), .lit (.int .u8 4), .lit (.int .u8 8), .lit (.int .u8 31), .lit (.int .u8 27), .lit (.int .u8 13), .lit (.int .u8 23), .lit (.int .u8 21), .lit (.int .u8 19), .lit (.int .u8 16), .lit (.int .u8 7), .lit (.int .u8 26), .lit (.int .u8 12), .lit (.int .u8 18), .lit (.int .u8 6), .lit (.int .u8 11), .lit (.int .u8 5), .lit (.int .u8 10), .lit (.int .u8 9)]
def laid_math_bits_deBruijn64tab {H : Type} : DataW H := .agg [.lit (.int .u8 0), .lit (.int .u8 1), .lit (.int .u8 56), .lit (.int .u8 2), .lit (.int .u8 57), .lit (.int .u8 49), .lit (.int .u8 28), .lit (.int .u8 3), .lit (.int .u8 61), .lit (.int .u8 58), .lit (.int .u8 42), .lit (.int .u8 50), .lit (.int .u8 38), .lit (.int .u8 29), .lit (.int .u8 17), .lit (.int .u8 4), .lit (.int .u8 62), .lit (.int .u8 47), .lit (.int .u8 59), .lit (.int .u8 36), .lit (.int .u8 45), .lit (.int .u8 43), .lit (.int .u8 51), .lit (.int .u8 22), .lit (.int .u8 53), .lit (.int .u8 39), .lit (.int .u8 33), .lit (.int .u8 30), .lit (.int .u8 24), .lit (.int .u8 18), .lit (.int .u8 12), .lit (.int .u8 5), .lit (.int .u8 63), .lit (.int .u8 55), .lit (.int .u8 48), .lit (.int .u8 27), .lit (.int .u8 60), .lit (.int .u8 41), .lit (.int .u8 37), .lit (.int .u8 16), .lit (.int .u8 46), .lit (.int .u8 35), .lit (.int .u8 44), .lit (.int .u8 21), .lit (.int .u8 52), .lit (.int .u8 32), .lit (.int .u8 23), .lit (.int .u8 11), .lit (.int .u8 54), .lit (.int .u8 26), .lit (.int .u8 40), .lit (.int .u8 15), .lit (.int .u8 34), .lit (.int .u8 20), .lit (.int .u8 31), .lit (.int .u8 10), .lit (.int .u8 25), .lit (.int .u8 14), .lit (.int .u8 19), .lit (.int .u8 9), .lit (.int .u8 13), .lit (.int .u8 8), .lit (.int .u8 7), .lit (.int .u8 6)]
def laid_internal_strconv_uint64pow10 {H : Type} : DataW H := .agg [.lit (.int .u64 1), .lit (.int .u64 10), .lit (.int .u64 100), .lit (.int .u64 1000), .lit (.int .u64 10000), .lit (.int .u64 100000), .lit (.int .u64 1000000), .lit (.int .u64 10000000), .lit (.int .u64 100000000), .lit (.int .u64 1000000000), .lit (.int .u64 10000000000), .lit (.int .u64 100000000000), .lit (.int .u64 1000000000000), .lit (.int .u64 10000000000000), .lit (.int .u64 100000000000000), .lit (.int .u64 1000000000000000), .lit (.int .u64 10000000000000000), .lit (.int .u64 100000000000000000), .lit (.int .u64 1000000000000000000), .lit (.int .u64 10000000000000000000)]
def laid_unicode_utf8_acceptRanges {H : Type} : DataW H := .agg [.agg [.lit (.int .u8 128), .lit (.int .u8 191)], .agg [.lit (.int .u8 160), .lit (.int .u8 191)], .agg [.lit (.int .u8 128), .lit (.int .u8 159)], .agg [.lit (.int .u8 144), .lit (.int .u8 191)], .agg [.lit (.int .u8 128), .lit (.int .u8 143)], .agg [.lit (.int .u8 0), .lit (.int .u8 0)], .agg [.lit (.int .u8 0), .lit (.int .u8 0)], .agg [.lit (.int .u8 0), .lit (.int .u8 0)], .agg [.lit (.int .u8 0), .lit (.int .u8 0)], .agg [.lit (.int .u8 0), .lit (.int .u8 0)], .agg [.lit (.int .u8 0), .lit (.int .u8 0)], .agg [.lit (.int .u8 0), .lit (.int .u8 0)], .agg [.lit (.int .u8 0), .lit (.int .u8 0)], .agg [.lit (.int .u8 0), .lit (.int .u8 0)], .agg [.lit (.int .u8 0), .lit (.int .u8 0)], .agg [.lit (.int .u8 0), .lit (.int .u8 0)]]
/-- One of Go's own tables, pinned by name: the form's constant. -/
def laid_unicode_utf8_first : DataW Unit := Go.Pinned.utf8First

/-- 'laws.FnExactFormatInt': WHATEVER THE INPUT: true; the input reads as it did. -/
def fnExactFormatIntSpec : ChangeSpec := { name := "fnExactFormatInt", fn := fun _ => fun
  | [d] => { results := [.lit (.bool true)], args := [d] }
  | _ => none }
def fnExactFormatIntRow : OpenClaim := { program := "ytapfbnojodafjaadoor", sum := "3b3a1e607a62fc7788a7bfb75f0d4891e5eede7920f8f1f9bc49aa8b6e424bd8", func := "loop.example/g03314/laws.FnExactFormatInt", spec := "fnExactFormatInt", named := ["internal/strconv.uint64pow10", "math/bits.deBruijn32tab", "math/bits.deBruijn64tab"], apart := false, laid := [("math/bits.deBruijn32tab", laid_math_bits_deBruijn32tab), ("math/bits.deBruijn64tab", laid_math_bits_deBruijn64tab), ("internal/strconv.uint64pow10", laid_internal_strconv_uint64pow10)] }
def FnExactFormatIntSaid : Prop := fnExactFormatIntRow.holds Tryd.pinned (OpenSpec.ofChange fnExactFormatIntSpec)

/-- ITS FALSE NEIGHBOUR: 'it returns false'. Refute it at one input. -/
def fnExactFormatIntWrong : ChangeSpec := { name := "fnExactFormatInt", fn := fun _ => fun
  | [d] => { results := [.lit (.bool false)], args := [d] }
  | _ => none }
def FnExactFormatIntWrongFalsely : Prop := fnExactFormatIntRow.holds Tryd.pinned (OpenSpec.ofChange fnExactFormatIntWrong)

/-- 'laws.FnNumbers': WHATEVER THE INPUT: true; the input reads as it did. -/
def fnNumbersSpec : ChangeSpec := { name := "fnNumbers", fn := fun _ => fun
  | [d] => { results := [.lit (.bool true)], args := [d] }
  | _ => none }
def fnNumbersRow : OpenClaim := { program := "ytapfbnojodafjaadoor", sum := "3b3a1e607a62fc7788a7bfb75f0d4891e5eede7920f8f1f9bc49aa8b6e424bd8", func := "loop.example/g03314/laws.FnNumbers", spec := "fnNumbers", named := ["internal/strconv.uint64pow10", "math/bits.deBruijn32tab", "math/bits.deBruijn64tab"], apart := false, laid := [("math/bits.deBruijn32tab", laid_math_bits_deBruijn32tab), ("math/bits.deBruijn64tab", laid_math_bits_deBruijn64tab), ("internal/strconv.uint64pow10", laid_internal_strconv_uint64pow10)] }
def FnNumbersSaid : Prop := fnNumbersRow.holds Tryd.pinned (OpenSpec.ofChange fnNumbersSpec)

/-- ITS FALSE NEIGHBOUR: 'it returns false'. Refute it at one input. -/
def fnNumbersWrong : ChangeSpec := { name := "fnNumbers", fn := fun _ => fun
  | [d] => { results := [.lit (.bool false)], args := [d] }
  | _ => none }
def FnNumbersWrongFalsely : Prop := fnNumbersRow.holds Tryd.pinned (OpenSpec.ofChange fnNumbersWrong)

/-- 'laws.FnHexText': WHATEVER THE INPUT: true; the input reads as it did. -/
def fnHexTextSpec : ChangeSpec := { name := "fnHexText", fn := fun _ => fun
  | [d] => { results := [.lit (.bool true)], args := [d] }
  | _ => none }
def fnHexTextRow : OpenClaim := { program := "ytapfbnojodafjaadoor", sum := "3b3a1e607a62fc7788a7bfb75f0d4891e5eede7920f8f1f9bc49aa8b6e424bd8", func := "loop.example/g03314/laws.FnHexText", spec := "fnHexText", named := ["internal/strconv.uint64pow10", "math/bits.deBruijn32tab", "math/bits.deBruijn64tab"], apart := false, laid := [("math/bits.deBruijn32tab", laid_math_bits_deBruijn32tab), ("math/bits.deBruijn64tab", laid_math_bits_deBruijn64tab), ("internal/strconv.uint64pow10", laid_internal_strconv_uint64pow10)] }
def FnHexTextSaid : Prop := fnHexTextRow.holds Tryd.pinned (OpenSpec.ofChange fnHexTextSpec)

/-- ITS FALSE NEIGHBOUR: 'it returns false'. Refute it at one input. -/
def fnHexTextWrong : ChangeSpec := { name := "fnHexText", fn := fun _ => fun
  | [d] => { results := [.lit (.bool false)], args := [d] }
  | _ => none }
def FnHexTextWrongFalsely : Prop := fnHexTextRow.holds Tryd.pinned (OpenSpec.ofChange fnHexTextWrong)

/-- 'laws.FnFieldsAgain': WHATEVER THE INPUT: true; the input reads as it did. -/
def fnFieldsAgainSpec : ChangeSpec := { name := "fnFieldsAgain", fn := fun _ => fun
  | [d] => { results := [.lit (.bool true)], args := [d] }
  | _ => none }
def fnFieldsAgainRow : OpenClaim := { program := "ytapfbnojodafjaadoor", sum := "3b3a1e607a62fc7788a7bfb75f0d4891e5eede7920f8f1f9bc49aa8b6e424bd8", func := "loop.example/g03314/laws.FnFieldsAgain", spec := "fnFieldsAgain", named := ["internal/strconv.uint64pow10", "math/bits.deBruijn32tab", "math/bits.deBruijn64tab"], apart := false, laid := [("math/bits.deBruijn32tab", laid_math_bits_deBruijn32tab), ("math/bits.deBruijn64tab", laid_math_bits_deBruijn64tab), ("internal/strconv.uint64pow10", laid_internal_strconv_uint64pow10)] }
def FnFieldsAgainSaid : Prop := fnFieldsAgainRow.holds Tryd.pinned (OpenSpec.ofChange fnFieldsAgainSpec)

/-- ITS FALSE NEIGHBOUR: 'it returns false'. Refute it at one input. -/
def fnFieldsAgainWrong : ChangeSpec := { name := "fnFieldsAgain", fn := fun _ => fun
  | [d] => { results := [.lit (.bool false)], args := [d] }
  | _ => none }
def FnFieldsAgainWrongFalsely : Prop := fnFieldsAgainRow.holds Tryd.pinned (OpenSpec.ofChange fnFieldsAgainWrong)

/-- 'laws.FnExactFormatTok': WHATEVER THE INPUT: true; the input reads as it did. -/
def fnExactFormatTokSpec : ChangeSpec := { name := "fnExactFormatTok", fn := fun _ => fun
  | [d] => { results := [.lit (.bool true)], args := [d] }
  | _ => none }
def fnExactFormatTokRow : OpenClaim := { program := "ytapfbnojodafjaadoor", sum := "3b3a1e607a62fc7788a7bfb75f0d4891e5eede7920f8f1f9bc49aa8b6e424bd8", func := "loop.example/g03314/laws.FnExactFormatTok", spec := "fnExactFormatTok", named := ["internal/strconv.uint64pow10", "math/bits.deBruijn32tab", "math/bits.deBruijn64tab"], apart := false, laid := [("math/bits.deBruijn32tab", laid_math_bits_deBruijn32tab), ("math/bits.deBruijn64tab", laid_math_bits_deBruijn64tab), ("internal/strconv.uint64pow10", laid_internal_strconv_uint64pow10)] }
def FnExactFormatTokSaid : Prop := fnExactFormatTokRow.holds Tryd.pinned (OpenSpec.ofChange fnExactFormatTokSpec)

/-- ITS FALSE NEIGHBOUR: 'it returns false'. Refute it at one input. -/
def fnExactFormatTokWrong : ChangeSpec := { name := "fnExactFormatTok", fn := fun _ => fun
  | [d] => { results := [.lit (.bool false)], args := [d] }
  | _ => none }
def FnExactFormatTokWrongFalsely : Prop := fnExactFormatTokRow.holds Tryd.pinned (OpenSpec.ofChange fnExactFormatTokWrong)

/-- 'laws.FnExactParseTok': WHATEVER THE INPUT: true; the input reads as it did. -/
def fnExactParseTokSpec : ChangeSpec := { name := "fnExactParseTok", fn := fun _ => fun
  | [d] => { results := [.lit (.bool true)], args := [d] }
  | _ => none }
def fnExactParseTokRow : OpenClaim := { program := "ytapfbnojodafjaadoor", sum := "3b3a1e607a62fc7788a7bfb75f0d4891e5eede7920f8f1f9bc49aa8b6e424bd8", func := "loop.example/g03314/laws.FnExactParseTok", spec := "fnExactParseTok", inPlace := ["internal/bytealg.IndexByteString", "internal/bytealg.IndexString"], named := ["internal/bytealg.MaxLen", "internal/strconv.uint64pow10", "math/bits.deBruijn32tab", "math/bits.deBruijn64tab"], apart := false, laid := [("math/bits.deBruijn32tab", laid_math_bits_deBruijn32tab), ("math/bits.deBruijn64tab", laid_math_bits_deBruijn64tab), ("internal/strconv.uint64pow10", laid_internal_strconv_uint64pow10)] }
def FnExactParseTokSaid : Prop := fnExactParseTokRow.holds Tryd.pinned (OpenSpec.ofChange fnExactParseTokSpec)

/-- ITS FALSE NEIGHBOUR: 'it returns false'. Refute it at one input. -/
def fnExactParseTokWrong : ChangeSpec := { name := "fnExactParseTok", fn := fun _ => fun
  | [d] => { results := [.lit (.bool false)], args := [d] }
  | _ => none }
def FnExactParseTokWrongFalsely : Prop := fnExactParseTokRow.holds Tryd.pinned (OpenSpec.ofChange fnExactParseTokWrong)

/-- 'laws.FnExactFormatExpr': WHATEVER THE INPUT: true; the input reads as it did. -/
def fnExactFormatExprSpec : ChangeSpec := { name := "fnExactFormatExpr", fn := fun _ => fun
  | [d] => { results := [.lit (.bool true)], args := [d] }
  | _ => none }
def fnExactFormatExprRow : OpenClaim := { program := "ytapfbnojodafjaadoor", sum := "3b3a1e607a62fc7788a7bfb75f0d4891e5eede7920f8f1f9bc49aa8b6e424bd8", func := "loop.example/g03314/laws.FnExactFormatExpr", spec := "fnExactFormatExpr", inPlace := ["internal/abi.NoEscape", "internal/bytealg.MakeNoZero"], named := ["internal/strconv.uint64pow10", "math/bits.deBruijn32tab", "math/bits.deBruijn64tab"], apart := false, laid := [("math/bits.deBruijn32tab", laid_math_bits_deBruijn32tab), ("math/bits.deBruijn64tab", laid_math_bits_deBruijn64tab), ("internal/strconv.uint64pow10", laid_internal_strconv_uint64pow10)] }
def FnExactFormatExprSaid : Prop := fnExactFormatExprRow.holds Tryd.pinned (OpenSpec.ofChange fnExactFormatExprSpec)

/-- ITS FALSE NEIGHBOUR: 'it returns false'. Refute it at one input. -/
def fnExactFormatExprWrong : ChangeSpec := { name := "fnExactFormatExpr", fn := fun _ => fun
  | [d] => { results := [.lit (.bool false)], args := [d] }
  | _ => none }
def FnExactFormatExprWrongFalsely : Prop := fnExactFormatExprRow.holds Tryd.pinned (OpenSpec.ofChange fnExactFormatExprWrong)

/-- 'laws.FnExactParseExpr': WHATEVER THE INPUT: true; the input reads as it did. -/
def fnExactParseExprSpec : ChangeSpec := { name := "fnExactParseExpr", fn := fun _ => fun
  | [d] => { results := [.lit (.bool true)], args := [d] }
  | _ => none }
def fnExactParseExprRow : OpenClaim := { program := "ytapfbnojodafjaadoor", sum := "3b3a1e607a62fc7788a7bfb75f0d4891e5eede7920f8f1f9bc49aa8b6e424bd8", func := "loop.example/g03314/laws.FnExactParseExpr", spec := "fnExactParseExpr", inPlace := ["internal/bytealg.IndexByteString", "internal/bytealg.IndexString"], named := ["internal/bytealg.MaxLen", "internal/strconv.uint64pow10", "math/bits.deBruijn32tab", "math/bits.deBruijn64tab"], apart := false, laid := [("math/bits.deBruijn32tab", laid_math_bits_deBruijn32tab), ("math/bits.deBruijn64tab", laid_math_bits_deBruijn64tab), ("internal/strconv.uint64pow10", laid_internal_strconv_uint64pow10)] }
def FnExactParseExprSaid : Prop := fnExactParseExprRow.holds Tryd.pinned (OpenSpec.ofChange fnExactParseExprSpec)

/-- ITS FALSE NEIGHBOUR: 'it returns false'. Refute it at one input. -/
def fnExactParseExprWrong : ChangeSpec := { name := "fnExactParseExpr", fn := fun _ => fun
  | [d] => { results := [.lit (.bool false)], args := [d] }
  | _ => none }
def FnExactParseExprWrongFalsely : Prop := fnExactParseExprRow.holds Tryd.pinned (OpenSpec.ofChange fnExactParseExprWrong)

/-- 'laws.FnExpressions': WHATEVER THE INPUT: true; the input reads as it did. -/
def fnExpressionsSpec : ChangeSpec := { name := "fnExpressions", fn := fun _ => fun
  | [d] => { results := [.lit (.bool true)], args := [d] }
  | _ => none }
def fnExpressionsRow : OpenClaim := { program := "ytapfbnojodafjaadoor", sum := "3b3a1e607a62fc7788a7bfb75f0d4891e5eede7920f8f1f9bc49aa8b6e424bd8", func := "loop.example/g03314/laws.FnExpressions", spec := "fnExpressions", inPlace := ["internal/bytealg.IndexByteString", "internal/bytealg.IndexString"], recurses := true, named := ["internal/strconv.uint64pow10", "math/bits.deBruijn32tab", "math/bits.deBruijn64tab", "internal/bytealg.MaxLen"], apart := false, laid := [("math/bits.deBruijn32tab", laid_math_bits_deBruijn32tab), ("math/bits.deBruijn64tab", laid_math_bits_deBruijn64tab), ("internal/strconv.uint64pow10", laid_internal_strconv_uint64pow10)] }
def FnExpressionsSaid : Prop := fnExpressionsRow.holds Tryd.pinned (OpenSpec.ofChange fnExpressionsSpec)

/-- ITS FALSE NEIGHBOUR: 'it returns false'. Refute it at one input. -/
def fnExpressionsWrong : ChangeSpec := { name := "fnExpressions", fn := fun _ => fun
  | [d] => { results := [.lit (.bool false)], args := [d] }
  | _ => none }
def FnExpressionsWrongFalsely : Prop := fnExpressionsRow.holds Tryd.pinned (OpenSpec.ofChange fnExpressionsWrong)

/-- 'laws.FnExactFormatLine': WHATEVER THE INPUT: true; the input reads as it did. -/
def fnExactFormatLineSpec : ChangeSpec := { name := "fnExactFormatLine", fn := fun _ => fun
  | [d] => { results := [.lit (.bool true)], args := [d] }
  | _ => none }
def fnExactFormatLineRow : OpenClaim := { program := "ytapfbnojodafjaadoor", sum := "3b3a1e607a62fc7788a7bfb75f0d4891e5eede7920f8f1f9bc49aa8b6e424bd8", func := "loop.example/g03314/laws.FnExactFormatLine", spec := "fnExactFormatLine", inPlace := ["internal/abi.NoEscape", "internal/bytealg.MakeNoZero"], named := ["internal/strconv.uint64pow10", "math/bits.deBruijn32tab", "math/bits.deBruijn64tab"], apart := false, laid := [("math/bits.deBruijn32tab", laid_math_bits_deBruijn32tab), ("math/bits.deBruijn64tab", laid_math_bits_deBruijn64tab), ("internal/strconv.uint64pow10", laid_internal_strconv_uint64pow10)] }
def FnExactFormatLineSaid : Prop := fnExactFormatLineRow.holds Tryd.pinned (OpenSpec.ofChange fnExactFormatLineSpec)

/-- ITS FALSE NEIGHBOUR: 'it returns false'. Refute it at one input. -/
def fnExactFormatLineWrong : ChangeSpec := { name := "fnExactFormatLine", fn := fun _ => fun
  | [d] => { results := [.lit (.bool false)], args := [d] }
  | _ => none }
def FnExactFormatLineWrongFalsely : Prop := fnExactFormatLineRow.holds Tryd.pinned (OpenSpec.ofChange fnExactFormatLineWrong)

/-- 'laws.FnExactFormatProgram': WHATEVER THE INPUT: true; the input reads as it did. -/
def fnExactFormatProgramSpec : ChangeSpec := { name := "fnExactFormatProgram", fn := fun _ => fun
  | [d] => { results := [.lit (.bool true)], args := [d] }
  | _ => none }
def fnExactFormatProgramRow : OpenClaim := { program := "ytapfbnojodafjaadoor", sum := "3b3a1e607a62fc7788a7bfb75f0d4891e5eede7920f8f1f9bc49aa8b6e424bd8", func := "loop.example/g03314/laws.FnExactFormatProgram", spec := "fnExactFormatProgram", inPlace := ["internal/abi.NoEscape", "internal/bytealg.MakeNoZero"], named := ["internal/strconv.uint64pow10", "math/bits.deBruijn32tab", "math/bits.deBruijn64tab"], apart := false, laid := [("math/bits.deBruijn32tab", laid_math_bits_deBruijn32tab), ("math/bits.deBruijn64tab", laid_math_bits_deBruijn64tab), ("internal/strconv.uint64pow10", laid_internal_strconv_uint64pow10)] }
def FnExactFormatProgramSaid : Prop := fnExactFormatProgramRow.holds Tryd.pinned (OpenSpec.ofChange fnExactFormatProgramSpec)

/-- ITS FALSE NEIGHBOUR: 'it returns false'. Refute it at one input. -/
def fnExactFormatProgramWrong : ChangeSpec := { name := "fnExactFormatProgram", fn := fun _ => fun
  | [d] => { results := [.lit (.bool false)], args := [d] }
  | _ => none }
def FnExactFormatProgramWrongFalsely : Prop := fnExactFormatProgramRow.holds Tryd.pinned (OpenSpec.ofChange fnExactFormatProgramWrong)

/-- 'laws.FnProgramText': WHATEVER THE INPUT: true; the input reads as it did. -/
def fnProgramTextSpec : ChangeSpec := { name := "fnProgramText", fn := fun _ => fun
  | [d] => { results := [.lit (.bool true)], args := [d] }
  | _ => none }
def fnProgramTextRow : OpenClaim := { program := "ytapfbnojodafjaadoor", sum := "3b3a1e607a62fc7788a7bfb75f0d4891e5eede7920f8f1f9bc49aa8b6e424bd8", func := "loop.example/g03314/laws.FnProgramText", spec := "fnProgramText", inPlace := ["internal/abi.NoEscape", "internal/bytealg.MakeNoZero", "internal/bytealg.IndexByteString", "internal/bytealg.IndexString", "internal/bytealg.CountString"], recurses := true, named := ["internal/strconv.uint64pow10", "math/bits.deBruijn32tab", "math/bits.deBruijn64tab", "internal/bytealg.MaxLen", "unicode/utf8.first", "unicode/utf8.acceptRanges"], apart := false, laid := [("math/bits.deBruijn32tab", laid_math_bits_deBruijn32tab), ("math/bits.deBruijn64tab", laid_math_bits_deBruijn64tab), ("internal/strconv.uint64pow10", laid_internal_strconv_uint64pow10), ("unicode/utf8.acceptRanges", laid_unicode_utf8_acceptRanges), ("unicode/utf8.first", laid_unicode_utf8_first)] }
def FnProgramTextSaid : Prop := fnProgramTextRow.holds Tryd.pinned (OpenSpec.ofChange fnProgramTextSpec)

/-- ITS FALSE NEIGHBOUR: 'it returns false'. Refute it at one input. -/
def fnProgramTextWrong : ChangeSpec := { name := "fnProgramText", fn := fun _ => fun
  | [d] => { results := [.lit (.bool false)], args := [d] }
  | _ => none }
def FnProgramTextWrongFalsely : Prop := fnProgramTextRow.holds Tryd.pinned (OpenSpec.ofChange fnProgramTextWrong)

/- THE SECOND FORM. 'bulk': how many values and letters a reading holds, each counted each time it is reached (what is shared counts as often as it is met; a slice's spare places count too). A statement '..UptoSaid' is the law's where the arguments, and the package variables that the reading takes, are together of bulk at most 1048576: NARROWER than '..Said'. Prove '..Said' where nothing that the law and all that it calls make is longer than what came in: it says more and counts as full. Else prove '..UptoSaid'. A law counts once. -/
mutual
def uptoBulk {H : Type} : DataW H → Nat
  | .lit (.string bytes) => bytes.length + 1
  | .lit _ => 1
  | .nil => 1
  | .ptr d => uptoBulk d + 1
  | .slice elems spare => uptoBulkAll elems + uptoBulkAll spare + 1
  | .agg parts => uptoBulkAll parts + 1
  | .iface _ d => uptoBulk d + 1
  | .map entries => uptoBulkEntries entries + 1
  | .held _ => 1
def uptoBulkAll {H : Type} : List (DataW H) → Nat
  | [] => 0
  | d :: r => uptoBulk d + uptoBulkAll r
def uptoBulkEntries {H : Type} : List (Lit × DataW H) → Nat
  | [] => 0
  | x :: r => uptoBulkEntry x + uptoBulkEntries r
def uptoBulkEntry {H : Type} : Lit × DataW H → Nat
  | (.string bytes, d) => bytes.length + uptoBulk d + 1
  | (_, d) => uptoBulk d + 1
 end
def uptoSmall : (H : Type) → List (DataW H) → Bool := fun _ ds => decide (uptoBulkAll ds ≤ 1048576)
def OpenSpec.upto (s : _root_.Go.ChangeSpec) : _root_.Go.OpenSpec := { _root_.Go.OpenSpec.ofChange s with cond := some uptoSmall }

/-- 'laws.FnExactFormatInt', WHERE WHAT IT READS IS OF BULK AT MOST 1048576: true; the input reads as it did. -/
def fnExactFormatIntUptoRow : OpenClaim := { program := "ytapfbnojodafjaadoor", sum := "3b3a1e607a62fc7788a7bfb75f0d4891e5eede7920f8f1f9bc49aa8b6e424bd8", func := "loop.example/g03314/laws.FnExactFormatInt", spec := "fnExactFormatInt", named := ["internal/strconv.uint64pow10", "math/bits.deBruijn32tab", "math/bits.deBruijn64tab"], apart := false, laid := [("math/bits.deBruijn32tab", laid_math_bits_deBruijn32tab), ("math/bits.deBruijn64tab", laid_math_bits_deBruijn64tab), ("internal/strconv.uint64pow10", laid_internal_strconv_uint64pow10)], narrowed := true }
def FnExactFormatIntUptoSaid : Prop := fnExactFormatIntUptoRow.holds Tryd.pinned (OpenSpec.upto fnExactFormatIntSpec)

/-- 'laws.FnNumbers', WHERE WHAT IT READS IS OF BULK AT MOST 1048576: true; the input reads as it did. -/
def fnNumbersUptoRow : OpenClaim := { program := "ytapfbnojodafjaadoor", sum := "3b3a1e607a62fc7788a7bfb75f0d4891e5eede7920f8f1f9bc49aa8b6e424bd8", func := "loop.example/g03314/laws.FnNumbers", spec := "fnNumbers", named := ["internal/strconv.uint64pow10", "math/bits.deBruijn32tab", "math/bits.deBruijn64tab"], apart := false, laid := [("math/bits.deBruijn32tab", laid_math_bits_deBruijn32tab), ("math/bits.deBruijn64tab", laid_math_bits_deBruijn64tab), ("internal/strconv.uint64pow10", laid_internal_strconv_uint64pow10)], narrowed := true }
def FnNumbersUptoSaid : Prop := fnNumbersUptoRow.holds Tryd.pinned (OpenSpec.upto fnNumbersSpec)

/-- 'laws.FnHexText', WHERE WHAT IT READS IS OF BULK AT MOST 1048576: true; the input reads as it did. -/
def fnHexTextUptoRow : OpenClaim := { program := "ytapfbnojodafjaadoor", sum := "3b3a1e607a62fc7788a7bfb75f0d4891e5eede7920f8f1f9bc49aa8b6e424bd8", func := "loop.example/g03314/laws.FnHexText", spec := "fnHexText", named := ["internal/strconv.uint64pow10", "math/bits.deBruijn32tab", "math/bits.deBruijn64tab"], apart := false, laid := [("math/bits.deBruijn32tab", laid_math_bits_deBruijn32tab), ("math/bits.deBruijn64tab", laid_math_bits_deBruijn64tab), ("internal/strconv.uint64pow10", laid_internal_strconv_uint64pow10)], narrowed := true }
def FnHexTextUptoSaid : Prop := fnHexTextUptoRow.holds Tryd.pinned (OpenSpec.upto fnHexTextSpec)

/-- 'laws.FnFieldsAgain', WHERE WHAT IT READS IS OF BULK AT MOST 1048576: true; the input reads as it did. -/
def fnFieldsAgainUptoRow : OpenClaim := { program := "ytapfbnojodafjaadoor", sum := "3b3a1e607a62fc7788a7bfb75f0d4891e5eede7920f8f1f9bc49aa8b6e424bd8", func := "loop.example/g03314/laws.FnFieldsAgain", spec := "fnFieldsAgain", named := ["internal/strconv.uint64pow10", "math/bits.deBruijn32tab", "math/bits.deBruijn64tab"], apart := false, laid := [("math/bits.deBruijn32tab", laid_math_bits_deBruijn32tab), ("math/bits.deBruijn64tab", laid_math_bits_deBruijn64tab), ("internal/strconv.uint64pow10", laid_internal_strconv_uint64pow10)], narrowed := true }
def FnFieldsAgainUptoSaid : Prop := fnFieldsAgainUptoRow.holds Tryd.pinned (OpenSpec.upto fnFieldsAgainSpec)

/-- 'laws.FnExactFormatTok', WHERE WHAT IT READS IS OF BULK AT MOST 1048576: true; the input reads as it did. -/
def fnExactFormatTokUptoRow : OpenClaim := { program := "ytapfbnojodafjaadoor", sum := "3b3a1e607a62fc7788a7bfb75f0d4891e5eede7920f8f1f9bc49aa8b6e424bd8", func := "loop.example/g03314/laws.FnExactFormatTok", spec := "fnExactFormatTok", named := ["internal/strconv.uint64pow10", "math/bits.deBruijn32tab", "math/bits.deBruijn64tab"], apart := false, laid := [("math/bits.deBruijn32tab", laid_math_bits_deBruijn32tab), ("math/bits.deBruijn64tab", laid_math_bits_deBruijn64tab), ("internal/strconv.uint64pow10", laid_internal_strconv_uint64pow10)], narrowed := true }
def FnExactFormatTokUptoSaid : Prop := fnExactFormatTokUptoRow.holds Tryd.pinned (OpenSpec.upto fnExactFormatTokSpec)

/-- 'laws.FnExactParseTok', WHERE WHAT IT READS IS OF BULK AT MOST 1048576: true; the input reads as it did. -/
def fnExactParseTokUptoRow : OpenClaim := { program := "ytapfbnojodafjaadoor", sum := "3b3a1e607a62fc7788a7bfb75f0d4891e5eede7920f8f1f9bc49aa8b6e424bd8", func := "loop.example/g03314/laws.FnExactParseTok", spec := "fnExactParseTok", inPlace := ["internal/bytealg.IndexByteString", "internal/bytealg.IndexString"], named := ["internal/bytealg.MaxLen", "internal/strconv.uint64pow10", "math/bits.deBruijn32tab", "math/bits.deBruijn64tab"], apart := false, laid := [("math/bits.deBruijn32tab", laid_math_bits_deBruijn32tab), ("math/bits.deBruijn64tab", laid_math_bits_deBruijn64tab), ("internal/strconv.uint64pow10", laid_internal_strconv_uint64pow10)], narrowed := true }
def FnExactParseTokUptoSaid : Prop := fnExactParseTokUptoRow.holds Tryd.pinned (OpenSpec.upto fnExactParseTokSpec)

/-- 'laws.FnExactFormatExpr', WHERE WHAT IT READS IS OF BULK AT MOST 1048576: true; the input reads as it did. -/
def fnExactFormatExprUptoRow : OpenClaim := { program := "ytapfbnojodafjaadoor", sum := "3b3a1e607a62fc7788a7bfb75f0d4891e5eede7920f8f1f9bc49aa8b6e424bd8", func := "loop.example/g03314/laws.FnExactFormatExpr", spec := "fnExactFormatExpr", inPlace := ["internal/abi.NoEscape", "internal/bytealg.MakeNoZero"], named := ["internal/strconv.uint64pow10", "math/bits.deBruijn32tab", "math/bits.deBruijn64tab"], apart := false, laid := [("math/bits.deBruijn32tab", laid_math_bits_deBruijn32tab), ("math/bits.deBruijn64tab", laid_math_bits_deBruijn64tab), ("internal/strconv.uint64pow10", laid_internal_strconv_uint64pow10)], narrowed := true }
def FnExactFormatExprUptoSaid : Prop := fnExactFormatExprUptoRow.holds Tryd.pinned (OpenSpec.upto fnExactFormatExprSpec)

/-- 'laws.FnExactParseExpr', WHERE WHAT IT READS IS OF BULK AT MOST 1048576: true; the input reads as it did. -/
def fnExactParseExprUptoRow : OpenClaim := { program := "ytapfbnojodafjaadoor", sum := "3b3a1e607a62fc7788a7bfb75f0d4891e5eede7920f8f1f9bc49aa8b6e424bd8", func := "loop.example/g03314/laws.FnExactParseExpr", spec := "fnExactParseExpr", inPlace := ["internal/bytealg.IndexByteString", "internal/bytealg.IndexString"], named := ["internal/bytealg.MaxLen", "internal/strconv.uint64pow10", "math/bits.deBruijn32tab", "math/bits.deBruijn64tab"], apart := false, laid := [("math/bits.deBruijn32tab", laid_math_bits_deBruijn32tab), ("math/bits.deBruijn64tab", laid_math_bits_deBruijn64tab), ("internal/strconv.uint64pow10", laid_internal_strconv_uint64pow10)], narrowed := true }
def FnExactParseExprUptoSaid : Prop := fnExactParseExprUptoRow.holds Tryd.pinned (OpenSpec.upto fnExactParseExprSpec)

/-- 'laws.FnExpressions', WHERE WHAT IT READS IS OF BULK AT MOST 1048576: true; the input reads as it did. -/
def fnExpressionsUptoRow : OpenClaim := { program := "ytapfbnojodafjaadoor", sum := "3b3a1e607a62fc7788a7bfb75f0d4891e5eede7920f8f1f9bc49aa8b6e424bd8", func := "loop.example/g03314/laws.FnExpressions", spec := "fnExpressions", inPlace := ["internal/bytealg.IndexByteString", "internal/bytealg.IndexString"], recurses := true, named := ["internal/strconv.uint64pow10", "math/bits.deBruijn32tab", "math/bits.deBruijn64tab", "internal/bytealg.MaxLen"], apart := false, laid := [("math/bits.deBruijn32tab", laid_math_bits_deBruijn32tab), ("math/bits.deBruijn64tab", laid_math_bits_deBruijn64tab), ("internal/strconv.uint64pow10", laid_internal_strconv_uint64pow10)], narrowed := true }
def FnExpressionsUptoSaid : Prop := fnExpressionsUptoRow.holds Tryd.pinned (OpenSpec.upto fnExpressionsSpec)

/-- 'laws.FnExactFormatLine', WHERE WHAT IT READS IS OF BULK AT MOST 1048576: true; the input reads as it did. -/
def fnExactFormatLineUptoRow : OpenClaim := { program := "ytapfbnojodafjaadoor", sum := "3b3a1e607a62fc7788a7bfb75f0d4891e5eede7920f8f1f9bc49aa8b6e424bd8", func := "loop.example/g03314/laws.FnExactFormatLine", spec := "fnExactFormatLine", inPlace := ["internal/abi.NoEscape", "internal/bytealg.MakeNoZero"], named := ["internal/strconv.uint64pow10", "math/bits.deBruijn32tab", "math/bits.deBruijn64tab"], apart := false, laid := [("math/bits.deBruijn32tab", laid_math_bits_deBruijn32tab), ("math/bits.deBruijn64tab", laid_math_bits_deBruijn64tab), ("internal/strconv.uint64pow10", laid_internal_strconv_uint64pow10)], narrowed := true }
def FnExactFormatLineUptoSaid : Prop := fnExactFormatLineUptoRow.holds Tryd.pinned (OpenSpec.upto fnExactFormatLineSpec)

/-- 'laws.FnExactFormatProgram', WHERE WHAT IT READS IS OF BULK AT MOST 1048576: true; the input reads as it did. -/
def fnExactFormatProgramUptoRow : OpenClaim := { program := "ytapfbnojodafjaadoor", sum := "3b3a1e607a62fc7788a7bfb75f0d4891e5eede7920f8f1f9bc49aa8b6e424bd8", func := "loop.example/g03314/laws.FnExactFormatProgram", spec := "fnExactFormatProgram", inPlace := ["internal/abi.NoEscape", "internal/bytealg.MakeNoZero"], named := ["internal/strconv.uint64pow10", "math/bits.deBruijn32tab", "math/bits.deBruijn64tab"], apart := false, laid := [("math/bits.deBruijn32tab", laid_math_bits_deBruijn32tab), ("math/bits.deBruijn64tab", laid_math_bits_deBruijn64tab), ("internal/strconv.uint64pow10", laid_internal_strconv_uint64pow10)], narrowed := true }
def FnExactFormatProgramUptoSaid : Prop := fnExactFormatProgramUptoRow.holds Tryd.pinned (OpenSpec.upto fnExactFormatProgramSpec)

/-- 'laws.FnProgramText', WHERE WHAT IT READS IS OF BULK AT MOST 1048576: true; the input reads as it did. -/
def fnProgramTextUptoRow : OpenClaim := { program := "ytapfbnojodafjaadoor", sum := "3b3a1e607a62fc7788a7bfb75f0d4891e5eede7920f8f1f9bc49aa8b6e424bd8", func := "loop.example/g03314/laws.FnProgramText", spec := "fnProgramText", inPlace := ["internal/abi.NoEscape", "internal/bytealg.MakeNoZero", "internal/bytealg.IndexByteString", "internal/bytealg.IndexString", "internal/bytealg.CountString"], recurses := true, named := ["internal/strconv.uint64pow10", "math/bits.deBruijn32tab", "math/bits.deBruijn64tab", "internal/bytealg.MaxLen", "unicode/utf8.first", "unicode/utf8.acceptRanges"], apart := false, laid := [("math/bits.deBruijn32tab", laid_math_bits_deBruijn32tab), ("math/bits.deBruijn64tab", laid_math_bits_deBruijn64tab), ("internal/strconv.uint64pow10", laid_internal_strconv_uint64pow10), ("unicode/utf8.acceptRanges", laid_unicode_utf8_acceptRanges), ("unicode/utf8.first", laid_unicode_utf8_first)], narrowed := true }
def FnProgramTextUptoSaid : Prop := fnProgramTextUptoRow.holds Tryd.pinned (OpenSpec.upto fnProgramTextSpec)

end Rows
end Go.Proofs.YtapfbnojodafjaaDoor
