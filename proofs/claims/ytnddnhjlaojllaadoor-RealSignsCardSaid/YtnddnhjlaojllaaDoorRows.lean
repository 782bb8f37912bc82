/-
  NARROWER THAN 'FOR EVERY INPUT', by the rows' own cells (each row's printed sentence says how): RealReads: laid · RealTexts: laid · RealSigns: laid · RealOnes: laid · RealOps: laid · RealWhole: laid · RealNaN: laid · RealNought: laid · RealOrder: laid · RealSwaps: laid.
  DERIVED. THE GIVEN ROWS OF THIS SEAT. 10 by the template 'for every input the law returns true; each argument reads behind the call as it read before'; 0 by the template 'total and deterministic' (their statements: YtnddnhjlaojllaaDoorTotals.lean).
  GIVEN WITH THE SEED: the statements are not yours to turn. If you find one false, say at which input.
  Laid BY PROGRAM, IN A SANDBOX (cutbox-rows.mjs): the forced cells as the released guide's own fill.sh prints them over the translation 7f474f0c61e54634… (all of the seat's roots in one cut). By AI agents, Wed Nov 11 2026. No macro, syntax, notation, axiom, sorry.
-/
import Derived.Test.YtnddnhjlaojllaaDoorChecked
import GoSem.Claim
import GoSem.ClaimJoined
import GoSem.ClaimMapViews
import Derived.JoinedTies
import Derived.KernelRfl
namespace Go.Proofs.YtnddnhjlaojllaaDoor
/- THE CELL 'sum', in the pinned program and in every row, IS THE sha256 OF THE DUMP (.gsa) THAT YtnddnhjlaojllaaDoorProg.lean LOADS. Nothing in Lean hashes anything: it is a label: what it is worth is what the hold of that sum in a sandbox is worth. -/
noncomputable def Tryd.pinned : Pinned := { name := "ytnddnhjlaojllaadoor", sum := "7f474f0c61e546347a0eddf509328e816190b47c507b7080b05c915f3ad17091", checked := Tryd.checked }
namespace Rows
def none {H : Type} : Left H := { results := [], args := [] }

/- WHAT THE LISTED PACKAGE-LEVEL VARIABLES READ AS WHEN THE CALL BEGINS. Each datum BY PROGRAM (the guide's laid-datum.mjs) off the statement by which the dump's own 'gosem.cut.vars' lays the variable. In a bare row this is a premise. The card (YtnddnhjlaojllaaDoorCards.lean) ties it to the program's text. -/
def laid_math_bits_deBruijn32tab {H : Type} : DataW H := .agg [.lit (.int .u8 0), .lit (.int .u8 1), .lit (.int .u8 28), .lit (.int .u8 2), .lit (.int .u8 29), .lit (.int .u8 14), .lit (.int .u8 24), .lit (.int .u8 3), .lit (.int .u8 30), .lit (.int .u8 22), .lit (.int .u8 20), .lit (.int .u8 15), .lit (.int .u8 25), .lit (.int .u8 17), .lit (.int .u8 4), .lit (.int .u8 8), .lit (.int .u8 31), .lit (.int .u8 27), .lit (.int .u8 13), .lit (.int .u8 23), .lit (.int .u8 21), .lit (.int .u8 19), .lit (.int .u8 16), .lit (.int .u8 7), .lit (.int .u8 26), .lit (.int .u8 12), .lit (.int .u8 18), .lit (.int .u8 6), .lit (.int .u8 11), .lit (.int .u8 5), .lit (.int .u8 10), .lit (.int .u8 9)]
def laid_math_bits_deBruijn64tab {H : Type} : DataW H := .agg [.lit (.int .u8 0), .lit (.int .u8 1), .lit (.int .u8 56), .lit (.int .u8 2), .lit (.int .u8 57), .lit (.int .u8 49), .lit (.int .u8 28), .lit (.int .u8 3), .lit (.int .u8 61), .lit (.int .u8 58), .lit (.int .u8 42), .lit (.int .u8 50), .lit (.int .u8 38), .lit (.int .u8 29), .lit (.int .u8 17), .lit (.int .u8 4), .lit (.int .u8 62), .lit (.int .u8 47), .lit (.int .u8 59), .lit (.int .u8 36), .lit (.int .u8 45), .lit (.int .u8 43), .lit (.int .u8 51), .lit (.int .u8 22), .lit (.int .u8 53), .lit (.int .u8 39), .lit (.int .u8 33), .lit (.int .u8 30), .lit (.int .u8 24), .lit (.int .u8 18), .lit (.int .u8 12), .lit (.int .u8 5), .lit (.int .u8 63), .lit (.int .u8 55), .lit (.int .u8 48), .lit (.int .u8 27), .lit (.int .u8 60), .lit (.int .u8 41), .lit (.int .u8 37), .lit (.int .u8 16), .lit (.int .u8 46), .lit (.int .u8 35), .lit (.int .u8 44), .lit (.int .u8 21), .lit (.int .u8 52), .lit (.int .u8 32), .lit (.int .u8 23), .lit (.int .u8 11), .lit (.int .u8 54), .lit (.int .u8 26), .lit (.int .u8 40), .lit (.int .u8 15), .lit (.int .u8 34), .lit (.int .u8 20), .lit (.int .u8 31), .lit (.int .u8 10), .lit (.int .u8 25), .lit (.int .u8 14), .lit (.int .u8 19), .lit (.int .u8 9), .lit (.int .u8 13), .lit (.int .u8 8), .lit (.int .u8 7), .lit (.int .u8 6)]
def laid_internal_strconv_uint64pow10 {H : Type} : DataW H := .agg [.lit (.int .u64 1), .lit (.int .u64 10), .lit (.int .u64 100), .lit (.int .u64 1000), .lit (.int .u64 10000), .lit (.int .u64 100000), .lit (.int .u64 1000000), .lit (.int .u64 10000000), .lit (.int .u64 100000000), .lit (.int .u64 1000000000), .lit (.int .u64 10000000000), .lit (.int .u64 100000000000), .lit (.int .u64 1000000000000), .lit (.int .u64 10000000000000), .lit (.int .u64 100000000000000), .lit (.int .u64 1000000000000000), .lit (.int .u64 10000000000000000), .lit (.int .u64 100000000000000000), .lit (.int .u64 1000000000000000000), .lit (.int .u64 10000000000000000000)]
def laid_strconv_ErrRange {H : Type} : DataW H := .iface "*errors.errorString" (.ptr (.agg [.lit (.string [118, 97, 108, 117, 101, 32, 111, 117, 116, 32, 111, 102, 32, 114, 97, 110, 103, 101])]))
def laid_strconv_ErrSyntax {H : Type} : DataW H := .iface "*errors.errorString" (.ptr (.agg [.lit (.string [105, 110, 118, 97, 108, 105, 100, 32, 115, 121, 110, 116, 97, 120])]))

/-- 'quartermasterlaw5.RealReads': WHATEVER THE INPUT: true; the input reads as it did. -/
def realReadsSpec : ChangeSpec := { name := "realReads", fn := fun _ => fun
  | [d] => { results := [.lit (.bool true)], args := [d] }
  | _ => none }
def realReadsRow : OpenClaim := { program := "ytnddnhjlaojllaadoor", sum := "7f474f0c61e546347a0eddf509328e816190b47c507b7080b05c915f3ad17091", func := "quartermaster/quartermasterlaw5.RealReads", spec := "realReads", inPlace := ["internal/bytealg.IndexByteString", "math.Float64frombits", "math.Float64bits", "math.archTrunc", "internal/abi.NoEscape", "internal/bytealg.MakeNoZero"], named := ["strconv.ErrSyntax", "strconv.ErrRange", "internal/strconv.uint64pow10", "math/bits.deBruijn32tab", "math/bits.deBruijn64tab"], apart := false, laid := [("math/bits.deBruijn32tab", laid_math_bits_deBruijn32tab), ("math/bits.deBruijn64tab", laid_math_bits_deBruijn64tab), ("internal/strconv.uint64pow10", laid_internal_strconv_uint64pow10), ("strconv.ErrRange", laid_strconv_ErrRange), ("strconv.ErrSyntax", laid_strconv_ErrSyntax)] }
def RealReadsSaid : Prop := realReadsRow.holds Tryd.pinned (OpenSpec.ofChange realReadsSpec)

/-- ITS FALSE NEIGHBOUR: 'it returns false'. Refute it at one input. -/
def realReadsWrong : ChangeSpec := { name := "realReads", fn := fun _ => fun
  | [d] => { results := [.lit (.bool false)], args := [d] }
  | _ => none }
def RealReadsWrongFalsely : Prop := realReadsRow.holds Tryd.pinned (OpenSpec.ofChange realReadsWrong)

/-- 'quartermasterlaw5.RealTexts': WHATEVER THE INPUT: true; the input reads as it did. -/
def realTextsSpec : ChangeSpec := { name := "realTexts", fn := fun _ => fun
  | [d] => { results := [.lit (.bool true)], args := [d] }
  | _ => none }
def realTextsRow : OpenClaim := { program := "ytnddnhjlaojllaadoor", sum := "7f474f0c61e546347a0eddf509328e816190b47c507b7080b05c915f3ad17091", func := "quartermaster/quartermasterlaw5.RealTexts", spec := "realTexts", inPlace := ["internal/bytealg.IndexByteString", "math.Float64frombits", "math.Float64bits", "math.archTrunc", "internal/abi.NoEscape", "internal/bytealg.MakeNoZero"], recurses := true, named := ["strconv.ErrSyntax", "strconv.ErrRange", "internal/strconv.uint64pow10", "math/bits.deBruijn32tab", "math/bits.deBruijn64tab"], apart := false, laid := [("math/bits.deBruijn32tab", laid_math_bits_deBruijn32tab), ("math/bits.deBruijn64tab", laid_math_bits_deBruijn64tab), ("internal/strconv.uint64pow10", laid_internal_strconv_uint64pow10), ("strconv.ErrRange", laid_strconv_ErrRange), ("strconv.ErrSyntax", laid_strconv_ErrSyntax)] }
def RealTextsSaid : Prop := realTextsRow.holds Tryd.pinned (OpenSpec.ofChange realTextsSpec)

/-- ITS FALSE NEIGHBOUR: 'it returns false'. Refute it at one input. -/
def realTextsWrong : ChangeSpec := { name := "realTexts", fn := fun _ => fun
  | [d] => { results := [.lit (.bool false)], args := [d] }
  | _ => none }
def RealTextsWrongFalsely : Prop := realTextsRow.holds Tryd.pinned (OpenSpec.ofChange realTextsWrong)

/-- 'quartermasterlaw5.RealSigns': WHATEVER THE INPUT: true; the input reads as it did. -/
def realSignsSpec : ChangeSpec := { name := "realSigns", fn := fun _ => fun
  | [d1, d2] => { results := [.lit (.bool true)], args := [d1, d2] }
  | _ => none }
def realSignsRow : OpenClaim := { program := "ytnddnhjlaojllaadoor", sum := "7f474f0c61e546347a0eddf509328e816190b47c507b7080b05c915f3ad17091", func := "quartermaster/quartermasterlaw5.RealSigns", spec := "realSigns", inPlace := ["internal/bytealg.IndexByteString", "math.Float64frombits", "math.Float64bits", "math.archTrunc", "internal/abi.NoEscape", "internal/bytealg.MakeNoZero"], named := ["strconv.ErrSyntax", "strconv.ErrRange", "internal/strconv.uint64pow10", "math/bits.deBruijn32tab", "math/bits.deBruijn64tab"], apart := false, laid := [("math/bits.deBruijn32tab", laid_math_bits_deBruijn32tab), ("math/bits.deBruijn64tab", laid_math_bits_deBruijn64tab), ("internal/strconv.uint64pow10", laid_internal_strconv_uint64pow10), ("strconv.ErrRange", laid_strconv_ErrRange), ("strconv.ErrSyntax", laid_strconv_ErrSyntax)] }
def RealSignsSaid : Prop := realSignsRow.holds Tryd.pinned (OpenSpec.ofChange realSignsSpec)

/-- ITS FALSE NEIGHBOUR: 'it returns false'. Refute it at one input. -/
def realSignsWrong : ChangeSpec := { name := "realSigns", fn := fun _ => fun
  | [d1, d2] => { results := [.lit (.bool false)], args := [d1, d2] }
  | _ => none }
def RealSignsWrongFalsely : Prop := realSignsRow.holds Tryd.pinned (OpenSpec.ofChange realSignsWrong)

/-- 'quartermasterlaw5.RealOnes': WHATEVER THE INPUT: true; the input reads as it did. -/
def realOnesSpec : ChangeSpec := { name := "realOnes", fn := fun _ => fun
  | [d] => { results := [.lit (.bool true)], args := [d] }
  | _ => none }
def realOnesRow : OpenClaim := { program := "ytnddnhjlaojllaadoor", sum := "7f474f0c61e546347a0eddf509328e816190b47c507b7080b05c915f3ad17091", func := "quartermaster/quartermasterlaw5.RealOnes", spec := "realOnes", inPlace := ["internal/bytealg.IndexByteString", "math.Float64frombits", "math.Float64bits", "math.archTrunc", "internal/abi.NoEscape", "internal/bytealg.MakeNoZero"], named := ["strconv.ErrSyntax", "strconv.ErrRange", "internal/strconv.uint64pow10", "math/bits.deBruijn32tab", "math/bits.deBruijn64tab"], apart := false, laid := [("math/bits.deBruijn32tab", laid_math_bits_deBruijn32tab), ("math/bits.deBruijn64tab", laid_math_bits_deBruijn64tab), ("internal/strconv.uint64pow10", laid_internal_strconv_uint64pow10), ("strconv.ErrRange", laid_strconv_ErrRange), ("strconv.ErrSyntax", laid_strconv_ErrSyntax)] }
def RealOnesSaid : Prop := realOnesRow.holds Tryd.pinned (OpenSpec.ofChange realOnesSpec)

/-- ITS FALSE NEIGHBOUR: 'it returns false'. Refute it at one input. -/
def realOnesWrong : ChangeSpec := { name := "realOnes", fn := fun _ => fun
  | [d] => { results := [.lit (.bool false)], args := [d] }
  | _ => none }
def RealOnesWrongFalsely : Prop := realOnesRow.holds Tryd.pinned (OpenSpec.ofChange realOnesWrong)

/-- 'quartermasterlaw5.RealOps': WHATEVER THE INPUT: true; the input reads as it did. -/
def realOpsSpec : ChangeSpec := { name := "realOps", fn := fun _ => fun
  | [d1, d2, d3] => { results := [.lit (.bool true)], args := [d1, d2, d3] }
  | _ => none }
def realOpsRow : OpenClaim := { program := "ytnddnhjlaojllaadoor", sum := "7f474f0c61e546347a0eddf509328e816190b47c507b7080b05c915f3ad17091", func := "quartermaster/quartermasterlaw5.RealOps", spec := "realOps", inPlace := ["internal/bytealg.IndexByteString", "math.Float64frombits", "math.Float64bits", "math.archTrunc", "internal/abi.NoEscape", "internal/bytealg.MakeNoZero"], named := ["strconv.ErrSyntax", "strconv.ErrRange", "internal/strconv.uint64pow10", "math/bits.deBruijn32tab", "math/bits.deBruijn64tab"], apart := false, laid := [("math/bits.deBruijn32tab", laid_math_bits_deBruijn32tab), ("math/bits.deBruijn64tab", laid_math_bits_deBruijn64tab), ("internal/strconv.uint64pow10", laid_internal_strconv_uint64pow10), ("strconv.ErrRange", laid_strconv_ErrRange), ("strconv.ErrSyntax", laid_strconv_ErrSyntax)] }
def RealOpsSaid : Prop := realOpsRow.holds Tryd.pinned (OpenSpec.ofChange realOpsSpec)

/-- ITS FALSE NEIGHBOUR: 'it returns false'. Refute it at one input. -/
def realOpsWrong : ChangeSpec := { name := "realOps", fn := fun _ => fun
  | [d1, d2, d3] => { results := [.lit (.bool false)], args := [d1, d2, d3] }
  | _ => none }
def RealOpsWrongFalsely : Prop := realOpsRow.holds Tryd.pinned (OpenSpec.ofChange realOpsWrong)

/-- 'quartermasterlaw5.RealWhole': WHATEVER THE INPUT: true; the input reads as it did. -/
def realWholeSpec : ChangeSpec := { name := "realWhole", fn := fun _ => fun
  | [d1, d2] => { results := [.lit (.bool true)], args := [d1, d2] }
  | _ => none }
def realWholeRow : OpenClaim := { program := "ytnddnhjlaojllaadoor", sum := "7f474f0c61e546347a0eddf509328e816190b47c507b7080b05c915f3ad17091", func := "quartermaster/quartermasterlaw5.RealWhole", spec := "realWhole", inPlace := ["internal/bytealg.IndexByteString", "math.Float64frombits", "math.Float64bits", "math.archTrunc", "internal/abi.NoEscape", "internal/bytealg.MakeNoZero"], recurses := true, named := ["strconv.ErrSyntax", "strconv.ErrRange", "internal/strconv.uint64pow10", "math/bits.deBruijn32tab", "math/bits.deBruijn64tab"], apart := false, laid := [("math/bits.deBruijn32tab", laid_math_bits_deBruijn32tab), ("math/bits.deBruijn64tab", laid_math_bits_deBruijn64tab), ("internal/strconv.uint64pow10", laid_internal_strconv_uint64pow10), ("strconv.ErrRange", laid_strconv_ErrRange), ("strconv.ErrSyntax", laid_strconv_ErrSyntax)] }
def RealWholeSaid : Prop := realWholeRow.holds Tryd.pinned (OpenSpec.ofChange realWholeSpec)

/-- ITS FALSE NEIGHBOUR: 'it returns false'. Refute it at one input. -/
def realWholeWrong : ChangeSpec := { name := "realWhole", fn := fun _ => fun
  | [d1, d2] => { results := [.lit (.bool false)], args := [d1, d2] }
  | _ => none }
def RealWholeWrongFalsely : Prop := realWholeRow.holds Tryd.pinned (OpenSpec.ofChange realWholeWrong)

/-- 'quartermasterlaw5.RealNaN': WHATEVER THE INPUT: true; the input reads as it did. -/
def realNaNSpec : ChangeSpec := { name := "realNaN", fn := fun _ => fun
  | [d1, d2] => { results := [.lit (.bool true)], args := [d1, d2] }
  | _ => none }
def realNaNRow : OpenClaim := { program := "ytnddnhjlaojllaadoor", sum := "7f474f0c61e546347a0eddf509328e816190b47c507b7080b05c915f3ad17091", func := "quartermaster/quartermasterlaw5.RealNaN", spec := "realNaN", inPlace := ["internal/bytealg.IndexByteString", "math.Float64frombits", "math.Float64bits", "math.archTrunc", "internal/abi.NoEscape", "internal/bytealg.MakeNoZero"], named := ["strconv.ErrSyntax", "strconv.ErrRange", "internal/strconv.uint64pow10", "math/bits.deBruijn32tab", "math/bits.deBruijn64tab"], apart := false, laid := [("math/bits.deBruijn32tab", laid_math_bits_deBruijn32tab), ("math/bits.deBruijn64tab", laid_math_bits_deBruijn64tab), ("internal/strconv.uint64pow10", laid_internal_strconv_uint64pow10), ("strconv.ErrRange", laid_strconv_ErrRange), ("strconv.ErrSyntax", laid_strconv_ErrSyntax)] }
def RealNaNSaid : Prop := realNaNRow.holds Tryd.pinned (OpenSpec.ofChange realNaNSpec)

/-- ITS FALSE NEIGHBOUR: 'it returns false'. Refute it at one input. -/
def realNaNWrong : ChangeSpec := { name := "realNaN", fn := fun _ => fun
  | [d1, d2] => { results := [.lit (.bool false)], args := [d1, d2] }
  | _ => none }
def RealNaNWrongFalsely : Prop := realNaNRow.holds Tryd.pinned (OpenSpec.ofChange realNaNWrong)

/-- 'quartermasterlaw5.RealNought': WHATEVER THE INPUT: true; the input reads as it did. -/
def realNoughtSpec : ChangeSpec := { name := "realNought", fn := fun _ => fun
  | [d] => { results := [.lit (.bool true)], args := [d] }
  | _ => none }
def realNoughtRow : OpenClaim := { program := "ytnddnhjlaojllaadoor", sum := "7f474f0c61e546347a0eddf509328e816190b47c507b7080b05c915f3ad17091", func := "quartermaster/quartermasterlaw5.RealNought", spec := "realNought", inPlace := ["internal/bytealg.IndexByteString", "math.Float64frombits", "math.Float64bits", "math.archTrunc", "internal/abi.NoEscape", "internal/bytealg.MakeNoZero"], named := ["strconv.ErrSyntax", "strconv.ErrRange", "internal/strconv.uint64pow10", "math/bits.deBruijn32tab", "math/bits.deBruijn64tab"], apart := false, laid := [("math/bits.deBruijn32tab", laid_math_bits_deBruijn32tab), ("math/bits.deBruijn64tab", laid_math_bits_deBruijn64tab), ("internal/strconv.uint64pow10", laid_internal_strconv_uint64pow10), ("strconv.ErrRange", laid_strconv_ErrRange), ("strconv.ErrSyntax", laid_strconv_ErrSyntax)] }
def RealNoughtSaid : Prop := realNoughtRow.holds Tryd.pinned (OpenSpec.ofChange realNoughtSpec)

/-- ITS FALSE NEIGHBOUR: 'it returns false'. Refute it at one input. -/
def realNoughtWrong : ChangeSpec := { name := "realNought", fn := fun _ => fun
  | [d] => { results := [.lit (.bool false)], args := [d] }
  | _ => none }
def RealNoughtWrongFalsely : Prop := realNoughtRow.holds Tryd.pinned (OpenSpec.ofChange realNoughtWrong)

/-- 'quartermasterlaw5.RealOrder': WHATEVER THE INPUT: true; the input reads as it did. -/
def realOrderSpec : ChangeSpec := { name := "realOrder", fn := fun _ => fun
  | [d1, d2] => { results := [.lit (.bool true)], args := [d1, d2] }
  | _ => none }
def realOrderRow : OpenClaim := { program := "ytnddnhjlaojllaadoor", sum := "7f474f0c61e546347a0eddf509328e816190b47c507b7080b05c915f3ad17091", func := "quartermaster/quartermasterlaw5.RealOrder", spec := "realOrder", inPlace := ["internal/bytealg.IndexByteString", "math.Float64frombits", "math.Float64bits", "math.archTrunc", "internal/abi.NoEscape", "internal/bytealg.MakeNoZero"], named := ["strconv.ErrSyntax", "strconv.ErrRange", "internal/strconv.uint64pow10", "math/bits.deBruijn32tab", "math/bits.deBruijn64tab"], apart := false, laid := [("math/bits.deBruijn32tab", laid_math_bits_deBruijn32tab), ("math/bits.deBruijn64tab", laid_math_bits_deBruijn64tab), ("internal/strconv.uint64pow10", laid_internal_strconv_uint64pow10), ("strconv.ErrRange", laid_strconv_ErrRange), ("strconv.ErrSyntax", laid_strconv_ErrSyntax)] }
def RealOrderSaid : Prop := realOrderRow.holds Tryd.pinned (OpenSpec.ofChange realOrderSpec)

/-- ITS FALSE NEIGHBOUR: 'it returns false'. Refute it at one input. -/
def realOrderWrong : ChangeSpec := { name := "realOrder", fn := fun _ => fun
  | [d1, d2] => { results := [.lit (.bool false)], args := [d1, d2] }
  | _ => none }
def RealOrderWrongFalsely : Prop := realOrderRow.holds Tryd.pinned (OpenSpec.ofChange realOrderWrong)

/-- 'quartermasterlaw5.RealSwaps': WHATEVER THE INPUT: true; the input reads as it did. -/
def realSwapsSpec : ChangeSpec := { name := "realSwaps", fn := fun _ => fun
  | [d1, d2] => { results := [.lit (.bool true)], args := [d1, d2] }
  | _ => none }
def realSwapsRow : OpenClaim := { program := "ytnddnhjlaojllaadoor", sum := "7f474f0c61e546347a0eddf509328e816190b47c507b7080b05c915f3ad17091", func := "quartermaster/quartermasterlaw5.RealSwaps", spec := "realSwaps", inPlace := ["internal/bytealg.IndexByteString", "math.Float64frombits", "math.Float64bits", "math.archTrunc", "internal/abi.NoEscape", "internal/bytealg.MakeNoZero"], named := ["strconv.ErrSyntax", "strconv.ErrRange", "internal/strconv.uint64pow10", "math/bits.deBruijn32tab", "math/bits.deBruijn64tab"], apart := false, laid := [("math/bits.deBruijn32tab", laid_math_bits_deBruijn32tab), ("math/bits.deBruijn64tab", laid_math_bits_deBruijn64tab), ("internal/strconv.uint64pow10", laid_internal_strconv_uint64pow10), ("strconv.ErrRange", laid_strconv_ErrRange), ("strconv.ErrSyntax", laid_strconv_ErrSyntax)] }
def RealSwapsSaid : Prop := realSwapsRow.holds Tryd.pinned (OpenSpec.ofChange realSwapsSpec)

/-- ITS FALSE NEIGHBOUR: 'it returns false'. Refute it at one input. -/
def realSwapsWrong : ChangeSpec := { name := "realSwaps", fn := fun _ => fun
  | [d1, d2] => { results := [.lit (.bool false)], args := [d1, d2] }
  | _ => none }
def RealSwapsWrongFalsely : Prop := realSwapsRow.holds Tryd.pinned (OpenSpec.ofChange realSwapsWrong)

/- THE SECOND FORM. 'bulk': how many values and letters a reading holds, each counted each time it is reached (what is shared counts as often as it is met; a slice's spare places count too). A statement '..UptoSaid' is the law's where the arguments, and the package variables that the reading takes, are together of bulk at most 1048576: NARROWER than '..Said'. Prove '..Said' where nothing that the law and all that it calls make is longer than what came in: it says more and counts as full. Else prove '..UptoSaid'. A law counts once. -/
mutual
def uptoBulk {H : Type} : DataW H → Nat
  | .lit (.string bytes) => bytes.length + 1
  | .lit _ => 1
  | .nil => 1
  | .ptr d => uptoBulk d + 1
  | .slice elems spare => uptoBulkAll elems + uptoBulkAll spare + 1
  | .agg parts => uptoBulkAll parts + 1
  | .iface _ d => uptoBulk d + 1
  | .map entries => uptoBulkEntries entries + 1
  | .held _ => 1
def uptoBulkAll {H : Type} : List (DataW H) → Nat
  | [] => 0
  | d :: r => uptoBulk d + uptoBulkAll r
def uptoBulkEntries {H : Type} : List (Lit × DataW H) → Nat
  | [] => 0
  | x :: r => uptoBulkEntry x + uptoBulkEntries r
def uptoBulkEntry {H : Type} : Lit × DataW H → Nat
  | (.string bytes, d) => bytes.length + uptoBulk d + 1
  | (_, d) => uptoBulk d + 1
 end
def uptoSmall : (H : Type) → List (DataW H) → Bool := fun _ ds => decide (uptoBulkAll ds ≤ 1048576)
def OpenSpec.upto (s : _root_.Go.ChangeSpec) : _root_.Go.OpenSpec := { _root_.Go.OpenSpec.ofChange s with cond := some uptoSmall }

/-- 'quartermasterlaw5.RealReads', WHERE WHAT IT READS IS OF BULK AT MOST 1048576: true; the input reads as it did. -/
def realReadsUptoRow : OpenClaim := { program := "ytnddnhjlaojllaadoor", sum := "7f474f0c61e546347a0eddf509328e816190b47c507b7080b05c915f3ad17091", func := "quartermaster/quartermasterlaw5.RealReads", spec := "realReads", inPlace := ["internal/bytealg.IndexByteString", "math.Float64frombits", "math.Float64bits", "math.archTrunc", "internal/abi.NoEscape", "internal/bytealg.MakeNoZero"], named := ["strconv.ErrSyntax", "strconv.ErrRange", "internal/strconv.uint64pow10", "math/bits.deBruijn32tab", "math/bits.deBruijn64tab"], apart := false, laid := [("math/bits.deBruijn32tab", laid_math_bits_deBruijn32tab), ("math/bits.deBruijn64tab", laid_math_bits_deBruijn64tab), ("internal/strconv.uint64pow10", laid_internal_strconv_uint64pow10), ("strconv.ErrRange", laid_strconv_ErrRange), ("strconv.ErrSyntax", laid_strconv_ErrSyntax)], narrowed := true }
def RealReadsUptoSaid : Prop := realReadsUptoRow.holds Tryd.pinned (OpenSpec.upto realReadsSpec)

/-- 'quartermasterlaw5.RealTexts', WHERE WHAT IT READS IS OF BULK AT MOST 1048576: true; the input reads as it did. -/
def realTextsUptoRow : OpenClaim := { program := "ytnddnhjlaojllaadoor", sum := "7f474f0c61e546347a0eddf509328e816190b47c507b7080b05c915f3ad17091", func := "quartermaster/quartermasterlaw5.RealTexts", spec := "realTexts", inPlace := ["internal/bytealg.IndexByteString", "math.Float64frombits", "math.Float64bits", "math.archTrunc", "internal/abi.NoEscape", "internal/bytealg.MakeNoZero"], recurses := true, named := ["strconv.ErrSyntax", "strconv.ErrRange", "internal/strconv.uint64pow10", "math/bits.deBruijn32tab", "math/bits.deBruijn64tab"], apart := false, laid := [("math/bits.deBruijn32tab", laid_math_bits_deBruijn32tab), ("math/bits.deBruijn64tab", laid_math_bits_deBruijn64tab), ("internal/strconv.uint64pow10", laid_internal_strconv_uint64pow10), ("strconv.ErrRange", laid_strconv_ErrRange), ("strconv.ErrSyntax", laid_strconv_ErrSyntax)], narrowed := true }
def RealTextsUptoSaid : Prop := realTextsUptoRow.holds Tryd.pinned (OpenSpec.upto realTextsSpec)

/-- 'quartermasterlaw5.RealSigns', WHERE WHAT IT READS IS OF BULK AT MOST 1048576: true; the input reads as it did. -/
def realSignsUptoRow : OpenClaim := { program := "ytnddnhjlaojllaadoor", sum := "7f474f0c61e546347a0eddf509328e816190b47c507b7080b05c915f3ad17091", func := "quartermaster/quartermasterlaw5.RealSigns", spec := "realSigns", inPlace := ["internal/bytealg.IndexByteString", "math.Float64frombits", "math.Float64bits", "math.archTrunc", "internal/abi.NoEscape", "internal/bytealg.MakeNoZero"], named := ["strconv.ErrSyntax", "strconv.ErrRange", "internal/strconv.uint64pow10", "math/bits.deBruijn32tab", "math/bits.deBruijn64tab"], apart := false, laid := [("math/bits.deBruijn32tab", laid_math_bits_deBruijn32tab), ("math/bits.deBruijn64tab", laid_math_bits_deBruijn64tab), ("internal/strconv.uint64pow10", laid_internal_strconv_uint64pow10), ("strconv.ErrRange", laid_strconv_ErrRange), ("strconv.ErrSyntax", laid_strconv_ErrSyntax)], narrowed := true }
def RealSignsUptoSaid : Prop := realSignsUptoRow.holds Tryd.pinned (OpenSpec.upto realSignsSpec)

/-- 'quartermasterlaw5.RealOnes', WHERE WHAT IT READS IS OF BULK AT MOST 1048576: true; the input reads as it did. -/
def realOnesUptoRow : OpenClaim := { program := "ytnddnhjlaojllaadoor", sum := "7f474f0c61e546347a0eddf509328e816190b47c507b7080b05c915f3ad17091", func := "quartermaster/quartermasterlaw5.RealOnes", spec := "realOnes", inPlace := ["internal/bytealg.IndexByteString", "math.Float64frombits", "math.Float64bits", "math.archTrunc", "internal/abi.NoEscape", "internal/bytealg.MakeNoZero"], named := ["strconv.ErrSyntax", "strconv.ErrRange", "internal/strconv.uint64pow10", "math/bits.deBruijn32tab", "math/bits.deBruijn64tab"], apart := false, laid := [("math/bits.deBruijn32tab", laid_math_bits_deBruijn32tab), ("math/bits.deBruijn64tab", laid_math_bits_deBruijn64tab), ("internal/strconv.uint64pow10", laid_internal_strconv_uint64pow10), ("strconv.ErrRange", laid_strconv_ErrRange), ("strconv.ErrSyntax", laid_strconv_ErrSyntax)], narrowed := true }
def RealOnesUptoSaid : Prop := realOnesUptoRow.holds Tryd.pinned (OpenSpec.upto realOnesSpec)

/-- 'quartermasterlaw5.RealOps', WHERE WHAT IT READS IS OF BULK AT MOST 1048576: true; the input reads as it did. -/
def realOpsUptoRow : OpenClaim := { program := "ytnddnhjlaojllaadoor", sum := "7f474f0c61e546347a0eddf509328e816190b47c507b7080b05c915f3ad17091", func := "quartermaster/quartermasterlaw5.RealOps", spec := "realOps", inPlace := ["internal/bytealg.IndexByteString", "math.Float64frombits", "math.Float64bits", "math.archTrunc", "internal/abi.NoEscape", "internal/bytealg.MakeNoZero"], named := ["strconv.ErrSyntax", "strconv.ErrRange", "internal/strconv.uint64pow10", "math/bits.deBruijn32tab", "math/bits.deBruijn64tab"], apart := false, laid := [("math/bits.deBruijn32tab", laid_math_bits_deBruijn32tab), ("math/bits.deBruijn64tab", laid_math_bits_deBruijn64tab), ("internal/strconv.uint64pow10", laid_internal_strconv_uint64pow10), ("strconv.ErrRange", laid_strconv_ErrRange), ("strconv.ErrSyntax", laid_strconv_ErrSyntax)], narrowed := true }
def RealOpsUptoSaid : Prop := realOpsUptoRow.holds Tryd.pinned (OpenSpec.upto realOpsSpec)

/-- 'quartermasterlaw5.RealWhole', WHERE WHAT IT READS IS OF BULK AT MOST 1048576: true; the input reads as it did. -/
def realWholeUptoRow : OpenClaim := { program := "ytnddnhjlaojllaadoor", sum := "7f474f0c61e546347a0eddf509328e816190b47c507b7080b05c915f3ad17091", func := "quartermaster/quartermasterlaw5.RealWhole", spec := "realWhole", inPlace := ["internal/bytealg.IndexByteString", "math.Float64frombits", "math.Float64bits", "math.archTrunc", "internal/abi.NoEscape", "internal/bytealg.MakeNoZero"], recurses := true, named := ["strconv.ErrSyntax", "strconv.ErrRange", "internal/strconv.uint64pow10", "math/bits.deBruijn32tab", "math/bits.deBruijn64tab"], apart := false, laid := [("math/bits.deBruijn32tab", laid_math_bits_deBruijn32tab), ("math/bits.deBruijn64tab", laid_math_bits_deBruijn64tab), ("internal/strconv.uint64pow10", laid_internal_strconv_uint64pow10), ("strconv.ErrRange", laid_strconv_ErrRange), ("strconv.ErrSyntax", laid_strconv_ErrSyntax)], narrowed := true }
def RealWholeUptoSaid : Prop := realWholeUptoRow.holds Tryd.pinned (OpenSpec.upto realWholeSpec)

/-- 'quartermasterlaw5.RealNaN', WHERE WHAT IT READS IS OF BULK AT MOST 1048576: true; the input reads as it did. -/
def realNaNUptoRow : OpenClaim := { program := "ytnddnhjlaojllaadoor", sum := "7f474f0c61e546347a0eddf509328e816190b47c507b7080b05c915f3ad17091", func := "quartermaster/quartermasterlaw5.RealNaN", spec := "realNaN", inPlace := ["internal/bytealg.IndexByteString", "math.Float64frombits", "math.Float64bits", "math.archTrunc", "internal/abi.NoEscape", "internal/bytealg.MakeNoZero"], named := ["strconv.ErrSyntax", "strconv.ErrRange", "internal/strconv.uint64pow10", "math/bits.deBruijn32tab", "math/bits.deBruijn64tab"], apart := false, laid := [("math/bits.deBruijn32tab", laid_math_bits_deBruijn32tab), ("math/bits.deBruijn64tab", laid_math_bits_deBruijn64tab), ("internal/strconv.uint64pow10", laid_internal_strconv_uint64pow10), ("strconv.ErrRange", laid_strconv_ErrRange), ("strconv.ErrSyntax", laid_strconv_ErrSyntax)], narrowed := true }
def RealNaNUptoSaid : Prop := realNaNUptoRow.holds Tryd.pinned (OpenSpec.upto realNaNSpec)

/-- 'quartermasterlaw5.RealNought', WHERE WHAT IT READS IS OF BULK AT MOST 1048576: true; the input reads as it did. -/
def realNoughtUptoRow : OpenClaim := { program := "ytnddnhjlaojllaadoor", sum := "7f474f0c61e546347a0eddf509328e816190b47c507b7080b05c915f3ad17091", func := "quartermaster/quartermasterlaw5.RealNought", spec := "realNought", inPlace := ["internal/bytealg.IndexByteString", "math.Float64frombits", "math.Float64bits", "math.archTrunc", "internal/abi.NoEscape", "internal/bytealg.MakeNoZero"], named := ["strconv.ErrSyntax", "strconv.ErrRange", "internal/strconv.uint64pow10", "math/bits.deBruijn32tab", "math/bits.deBruijn64tab"], apart := false, laid := [("math/bits.deBruijn32tab", laid_math_bits_deBruijn32tab), ("math/bits.deBruijn64tab", laid_math_bits_deBruijn64tab), ("internal/strconv.uint64pow10", laid_internal_strconv_uint64pow10), ("strconv.ErrRange", laid_strconv_ErrRange), ("strconv.ErrSyntax", laid_strconv_ErrSyntax)], narrowed := true }
def RealNoughtUptoSaid : Prop := realNoughtUptoRow.holds Tryd.pinned (OpenSpec.upto realNoughtSpec)

/-- 'quartermasterlaw5.RealOrder', WHERE WHAT IT READS IS OF BULK AT MOST 1048576: true; the input reads as it did. -/
def realOrderUptoRow : OpenClaim := { program := "ytnddnhjlaojllaadoor", sum := "7f474f0c61e546347a0eddf509328e816190b47c507b7080b05c915f3ad17091", func := "quartermaster/quartermasterlaw5.RealOrder", spec := "realOrder", inPlace := ["internal/bytealg.IndexByteString", "math.Float64frombits", "math.Float64bits", "math.archTrunc", "internal/abi.NoEscape", "internal/bytealg.MakeNoZero"], named := ["strconv.ErrSyntax", "strconv.ErrRange", "internal/strconv.uint64pow10", "math/bits.deBruijn32tab", "math/bits.deBruijn64tab"], apart := false, laid := [("math/bits.deBruijn32tab", laid_math_bits_deBruijn32tab), ("math/bits.deBruijn64tab", laid_math_bits_deBruijn64tab), ("internal/strconv.uint64pow10", laid_internal_strconv_uint64pow10), ("strconv.ErrRange", laid_strconv_ErrRange), ("strconv.ErrSyntax", laid_strconv_ErrSyntax)], narrowed := true }
def RealOrderUptoSaid : Prop := realOrderUptoRow.holds Tryd.pinned (OpenSpec.upto realOrderSpec)

/-- 'quartermasterlaw5.RealSwaps', WHERE WHAT IT READS IS OF BULK AT MOST 1048576: true; the input reads as it did. -/
def realSwapsUptoRow : OpenClaim := { program := "ytnddnhjlaojllaadoor", sum := "7f474f0c61e546347a0eddf509328e816190b47c507b7080b05c915f3ad17091", func := "quartermaster/quartermasterlaw5.RealSwaps", spec := "realSwaps", inPlace := ["internal/bytealg.IndexByteString", "math.Float64frombits", "math.Float64bits", "math.archTrunc", "internal/abi.NoEscape", "internal/bytealg.MakeNoZero"], named := ["strconv.ErrSyntax", "strconv.ErrRange", "internal/strconv.uint64pow10", "math/bits.deBruijn32tab", "math/bits.deBruijn64tab"], apart := false, laid := [("math/bits.deBruijn32tab", laid_math_bits_deBruijn32tab), ("math/bits.deBruijn64tab", laid_math_bits_deBruijn64tab), ("internal/strconv.uint64pow10", laid_internal_strconv_uint64pow10), ("strconv.ErrRange", laid_strconv_ErrRange), ("strconv.ErrSyntax", laid_strconv_ErrSyntax)], narrowed := true }
def RealSwapsUptoSaid : Prop := realSwapsUptoRow.holds Tryd.pinned (OpenSpec.upto realSwapsSpec)

end Rows
end Go.Proofs.YtnddnhjlaojllaaDoor
