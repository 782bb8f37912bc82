/-
  No cell of these rows narrows 'for every input' (looked for: loops, veiled, ifaces, maps, wideKeys, modest, calm, conditions, laid).
  DERIVED. THE GIVEN ROWS OF THIS SEAT. 8 by the template 'for every input the law returns true; each argument reads behind the call as it read before'; 0 by the template 'total and deterministic' (their statements: YtglppnpllpfaeaaTotals.lean).
  GIVEN WITH THE SEED: the statements are not yours to turn. If you find one false, say at which input.
  Laid BY PROGRAM, IN A SANDBOX (cutbox-rows.mjs): the forced cells as the released guide's own fill.sh prints them over the translation 043042a0ee3e4159… (all of the seat's roots in one cut). By AI agents, Wed Nov 11 2026. No macro, syntax, notation, axiom, sorry.
-/
import Derived.Test.YtglppnpllpfaeaaChecked
import GoSem.Claim
import GoSem.ClaimJoined
import GoSem.ClaimMapViews
import Derived.JoinedTies
import Derived.KernelRfl
namespace Go.Proofs.Ytglppnpllpfaeaa
/- THE CELL 'sum', in the pinned program and in every row, IS THE sha256 OF THE DUMP (.gsa) THAT YtglppnpllpfaeaaProg.lean LOADS. Nothing in Lean hashes anything: it is a label: what it is worth is what the hold of that sum in a sandbox is worth. -/
noncomputable def Try.pinned : Pinned := { name := "ytglppnpllpfaeaa", sum := "043042a0ee3e41597854067fc16fe5459143a7a2830a244e8d3571c0f4f3151d", checked := Try.checked }
namespace Rows
def none {H : Type} : Left H := { results := [], args := [] }

/-- 'quartermasterlaw19.MacroPlain': WHATEVER THE INPUT: true; the input reads as it did. -/
def macroPlainSpec : ChangeSpec := { name := "macroPlain", fn := fun _ => fun
  | [d1, d2] => { results := [.lit (.bool true)], args := [d1, d2] }
  | _ => none }
def macroPlainRow : OpenClaim := { program := "ytglppnpllpfaeaa", sum := "043042a0ee3e41597854067fc16fe5459143a7a2830a244e8d3571c0f4f3151d", func := "quartermaster/quartermasterlaw19.MacroPlain", spec := "macroPlain", inPlace := ["internal/bytealg.IndexByteString", "internal/bytealg.IndexString", "internal/abi.NoEscape", "internal/bytealg.MakeNoZero"], unfollowed := true, recurses := true, named := ["internal/bytealg.MaxLen"], apart := false }
def MacroPlainSaid : Prop := macroPlainRow.holds Try.pinned (OpenSpec.ofChange macroPlainSpec)

/-- ITS FALSE NEIGHBOUR: 'it returns false'. Refute it at one input. -/
def macroPlainWrong : ChangeSpec := { name := "macroPlain", fn := fun _ => fun
  | [d1, d2] => { results := [.lit (.bool false)], args := [d1, d2] }
  | _ => none }
def MacroPlainWrongFalsely : Prop := macroPlainRow.holds Try.pinned (OpenSpec.ofChange macroPlainWrong)

/-- 'quartermasterlaw19.MacroParts': WHATEVER THE INPUT: true; the input reads as it did. -/
def macroPartsSpec : ChangeSpec := { name := "macroParts", fn := fun _ => fun
  | [d1, d2, d3, d4] => { results := [.lit (.bool true)], args := [d1, d2, d3, d4] }
  | _ => none }
def macroPartsRow : OpenClaim := { program := "ytglppnpllpfaeaa", sum := "043042a0ee3e41597854067fc16fe5459143a7a2830a244e8d3571c0f4f3151d", func := "quartermaster/quartermasterlaw19.MacroParts", spec := "macroParts", inPlace := ["internal/bytealg.IndexByteString", "internal/bytealg.IndexString", "internal/abi.NoEscape", "internal/bytealg.MakeNoZero"], unfollowed := true, recurses := true, named := ["internal/bytealg.MaxLen"], apart := false }
def MacroPartsSaid : Prop := macroPartsRow.holds Try.pinned (OpenSpec.ofChange macroPartsSpec)

/-- ITS FALSE NEIGHBOUR: 'it returns false'. Refute it at one input. -/
def macroPartsWrong : ChangeSpec := { name := "macroParts", fn := fun _ => fun
  | [d1, d2, d3, d4] => { results := [.lit (.bool false)], args := [d1, d2, d3, d4] }
  | _ => none }
def MacroPartsWrongFalsely : Prop := macroPartsRow.holds Try.pinned (OpenSpec.ofChange macroPartsWrong)

/-- 'quartermasterlaw19.MacroCycles': WHATEVER THE INPUT: true; the input reads as it did. -/
def macroCyclesSpec : ChangeSpec := { name := "macroCycles", fn := fun _ => fun
  | [d1, d2] => { results := [.lit (.bool true)], args := [d1, d2] }
  | _ => none }
def macroCyclesRow : OpenClaim := { program := "ytglppnpllpfaeaa", sum := "043042a0ee3e41597854067fc16fe5459143a7a2830a244e8d3571c0f4f3151d", func := "quartermaster/quartermasterlaw19.MacroCycles", spec := "macroCycles", inPlace := ["internal/bytealg.IndexByteString", "internal/bytealg.IndexString", "internal/abi.NoEscape", "internal/bytealg.MakeNoZero"], unfollowed := true, recurses := true, named := ["internal/bytealg.MaxLen"], apart := false }
def MacroCyclesSaid : Prop := macroCyclesRow.holds Try.pinned (OpenSpec.ofChange macroCyclesSpec)

/-- ITS FALSE NEIGHBOUR: 'it returns false'. Refute it at one input. -/
def macroCyclesWrong : ChangeSpec := { name := "macroCycles", fn := fun _ => fun
  | [d1, d2] => { results := [.lit (.bool false)], args := [d1, d2] }
  | _ => none }
def MacroCyclesWrongFalsely : Prop := macroCyclesRow.holds Try.pinned (OpenSpec.ofChange macroCyclesWrong)

/-- 'quartermasterlaw19.MacroSwaps': WHATEVER THE INPUT: true; the input reads as it did. -/
def macroSwapsSpec : ChangeSpec := { name := "macroSwaps", fn := fun _ => fun
  | [d1, d2, d3, d4] => { results := [.lit (.bool true)], args := [d1, d2, d3, d4] }
  | _ => none }
def macroSwapsRow : OpenClaim := { program := "ytglppnpllpfaeaa", sum := "043042a0ee3e41597854067fc16fe5459143a7a2830a244e8d3571c0f4f3151d", func := "quartermaster/quartermasterlaw19.MacroSwaps", spec := "macroSwaps", inPlace := ["internal/bytealg.IndexByteString", "internal/bytealg.IndexString", "internal/abi.NoEscape", "internal/bytealg.MakeNoZero"], unfollowed := true, recurses := true, named := ["internal/bytealg.MaxLen"], apart := false }
def MacroSwapsSaid : Prop := macroSwapsRow.holds Try.pinned (OpenSpec.ofChange macroSwapsSpec)

/-- ITS FALSE NEIGHBOUR: 'it returns false'. Refute it at one input. -/
def macroSwapsWrong : ChangeSpec := { name := "macroSwaps", fn := fun _ => fun
  | [d1, d2, d3, d4] => { results := [.lit (.bool false)], args := [d1, d2, d3, d4] }
  | _ => none }
def MacroSwapsWrongFalsely : Prop := macroSwapsRow.holds Try.pinned (OpenSpec.ofChange macroSwapsWrong)

/-- 'quartermasterlaw19.MacroMany': WHATEVER THE INPUT: true; the input reads as it did. -/
def macroManySpec : ChangeSpec := { name := "macroMany", fn := fun _ => fun
  | [d] => { results := [.lit (.bool true)], args := [d] }
  | _ => none }
def macroManyRow : OpenClaim := { program := "ytglppnpllpfaeaa", sum := "043042a0ee3e41597854067fc16fe5459143a7a2830a244e8d3571c0f4f3151d", func := "quartermaster/quartermasterlaw19.MacroMany", spec := "macroMany", inPlace := ["internal/bytealg.IndexByteString", "internal/bytealg.IndexString", "internal/abi.NoEscape", "internal/bytealg.MakeNoZero"], unfollowed := true, recurses := true, named := ["internal/bytealg.MaxLen"], apart := false }
def MacroManySaid : Prop := macroManyRow.holds Try.pinned (OpenSpec.ofChange macroManySpec)

/-- ITS FALSE NEIGHBOUR: 'it returns false'. Refute it at one input. -/
def macroManyWrong : ChangeSpec := { name := "macroMany", fn := fun _ => fun
  | [d] => { results := [.lit (.bool false)], args := [d] }
  | _ => none }
def MacroManyWrongFalsely : Prop := macroManyRow.holds Try.pinned (OpenSpec.ofChange macroManyWrong)

/-- 'quartermasterlaw19.MacroNames': WHATEVER THE INPUT: true; the input reads as it did. -/
def macroNamesSpec : ChangeSpec := { name := "macroNames", fn := fun _ => fun
  | [d] => { results := [.lit (.bool true)], args := [d] }
  | _ => none }
def macroNamesRow : OpenClaim := { program := "ytglppnpllpfaeaa", sum := "043042a0ee3e41597854067fc16fe5459143a7a2830a244e8d3571c0f4f3151d", func := "quartermaster/quartermasterlaw19.MacroNames", spec := "macroNames", inPlace := ["internal/bytealg.IndexByteString", "internal/bytealg.IndexString", "internal/abi.NoEscape", "internal/bytealg.MakeNoZero"], unfollowed := true, recurses := true, named := ["internal/bytealg.MaxLen"], apart := false }
def MacroNamesSaid : Prop := macroNamesRow.holds Try.pinned (OpenSpec.ofChange macroNamesSpec)

/-- ITS FALSE NEIGHBOUR: 'it returns false'. Refute it at one input. -/
def macroNamesWrong : ChangeSpec := { name := "macroNames", fn := fun _ => fun
  | [d] => { results := [.lit (.bool false)], args := [d] }
  | _ => none }
def MacroNamesWrongFalsely : Prop := macroNamesRow.holds Try.pinned (OpenSpec.ofChange macroNamesWrong)

/-- 'quartermasterlaw19.MacroAutos': WHATEVER THE INPUT: true; the input reads as it did. -/
def macroAutosSpec : ChangeSpec := { name := "macroAutos", fn := fun _ => fun
  | [d1, d2, d3, d4] => { results := [.lit (.bool true)], args := [d1, d2, d3, d4] }
  | _ => none }
def macroAutosRow : OpenClaim := { program := "ytglppnpllpfaeaa", sum := "043042a0ee3e41597854067fc16fe5459143a7a2830a244e8d3571c0f4f3151d", func := "quartermaster/quartermasterlaw19.MacroAutos", spec := "macroAutos", inPlace := ["internal/bytealg.IndexByteString", "internal/bytealg.IndexString", "internal/abi.NoEscape", "internal/bytealg.MakeNoZero"], unfollowed := true, recurses := true, named := ["internal/bytealg.MaxLen"], apart := false }
def MacroAutosSaid : Prop := macroAutosRow.holds Try.pinned (OpenSpec.ofChange macroAutosSpec)

/-- ITS FALSE NEIGHBOUR: 'it returns false'. Refute it at one input. -/
def macroAutosWrong : ChangeSpec := { name := "macroAutos", fn := fun _ => fun
  | [d1, d2, d3, d4] => { results := [.lit (.bool false)], args := [d1, d2, d3, d4] }
  | _ => none }
def MacroAutosWrongFalsely : Prop := macroAutosRow.holds Try.pinned (OpenSpec.ofChange macroAutosWrong)

/-- 'quartermasterlaw19.MacroNested': WHATEVER THE INPUT: true; the input reads as it did. -/
def macroNestedSpec : ChangeSpec := { name := "macroNested", fn := fun _ => fun
  | [d1, d2, d3] => { results := [.lit (.bool true)], args := [d1, d2, d3] }
  | _ => none }
def macroNestedRow : OpenClaim := { program := "ytglppnpllpfaeaa", sum := "043042a0ee3e41597854067fc16fe5459143a7a2830a244e8d3571c0f4f3151d", func := "quartermaster/quartermasterlaw19.MacroNested", spec := "macroNested", inPlace := ["internal/bytealg.IndexByteString", "internal/bytealg.IndexString", "internal/abi.NoEscape", "internal/bytealg.MakeNoZero"], unfollowed := true, recurses := true, named := ["internal/bytealg.MaxLen"], apart := false }
def MacroNestedSaid : Prop := macroNestedRow.holds Try.pinned (OpenSpec.ofChange macroNestedSpec)

/-- ITS FALSE NEIGHBOUR: 'it returns false'. Refute it at one input. -/
def macroNestedWrong : ChangeSpec := { name := "macroNested", fn := fun _ => fun
  | [d1, d2, d3] => { results := [.lit (.bool false)], args := [d1, d2, d3] }
  | _ => none }
def MacroNestedWrongFalsely : Prop := macroNestedRow.holds Try.pinned (OpenSpec.ofChange macroNestedWrong)

/- THE SECOND FORM. 'bulk': how many values and letters a reading holds, each counted each time it is reached (what is shared counts as often as it is met; a slice's spare places count too). A statement '..UptoSaid' is the law's where the arguments, and the package variables that the reading takes, are together of bulk at most 1048576: NARROWER than '..Said'. Prove '..Said' where nothing that the law and all that it calls make is longer than what came in: it says more and counts as full. Else prove '..UptoSaid'. A law counts once. -/
mutual
def uptoBulk {H : Type} : DataW H → Nat
  | .lit (.string bytes) => bytes.length + 1
  | .lit _ => 1
  | .nil => 1
  | .ptr d => uptoBulk d + 1
  | .slice elems spare => uptoBulkAll elems + uptoBulkAll spare + 1
  | .agg parts => uptoBulkAll parts + 1
  | .iface _ d => uptoBulk d + 1
  | .map entries => uptoBulkEntries entries + 1
  | .held _ => 1
def uptoBulkAll {H : Type} : List (DataW H) → Nat
  | [] => 0
  | d :: r => uptoBulk d + uptoBulkAll r
def uptoBulkEntries {H : Type} : List (Lit × DataW H) → Nat
  | [] => 0
  | x :: r => uptoBulkEntry x + uptoBulkEntries r
def uptoBulkEntry {H : Type} : Lit × DataW H → Nat
  | (.string bytes, d) => bytes.length + uptoBulk d + 1
  | (_, d) => uptoBulk d + 1
 end
def uptoSmall : (H : Type) → List (DataW H) → Bool := fun _ ds => decide (uptoBulkAll ds ≤ 1048576)
def OpenSpec.upto (s : _root_.Go.ChangeSpec) : _root_.Go.OpenSpec := { _root_.Go.OpenSpec.ofChange s with cond := some uptoSmall }

/-- 'quartermasterlaw19.MacroPlain', WHERE WHAT IT READS IS OF BULK AT MOST 1048576: true; the input reads as it did. -/
def macroPlainUptoRow : OpenClaim := { program := "ytglppnpllpfaeaa", sum := "043042a0ee3e41597854067fc16fe5459143a7a2830a244e8d3571c0f4f3151d", func := "quartermaster/quartermasterlaw19.MacroPlain", spec := "macroPlain", inPlace := ["internal/bytealg.IndexByteString", "internal/bytealg.IndexString", "internal/abi.NoEscape", "internal/bytealg.MakeNoZero"], unfollowed := true, recurses := true, named := ["internal/bytealg.MaxLen"], apart := false, narrowed := true }
def MacroPlainUptoSaid : Prop := macroPlainUptoRow.holds Try.pinned (OpenSpec.upto macroPlainSpec)

/-- 'quartermasterlaw19.MacroParts', WHERE WHAT IT READS IS OF BULK AT MOST 1048576: true; the input reads as it did. -/
def macroPartsUptoRow : OpenClaim := { program := "ytglppnpllpfaeaa", sum := "043042a0ee3e41597854067fc16fe5459143a7a2830a244e8d3571c0f4f3151d", func := "quartermaster/quartermasterlaw19.MacroParts", spec := "macroParts", inPlace := ["internal/bytealg.IndexByteString", "internal/bytealg.IndexString", "internal/abi.NoEscape", "internal/bytealg.MakeNoZero"], unfollowed := true, recurses := true, named := ["internal/bytealg.MaxLen"], apart := false, narrowed := true }
def MacroPartsUptoSaid : Prop := macroPartsUptoRow.holds Try.pinned (OpenSpec.upto macroPartsSpec)

/-- 'quartermasterlaw19.MacroCycles', WHERE WHAT IT READS IS OF BULK AT MOST 1048576: true; the input reads as it did. -/
def macroCyclesUptoRow : OpenClaim := { program := "ytglppnpllpfaeaa", sum := "043042a0ee3e41597854067fc16fe5459143a7a2830a244e8d3571c0f4f3151d", func := "quartermaster/quartermasterlaw19.MacroCycles", spec := "macroCycles", inPlace := ["internal/bytealg.IndexByteString", "internal/bytealg.IndexString", "internal/abi.NoEscape", "internal/bytealg.MakeNoZero"], unfollowed := true, recurses := true, named := ["internal/bytealg.MaxLen"], apart := false, narrowed := true }
def MacroCyclesUptoSaid : Prop := macroCyclesUptoRow.holds Try.pinned (OpenSpec.upto macroCyclesSpec)

/-- 'quartermasterlaw19.MacroSwaps', WHERE WHAT IT READS IS OF BULK AT MOST 1048576: true; the input reads as it did. -/
def macroSwapsUptoRow : OpenClaim := { program := "ytglppnpllpfaeaa", sum := "043042a0ee3e41597854067fc16fe5459143a7a2830a244e8d3571c0f4f3151d", func := "quartermaster/quartermasterlaw19.MacroSwaps", spec := "macroSwaps", inPlace := ["internal/bytealg.IndexByteString", "internal/bytealg.IndexString", "internal/abi.NoEscape", "internal/bytealg.MakeNoZero"], unfollowed := true, recurses := true, named := ["internal/bytealg.MaxLen"], apart := false, narrowed := true }
def MacroSwapsUptoSaid : Prop := macroSwapsUptoRow.holds Try.pinned (OpenSpec.upto macroSwapsSpec)

/-- 'quartermasterlaw19.MacroMany', WHERE WHAT IT READS IS OF BULK AT MOST 1048576: true; the input reads as it did. -/
def macroManyUptoRow : OpenClaim := { program := "ytglppnpllpfaeaa", sum := "043042a0ee3e41597854067fc16fe5459143a7a2830a244e8d3571c0f4f3151d", func := "quartermaster/quartermasterlaw19.MacroMany", spec := "macroMany", inPlace := ["internal/bytealg.IndexByteString", "internal/bytealg.IndexString", "internal/abi.NoEscape", "internal/bytealg.MakeNoZero"], unfollowed := true, recurses := true, named := ["internal/bytealg.MaxLen"], apart := false, narrowed := true }
def MacroManyUptoSaid : Prop := macroManyUptoRow.holds Try.pinned (OpenSpec.upto macroManySpec)

/-- 'quartermasterlaw19.MacroNames', WHERE WHAT IT READS IS OF BULK AT MOST 1048576: true; the input reads as it did. -/
def macroNamesUptoRow : OpenClaim := { program := "ytglppnpllpfaeaa", sum := "043042a0ee3e41597854067fc16fe5459143a7a2830a244e8d3571c0f4f3151d", func := "quartermaster/quartermasterlaw19.MacroNames", spec := "macroNames", inPlace := ["internal/bytealg.IndexByteString", "internal/bytealg.IndexString", "internal/abi.NoEscape", "internal/bytealg.MakeNoZero"], unfollowed := true, recurses := true, named := ["internal/bytealg.MaxLen"], apart := false, narrowed := true }
def MacroNamesUptoSaid : Prop := macroNamesUptoRow.holds Try.pinned (OpenSpec.upto macroNamesSpec)

/-- 'quartermasterlaw19.MacroAutos', WHERE WHAT IT READS IS OF BULK AT MOST 1048576: true; the input reads as it did. -/
def macroAutosUptoRow : OpenClaim := { program := "ytglppnpllpfaeaa", sum := "043042a0ee3e41597854067fc16fe5459143a7a2830a244e8d3571c0f4f3151d", func := "quartermaster/quartermasterlaw19.MacroAutos", spec := "macroAutos", inPlace := ["internal/bytealg.IndexByteString", "internal/bytealg.IndexString", "internal/abi.NoEscape", "internal/bytealg.MakeNoZero"], unfollowed := true, recurses := true, named := ["internal/bytealg.MaxLen"], apart := false, narrowed := true }
def MacroAutosUptoSaid : Prop := macroAutosUptoRow.holds Try.pinned (OpenSpec.upto macroAutosSpec)

/-- 'quartermasterlaw19.MacroNested', WHERE WHAT IT READS IS OF BULK AT MOST 1048576: true; the input reads as it did. -/
def macroNestedUptoRow : OpenClaim := { program := "ytglppnpllpfaeaa", sum := "043042a0ee3e41597854067fc16fe5459143a7a2830a244e8d3571c0f4f3151d", func := "quartermaster/quartermasterlaw19.MacroNested", spec := "macroNested", inPlace := ["internal/bytealg.IndexByteString", "internal/bytealg.IndexString", "internal/abi.NoEscape", "internal/bytealg.MakeNoZero"], unfollowed := true, recurses := true, named := ["internal/bytealg.MaxLen"], apart := false, narrowed := true }
def MacroNestedUptoSaid : Prop := macroNestedUptoRow.holds Try.pinned (OpenSpec.upto macroNestedSpec)

end Rows
end Go.Proofs.Ytglppnpllpfaeaa
