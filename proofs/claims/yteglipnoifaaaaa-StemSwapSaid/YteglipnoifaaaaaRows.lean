/-
  No cell of these rows narrows 'for every input' (looked for: loops, veiled, ifaces, maps, wideKeys, modest, calm, conditions, laid).
  DERIVED. THE GIVEN ROWS OF THIS SEAT. 4 by the template 'for every input the law returns true; each argument reads behind the call as it read before'; 0 by the template 'total and deterministic' (their statements: YteglipnoifaaaaaTotals.lean).
  GIVEN WITH THE SEED: the statements are not yours to turn. If you find one false, say at which input.
  Laid BY PROGRAM, IN A SANDBOX (cutbox-rows.mjs): the forced cells as the released guide's own fill.sh prints them over the translation b30dfdf65f759565… (all of the seat's roots in one cut). By AI agents, Wed Nov 11 2026. No macro, syntax, notation, axiom, sorry.
-/
import Derived.Test.YteglipnoifaaaaaChecked
import GoSem.Claim
import GoSem.ClaimJoined
import GoSem.ClaimMapViews
import Derived.JoinedTies
import Derived.KernelRfl
namespace Go.Proofs.Yteglipnoifaaaaa
/- THE CELL 'sum', in the pinned program and in every row, IS THE sha256 OF THE DUMP (.gsa) THAT YteglipnoifaaaaaProg.lean LOADS. Nothing in Lean hashes anything: it is a label: what it is worth is what the hold of that sum in a sandbox is worth. -/
noncomputable def Try.pinned : Pinned := { name := "yteglipnoifaaaaa", sum := "b30dfdf65f759565d34e80132b895517865fa18a61e7cfa9f0c99c534756a06c", checked := Try.checked }
namespace Rows
def none {H : Type} : Left H := { results := [], args := [] }

/-- 'quartermasterlaw2.StemSuffix': WHATEVER THE INPUT: true; the input reads as it did. -/
def stemSuffixSpec : ChangeSpec := { name := "stemSuffix", fn := fun _ => fun
  | [d1, d2] => { results := [.lit (.bool true)], args := [d1, d2] }
  | _ => none }
def stemSuffixRow : OpenClaim := { program := "yteglipnoifaaaaa", sum := "b30dfdf65f759565d34e80132b895517865fa18a61e7cfa9f0c99c534756a06c", func := "quartermaster/quartermasterlaw2.StemSuffix", spec := "stemSuffix", inPlace := ["internal/bytealg.IndexByteString", "internal/bytealg.IndexString"], named := ["internal/bytealg.MaxLen"], apart := false }
def StemSuffixSaid : Prop := stemSuffixRow.holds Try.pinned (OpenSpec.ofChange stemSuffixSpec)

/-- ITS FALSE NEIGHBOUR: 'it returns false'. Refute it at one input. -/
def stemSuffixWrong : ChangeSpec := { name := "stemSuffix", fn := fun _ => fun
  | [d1, d2] => { results := [.lit (.bool false)], args := [d1, d2] }
  | _ => none }
def StemSuffixWrongFalsely : Prop := stemSuffixRow.holds Try.pinned (OpenSpec.ofChange stemSuffixWrong)

/-- 'quartermasterlaw2.StemMatches': WHATEVER THE INPUT: true; the input reads as it did. -/
def stemMatchesSpec : ChangeSpec := { name := "stemMatches", fn := fun _ => fun
  | [d1, d2] => { results := [.lit (.bool true)], args := [d1, d2] }
  | _ => none }
def stemMatchesRow : OpenClaim := { program := "yteglipnoifaaaaa", sum := "b30dfdf65f759565d34e80132b895517865fa18a61e7cfa9f0c99c534756a06c", func := "quartermaster/quartermasterlaw2.StemMatches", spec := "stemMatches", inPlace := ["internal/bytealg.IndexByteString", "internal/bytealg.IndexString"], named := ["internal/bytealg.MaxLen"], apart := false }
def StemMatchesSaid : Prop := stemMatchesRow.holds Try.pinned (OpenSpec.ofChange stemMatchesSpec)

/-- ITS FALSE NEIGHBOUR: 'it returns false'. Refute it at one input. -/
def stemMatchesWrong : ChangeSpec := { name := "stemMatches", fn := fun _ => fun
  | [d1, d2] => { results := [.lit (.bool false)], args := [d1, d2] }
  | _ => none }
def StemMatchesWrongFalsely : Prop := stemMatchesRow.holds Try.pinned (OpenSpec.ofChange stemMatchesWrong)

/-- 'quartermasterlaw2.StemBack': WHATEVER THE INPUT: true; the input reads as it did. -/
def stemBackSpec : ChangeSpec := { name := "stemBack", fn := fun _ => fun
  | [d1, d2] => { results := [.lit (.bool true)], args := [d1, d2] }
  | _ => none }
def stemBackRow : OpenClaim := { program := "yteglipnoifaaaaa", sum := "b30dfdf65f759565d34e80132b895517865fa18a61e7cfa9f0c99c534756a06c", func := "quartermaster/quartermasterlaw2.StemBack", spec := "stemBack", inPlace := ["internal/bytealg.IndexByteString", "internal/bytealg.IndexString"], named := ["internal/bytealg.MaxLen"], apart := false }
def StemBackSaid : Prop := stemBackRow.holds Try.pinned (OpenSpec.ofChange stemBackSpec)

/-- ITS FALSE NEIGHBOUR: 'it returns false'. Refute it at one input. -/
def stemBackWrong : ChangeSpec := { name := "stemBack", fn := fun _ => fun
  | [d1, d2] => { results := [.lit (.bool false)], args := [d1, d2] }
  | _ => none }
def StemBackWrongFalsely : Prop := stemBackRow.holds Try.pinned (OpenSpec.ofChange stemBackWrong)

/-- 'quartermasterlaw2.StemSwap': WHATEVER THE INPUT: true; the input reads as it did. -/
def stemSwapSpec : ChangeSpec := { name := "stemSwap", fn := fun _ => fun
  | [d1, d2, d3] => { results := [.lit (.bool true)], args := [d1, d2, d3] }
  | _ => none }
def stemSwapRow : OpenClaim := { program := "yteglipnoifaaaaa", sum := "b30dfdf65f759565d34e80132b895517865fa18a61e7cfa9f0c99c534756a06c", func := "quartermaster/quartermasterlaw2.StemSwap", spec := "stemSwap", inPlace := ["internal/bytealg.IndexByteString", "internal/bytealg.IndexString"], named := ["internal/bytealg.MaxLen"], apart := false }
def StemSwapSaid : Prop := stemSwapRow.holds Try.pinned (OpenSpec.ofChange stemSwapSpec)

/-- ITS FALSE NEIGHBOUR: 'it returns false'. Refute it at one input. -/
def stemSwapWrong : ChangeSpec := { name := "stemSwap", fn := fun _ => fun
  | [d1, d2, d3] => { results := [.lit (.bool false)], args := [d1, d2, d3] }
  | _ => none }
def StemSwapWrongFalsely : Prop := stemSwapRow.holds Try.pinned (OpenSpec.ofChange stemSwapWrong)

/- THE SECOND FORM. 'bulk': how many values and letters a reading holds, each counted each time it is reached (what is shared counts as often as it is met; a slice's spare places count too). A statement '..UptoSaid' is the law's where the arguments, and the package variables that the reading takes, are together of bulk at most 1048576: NARROWER than '..Said'. Prove '..Said' where nothing that the law and all that it calls make is longer than what came in: it says more and counts as full. Else prove '..UptoSaid'. A law counts once. -/
mutual
def uptoBulk {H : Type} : DataW H → Nat
  | .lit (.string bytes) => bytes.length + 1
  | .lit _ => 1
  | .nil => 1
  | .ptr d => uptoBulk d + 1
  | .slice elems spare => uptoBulkAll elems + uptoBulkAll spare + 1
  | .agg parts => uptoBulkAll parts + 1
  | .iface _ d => uptoBulk d + 1
  | .map entries => uptoBulkEntries entries + 1
  | .held _ => 1
def uptoBulkAll {H : Type} : List (DataW H) → Nat
  | [] => 0
  | d :: r => uptoBulk d + uptoBulkAll r
def uptoBulkEntries {H : Type} : List (Lit × DataW H) → Nat
  | [] => 0
  | x :: r => uptoBulkEntry x + uptoBulkEntries r
def uptoBulkEntry {H : Type} : Lit × DataW H → Nat
  | (.string bytes, d) => bytes.length + uptoBulk d + 1
  | (_, d) => uptoBulk d + 1
 end
def uptoSmall : (H : Type) → List (DataW H) → Bool := fun _ ds => decide (uptoBulkAll ds ≤ 1048576)
def OpenSpec.upto (s : _root_.Go.ChangeSpec) : _root_.Go.OpenSpec := { _root_.Go.OpenSpec.ofChange s with cond := some uptoSmall }

/-- 'quartermasterlaw2.StemSuffix', WHERE WHAT IT READS IS OF BULK AT MOST 1048576: true; the input reads as it did. -/
def stemSuffixUptoRow : OpenClaim := { program := "yteglipnoifaaaaa", sum := "b30dfdf65f759565d34e80132b895517865fa18a61e7cfa9f0c99c534756a06c", func := "quartermaster/quartermasterlaw2.StemSuffix", spec := "stemSuffix", inPlace := ["internal/bytealg.IndexByteString", "internal/bytealg.IndexString"], named := ["internal/bytealg.MaxLen"], apart := false, narrowed := true }
def StemSuffixUptoSaid : Prop := stemSuffixUptoRow.holds Try.pinned (OpenSpec.upto stemSuffixSpec)

/-- 'quartermasterlaw2.StemMatches', WHERE WHAT IT READS IS OF BULK AT MOST 1048576: true; the input reads as it did. -/
def stemMatchesUptoRow : OpenClaim := { program := "yteglipnoifaaaaa", sum := "b30dfdf65f759565d34e80132b895517865fa18a61e7cfa9f0c99c534756a06c", func := "quartermaster/quartermasterlaw2.StemMatches", spec := "stemMatches", inPlace := ["internal/bytealg.IndexByteString", "internal/bytealg.IndexString"], named := ["internal/bytealg.MaxLen"], apart := false, narrowed := true }
def StemMatchesUptoSaid : Prop := stemMatchesUptoRow.holds Try.pinned (OpenSpec.upto stemMatchesSpec)

/-- 'quartermasterlaw2.StemBack', WHERE WHAT IT READS IS OF BULK AT MOST 1048576: true; the input reads as it did. -/
def stemBackUptoRow : OpenClaim := { program := "yteglipnoifaaaaa", sum := "b30dfdf65f759565d34e80132b895517865fa18a61e7cfa9f0c99c534756a06c", func := "quartermaster/quartermasterlaw2.StemBack", spec := "stemBack", inPlace := ["internal/bytealg.IndexByteString", "internal/bytealg.IndexString"], named := ["internal/bytealg.MaxLen"], apart := false, narrowed := true }
def StemBackUptoSaid : Prop := stemBackUptoRow.holds Try.pinned (OpenSpec.upto stemBackSpec)

/-- 'quartermasterlaw2.StemSwap', WHERE WHAT IT READS IS OF BULK AT MOST 1048576: true; the input reads as it did. -/
def stemSwapUptoRow : OpenClaim := { program := "yteglipnoifaaaaa", sum := "b30dfdf65f759565d34e80132b895517865fa18a61e7cfa9f0c99c534756a06c", func := "quartermaster/quartermasterlaw2.StemSwap", spec := "stemSwap", inPlace := ["internal/bytealg.IndexByteString", "internal/bytealg.IndexString"], named := ["internal/bytealg.MaxLen"], apart := false, narrowed := true }
def StemSwapUptoSaid : Prop := stemSwapUptoRow.holds Try.pinned (OpenSpec.upto stemSwapSpec)

end Rows
end Go.Proofs.Yteglipnoifaaaaa
