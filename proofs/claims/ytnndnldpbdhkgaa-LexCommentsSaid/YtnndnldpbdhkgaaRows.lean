/-
  No cell of these rows narrows 'for every input' (looked for: loops, veiled, ifaces, maps, wideKeys, modest, calm, conditions, laid).
  DERIVED. THE GIVEN ROWS OF THIS SEAT. 10 by the template 'for every input the law returns true; each argument reads behind the call as it read before'; 0 by the template 'total and deterministic' (their statements: YtnndnldpbdhkgaaTotals.lean).
  GIVEN WITH THE SEED: the statements are not yours to turn. If you find one false, say at which input.
  Laid BY PROGRAM, IN A SANDBOX (cutbox-rows.mjs): the forced cells as the released guide's own fill.sh prints them over the translation e36153ae04d83f4b… (all of the seat's roots in one cut). By AI agents, Wed Nov 11 2026. No macro, syntax, notation, axiom, sorry.
-/
import Derived.Test.YtnndnldpbdhkgaaChecked
import GoSem.Claim
import GoSem.ClaimJoined
import GoSem.ClaimMapViews
import Derived.JoinedTies
import Derived.KernelRfl
namespace Go.Proofs.Ytnndnldpbdhkgaa
/- THE CELL 'sum', in the pinned program and in every row, IS THE sha256 OF THE DUMP (.gsa) THAT YtnndnldpbdhkgaaProg.lean LOADS. Nothing in Lean hashes anything: it is a label: what it is worth is what the hold of that sum in a sandbox is worth. -/
noncomputable def Try.pinned : Pinned := { name := "ytnndnldpbdhkgaa", sum := "e36153ae04d83f4bf8cd3887428b606e60382b2286364aecb1d888fed0610f44", checked := Try.checked }
namespace Rows
def none {H : Type} : Left H := { results := [], args := [] }

/-- 'quartermasterlaw8.LexTokens': WHATEVER THE INPUT: true; the input reads as it did. -/
def lexTokensSpec : ChangeSpec := { name := "lexTokens", fn := fun _ => fun
  | [d] => { results := [.lit (.bool true)], args := [d] }
  | _ => none }
def lexTokensRow : OpenClaim := { program := "ytnndnldpbdhkgaa", sum := "e36153ae04d83f4bf8cd3887428b606e60382b2286364aecb1d888fed0610f44", func := "quartermaster/quartermasterlaw8.LexTokens", spec := "lexTokens", inPlace := ["internal/bytealg.IndexByteString"], unfollowed := true, recurses := true, apart := false }
def LexTokensSaid : Prop := lexTokensRow.holds Try.pinned (OpenSpec.ofChange lexTokensSpec)

/-- ITS FALSE NEIGHBOUR: 'it returns false'. Refute it at one input. -/
def lexTokensWrong : ChangeSpec := { name := "lexTokens", fn := fun _ => fun
  | [d] => { results := [.lit (.bool false)], args := [d] }
  | _ => none }
def LexTokensWrongFalsely : Prop := lexTokensRow.holds Try.pinned (OpenSpec.ofChange lexTokensWrong)

/-- 'quartermasterlaw8.LexSplit': WHATEVER THE INPUT: true; the input reads as it did. -/
def lexSplitSpec : ChangeSpec := { name := "lexSplit", fn := fun _ => fun
  | [d1, d2, d3] => { results := [.lit (.bool true)], args := [d1, d2, d3] }
  | _ => none }
def lexSplitRow : OpenClaim := { program := "ytnndnldpbdhkgaa", sum := "e36153ae04d83f4bf8cd3887428b606e60382b2286364aecb1d888fed0610f44", func := "quartermaster/quartermasterlaw8.LexSplit", spec := "lexSplit", inPlace := ["internal/bytealg.IndexByteString"], unfollowed := true, recurses := true, apart := false }
def LexSplitSaid : Prop := lexSplitRow.holds Try.pinned (OpenSpec.ofChange lexSplitSpec)

/-- ITS FALSE NEIGHBOUR: 'it returns false'. Refute it at one input. -/
def lexSplitWrong : ChangeSpec := { name := "lexSplit", fn := fun _ => fun
  | [d1, d2, d3] => { results := [.lit (.bool false)], args := [d1, d2, d3] }
  | _ => none }
def LexSplitWrongFalsely : Prop := lexSplitRow.holds Try.pinned (OpenSpec.ofChange lexSplitWrong)

/-- 'quartermasterlaw8.LexBack': WHATEVER THE INPUT: true; the input reads as it did. -/
def lexBackSpec : ChangeSpec := { name := "lexBack", fn := fun _ => fun
  | [d1, d2] => { results := [.lit (.bool true)], args := [d1, d2] }
  | _ => none }
def lexBackRow : OpenClaim := { program := "ytnndnldpbdhkgaa", sum := "e36153ae04d83f4bf8cd3887428b606e60382b2286364aecb1d888fed0610f44", func := "quartermaster/quartermasterlaw8.LexBack", spec := "lexBack", inPlace := ["internal/bytealg.IndexByteString"], unfollowed := true, recurses := true, apart := false }
def LexBackSaid : Prop := lexBackRow.holds Try.pinned (OpenSpec.ofChange lexBackSpec)

/-- ITS FALSE NEIGHBOUR: 'it returns false'. Refute it at one input. -/
def lexBackWrong : ChangeSpec := { name := "lexBack", fn := fun _ => fun
  | [d1, d2] => { results := [.lit (.bool false)], args := [d1, d2] }
  | _ => none }
def LexBackWrongFalsely : Prop := lexBackRow.holds Try.pinned (OpenSpec.ofChange lexBackWrong)

/-- 'quartermastertop.TopNames': WHATEVER THE INPUT: true; the input reads as it did. -/
def topNamesSpec : ChangeSpec := { name := "topNames", fn := fun _ => fun
  | [] => { results := [.lit (.bool true)], args := [] }
  | _ => none }
def topNamesRow : OpenClaim := { program := "ytnndnldpbdhkgaa", sum := "e36153ae04d83f4bf8cd3887428b606e60382b2286364aecb1d888fed0610f44", func := "quartermaster/quartermastertop.TopNames", spec := "topNames", apart := false }
def TopNamesSaid : Prop := topNamesRow.holds Try.pinned (OpenSpec.ofChange topNamesSpec)

/-- ITS FALSE NEIGHBOUR: 'it returns false'. Refute it at one input. -/
def topNamesWrong : ChangeSpec := { name := "topNames", fn := fun _ => fun
  | [] => { results := [.lit (.bool false)], args := [] }
  | _ => none }
def TopNamesWrongFalsely : Prop := topNamesRow.holds Try.pinned (OpenSpec.ofChange topNamesWrong)

/-- 'quartermasterlaw8.LexOps': WHATEVER THE INPUT: true; the input reads as it did. -/
def lexOpsSpec : ChangeSpec := { name := "lexOps", fn := fun _ => fun
  | [d1, d2] => { results := [.lit (.bool true)], args := [d1, d2] }
  | _ => none }
def lexOpsRow : OpenClaim := { program := "ytnndnldpbdhkgaa", sum := "e36153ae04d83f4bf8cd3887428b606e60382b2286364aecb1d888fed0610f44", func := "quartermaster/quartermasterlaw8.LexOps", spec := "lexOps", inPlace := ["internal/bytealg.IndexByteString"], unfollowed := true, recurses := true, apart := false }
def LexOpsSaid : Prop := lexOpsRow.holds Try.pinned (OpenSpec.ofChange lexOpsSpec)

/-- ITS FALSE NEIGHBOUR: 'it returns false'. Refute it at one input. -/
def lexOpsWrong : ChangeSpec := { name := "lexOps", fn := fun _ => fun
  | [d1, d2] => { results := [.lit (.bool false)], args := [d1, d2] }
  | _ => none }
def LexOpsWrongFalsely : Prop := lexOpsRow.holds Try.pinned (OpenSpec.ofChange lexOpsWrong)

/-- 'quartermasterlaw8.LexComments': WHATEVER THE INPUT: true; the input reads as it did. -/
def lexCommentsSpec : ChangeSpec := { name := "lexComments", fn := fun _ => fun
  | [d1, d2] => { results := [.lit (.bool true)], args := [d1, d2] }
  | _ => none }
def lexCommentsRow : OpenClaim := { program := "ytnndnldpbdhkgaa", sum := "e36153ae04d83f4bf8cd3887428b606e60382b2286364aecb1d888fed0610f44", func := "quartermaster/quartermasterlaw8.LexComments", spec := "lexComments", inPlace := ["internal/bytealg.IndexByteString"], unfollowed := true, recurses := true, apart := false }
def LexCommentsSaid : Prop := lexCommentsRow.holds Try.pinned (OpenSpec.ofChange lexCommentsSpec)

/-- ITS FALSE NEIGHBOUR: 'it returns false'. Refute it at one input. -/
def lexCommentsWrong : ChangeSpec := { name := "lexComments", fn := fun _ => fun
  | [d1, d2] => { results := [.lit (.bool false)], args := [d1, d2] }
  | _ => none }
def LexCommentsWrongFalsely : Prop := lexCommentsRow.holds Try.pinned (OpenSpec.ofChange lexCommentsWrong)

/-- 'quartermasterlaw8.LexTwos': WHATEVER THE INPUT: true; the input reads as it did. -/
def lexTwosSpec : ChangeSpec := { name := "lexTwos", fn := fun _ => fun
  | [d] => { results := [.lit (.bool true)], args := [d] }
  | _ => none }
def lexTwosRow : OpenClaim := { program := "ytnndnldpbdhkgaa", sum := "e36153ae04d83f4bf8cd3887428b606e60382b2286364aecb1d888fed0610f44", func := "quartermaster/quartermasterlaw8.LexTwos", spec := "lexTwos", inPlace := ["internal/bytealg.IndexByteString"], unfollowed := true, recurses := true, apart := false }
def LexTwosSaid : Prop := lexTwosRow.holds Try.pinned (OpenSpec.ofChange lexTwosSpec)

/-- ITS FALSE NEIGHBOUR: 'it returns false'. Refute it at one input. -/
def lexTwosWrong : ChangeSpec := { name := "lexTwos", fn := fun _ => fun
  | [d] => { results := [.lit (.bool false)], args := [d] }
  | _ => none }
def LexTwosWrongFalsely : Prop := lexTwosRow.holds Try.pinned (OpenSpec.ofChange lexTwosWrong)

/-- 'quartermasterlaw8.LexQuotes': WHATEVER THE INPUT: true; the input reads as it did. -/
def lexQuotesSpec : ChangeSpec := { name := "lexQuotes", fn := fun _ => fun
  | [d1, d2] => { results := [.lit (.bool true)], args := [d1, d2] }
  | _ => none }
def lexQuotesRow : OpenClaim := { program := "ytnndnldpbdhkgaa", sum := "e36153ae04d83f4bf8cd3887428b606e60382b2286364aecb1d888fed0610f44", func := "quartermaster/quartermasterlaw8.LexQuotes", spec := "lexQuotes", inPlace := ["internal/bytealg.IndexByteString"], unfollowed := true, recurses := true, apart := false }
def LexQuotesSaid : Prop := lexQuotesRow.holds Try.pinned (OpenSpec.ofChange lexQuotesSpec)

/-- ITS FALSE NEIGHBOUR: 'it returns false'. Refute it at one input. -/
def lexQuotesWrong : ChangeSpec := { name := "lexQuotes", fn := fun _ => fun
  | [d1, d2] => { results := [.lit (.bool false)], args := [d1, d2] }
  | _ => none }
def LexQuotesWrongFalsely : Prop := lexQuotesRow.holds Try.pinned (OpenSpec.ofChange lexQuotesWrong)

/-- 'quartermasterlaw8.LexBraces': WHATEVER THE INPUT: true; the input reads as it did. -/
def lexBracesSpec : ChangeSpec := { name := "lexBraces", fn := fun _ => fun
  | [d1, d2, d3, d4] => { results := [.lit (.bool true)], args := [d1, d2, d3, d4] }
  | _ => none }
def lexBracesRow : OpenClaim := { program := "ytnndnldpbdhkgaa", sum := "e36153ae04d83f4bf8cd3887428b606e60382b2286364aecb1d888fed0610f44", func := "quartermaster/quartermasterlaw8.LexBraces", spec := "lexBraces", inPlace := ["internal/bytealg.IndexByteString"], unfollowed := true, recurses := true, apart := false }
def LexBracesSaid : Prop := lexBracesRow.holds Try.pinned (OpenSpec.ofChange lexBracesSpec)

/-- ITS FALSE NEIGHBOUR: 'it returns false'. Refute it at one input. -/
def lexBracesWrong : ChangeSpec := { name := "lexBraces", fn := fun _ => fun
  | [d1, d2, d3, d4] => { results := [.lit (.bool false)], args := [d1, d2, d3, d4] }
  | _ => none }
def LexBracesWrongFalsely : Prop := lexBracesRow.holds Try.pinned (OpenSpec.ofChange lexBracesWrong)

/-- 'quartermasterlaw8.LexScripts': WHATEVER THE INPUT: true; the input reads as it did. -/
def lexScriptsSpec : ChangeSpec := { name := "lexScripts", fn := fun _ => fun
  | [d1, d2, d3] => { results := [.lit (.bool true)], args := [d1, d2, d3] }
  | _ => none }
def lexScriptsRow : OpenClaim := { program := "ytnndnldpbdhkgaa", sum := "e36153ae04d83f4bf8cd3887428b606e60382b2286364aecb1d888fed0610f44", func := "quartermaster/quartermasterlaw8.LexScripts", spec := "lexScripts", inPlace := ["internal/bytealg.IndexByteString"], unfollowed := true, recurses := true, apart := false }
def LexScriptsSaid : Prop := lexScriptsRow.holds Try.pinned (OpenSpec.ofChange lexScriptsSpec)

/-- ITS FALSE NEIGHBOUR: 'it returns false'. Refute it at one input. -/
def lexScriptsWrong : ChangeSpec := { name := "lexScripts", fn := fun _ => fun
  | [d1, d2, d3] => { results := [.lit (.bool false)], args := [d1, d2, d3] }
  | _ => none }
def LexScriptsWrongFalsely : Prop := lexScriptsRow.holds Try.pinned (OpenSpec.ofChange lexScriptsWrong)

/- THE SECOND FORM. 'bulk': how many values and letters a reading holds, each counted each time it is reached (what is shared counts as often as it is met; a slice's spare places count too). A statement '..UptoSaid' is the law's where the arguments, and the package variables that the reading takes, are together of bulk at most 1048576: NARROWER than '..Said'. Prove '..Said' where nothing that the law and all that it calls make is longer than what came in: it says more and counts as full. Else prove '..UptoSaid'. A law counts once. -/
mutual
def uptoBulk {H : Type} : DataW H → Nat
  | .lit (.string bytes) => bytes.length + 1
  | .lit _ => 1
  | .nil => 1
  | .ptr d => uptoBulk d + 1
  | .slice elems spare => uptoBulkAll elems + uptoBulkAll spare + 1
  | .agg parts => uptoBulkAll parts + 1
  | .iface _ d => uptoBulk d + 1
  | .map entries => uptoBulkEntries entries + 1
  | .held _ => 1
def uptoBulkAll {H : Type} : List (DataW H) → Nat
  | [] => 0
  | d :: r => uptoBulk d + uptoBulkAll r
def uptoBulkEntries {H : Type} : List (Lit × DataW H) → Nat
  | [] => 0
  | x :: r => uptoBulkEntry x + uptoBulkEntries r
def uptoBulkEntry {H : Type} : Lit × DataW H → Nat
  | (.string bytes, d) => bytes.length + uptoBulk d + 1
  | (_, d) => uptoBulk d + 1
 end
def uptoSmall : (H : Type) → List (DataW H) → Bool := fun _ ds => decide (uptoBulkAll ds ≤ 1048576)
def OpenSpec.upto (s : _root_.Go.ChangeSpec) : _root_.Go.OpenSpec := { _root_.Go.OpenSpec.ofChange s with cond := some uptoSmall }

/-- 'quartermasterlaw8.LexTokens', WHERE WHAT IT READS IS OF BULK AT MOST 1048576: true; the input reads as it did. -/
def lexTokensUptoRow : OpenClaim := { program := "ytnndnldpbdhkgaa", sum := "e36153ae04d83f4bf8cd3887428b606e60382b2286364aecb1d888fed0610f44", func := "quartermaster/quartermasterlaw8.LexTokens", spec := "lexTokens", inPlace := ["internal/bytealg.IndexByteString"], unfollowed := true, recurses := true, apart := false, narrowed := true }
def LexTokensUptoSaid : Prop := lexTokensUptoRow.holds Try.pinned (OpenSpec.upto lexTokensSpec)

/-- 'quartermasterlaw8.LexSplit', WHERE WHAT IT READS IS OF BULK AT MOST 1048576: true; the input reads as it did. -/
def lexSplitUptoRow : OpenClaim := { program := "ytnndnldpbdhkgaa", sum := "e36153ae04d83f4bf8cd3887428b606e60382b2286364aecb1d888fed0610f44", func := "quartermaster/quartermasterlaw8.LexSplit", spec := "lexSplit", inPlace := ["internal/bytealg.IndexByteString"], unfollowed := true, recurses := true, apart := false, narrowed := true }
def LexSplitUptoSaid : Prop := lexSplitUptoRow.holds Try.pinned (OpenSpec.upto lexSplitSpec)

/-- 'quartermasterlaw8.LexBack', WHERE WHAT IT READS IS OF BULK AT MOST 1048576: true; the input reads as it did. -/
def lexBackUptoRow : OpenClaim := { program := "ytnndnldpbdhkgaa", sum := "e36153ae04d83f4bf8cd3887428b606e60382b2286364aecb1d888fed0610f44", func := "quartermaster/quartermasterlaw8.LexBack", spec := "lexBack", inPlace := ["internal/bytealg.IndexByteString"], unfollowed := true, recurses := true, apart := false, narrowed := true }
def LexBackUptoSaid : Prop := lexBackUptoRow.holds Try.pinned (OpenSpec.upto lexBackSpec)

/-- 'quartermastertop.TopNames', WHERE WHAT IT READS IS OF BULK AT MOST 1048576: true; the input reads as it did. -/
def topNamesUptoRow : OpenClaim := { program := "ytnndnldpbdhkgaa", sum := "e36153ae04d83f4bf8cd3887428b606e60382b2286364aecb1d888fed0610f44", func := "quartermaster/quartermastertop.TopNames", spec := "topNames", apart := false, narrowed := true }
def TopNamesUptoSaid : Prop := topNamesUptoRow.holds Try.pinned (OpenSpec.upto topNamesSpec)

/-- 'quartermasterlaw8.LexOps', WHERE WHAT IT READS IS OF BULK AT MOST 1048576: true; the input reads as it did. -/
def lexOpsUptoRow : OpenClaim := { program := "ytnndnldpbdhkgaa", sum := "e36153ae04d83f4bf8cd3887428b606e60382b2286364aecb1d888fed0610f44", func := "quartermaster/quartermasterlaw8.LexOps", spec := "lexOps", inPlace := ["internal/bytealg.IndexByteString"], unfollowed := true, recurses := true, apart := false, narrowed := true }
def LexOpsUptoSaid : Prop := lexOpsUptoRow.holds Try.pinned (OpenSpec.upto lexOpsSpec)

/-- 'quartermasterlaw8.LexComments', WHERE WHAT IT READS IS OF BULK AT MOST 1048576: true; the input reads as it did. -/
def lexCommentsUptoRow : OpenClaim := { program := "ytnndnldpbdhkgaa", sum := "e36153ae04d83f4bf8cd3887428b606e60382b2286364aecb1d888fed0610f44", func := "quartermaster/quartermasterlaw8.LexComments", spec := "lexComments", inPlace := ["internal/bytealg.IndexByteString"], unfollowed := true, recurses := true, apart := false, narrowed := true }
def LexCommentsUptoSaid : Prop := lexCommentsUptoRow.holds Try.pinned (OpenSpec.upto lexCommentsSpec)

/-- 'quartermasterlaw8.LexTwos', WHERE WHAT IT READS IS OF BULK AT MOST 1048576: true; the input reads as it did. -/
def lexTwosUptoRow : OpenClaim := { program := "ytnndnldpbdhkgaa", sum := "e36153ae04d83f4bf8cd3887428b606e60382b2286364aecb1d888fed0610f44", func := "quartermaster/quartermasterlaw8.LexTwos", spec := "lexTwos", inPlace := ["internal/bytealg.IndexByteString"], unfollowed := true, recurses := true, apart := false, narrowed := true }
def LexTwosUptoSaid : Prop := lexTwosUptoRow.holds Try.pinned (OpenSpec.upto lexTwosSpec)

/-- 'quartermasterlaw8.LexQuotes', WHERE WHAT IT READS IS OF BULK AT MOST 1048576: true; the input reads as it did. -/
def lexQuotesUptoRow : OpenClaim := { program := "ytnndnldpbdhkgaa", sum := "e36153ae04d83f4bf8cd3887428b606e60382b2286364aecb1d888fed0610f44", func := "quartermaster/quartermasterlaw8.LexQuotes", spec := "lexQuotes", inPlace := ["internal/bytealg.IndexByteString"], unfollowed := true, recurses := true, apart := false, narrowed := true }
def LexQuotesUptoSaid : Prop := lexQuotesUptoRow.holds Try.pinned (OpenSpec.upto lexQuotesSpec)

/-- 'quartermasterlaw8.LexBraces', WHERE WHAT IT READS IS OF BULK AT MOST 1048576: true; the input reads as it did. -/
def lexBracesUptoRow : OpenClaim := { program := "ytnndnldpbdhkgaa", sum := "e36153ae04d83f4bf8cd3887428b606e60382b2286364aecb1d888fed0610f44", func := "quartermaster/quartermasterlaw8.LexBraces", spec := "lexBraces", inPlace := ["internal/bytealg.IndexByteString"], unfollowed := true, recurses := true, apart := false, narrowed := true }
def LexBracesUptoSaid : Prop := lexBracesUptoRow.holds Try.pinned (OpenSpec.upto lexBracesSpec)

/-- 'quartermasterlaw8.LexScripts', WHERE WHAT IT READS IS OF BULK AT MOST 1048576: true; the input reads as it did. -/
def lexScriptsUptoRow : OpenClaim := { program := "ytnndnldpbdhkgaa", sum := "e36153ae04d83f4bf8cd3887428b606e60382b2286364aecb1d888fed0610f44", func := "quartermaster/quartermasterlaw8.LexScripts", spec := "lexScripts", inPlace := ["internal/bytealg.IndexByteString"], unfollowed := true, recurses := true, apart := false, narrowed := true }
def LexScriptsUptoSaid : Prop := lexScriptsUptoRow.holds Try.pinned (OpenSpec.upto lexScriptsSpec)

end Rows
end Go.Proofs.Ytnndnldpbdhkgaa
