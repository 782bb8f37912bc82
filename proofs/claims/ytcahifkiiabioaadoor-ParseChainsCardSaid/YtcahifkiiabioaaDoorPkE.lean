/-
  Plain: what commands tokens are, or why they are none.
  Trees in memory: what a value reads as; a row that the call owns.
  Plain: what is left is never more than what was there.
  Plain: a script's tokens are small: few parts, short texts, all the way down.
  The parser's reader in memory; the next token.
  The parser's small functions: which token comes next; a token is passed.
  The parser's small functions: reserved words, redirections, what a command begins with, ends; names.
  The parser's small functions: what a command begins with; a function's opening; names.
  A word in memory of its own.
-/
import Derived.Test.YtcahifkiiabioaaDoorPkA
import Derived.Test.YtcahifkiiabioaaDoorPkC
import Derived.Test.YtcahifkiiabioaaDoorPkD
import Derived.Lib.LaidTab
import Derived.StillTailTactics
import Derived.Lib.SlicesS
namespace Go.Proofs.YtcahifkiiabioaaDoor
set_option linter.unusedVariables false

abbrev Bs := List UInt8
/-- A tree: numbers, booleans, texts; slices of records of k cells each (their cells one behind the other). -/
inductive Dt where
  | int (n : Int)
  | bool (b : Bool)
  | str (l : List UInt8)
  | sl (k : Nat) (cs : List Dt)
/-! Words as trees. -/
mutual
def partR : Pt → List Dt
  | .mk k t n o w q => [.int (k : Nat), .str t, .str n, .str o, .sl 6 (partsR w), .bool q]
def partsR : List Pt → List Dt
  | [] => []
  | p :: l => partR p ++ partsR l
end
def wordR (w : List Pt) : Dt := .sl 6 (partsR w)
theorem partR_len (p : Pt) : (partR p).length = 6 := by cases p; simp [partR]
theorem partR_eq (p : Pt) : partR p = [.int (p.kind : Nat), .str p.text, .str p.name, .str p.op, wordR p.word, .bool p.quoted] := by cases p; simp [partR, wordR, Pt.kind, Pt.text, Pt.name, Pt.op, Pt.word, Pt.quoted]
theorem partsR_nil : partsR [] = [] := by simp [partsR]
theorem partsR_cons (p : Pt) (l : List Pt) : partsR (p :: l) = partR p ++ partsR l := by simp [partsR]
theorem partsR_len : ∀ l : List Pt, (partsR l).length = l.length * 6
  | [] => by simp [partsR_nil]
  | p :: l => by rw [partsR_cons, List.length_append, partR_len, partsR_len l, List.length_cons]; omega
theorem partsR_app : ∀ l m : List Pt, partsR (l ++ m) = partsR l ++ partsR m
  | [], m => by simp [partsR_nil]
  | p :: l, m => by rw [List.cons_append, partsR_cons, partsR_cons, partsR_app l m, List.append_assoc]
theorem partsR_at : ∀ {l : List Pt} {i : Nat} (hi : i < l.length) {j : Nat} (hj : j < 6), (partsR l)[i * 6 + j]? = (partR l[i])[j]?
  | p :: l, 0, hi, j, hj => by
    rw [partsR_cons, Nat.zero_mul, Nat.zero_add, List.getElem?_append_left (by rw [partR_len]; exact hj)]; rfl
  | p :: l, i + 1, hi, j, hj => by
    rw [partsR_cons, List.getElem?_append_right (by rw [partR_len]; omega), partR_len, show (i + 1) * 6 + j - 6 = i * 6 + j by omega]
    exact partsR_at (l := l) (by simpa using hi) hj
/-- A command as eight cells. -/
def ndR (kind : Nat) (not : Bool) (name : List UInt8) (words assigns redirs kids arms : List Dt) : List Dt :=
  [.int (kind : Nat), .bool not, .str name, .sl 1 words, .sl 2 assigns, .sl 2 redirs, .sl 8 kids, .sl 2 arms]

/-- What is read, and what is left. -/
abbrev PR (α : Type) := Except Nat (α × List Tk)
def atF (ts : List Tk) : Tk := ts.headD ⟨0, [], []⟩
def isOpF (s : Bs) (ts : List Tk) : Bool := (atF ts).kind == 2 && (atF ts).text == s
/-- The text of an unquoted word. -/
def plainT (t : Tk) : Bs := if t.kind == 1 then (match t.word with
  | [p] => if p.kind == 1 then p.text else []
  | _ => []) else []
def isWF (s : Bs) (ts : List Tk) : Bool := plainT (atF ts) == s
/-- if then elif else fi while until do done for in case esac { } ! -/
def reservedL : List Bs := [[105, 102], [116, 104, 101, 110], [101, 108, 105, 102], [101, 108, 115, 101], [102, 105], [119, 104, 105, 108, 101], [117, 110, 116, 105, 108], [100, 111], [100, 111, 110, 101], [102, 111, 114], [105, 110], [99, 97, 115, 101], [101, 115, 97, 99], [123], [125], [33]]
/-- if while until for case { -/
def startsL : List Bs := [[105, 102], [119, 104, 105, 108, 101], [117, 110, 116, 105, 108], [102, 111, 114], [99, 97, 115, 101], [123]]
/-- < > >> 2> 2>> -/
def redirL : List Bs := [[60], [62], [62, 62], [50, 62], [50, 62, 62]]
def redirB (ts : List Tk) : Bool := (atF ts).kind == 2 && redirL.contains (atF ts).text
def beginsF (ts : List Tk) : Bool :=
  if (atF ts).kind == 1 then (if reservedL.contains (plainT (atF ts)) then startsL.contains (plainT (atF ts)) else true) else isOpF [40] ts || redirB ts
def moreF (ts : List Tk) : Bool := beginsF ts || isWF [33] ts
def linesF : List Tk → List Tk
  | [] => []
  | t :: r => if t.kind == 2 && t.text == [10] then linesF r else t :: r
def endsF (ts : List Tk) : Bool × List Tk := if isOpF [59] ts || isOpF [10] ts then (true, linesF ts.tail) else (false, ts)
def seqF (l : List Dt) : List Dt := if l.length = 8 then l else ndR 5 false [] [] [] [] l []
/-- A name: what vars.Name tells. -/
def nameOkF (s : Bs) : Bool := !s.isEmpty && decide (s.length ≤ 60) && runF s == s.length
section
variable (cmd : List Tk → PR (List Dt)) (scr : Bs → Except Nat Unit)
def pipeLoop : Nat → List Dt → List Tk → PR (List Dt)
  | 0, _, _ => .error 0
  | n + 1, acc, ts => if isOpF [124] ts then (match cmd (linesF ts.tail) with
    | .error e => .error e
    | .ok (d, r) => pipeLoop n (acc ++ d) r) else .ok (acc, ts)
def pipelineF (ts : List Tk) : PR (List Dt) := match cmd (if isWF [33] ts then ts.tail else ts) with
  | .error e => .error e
  | .ok (d, r) => match pipeLoop cmd (r.length + 1) d r with
    | .error e => .error e
    | .ok (l, r2) => if l.length = 8 ∧ isWF [33] ts = false then .ok (l, r2) else .ok (ndR 2 (isWF [33] ts) [] [] [] [] l [], r2)
def andLoop : Nat → List Dt → List Tk → PR (List Dt)
  | 0, _, _ => .error 0
  | n + 1, acc, ts => if isOpF [38, 38] ts then (match pipelineF cmd (linesF ts.tail) with
      | .error e => .error e
      | .ok (d, r) => andLoop n (ndR 3 false [] [] [] [] (acc ++ d) []) r)
    else if isOpF [124, 124] ts then (match pipelineF cmd (linesF ts.tail) with
      | .error e => .error e
      | .ok (d, r) => andLoop n (ndR 4 false [] [] [] [] (acc ++ d) []) r)
    else .ok (acc, ts)
def andOrF (ts : List Tk) : PR (List Dt) := match pipelineF cmd ts with
  | .error e => .error e
  | .ok (d, r) => andLoop cmd (r.length + 1) d r
def allLoop : Nat → List Dt → List Tk → PR (List Dt)
  | 0, _, _ => .error 0
  | n + 1, acc, ts => if (endsF ts).1 && moreF (endsF ts).2 then (match andOrF cmd (endsF ts).2 with
    | .error e => .error e
    | .ok (d, r) => allLoop n (acc ++ d) r) else .ok (acc, (endsF ts).2)
def allF (ts : List Tk) : PR (List Dt) := match andOrF cmd ts with
  | .error e => .error e
  | .ok (d, r) => allLoop cmd (r.length + 1) d r
def listF (ts : List Tk) : PR (List Dt) := match allF cmd (linesF ts) with
  | .error e => .error e
  | .ok (l, r) => .ok (seqF l, r)
/-- A word that is asked for. -/
def needW (s : Bs) (ts : List Tk) : PR Unit := if isWF s ts then .ok ((), ts.tail) else .error 2
def needOp (s : Bs) (ts : List Tk) : PR Unit := if isOpF s ts then .ok ((), ts.tail) else .error 2
mutual
def subsP : Pt → Except Nat Unit
  | .mk k t _ _ w _ => match (if k == 5 then scr t else .ok ()) with
    | .error e => .error e
    | .ok _ => subsF w
def subsF : List Pt → Except Nat Unit
  | [] => .ok ()
  | p :: l => match subsP p with
    | .error e => .error e
    | .ok _ => subsF l
end
def wordF (ts : List Tk) : PR (List Pt) := if (atF ts).kind == 1 && !(atF ts).word.isEmpty then (match subsF scr (atF ts).word with
  | .error e => .error e
  | .ok _ => .ok ((atF ts).word, ts.tail)) else .error 2
def redirF (ts : List Tk) : PR (List Dt) := match wordF scr ts.tail with
  | .error e => .error e
  | .ok (w, r) => .ok ([.str (atF ts).text, wordR w], r)
def redirsF : Nat → List Dt → List Tk → PR (List Dt)
  | 0, _, _ => .error 0
  | n + 1, acc, ts => if redirB ts then (match redirF scr ts with
    | .error e => .error e
    | .ok (d, r) => redirsF n (acc ++ d) r) else .ok (acc, ts)
/-- strings.Cut at an equals sign. -/
def cutEq : Bs → Option (Bs × Bs)
  | [] => none
  | c :: t => if c == 61 then some ([], t) else (cutEq t).map fun p => (c :: p.1, p.2)
def assignF (w : List Pt) : Option (Bs × List Pt) := match w with
  | [] => none
  | p :: t => if p.kind == 1 then (match cutEq p.text with
    | none => none
    | some (nm, rest) => if nameOkF nm then some (nm, if rest.isEmpty then t else txtP rest :: t) else none) else none
def simpleF : Nat → List Dt → List Dt → List Dt → List Tk → PR (List Dt)
  | 0, _, _, _, _ => .error 0
  | n + 1, ws, gz, rs, ts => if redirB ts then (match redirF scr ts with
      | .error e => .error e
      | .ok (d, r) => simpleF n ws gz (rs ++ d) r)
    else if (atF ts).kind == 1 then (match wordF scr ts with
      | .error e => .error e
      | .ok (w, r) => match (if ws.isEmpty then assignF w else none) with
        | some (nm, v) => simpleF n ws (gz ++ [.str nm, wordR v]) rs r
        | none => simpleF n (ws ++ [wordR w]) gz rs r)
    else .ok (ndR 1 false [] ws gz rs [] [], ts)
def bodyF (ts : List Tk) : PR (List Dt) := match needW [100, 111] ts with
  | .error e => .error e
  | .ok (_, r) => match listF cmd r with
    | .error e => .error e
    | .ok (d, r2) => match needW [100, 111, 110, 101] r2 with
      | .error e => .error e
      | .ok (_, r3) => .ok (d, r3)
def whileF (kind : Nat) (ts : List Tk) : PR (List Dt) := match listF cmd ts with
  | .error e => .error e
  | .ok (d, r) => match bodyF cmd r with
    | .error e => .error e
    | .ok (b, r2) => .ok (ndR kind false [] [] [] [] (d ++ b) [], r2)
def choiceLoop : Nat → List Dt → List Tk → PR (List Dt)
  | 0, _, _ => .error 0
  | n + 1, acc, ts => match listF cmd ts with
    | .error e => .error e
    | .ok (c, r) => match needW [116, 104, 101, 110] r with
      | .error e => .error e
      | .ok (_, r1) => match listF cmd r1 with
        | .error e => .error e
        | .ok (b, r2) =>
          if isWF [101, 108, 105, 102] r2 then choiceLoop n (acc ++ c ++ b) r2.tail
          else if isWF [101, 108, 115, 101] r2 then (match listF cmd r2.tail with
            | .error e => .error e
            | .ok (x, r3) => .ok (acc ++ c ++ b ++ x, r3))
          else .ok (acc ++ c ++ b, r2)
def choiceF (ts : List Tk) : PR (List Dt) := match choiceLoop cmd (ts.length + 1) [] ts with
  | .error e => .error e
  | .ok (l, r) => match needW [102, 105] r with
    | .error e => .error e
    | .ok (_, r2) => .ok (ndR 6 false [] [] [] [] l [], r2)
def wordsLoop : Nat → List Dt → List Tk → PR (List Dt)
  | 0, _, _ => .error 0
  | n + 1, acc, ts => if (atF ts).kind == 1 then (match wordF scr ts with
    | .error e => .error e
    | .ok (w, r) => wordsLoop n (acc ++ [wordR w]) r) else .ok (acc, ts)
def eachF (ts : List Tk) : PR (List Dt) :=
  if nameOkF (plainT (atF ts)) then
    (if isWF [105, 110] (linesF ts.tail) then (match wordsLoop scr ((linesF ts.tail).tail.length + 1) [] (linesF ts.tail).tail with
        | .error e => .error e
        | .ok (ws, r) => if isOpF [59] r || isOpF [10] r then (match bodyF cmd (linesF r.tail) with
          | .error e => .error e
          | .ok (b, r2) => .ok (ndR 9 false (plainT (atF ts)) ws [] [] b [], r2)) else .error 2)
      else match bodyF cmd (linesF (if isOpF [59] (linesF ts.tail) then (linesF ts.tail).tail else linesF ts.tail)) with
        | .error e => .error e
        | .ok (b, r2) => .ok (ndR 9 false (plainT (atF ts)) [wordR [.mk 3 [] [64] [] [] true]] [] [] b [], r2))
  else .error 2
def patsLoop : Nat → List Dt → List Tk → PR (List Dt)
  | 0, _, _ => .error 0
  | n + 1, acc, ts => if isOpF [124] ts then (match wordF scr ts.tail with
    | .error e => .error e
    | .ok (w, r) => patsLoop n (acc ++ [wordR w]) r) else .ok (acc, ts)
def armF (ts : List Tk) : PR (List Dt) := match wordF scr (if isOpF [40] ts then ts.tail else ts) with
  | .error e => .error e
  | .ok (w, r) => match patsLoop scr (r.length + 1) [wordR w] r with
    | .error e => .error e
    | .ok (ps, r1) => match needOp [41] r1 with
      | .error e => .error e
      | .ok (_, r2) => if moreF (linesF r2) then (match listF cmd (linesF r2) with
          | .error e => .error e
          | .ok (b, r3) => .ok ([.sl 1 ps, .sl 8 b], r3))
        else .ok ([.sl 1 ps, .sl 8 []], linesF r2)
def armsLoop : Nat → List Dt → List Tk → PR (List Dt)
  | 0, _, _ => .error 0
  | n + 1, acc, ts => if isWF [101, 115, 97, 99] ts then .ok (acc, ts.tail) else match armF cmd scr ts with
    | .error e => .error e
    | .ok (a, r) => if isOpF [59, 59] r then armsLoop n (acc ++ a) (linesF r.tail) else match needW [101, 115, 97, 99] r with
      | .error e => .error e
      | .ok (_, r2) => .ok (acc ++ a, r2)
def casesF (ts : List Tk) : PR (List Dt) := match wordF scr ts with
  | .error e => .error e
  | .ok (w, r) => match needW [105, 110] (linesF r) with
    | .error e => .error e
    | .ok (_, r1) => match armsLoop cmd scr ((linesF r1).length + 1) [] (linesF r1) with
      | .error e => .error e
      | .ok (l, r2) => .ok (ndR 10 false [] [wordR w] [] [] [] l, r2)
def opensF (ts : List Tk) : Bool := isOpF [40] ts.tail
def functionF (name : Bs) (ts : List Tk) : PR (List Dt) := match needOp [41] ts.tail.tail with
  | .error e => .error e
  | .ok (_, r) => if beginsF (linesF r) && (isOpF [40] (linesF r) || reservedL.contains (plainT (atF (linesF r)))) then (match cmd (linesF r) with
      | .error e => .error e
      | .ok (d, r2) => .ok (ndR 11 false name [] [] [] d [], r2))
    else .error 2
/-- A command that is in brackets: its list, and what closes it. -/
def shutF (kind : Nat) (close : List Tk → PR Unit) (ts : List Tk) : PR (List Dt) := match listF cmd ts with
  | .error e => .error e
  | .ok (d, r) => match close r with
    | .error e => .error e
    | .ok (_, r2) => .ok (ndR kind false [] [] [] [] d [], r2)
/-- Redirections behind a command: they go into its sixth cell. -/
def withRedirs (q : PR (List Dt)) : PR (List Dt) := match q with
  | .error e => .error e
  | .ok (d, r) => match redirsF scr (r.length + 1) [] r with
    | .error e => .error e
    | .ok (rs, r2) => .ok (d.set 5 (.sl 2 rs), r2)
/-- none: it is simple. -/
def compoundF (ts : List Tk) : Option (PR (List Dt)) :=
  if isOpF [40] ts then some (withRedirs scr (shutF cmd 13 (needOp [41]) ts.tail))
  else if isWF [123] ts then some (withRedirs scr (shutF cmd 12 (needW [125]) ts.tail))
  else if isWF [105, 102] ts then some (withRedirs scr (choiceF cmd ts.tail))
  else if isWF [119, 104, 105, 108, 101] ts then some (withRedirs scr (whileF cmd 7 ts.tail))
  else if isWF [117, 110, 116, 105, 108] ts then some (withRedirs scr (whileF cmd 8 ts.tail))
  else if isWF [102, 111, 114] ts then some (withRedirs scr (eachF cmd scr ts.tail))
  else if isWF [99, 97, 115, 101] ts then some (withRedirs scr (casesF cmd scr ts.tail))
  else if nameOkF (plainT (atF ts)) && opensF ts then some (functionF cmd (plainT (atF ts)) ts)
  else none
def innerF (ts : List Tk) : PR (List Dt) := match compoundF cmd scr ts with
  | some q => q
  | none => simpleF scr (ts.length + 1) [] [] [] ts
/-- All tokens. -/
def treeF (ts : List Tk) : Except Nat (List Dt) := if (linesF ts).isEmpty then .ok [] else match allF cmd (linesF ts) with
  | .error e => .error e
  | .ok (l, r) => if r.isEmpty then .ok (seqF l) else .error 2
def scriptF (s : Bs) : Except Nat (List Dt) := match tokensF s with
  | .error e => .error e
  | .ok ts => treeF cmd ts
end
/-- Is a text a script? -/
def scrF (cmd : List Tk → PR (List Dt)) (s : Bs) : Except Nat Unit := match scriptF cmd s with
  | .error 0 => .ok ()
  | .error (e + 1) => .error (e + 1)
  | .ok _ => .ok ()
/-- A command, so much deeper may it go. -/
def commandF : Nat → List Tk → PR (List Dt)
  | 0, ts => if beginsF ts then .error 3 else .error 2
  | k + 1, ts => if beginsF ts then innerF (commandF k) (scrF (commandF k)) ts else .error 2
/-- A script's commands. -/
def parseF (s : Bs) : Except Nat (List Dt) := scriptF (commandF 40) s
end Go.Proofs.YtcahifkiiabioaaDoor
namespace Go.Proofs.YtcahifkiiabioaaDoor
open Go.RowKit
set_option linter.unusedVariables false

/-- The value reads as the tree, in blocks that D lets. -/
inductive Rd (w : World) (D : Nat → Prop) : Dt → Value → Prop
  | int (n : Int) : Rd w D (.int n) (.int .i64 n)
  | bool (b : Bool) : Rd w D (.bool b) (.bool b)
  | str (l : List UInt8) : Rd w D (.str l) (strV l)
  | nil (k c : Nat) (a : Option Addr) (hc : c ≤ maxLen) : Rd w D (.sl k []) (.slice a 0 c)
  | sl (k : Nat) (cs : List Dt) (b off m c : Nat) (vs : Nat → Value) (hm : cs.length = m * k) (hmc : m ≤ c) (hc : c ≤ maxLen) (hb : b < w.heap.size) (hD : D b)
      (hv : ∀ j, j < cs.length → w.cell? ⟨b, off + j, none⟩ = some (vs j)) (h : ∀ j (h : j < cs.length), Rd w D cs[j] (vs j)) : Rd w D (.sl k cs) (.slice (some ⟨b, off, none⟩) m c)
/-- A record's values, one by one. -/
def RdL (w : World) (D : Nat → Prop) : List Dt → List Value → Prop
  | [], [] => True
  | d :: ds, v :: vs => Rd w D d v ∧ RdL w D ds vs
  | _, _ => False
section
variable {w w' : World} {D D' S : Nat → Prop} {d : Dt} {v : Value} {ds es : List Dt} {vs us : List Value}
theorem Rd.keep (hk : Keeps S w w') (hD : ∀ b, b < w.heap.size → D b → ¬ S b) (h : Rd w D d v) : Rd w' D d v := by
  induction h with
  | int n => exact .int n
  | bool b => exact .bool b
  | str l => exact .str l
  | nil k c a hc => exact .nil k c a hc
  | sl k cs b off m c vs hm hmc hc hb hd hv h ih =>
    refine .sl k cs b off m c vs hm hmc hc (Nat.lt_of_lt_of_le hb hk.size) hd (fun j hj => ?_) ih
    rw [World.cell?_of_block (hk.block b hb (hD b hb hd))]
    exact hv j hj
theorem Rd.mono (hD : ∀ b, b < w.heap.size → D b → D' b) (h : Rd w D d v) : Rd w D' d v := by
  induction h with
  | int n => exact .int n
  | bool b => exact .bool b
  | str l => exact .str l
  | nil k c a hc => exact .nil k c a hc
  | sl k cs b off m c vs hm hmc hc hb hd hv h ih => exact .sl k cs b off m c vs hm hmc hc hb (hD b hb hd) hv ih
theorem Rd.shape {k : Nat} {cs : List Dt} (hk : 0 < k) (h : Rd w D (.sl k cs) v) : ∃ a m c, v = .slice a m c ∧ cs.length = m * k ∧ m ≤ c ∧ c ≤ maxLen := by
  cases h with
  | nil _ c a hc => exact ⟨a, 0, c, rfl, by simp, Nat.zero_le _, hc⟩
  | sl _ _ b off m c vs hm hmc hc hb hD hv h => exact ⟨_, m, c, rfl, hm, hmc, hc⟩
theorem Rd.cell {k : Nat} {cs : List Dt} {a : Option Addr} {m c : Nat} (h : Rd w D (.sl k cs) (.slice a m c)) {j : Nat} (hj : j < cs.length) :
    ∃ b off u, a = some ⟨b, off, none⟩ ∧ b < w.heap.size ∧ D b ∧ w.cell? ⟨b, off + j, none⟩ = some u ∧ Rd w D cs[j] u := by
  cases h with
  | nil _ c a hc => exact absurd hj (Nat.not_lt_zero _)
  | sl _ _ b off m c vs hm hmc hc hb hD hv h => exact ⟨b, off, vs j, rfl, hb, hD, hv j hj, h j hj⟩
theorem RdL.len : ∀ {ds : List Dt} {vs : List Value}, RdL w D ds vs → vs.length = ds.length
  | [], [], _ => rfl
  | d :: ds, v :: vs, h => by rw [List.length_cons, List.length_cons, RdL.len h.2]
theorem RdL.keep (hk : Keeps S w w') (hD : ∀ b, b < w.heap.size → D b → ¬ S b) : ∀ {ds : List Dt} {vs : List Value}, RdL w D ds vs → RdL w' D ds vs
  | [], [], _ => trivial
  | d :: ds, v :: vs, h => ⟨h.1.keep hk hD, RdL.keep hk hD h.2⟩
theorem RdL.mono (hD : ∀ b, b < w.heap.size → D b → D' b) : ∀ {ds : List Dt} {vs : List Value}, RdL w D ds vs → RdL w D' ds vs
  | [], [], _ => trivial
  | d :: ds, v :: vs, h => ⟨h.1.mono hD, RdL.mono hD h.2⟩
theorem RdL.lt {ds : List Dt} {vs : List Value} (h : RdL w D ds vs) : RdL w (fun b => D b ∧ b < w.heap.size) ds vs := h.mono fun b hb hd => ⟨hd, hb⟩
theorem RdL.app : ∀ {ds es : List Dt} {vs us : List Value}, RdL w D ds vs → RdL w D es us → RdL w D (ds ++ es) (vs ++ us)
  | [], es, [], us, _, h => h
  | d :: ds, es, v :: vs, us, h, g => ⟨h.1, RdL.app h.2 g⟩
theorem RdL.at : ∀ {ds : List Dt} {vs : List Value} (h : RdL w D ds vs) {j : Nat} (hj : j < ds.length) (hj' : j < vs.length), Rd w D ds[j] vs[j]
  | d :: ds, v :: vs, h, 0, hj, hj' => h.1
  | d :: ds, v :: vs, h, j + 1, hj, hj' => RdL.at h.2 (j := j) (by simpa using hj) (by simpa using hj')
end
/-- A slice in a row that the call owns: what it holds is only read, in blocks that D lets, and not in that row. -/
def OwnD (w : World) (D : Nat → Prop) (v : Value) (k : Nat) (T : TypeId) (n : Nat) (cs : List Dt) : Prop :=
  ∃ vs, RdL w (fun b => D b ∧ v.ownBlock ≠ some b) cs vs ∧ w.ownsRow 0 T k v n vs
section
variable {w w' : World} {D S : Nat → Prop} {v : Value} {k n : Nat} {T : TypeId} {cs : List Dt}
theorem OwnD.nil (w : World) (D : Nat → Prop) (k : Nat) (T : TypeId) : OwnD w D (.slice none 0 0) k T 0 [] := ⟨[], trivial, World.ownsRow_nil _ _ _ _⟩
theorem OwnD.len (h : OwnD w D v k T n cs) : cs.length = n * k := by
  obtain ⟨vs, hr, ho⟩ := h
  rw [← hr.len]
  exact ho.1
theorem OwnD.shape (h : OwnD w D v k T n cs) : ∃ a c, v = .slice a n c ∧ n ≤ c ∧ c ≤ maxLen := by
  obtain ⟨vs, hr, ho⟩ := h
  rcases ho.2 with ⟨rfl, h0⟩ | ⟨g, cap, cur, rfl, _, _, h1, h2, _⟩
  · exact ⟨none, 0, by rw [h0], by omega, Nat.zero_le _⟩
  · exact ⟨_, cap, rfl, h1, h2⟩
theorem OwnD.lt (h : OwnD w D v k T n cs) {g : Nat} (hg : v.ownBlock = some g) : g < w.heap.size := by
  obtain ⟨vs, hr, ho⟩ := h
  exact (ho.lt g hg).2
theorem OwnD.keep (h : OwnD w D v k T n cs) (hk : Keeps S w w') (hD : ∀ b, b < w.heap.size → D b → ¬ S b) (hv : ∀ g, v.ownBlock = some g → ¬ S g) : OwnD w' D v k T n cs := by
  obtain ⟨vs, hr, ho⟩ := h
  refine ⟨vs, hr.keep hk (fun b hb hd => hD b hb hd.1), ⟨ho.1, ?_⟩⟩
  rcases ho.2 with h0 | ⟨g, cap, cur, rfl, hb, hg, rest⟩
  · exact .inl h0
  · exact .inr ⟨g, cap, cur, rfl, hb, (hk.block g (Array.getElem?_eq_some_iff.1 hg).1 (hv g rfl)).trans hg, rest⟩
/-- As it is read by others. -/
theorem OwnD.reads (h : OwnD w D v k T n cs) (hD : ∀ g, v.ownBlock = some g → D g) : Rd w D (.sl k cs) v := by
  have hl := h.len
  obtain ⟨vs, hr, ho⟩ := h
  rcases ho.2 with ⟨rfl, h0⟩ | ⟨g, cap, cur, rfl, hb, hg, h1, h2, h3⟩
  · have : cs = [] := List.eq_nil_of_length_eq_zero (by rw [hl, h0, Nat.zero_mul])
    subst this
    exact .nil k 0 none (Nat.zero_le _)
  · refine .sl k cs g 0 n cap (fun j => vs.getD j (.int .i64 0)) hl h1 h2 (Array.getElem?_eq_some_iff.1 hg).1 (hD g rfl) (fun j hj => ?_) (fun j hj => ?_)
    · have hj' : j < vs.length := by rw [hr.len]; exact hj
      have hc := ho.cellAt j (by rw [← ho.1]; exact hj')
      rw [Nat.zero_add, hc, List.getD_eq_getElem?_getD, List.getElem?_eq_getElem hj']
      rfl
    · have hj' : j < vs.length := by rw [hr.len]; exact hj
      have h4 := (hr.at hj hj').mono (D' := D) (fun b _ hd => hd.1)
      show Rd w D cs[j] (vs.getD j (.int .i64 0))
      rw [List.getD_eq_getElem?_getD, List.getElem?_eq_getElem hj']
      exact h4
/-- What is appended. -/
theorem OwnD.grow {v' : Value} {vs us : List Value} {ds : List Dt} {B : Nat} (hr : RdL w (fun b => B ≤ b ∧ v.ownBlock ≠ some b) cs vs) (hx : RdL w (fun b => B ≤ b ∧ v.ownBlock ≠ some b) ds us)
    (hown : w'.ownsRow 0 T k v' n (vs ++ us)) (hk : Keeps (fun b => v.ownBlock = some b) w w') (hg : ∀ y, v'.ownBlock = some y → v.ownBlock = some y ∨ w.heap.size ≤ y) : OwnD w' (fun b => B ≤ b) v' k T n (cs ++ ds) := by
  have h1 : RdL w (fun b => (B ≤ b ∧ v.ownBlock ≠ some b) ∧ b < w.heap.size) (cs ++ ds) (vs ++ us) := (hr.app hx).mono fun b hb hd => ⟨hd, hb⟩
  refine ⟨vs ++ us, (h1.keep hk (fun b _ hd s => hd.1.2 s)).mono fun b _ hd => ⟨hd.1.1, fun e => ?_⟩, hown⟩
  rcases hg b e with h3 | h3
  · exact hd.1.2 h3
  · have := hd.2; omega
end
/-- A slice of parts, as a tree. -/
theorem rd_pts {w : World} {D : Nat → Prop} : ∀ {n : Nat} {l : List Pt} {v : Value}, PtsAt w D n l v → Rd w D (wordR l) v
  | 0, l, v, ⟨h0, a, c, e, hc⟩ => by
    subst h0 e
    rw [wordR, partsR_nil]
    exact .nil 6 c a hc
  | n + 1, l, v, ⟨a, c, e, h1, h2, h⟩ => by
    subst e
    cases l with
    | nil => rw [wordR, partsR_nil]; exact .nil 6 c a h2
    | cons p0 t =>
      obtain ⟨b, off, wv0, ea, hb, hd, _, _⟩ := h 0 (by simp)
      subst ea
      have key : ∀ i (hi : i < (p0 :: t).length), ∃ wv, PtCells w b (off + i * 6) (p0 :: t)[i] wv ∧ Rd w D (wordR (p0 :: t)[i].word) wv := fun i hi => by
        obtain ⟨b', off', wv, e, hb', hd', hc, hw⟩ := h i hi
        obtain ⟨rfl, rfl⟩ : b = b' ∧ off = off' := by simpa using e
        exact ⟨wv, hc, rd_pts hw⟩
      have hex : ∀ j, j < (partsR (p0 :: t)).length → ∃ u, w.cell? ⟨b, off + j, none⟩ = some u ∧ ∀ (hj : j < (partsR (p0 :: t)).length), Rd w D (partsR (p0 :: t))[j] u := fun j hj => by
        have hj0 := hj
        rw [partsR_len] at hj
        have hi : j / 6 < (p0 :: t).length := by omega
        have hr : j % 6 < 6 := by omega
        have hje : j / 6 * 6 + j % 6 = j := by omega
        obtain ⟨wv, hc, hw⟩ := key (j / 6) hi
        have hp := partsR_at hi hr
        rw [hje, List.getElem?_eq_getElem hj0, partR_eq] at hp
        have hcell := hc (j % 6)
        rw [show off + j / 6 * 6 + j % 6 = off + j by omega] at hcell
        generalize (p0 :: t)[j / 6] = q at *
        have h6 : j % 6 = 0 ∨ j % 6 = 1 ∨ j % 6 = 2 ∨ j % 6 = 3 ∨ j % 6 = 4 ∨ j % 6 = 5 := by omega
        rcases h6 with e | e | e | e | e | e
        all_goals rw [e] at hp hcell
        · exact ⟨_, hcell _ rfl, fun hj => by rw [Option.some.inj hp]; exact .int _⟩
        · exact ⟨_, hcell _ rfl, fun hj => by rw [Option.some.inj hp]; exact .str _⟩
        · exact ⟨_, hcell _ rfl, fun hj => by rw [Option.some.inj hp]; exact .str _⟩
        · exact ⟨_, hcell _ rfl, fun hj => by rw [Option.some.inj hp]; exact .str _⟩
        · exact ⟨_, hcell _ rfl, fun hj => by rw [Option.some.inj hp]; exact hw⟩
        · exact ⟨_, hcell _ rfl, fun hj => by rw [Option.some.inj hp]; exact .bool _⟩
      have hvs : ∃ vs : Nat → Value, ∀ j, j < (partsR (p0 :: t)).length → w.cell? ⟨b, off + j, none⟩ = some (vs j) ∧ ∀ (hj : j < (partsR (p0 :: t)).length), Rd w D (partsR (p0 :: t))[j] (vs j) :=
        ⟨fun j => if hj : j < (partsR (p0 :: t)).length then Classical.choose (hex j hj) else .int .i64 0, fun j hj => by
          have e : (if hj : j < (partsR (p0 :: t)).length then Classical.choose (hex j hj) else .int .i64 0) = Classical.choose (hex j hj) := dif_pos hj
          show w.cell? _ = some (if hj : j < (partsR (p0 :: t)).length then Classical.choose (hex j hj) else .int .i64 0) ∧ ∀ (hj' : j < (partsR (p0 :: t)).length), Rd w D (partsR (p0 :: t))[j] (if hj : j < (partsR (p0 :: t)).length then Classical.choose (hex j hj) else .int .i64 0)
          rw [e]
          exact Classical.choose_spec (hex j hj)⟩
      obtain ⟨vs, hvs⟩ := hvs
      exact .sl 6 _ b off _ c vs (partsR_len _) h1 h2 hb hd (fun j hj => (hvs j hj).1) (fun j hj => (hvs j hj).2 hj)
end Go.Proofs.YtcahifkiiabioaaDoor
namespace Go.Proofs.YtcahifkiiabioaaDoor
set_option linter.unusedVariables false

def Short {α : Type} (f : List Tk → PR α) : Prop := ∀ ts d r, f ts = .ok (d, r) → r.length ≤ ts.length
theorem lines_len : ∀ ts : List Tk, (linesF ts).length ≤ ts.length
  | [] => Nat.le_refl _
  | t :: r => by
    unfold linesF
    split
    · have := lines_len r; rw [List.length_cons]; omega
    · exact Nat.le_refl _
theorem tail_len (ts : List Tk) : ts.tail.length ≤ ts.length := by rw [List.length_tail]; omega
theorem ends_len (ts : List Tk) : (endsF ts).2.length ≤ ts.length := by
  unfold endsF
  split
  · exact Nat.le_trans (lines_len _) (tail_len _)
  · exact Nat.le_refl _
theorem op_pos {s : List UInt8} {ts : List Tk} (h : isOpF s ts = true) : 1 ≤ ts.length := by
  cases ts with
  | nil => unfold isOpF atF at h; simp at h
  | cons t r => simp
theorem kind_pos {ts : List Tk} (h : ((atF ts).kind == 1) = true) : 1 ≤ ts.length := by
  cases ts with
  | nil => unfold atF at h; simp at h
  | cons t r => simp
theorem redir_pos {ts : List Tk} (h : redirB ts = true) : 1 ≤ ts.length := by
  cases ts with
  | nil => unfold redirB atF at h; simp at h
  | cons t r => simp
theorem isW_pos {s : List UInt8} {ts : List Tk} (hs : s ≠ []) (h : isWF s ts = true) : 1 ≤ ts.length := by
  cases ts with
  | nil =>
    unfold isWF atF at h
    rw [beq_iff_eq] at h
    exact absurd h.symm hs
  | cons t r => simp
section
variable {cmd : List Tk → PR (List Dt)} {scr : Bs → Except Nat Unit} (hc : Short cmd)
include hc
theorem pipeLoop_len : ∀ (n : Nat) (acc : List Dt) (ts : List Tk) (d : List Dt) (r : List Tk), pipeLoop cmd n acc ts = .ok (d, r) → r.length ≤ ts.length
  | 0, acc, ts, d, r, h => by cases h
  | n + 1, acc, ts, d, r, h => by
    unfold pipeLoop at h
    split at h
    · split at h
      · cases h
      · next x y hq =>
        have h1 := hc _ _ _ hq
        have h2 := pipeLoop_len n _ _ _ _ h
        have := lines_len ts.tail
        have := tail_len ts
        omega
    · cases h; exact Nat.le_refl _
theorem pipeline_len : Short (pipelineF cmd) := by
  intro ts d r h
  unfold pipelineF at h
  split at h
  · cases h
  · next x y hq =>
    have h1 := hc _ _ _ hq
    have h0 : (if isWF [33] ts then ts.tail else ts).length ≤ ts.length := by
      split
      · exact tail_len ts
      · exact Nat.le_refl _
    split at h
    · cases h
    · next l r2 hq2 =>
      have h2 := pipeLoop_len hc _ _ _ _ _ hq2
      have h3 : r = r2 := by
        split at h <;> cases h <;> rfl
      subst h3
      omega
theorem andLoop_len : ∀ (n : Nat) (acc : List Dt) (ts : List Tk) (d : List Dt) (r : List Tk), andLoop cmd n acc ts = .ok (d, r) → r.length ≤ ts.length
  | 0, acc, ts, d, r, h => by cases h
  | n + 1, acc, ts, d, r, h => by
    have hl := lines_len ts.tail
    have ht := tail_len ts
    unfold andLoop at h
    split at h
    · split at h
      · cases h
      · next x y hq =>
        have h1 := pipeline_len hc _ _ _ hq
        have h2 := andLoop_len n _ _ _ _ h
        omega
    · split at h
      · split at h
        · cases h
        · next x y hq =>
          have h1 := pipeline_len hc _ _ _ hq
          have h2 := andLoop_len n _ _ _ _ h
          omega
      · cases h; exact Nat.le_refl _
theorem andOr_len : Short (andOrF cmd) := by
  intro ts d r h
  unfold andOrF at h
  split at h
  · cases h
  · next x y hq =>
    have h1 := pipeline_len hc _ _ _ hq
    have h2 := andLoop_len hc _ _ _ _ _ h
    omega
theorem allLoop_len : ∀ (n : Nat) (acc : List Dt) (ts : List Tk) (d : List Dt) (r : List Tk), allLoop cmd n acc ts = .ok (d, r) → r.length ≤ ts.length
  | 0, acc, ts, d, r, h => by cases h
  | n + 1, acc, ts, d, r, h => by
    have he := ends_len ts
    unfold allLoop at h
    split at h
    · split at h
      · cases h
      · next x y hq =>
        have h1 := andOr_len hc _ _ _ hq
        have h2 := allLoop_len n _ _ _ _ h
        omega
    · cases h; exact he
theorem all_len : Short (allF cmd) := by
  intro ts d r h
  unfold allF at h
  split at h
  · cases h
  · next x y hq =>
    have h1 := andOr_len hc _ _ _ hq
    have h2 := allLoop_len hc _ _ _ _ _ h
    omega
theorem list_len : Short (listF cmd) := by
  intro ts d r h
  unfold listF at h
  split at h
  · cases h
  · next x y hq =>
    have h1 := all_len hc _ _ _ hq
    have := lines_len ts
    cases h
    omega
end
theorem needW_len {s : List UInt8} : Short (needW s) := by
  intro ts d r h
  unfold needW at h
  split at h
  · cases h; exact tail_len ts
  · cases h
theorem needOp_len {s : List UInt8} : Short (needOp s) := by
  intro ts d r h
  unfold needOp at h
  split at h
  · cases h; exact tail_len ts
  · cases h
theorem word_tail {scr : Bs → Except Nat Unit} {ts : List Tk} {w : List Pt} {r : List Tk} (h : wordF scr ts = .ok (w, r)) : r = ts.tail ∧ 1 ≤ ts.length ∧ w = (atF ts).word ∧ w ≠ [] := by
  unfold wordF at h
  split at h
  · next hk =>
    split at h
    · cases h
    · cases h
      rw [Bool.and_eq_true] at hk
      refine ⟨rfl, kind_pos hk.1, rfl, fun e => ?_⟩
      rw [e] at hk
      exact absurd hk.2 (by decide)
  · cases h
theorem word_len {scr : Bs → Except Nat Unit} {ts : List Tk} {w : List Pt} {r : List Tk} (h : wordF scr ts = .ok (w, r)) : r.length + 1 ≤ ts.length := by
  obtain ⟨rfl, h1, _⟩ := word_tail h
  rw [List.length_tail]; omega
theorem redirF_len {scr : Bs → Except Nat Unit} {ts : List Tk} {d : List Dt} {r : List Tk} (h : redirF scr ts = .ok (d, r)) : r.length + 1 ≤ ts.length := by
  unfold redirF at h
  split at h
  · cases h
  · next w r1 hq =>
    have := word_len hq
    have := tail_len ts
    cases h
    omega
theorem redirs_len {scr : Bs → Except Nat Unit} : ∀ (n : Nat) (acc : List Dt) (ts : List Tk) (d : List Dt) (r : List Tk), redirsF scr n acc ts = .ok (d, r) → r.length ≤ ts.length
  | 0, acc, ts, d, r, h => by cases h
  | n + 1, acc, ts, d, r, h => by
    unfold redirsF at h
    split at h
    · split at h
      · cases h
      · next x y hq =>
        have := redirF_len hq
        have h2 := redirs_len n _ _ _ _ h
        omega
    · cases h; exact Nat.le_refl _
theorem simple_len {scr : Bs → Except Nat Unit} : ∀ (n : Nat) (ws gz rs : List Dt) (ts : List Tk) (d : List Dt) (r : List Tk), simpleF scr n ws gz rs ts = .ok (d, r) → r.length ≤ ts.length
  | 0, ws, gz, rs, ts, d, r, h => by cases h
  | n + 1, ws, gz, rs, ts, d, r, h => by
    unfold simpleF at h
    split at h
    · split at h
      · cases h
      · next x y hq =>
        have := redirF_len hq
        have h2 := simple_len n _ _ _ _ _ _ h
        omega
    · split at h
      · split at h
        · cases h
        · next x y hq =>
          have := word_len hq
          split at h
          · have h2 := simple_len n _ _ _ _ _ _ h
            omega
          · have h2 := simple_len n _ _ _ _ _ _ h
            omega
      · cases h; exact Nat.le_refl _
theorem wordsLoop_len {scr : Bs → Except Nat Unit} : ∀ (n : Nat) (acc : List Dt) (ts : List Tk) (d : List Dt) (r : List Tk), wordsLoop scr n acc ts = .ok (d, r) → r.length ≤ ts.length
  | 0, acc, ts, d, r, h => by cases h
  | n + 1, acc, ts, d, r, h => by
    unfold wordsLoop at h
    split at h
    · split at h
      · cases h
      · next x y hq =>
        have := word_len hq
        have h2 := wordsLoop_len n _ _ _ _ h
        omega
    · cases h; exact Nat.le_refl _
theorem patsLoop_len {scr : Bs → Except Nat Unit} : ∀ (n : Nat) (acc : List Dt) (ts : List Tk) (d : List Dt) (r : List Tk), patsLoop scr n acc ts = .ok (d, r) → r.length ≤ ts.length
  | 0, acc, ts, d, r, h => by cases h
  | n + 1, acc, ts, d, r, h => by
    unfold patsLoop at h
    split at h
    · split at h
      · cases h
      · next x y hq =>
        have := word_len hq
        have := tail_len ts
        have h2 := patsLoop_len n _ _ _ _ h
        omega
    · cases h; exact Nat.le_refl _
section
variable {cmd : List Tk → PR (List Dt)} {scr : Bs → Except Nat Unit} (hc : Short cmd)
include hc
theorem body_len : Short (bodyF cmd) := by
  intro ts d r h
  unfold bodyF at h
  split at h
  · cases h
  · next x y hq =>
    have h1 := needW_len _ _ _ hq
    split at h
    · cases h
    · next x2 y2 hq2 =>
      have h2 := list_len hc _ _ _ hq2
      split at h
      · cases h
      · next x3 y3 hq3 =>
        have h3 := needW_len _ _ _ hq3
        cases h
        omega
theorem while_len (kind : Nat) : Short (whileF cmd kind) := by
  intro ts d r h
  unfold whileF at h
  split at h
  · cases h
  · next x y hq =>
    have h1 := list_len hc _ _ _ hq
    split at h
    · cases h
    · next x2 y2 hq2 =>
      have h2 := body_len hc _ _ _ hq2
      cases h
      omega
theorem choiceLoop_len : ∀ (n : Nat) (acc : List Dt) (ts : List Tk) (d : List Dt) (r : List Tk), choiceLoop cmd n acc ts = .ok (d, r) → r.length ≤ ts.length
  | 0, acc, ts, d, r, h => by cases h
  | n + 1, acc, ts, d, r, h => by
    unfold choiceLoop at h
    split at h
    · cases h
    · next c r0 hq =>
      have h1 := list_len hc _ _ _ hq
      split at h
      · cases h
      · next u r1 hq1 =>
        have h2 := needW_len _ _ _ hq1
        split at h
        · cases h
        · next b r2 hq2 =>
          have h3 := list_len hc _ _ _ hq2
          have := tail_len r2
          split at h
          · have := choiceLoop_len n _ _ _ _ h
            omega
          · split at h
            · split at h
              · cases h
              · next x r3 hq3 =>
                have h4 := list_len hc _ _ _ hq3
                cases h
                omega
            · cases h
              omega
theorem choice_len : Short (choiceF cmd) := by
  intro ts d r h
  unfold choiceF at h
  split at h
  · cases h
  · next x y hq =>
    have h1 := choiceLoop_len hc _ _ _ _ _ hq
    split at h
    · cases h
    · next x2 y2 hq2 =>
      have h2 := needW_len _ _ _ hq2
      cases h
      omega
theorem each_len : Short (eachF cmd scr) := by
  intro ts d r h
  have a1 := tail_len ts
  have a2 := lines_len ts.tail
  have a3 := tail_len (linesF ts.tail)
  unfold eachF at h
  split at h
  · split at h
    · split at h
      · cases h
      · next x y hq =>
        have h1 := wordsLoop_len _ _ _ _ _ hq
        have a4 := tail_len y
        have a5 := lines_len y.tail
        split at h
        · split at h
          · cases h
          · next x2 y2 hq2 =>
            have h2 := body_len hc _ _ _ hq2
            cases h
            omega
        · cases h
    · have a6 : (if isOpF [59] (linesF ts.tail) then (linesF ts.tail).tail else linesF ts.tail).length ≤ (linesF ts.tail).length := by
        split
        · exact a3
        · exact Nat.le_refl _
      have a7 := lines_len (if isOpF [59] (linesF ts.tail) then (linesF ts.tail).tail else linesF ts.tail)
      split at h
      · cases h
      · next x2 y2 hq2 =>
        have h2 := body_len hc _ _ _ hq2
        cases h
        omega
  · cases h
theorem arm_len {ts : List Tk} {d : List Dt} {r : List Tk} (h : armF cmd scr ts = .ok (d, r)) : r.length + 1 ≤ ts.length := by
  unfold armF at h
  have a0 : (if isOpF [40] ts then ts.tail else ts).length ≤ ts.length := by
    split
    · exact tail_len ts
    · exact Nat.le_refl _
  split at h
  · cases h
  · next w r0 hq =>
    have h1 := word_len hq
    split at h
    · cases h
    · next ps r1 hq1 =>
      have h2 := patsLoop_len _ _ _ _ _ hq1
      split at h
      · cases h
      · next u r2 hq2 =>
        have h3 := needOp_len _ _ _ hq2
        have a1 := lines_len r2
        split at h
        · split at h
          · cases h
          · next b r3 hq3 =>
            have h4 := list_len hc _ _ _ hq3
            cases h
            omega
        · cases h
          omega
theorem armsLoop_len : ∀ (n : Nat) (acc : List Dt) (ts : List Tk) (d : List Dt) (r : List Tk), armsLoop cmd scr n acc ts = .ok (d, r) → r.length ≤ ts.length
  | 0, acc, ts, d, r, h => by cases h
  | n + 1, acc, ts, d, r, h => by
    unfold armsLoop at h
    split at h
    · cases h; exact tail_len ts
    · split at h
      · cases h
      · next a r0 hq =>
        have h1 := arm_len hc hq
        have a1 := tail_len r0
        have a2 := lines_len r0.tail
        split at h
        · have := armsLoop_len n _ _ _ _ h
          omega
        · split at h
          · cases h
          · next u r2 hq2 =>
            have h3 := needW_len _ _ _ hq2
            cases h
            omega
theorem cases_len : Short (casesF cmd scr) := by
  intro ts d r h
  unfold casesF at h
  split at h
  · cases h
  · next w r0 hq =>
    have h1 := word_len hq
    have a1 := lines_len r0
    split at h
    · cases h
    · next u r1 hq1 =>
      have h2 := needW_len _ _ _ hq1
      have a2 := lines_len r1
      split at h
      · cases h
      · next l r2 hq2 =>
        have h3 := armsLoop_len hc _ _ _ _ _ hq2
        cases h
        omega
theorem function_len (name : Bs) : Short (functionF cmd name) := by
  intro ts d r h
  have a1 := tail_len ts
  have a2 := tail_len ts.tail
  unfold functionF at h
  split at h
  · cases h
  · next u r0 hq =>
    have h1 := needOp_len _ _ _ hq
    have a3 := lines_len r0
    split at h
    · split at h
      · cases h
      · next x y hq2 =>
        have h2 := hc _ _ _ hq2
        cases h
        omega
    · cases h
theorem shut_len (kind : Nat) {close : List Tk → PR Unit} (hcl : Short close) : Short (shutF cmd kind close) := by
  intro ts d r h
  unfold shutF at h
  split at h
  · cases h
  · next x y hq =>
    have h1 := list_len hc _ _ _ hq
    split at h
    · cases h
    · next x2 y2 hq2 =>
      have h2 := hcl _ _ _ hq2
      cases h
      omega
omit hc in
theorem withRedirs_len {q : PR (List Dt)} {n : Nat} (hq : ∀ d r, q = .ok (d, r) → r.length ≤ n) {d : List Dt} {r : List Tk} (h : withRedirs scr q = .ok (d, r)) : r.length ≤ n := by
  unfold withRedirs at h
  split at h
  · cases h
  · next x y =>
    have h1 := hq _ _ rfl
    split at h
    · cases h
    · next rs r2 hq2 =>
      have h2 := redirs_len _ _ _ _ _ hq2
      cases h
      omega
theorem inner_len : Short (innerF cmd scr) := by
  intro ts d r h
  have a1 := tail_len ts
  unfold innerF at h
  split at h
  · next q hq =>
    subst h
    unfold compoundF at hq
    have key : ∀ {f : List Tk → PR (List Dt)}, Short f → ∀ {d r}, withRedirs scr (f ts.tail) = .ok (d, r) → r.length ≤ ts.length := fun hf d r h =>
      Nat.le_trans (withRedirs_len (fun d r h => hf _ _ _ h) h) a1
    split at hq
    · exact key (shut_len hc 13 needOp_len) (Option.some.inj hq)
    · split at hq
      · exact key (shut_len hc 12 needW_len) (Option.some.inj hq)
      · split at hq
        · exact key (choice_len hc) (Option.some.inj hq)
        · split at hq
          · exact key (while_len hc 7) (Option.some.inj hq)
          · split at hq
            · exact key (while_len hc 8) (Option.some.inj hq)
            · split at hq
              · exact key (each_len hc) (Option.some.inj hq)
              · split at hq
                · exact key (cases_len hc) (Option.some.inj hq)
                · split at hq
                  · exact function_len hc _ _ _ _ (Option.some.inj hq)
                  · cases hq
  · exact simple_len _ _ _ _ _ _ _ h
end
theorem command_len : ∀ k, Short (commandF k)
  | 0 => by
    intro ts d r h
    unfold commandF at h
    split at h <;> cases h
  | k + 1 => by
    intro ts d r h
    unfold commandF at h
    split at h
    · exact inner_len (command_len k) _ _ _ h
    · cases h
end Go.Proofs.YtcahifkiiabioaaDoor
namespace Go.Proofs.YtcahifkiiabioaaDoor
set_option linter.unusedVariables false

mutual
def smP : Pt → Bool
  | .mk _ t n o w _ => decide (t.length ≤ 40000) && (decide (w.length ≤ 40000) && smL w)
def smL : List Pt → Bool
  | [] => true
  | p :: l => smP p && smL l
end
/-- Small words: texts and words are short, all the way down. -/
def Sm (l : List Pt) : Prop := l.length ≤ 40000 ∧ smL l = true
theorem smL_cons {p : Pt} {l : List Pt} : smL (p :: l) = (smP p && smL l) := by simp [smL]
theorem smP_iff (p : Pt) : smP p = true ↔ p.text.length ≤ 40000 ∧ Sm p.word := by
  cases p with
  | mk k t n o w q => simp only [smP, Bool.and_eq_true, decide_eq_true_eq]; exact Iff.rfl
theorem smL_iff : ∀ {l : List Pt}, smL l = true ↔ ∀ p ∈ l, p.text.length ≤ 40000 ∧ Sm p.word
  | [] => by simp [smL]
  | q :: l => by
    rw [smL_cons, Bool.and_eq_true, smP_iff, smL_iff (l := l)]
    simp
theorem smL_mem {l : List Pt} {p : Pt} (h : smL l = true) (hp : p ∈ l) : p.text.length ≤ 40000 ∧ Sm p.word := smL_iff.1 h p hp
theorem Sm.nil : Sm [] := ⟨Nat.zero_le _, by simp [smL]⟩
/-- Tokens that are small. -/
def SmT (T : List Tk) : Prop := T.length ≤ 20000 ∧ ∀ t ∈ T, t.text.length ≤ 40000 ∧ Sm t.word

def WSm (l : List Pt) : Prop := ∀ p ∈ l, Sm p.word
theorem WSm.append {a b : List Pt} (ha : WSm a) (hb : WSm b) : WSm (a ++ b) := fun p hp => by
  rcases List.mem_append.1 hp with h | h
  · exact ha p h
  · exact hb p h
theorem wt_one (x : Pt) : wtF [x] = x.text.length + 1 := by simp [wtF]
theorem wt_mem : ∀ {l : List Pt} {p : Pt}, p ∈ l → p.text.length + 1 ≤ wtF l
  | q :: l, p, h => by
    rcases List.mem_cons.1 h with rfl | h
    · simp only [wtF]; omega
    · have := wt_mem h; simp only [wtF]; omega
theorem last_split {l : List Pt} {y : Pt} (h : l.getLast? = some y) : l = l.dropLast ++ [y] := by
  obtain ⟨ys, rfl⟩ := List.getLast?_eq_some_iff.1 h
  simp
theorem addP_wt (out : List Pt) (x : Pt) : wtF (addP out x) ≤ wtF out + wtF [x] := by
  unfold addP
  split
  · next y hy =>
    split
    · have e := last_split hy
      have h1 : wtF out = wtF (out.dropLast ++ [y]) := by rw [← e]
      rw [wtF_append, h1, wtF_append, wt_one, wt_one, wt_one]
      cases y; cases x
      simp only [Pt.join, Pt.text, Pt.kind, List.length_append]
      omega
    · rw [wtF_append]; exact Nat.le_refl _
  · omega
theorem addP_words {out : List Pt} {x : Pt} (ho : WSm out) (hx : Sm x.word) : WSm (addP out x) := by
  unfold addP
  split
  · next y hy =>
    split
    · have e := last_split hy
      refine WSm.append (fun p hp => ho p (List.dropLast_subset _ hp)) (fun p hp => ?_)
      rw [List.mem_singleton.1 hp]
      have := ho y (by rw [e]; simp)
      cases y
      exact this
    · refine WSm.append ho (fun p hp => ?_)
      rw [List.mem_singleton.1 hp]; exact hx
  · intro p hp
    rw [List.mem_singleton.1 hp]; exact hx
theorem fold_small : ∀ (l : List Pt) (a : List Pt × Bool), WSm l → WSm a.1 → wtF (l.foldl stepN a).1 ≤ wtF a.1 + wtF l ∧ WSm (l.foldl stepN a).1
  | [], a, _, ha => ⟨by simp [wtF], ha⟩
  | x :: l, a, hl, ha => by
    rw [List.foldl_cons]
    have h1 : wtF (stepN a x).1 ≤ wtF a.1 + wtF [x] ∧ WSm (stepN a x).1 := by
      unfold stepN
      split
      · exact ⟨Nat.le_add_right _ _, ha⟩
      · exact ⟨addP_wt _ _, addP_words ha (hl x (List.mem_cons_self ..))⟩
    obtain ⟨h2, h3⟩ := fold_small l (stepN a x) (fun p hp => hl p (List.mem_cons_of_mem _ hp)) h1.2
    refine ⟨?_, h3⟩
    have h4 := h1.1
    rw [wt_one] at h4
    simp only [wtF]
    omega
theorem tidy_small {l : List Pt} (h : WSm l) (hw : wtF l ≤ 39999) : Sm (tidyF l) := by
  obtain ⟨h1, h2⟩ := fold_small l ([], false) h (fun p hp => by cases hp)
  unfold tidyF
  split
  · exact ⟨by decide, smL_iff.2 fun p hp => by rw [List.mem_singleton.1 hp]; exact ⟨by decide, Sm.nil⟩⟩
  · have h3 : wtF (normF l).1 ≤ 39999 := by
      show wtF (l.foldl stepN ([], false)).1 ≤ _
      simp only [wtF] at h1
      omega
    refine ⟨by have := wtF_len (normF l).1; omega, smL_iff.2 fun p hp => ⟨?_, h2 p hp⟩⟩
    have := wt_mem hp
    omega
theorem WSm.txt (s : List UInt8) : WSm [txtP s] := fun p hp => by rw [List.mem_singleton.1 hp]; exact Sm.nil
theorem WSm.quo (s : List UInt8) : WSm [quoP s] := fun p hp => by rw [List.mem_singleton.1 hp]; exact Sm.nil
theorem WSm.leaf (k : Nat) (t n o : List UInt8) (q : Bool) : WSm [.mk k t n o [] q] := fun p hp => by rw [List.mem_singleton.1 hp]; exact Sm.nil
theorem WSm.nil : WSm [] := fun p hp => by cases hp
def Md.slack : Md → Nat | .dol _ => 2 | _ => 0
theorem ahead_ok2 {l0 : List Pt} {r : Res} {l : List Pt} {r1 : List UInt8} (h : r.ahead l0 = .ok (l, r1)) : ∃ m, r = .ok (m, r1) ∧ l = l0 ++ m := by
  cases r with
  | error e => cases h
  | ok x => obtain ⟨m, r2⟩ := x; cases h; exact ⟨m, rfl, rfl⟩
theorem until_lt {c : UInt8} : ∀ {l : List UInt8} {k : Nat}, untilF c l = some k → k < l.length
  | x :: t, k, h => by
    unfold untilF at h
    split at h
    · cases h; simp
    · cases h2 : untilF c t with
      | none => rw [h2] at h; cases h
      | some j => rw [h2] at h; cases h; have := until_lt h2; simp; omega
theorem calc_lt : ∀ {l : List UInt8} {o k : Nat}, calcF o l = some k → k + 2 ≤ l.length
  | [], o, k, h => by cases h
  | c :: t, o, k, h => by
    unfold calcF at h
    split at h
    · cases h2 : calcF (o + 1) t with
      | none => rw [h2] at h; cases h
      | some j => rw [h2] at h; cases h; have := calc_lt h2; simp; omega
    · split at h
      · split at h
        · split at h
          · next hh =>
            cases h
            cases t with
            | nil => cases hh
            | cons y z => simp
          · cases h
        · cases h2 : calcF (o - 1) t with
          | none => rw [h2] at h; cases h
          | some j => rw [h2] at h; cases h; have := calc_lt h2; simp; omega
      · cases h2 : calcF o t with
        | none => rw [h2] at h; cases h
        | some j => rw [h2] at h; cases h; have := calc_lt h2; simp; omega
theorem map_somE {o : Option Nat} {k : Nat} (h : o.map (· + 1) = some k) : ∃ j, o = some j ∧ k = j + 1 := by
  cases o with
  | none => cases h
  | some j => cases h; exact ⟨j, rfl, rfl⟩
theorem sub_lt : ∀ {l : List UInt8} {m : SM} {o k : Nat}, subF m o l = some k → k < l.length
  | [], m, o, k, h => by cases m <;> cases h
  | c :: t, m, o, k, h => by
    cases m with
    | n =>
      unfold subF at h
      repeat' split at h
      all_goals first
        | (cases h; simp; done)
        | (obtain ⟨j, h2, rfl⟩ := map_somE h; have := sub_lt h2; simp; omega)
    | q1 => obtain ⟨j, h2, rfl⟩ := map_somE h; have := sub_lt h2; simp; omega
    | q2 => obtain ⟨j, h2, rfl⟩ := map_somE h; have := sub_lt h2; simp; omega
    | bn => obtain ⟨j, h2, rfl⟩ := map_somE h; have := sub_lt h2; simp; omega
    | bq => obtain ⟨j, h2, rfl⟩ := map_somE h; have := sub_lt h2; simp; omega
theorem lexD_small : ∀ (n : Nat) (m : Md) (d : Nat) (r : List UInt8) (l : List Pt) (r1 : List UInt8), lexD n m d r = .ok (l, r1) → r.length ≤ 16384 →
    wtF l + 2 * r1.length ≤ 2 * r.length + m.slack ∧ WSm l
  | 0, m, d, r, l, r1, h, _ => by unfold lexD at h; cases h
  | n + 1, .one q, d, [], l, r1, h, _ => by
    cases q <;> (unfold lexD at h; cases h; exact ⟨by simp [wtF, Md.slack], WSm.nil⟩)
  | n + 1, .one false, d, c :: t, l, r1, h, hr => by
    unfold lexD at h
    simp only [List.length_cons] at hr ⊢
    split at h
    · split at h
      · cases h
      · next k hk =>
        cases h
        have := until_lt hk
        refine ⟨?_, WSm.quo _⟩
        simp only [wtF, quoP, Pt.text, Md.slack, List.length_take, List.length_drop]
        omega
    · split at h
      · obtain ⟨m, h2, rfl⟩ := ahead_ok2 h
        obtain ⟨h3, h4⟩ := lexD_small n .dq d t m r1 h2 (by omega)
        refine ⟨?_, WSm.append (WSm.quo _) h4⟩
        rw [wtF_append]
        simp only [wtF, quoP, Pt.text, Md.slack, List.length_nil] at h3 ⊢
        omega
      · split at h
        · split at h
          · cases h
            exact ⟨by simp [wtF, quoP, Pt.text, Md.slack], WSm.quo _⟩
          · split at h
            · cases h
              exact ⟨by simp [wtF, Md.slack]; omega, WSm.nil⟩
            · cases h
              exact ⟨by simp [wtF, quoP, Pt.text, Md.slack]; omega, WSm.quo _⟩
        · split at h
          · cases h
          · split at h
            · obtain ⟨h3, h4⟩ := lexD_small n (.dol false) d t l r1 h (by omega)
              refine ⟨?_, h4⟩
              simp only [Md.slack] at h3 ⊢
              omega
            · cases h
              exact ⟨by simp [wtF, txtP, Pt.text, Md.slack]; omega, WSm.txt _⟩
  | n + 1, .one true, d, c :: t, l, r1, h, hr => by
    unfold lexD at h
    simp only [List.length_cons] at hr ⊢
    have ht : t.tail.length ≤ t.length := by rw [List.length_tail]; omega
    split at h
    · cases h
    · split at h
      · cases h
        exact ⟨by simp [wtF, Md.slack]; omega, WSm.nil⟩
      · split at h
        · cases h
          exact ⟨by simp [wtF, quoP, Pt.text, Md.slack]; omega, WSm.quo _⟩
        · split at h
          · obtain ⟨h3, h4⟩ := lexD_small n (.dol true) d t l r1 h (by omega)
            refine ⟨?_, h4⟩
            simp only [Md.slack] at h3 ⊢
            omega
          · cases h
            exact ⟨by simp [wtF, quoP, Pt.text, Md.slack]; omega, WSm.quo _⟩
  | n + 1, .dq, d, r, l, r1, h, hr => by
    unfold lexD at h
    cases r with
    | nil => cases h
    | cons c t =>
      dsimp only at h
      split at h
      · cases h
        exact ⟨by simp [wtF, Md.slack]; omega, WSm.nil⟩
      · split at h
        · cases h
        · next l1 r2 h1 =>
          obtain ⟨m, h2, rfl⟩ := ahead_ok2 h
          obtain ⟨h3, h4⟩ := lexD_small n (.one true) d (c :: t) l1 r2 h1 hr
          simp only [Md.slack] at h3
          obtain ⟨h5, h6⟩ := lexD_small n .dq d r2 m r1 h2 (by omega)
          refine ⟨?_, h4.append h6⟩
          rw [wtF_append]
          simp only [Md.slack] at h5 ⊢
          omega
  | n + 1, .br q, d, r, l, r1, h, hr => by
    unfold lexD at h
    cases r with
    | nil => cases h
    | cons c t =>
      dsimp only at h
      split at h
      · cases h
        exact ⟨by simp [wtF, Md.slack]; omega, WSm.nil⟩
      · split at h
        · cases h
        · next l1 r2 h1 =>
          obtain ⟨m, h2, rfl⟩ := ahead_ok2 h
          obtain ⟨h3, h4⟩ := lexD_small n (.one q) d (c :: t) l1 r2 h1 hr
          simp only [Md.slack] at h3
          obtain ⟨h5, h6⟩ := lexD_small n (.br q) d r2 m r1 h2 (by omega)
          refine ⟨?_, h4.append h6⟩
          rw [wtF_append]
          simp only [Md.slack] at h5 ⊢
          omega
  | n + 1, .dol q, d, r, l, r1, h, hr => by
    unfold lexD at h
    have ht : r.tail.length ≤ r.length := by rw [List.length_tail]; omega
    split at h
    · obtain ⟨h3, h4⟩ := lexD_small n (.brace q) d r.tail l r1 h (by omega)
      refine ⟨?_, h4⟩
      simp only [Md.slack] at h3 ⊢
      omega
    · split at h
      · split at h
        · cases h
        · next k hk =>
          cases h
          have := calc_lt hk
          refine ⟨?_, WSm.leaf _ _ _ _ _⟩
          simp only [wtF, Pt.text, Md.slack, List.length_take, List.length_drop] at this ⊢
          omega
      · split at h
        · split at h
          · cases h
          · next k hk =>
            cases h
            have := sub_lt hk
            refine ⟨?_, WSm.leaf _ _ _ _ _⟩
            simp only [wtF, Pt.text, Md.slack, List.length_take, List.length_drop] at this ⊢
            omega
        · split at h
          · cases h
            cases q
            · exact ⟨by simp [wtF, txtP, Pt.text, Md.slack]; omega, WSm.txt _⟩
            · exact ⟨by simp [wtF, quoP, Pt.text, Md.slack]; omega, WSm.quo _⟩
          · cases h
            refine ⟨?_, WSm.leaf _ _ _ _ _⟩
            simp only [wtF, Pt.text, Md.slack, List.length_drop, List.length_nil]
            omega
  | n + 1, .brace q, d, r, l, r1, h, hr => by
    unfold lexD at h
    dsimp only at h
    have ht : r.tail.length ≤ r.length := by rw [List.length_tail]; omega
    have hx : (if longB r then r.tail else r).length ≤ r.length := by split <;> omega
    generalize (if longB r then r.tail else r) = x at h hx
    split at h
    · cases h
    · next hk0 =>
      have hd : (x.drop (nameF true x)).length ≤ x.length - nameF true x := by rw [List.length_drop]; exact Nat.le_refl _
      generalize x.drop (nameF true x) = y at h hd
      have hy : y.tail.length ≤ y.length := by rw [List.length_tail]; omega
      split at h
      · next hh =>
        cases h
        have h1 : 1 ≤ y.length := by
          cases y with
          | nil => cases hh
          | cons a b => simp
        refine ⟨?_, WSm.leaf _ _ _ _ _⟩
        simp only [wtF, Pt.text, Md.slack, List.length_nil, List.length_tail]
        omega
      · split at h
        · cases h
        · next hop =>
          split at h
          · cases h
          · split at h
            · cases h
            · next l2 r3 h2 =>
              have hop2 : 1 ≤ (opF y).length := by
                rcases Nat.eq_zero_or_pos (opF y).length with h0 | h0
                · rw [List.eq_nil_of_length_eq_zero h0] at hop
                  exact absurd rfl hop
                · exact h0
              have hlen : (y.drop (opF y).length).length ≤ y.length - 1 := by rw [List.length_drop]; omega
              obtain ⟨h3, h4⟩ := lexD_small n (.br q) (d + 1) _ l2 r3 h2 (by omega)
              cases h
              simp only [Md.slack] at h3
              refine ⟨?_, fun p hp => ?_⟩
              · simp only [wtF, Pt.text, Md.slack, List.length_nil]
                have : 1 ≤ y.length ∨ y.length = 0 := by omega
                rcases this with h9 | h9
                · omega
                · have : (opF y).length ≤ y.length := by
                    obtain rfl := List.eq_nil_of_length_eq_zero h9
                    decide
                  omega
              · rw [List.mem_singleton.1 hp]
                exact tidy_small h4 (by omega)
theorem wordD_small (wh : Bool) : ∀ (n : Nat) (r : List UInt8) (l : List Pt) (r1 : List UInt8), wordD wh n r = .ok (l, r1) → r.length ≤ 16384 → wtF l + 2 * r1.length ≤ 2 * r.length ∧ WSm l
  | 0, r, l, r1, h, _ => by cases h
  | n + 1, [], l, r1, h, _ => by cases h; exact ⟨by simp [wtF], WSm.nil⟩
  | n + 1, c :: t, l, r1, h, hr => by
    rw [wordD_succ] at h
    dsimp only at h
    split at h
    · cases h; exact ⟨by simp [wtF], WSm.nil⟩
    · split at h
      · cases h
      · next l1 r2 h1 =>
        obtain ⟨m, h2, rfl⟩ := ahead_ok2 h
        obtain ⟨h3, h4⟩ := lexD_small _ _ _ _ _ _ h1 hr
        simp only [Md.slack] at h3
        obtain ⟨h5, h6⟩ := wordD_small wh n r2 m r1 h2 (by omega)
        exact ⟨by rw [wtF_append]; omega, h4.append h6⟩
theorem oper_short (r : List UInt8) : (operF r).length ≤ 3 := by
  unfold operF findF
  cases hf : operL.find? (fun o => startsF o r) with
  | none => decide
  | some p =>
    have hp : p ∈ operL := List.mem_of_find?_eq_some hf
    have h : ∀ q ∈ operL, q.length ≤ 3 := by decide
    exact h p hp
theorem tokOne_small {r : List UInt8} {x : Tk} {r1 : List UInt8} (h : tokOne r = .ok (x, r1)) (hr : r.length ≤ 16384) : x.text.length ≤ 40000 ∧ Sm x.word := by
  unfold tokOne at h
  split at h
  · split at h
    · cases h
    · split at h
      · cases h
      · next l r2 h2 =>
        obtain ⟨h3, h4⟩ := wordD_small _ _ _ _ _ h2 hr
        cases h
        exact ⟨Nat.zero_le _, tidy_small h4 (by omega)⟩
  · cases h
    exact ⟨by have := oper_short r; show (operF r).length ≤ _; omega, Sm.nil⟩
theorem tokD_small : ∀ (n : Nat) (r : List UInt8) (T : List Tk), tokD n r = .ok T → r.length ≤ 16384 → T.length ≤ r.length ∧ ∀ t ∈ T, t.text.length ≤ 40000 ∧ Sm t.word
  | 0, r, T, h, _ => by cases h
  | n + 1, r, T, h, hr => by
    rw [tokD_succ] at h
    have hs := skip_len false r
    cases hsk : skipF false r with
    | nil =>
      rw [hsk] at h
      cases h
      exact ⟨Nat.zero_le _, fun t ht => by cases ht⟩
    | cons c t =>
      rw [hsk] at h
      dsimp only at h
      rw [hsk] at hs
      cases hto : tokOne (c :: t) with
      | error e => rw [hto] at h; cases h
      | ok xr =>
        obtain ⟨x, r1⟩ := xr
        rw [hto] at h
        dsimp only at h
        have h1 := tokOne_small hto (by omega)
        have h2 := tokOne_len (skip_head hsk) hto
        rw [List.length_cons] at hs
        cases htd : tokD n r1 with
        | error e => rw [htd] at h; cases h
        | ok T' =>
          rw [htd] at h
          obtain ⟨h3, h4⟩ := tokD_small n r1 T' htd (by omega)
          cases h
          refine ⟨by rw [List.length_cons]; omega, fun y hy => ?_⟩
          rcases List.mem_cons.1 hy with rfl | hy
          · exact h1
          · exact h4 y hy
theorem toks_small {s : List UInt8} {T : List Tk} (h : tokensF s = .ok T) : SmT T := by
  unfold tokensF at h
  split at h
  · next hm =>
    have hl : s.length ≤ 16384 := by
      unfold mayF at hm
      split at hm
      · cases hm
      · omega
    obtain ⟨h1, h2⟩ := tokD_small _ _ _ h hl
    exact ⟨by omega, h2⟩
  · cases h
end Go.Proofs.YtcahifkiiabioaaDoor
namespace Go.Proofs.YtcahifkiiabioaaDoor
open Go.RowKit
set_option linter.unusedVariables false

/-- What the parser's world holds besides: a table of the library, a bound of it. -/
structure Ev (w : World) (B : Nat) : Prop where
  tab : Lib.TabIs Tryd.prog w "strings.asciiSpace" .u8 Lib.asciiSpaceTab
  big : ∃ m : Int, w.cell? ⟨0, 0, none⟩ = some (.int .i64 m)
  low : 1 < B ∧ 0 < B ∧ B ≤ w.heap.size
theorem Ev.keep {w w' : World} {B : Nat} {S : Nat → Prop} (h : Ev w B) (hk : Keeps S w w') (hS : ∀ b, b < B → ¬ S b) : Ev w' B := by
  obtain ⟨h1, ⟨m, h2⟩, h3, h4, h5⟩ := h
  refine ⟨?_, ⟨m, ?_⟩, h3, h4, Nat.le_trans h5 hk.size⟩
  · unfold Lib.TabIs World.var? at *
    have hg : Tryd.prog.globalNamed "strings.asciiSpace" = some 1 := by kernel_rfl
    simp only [hg, Option.bind_some] at h1 ⊢
    rw [hk.block _ (by omega) (hS _ h3)]
    exact h1
  · have hb := hk.block 0 (by omega) (hS _ h4)
    rw [World.cell?_of_block hb]
    exact h2
theorem Ev.mono {w : World} {B B' : Nat} (h : Ev w B) (hB : B ≤ B') (hw : B' ≤ w.heap.size) : Ev w B' := ⟨h.tab, h.big, by have := h.low; omega⟩

/-- The reader: its tokens, where it stands, how deep. -/
structure RS (w : World) (B cs : Nat) (tv : Value) (n : Nat) (T : List Tk) (i d : Nat) : Prop where
  rd : RecAt w cs [tv, .int .i64 (i : Nat), .int .i64 (d : Nat)]
  ev : Ev w B
  toks : TksAt w (fun b => b < B) n T tv
  cs : B ≤ cs
  i : i ≤ T.length
  sm : SmT T
  d : d ≤ 40
theorem RS.lt {w : World} {B cs : Nat} {tv : Value} {n : Nat} {T : List Tk} {i d : Nat} (h : RS w B cs tv n T i d) : cs < w.heap.size := h.rd.lt
theorem RS.keep {w w' : World} {B cs : Nat} {tv : Value} {n : Nat} {T : List Tk} {i d : Nat} {S : Nat → Prop} (h : RS w B cs tv n T i d) (hk : Keeps S w w') (hS : ∀ b, b < B → ¬ S b) (hc : ¬ S cs) : RS w' B cs tv n T i d :=
  ⟨h.rd.keep hk hc, h.ev.keep hk hS, h.toks.keep hk (fun b _ hb => hS b hb), h.cs, h.i, h.sm, h.d⟩
theorem RS.keep0 {w w' : World} {B cs : Nat} {tv : Value} {n : Nat} {T : List Tk} {i d : Nat} (h : RS w B cs tv n T i d) (hk : Keeps (fun _ => False) w w') : RS w' B cs tv n T i d := h.keep hk (fun _ _ x => x) (fun x => x)
theorem RS.shape {w : World} {B cs : Nat} {tv : Value} {n : Nat} {T : List Tk} {i d : Nat} (h : RS w B cs tv n T i d) : ∃ a c, tv = .slice a T.length c ∧ T.length ≤ c ∧ c ≤ maxLen := h.toks.shape
theorem RS.cells {w : World} {B cs : Nat} {tv : Value} {n : Nat} {T : List Tk} {i d : Nat} (h : RS w B cs tv n T i d) :
    w.cell? ⟨cs, 0, none⟩ = some tv ∧ w.cell? ⟨cs, 1, none⟩ = some (.int .i64 (i : Nat)) ∧ w.cell? ⟨cs, 2, none⟩ = some (.int .i64 (d : Nat)) ∧
    w.frozen? ⟨cs, 1, none⟩ = false ∧ w.frozen? ⟨cs, 2, none⟩ = false := by
  obtain ⟨⟨c0, c1, c2⟩, f0, f1, f2⟩ := h.rd.three
  exact ⟨c0, c1, c2, f1, f2⟩
/-- The reader goes on. -/
theorem RS.set1 {w : World} {B cs : Nat} {tv : Value} {n : Nat} {T : List Tk} {i d : Nat} (h : RS w B cs tv n T i d) {j : Nat} (hj : j ≤ T.length) : RS (w.setCell ⟨cs, 1, none⟩ (.int .i64 (j : Nat))) B cs tv n T j d ∧ Keeps (fun b => b = cs) w (w.setCell ⟨cs, 1, none⟩ (.int .i64 (j : Nat))) := by
  have hk : Keeps (fun b => b = cs) w (w.setCell ⟨cs, 1, none⟩ (.int .i64 (j : Nat))) := (Keeps.refl _ _).setCell _ _ fun _ => rfl
  have hB := h.cs
  exact ⟨⟨h.rd.set 1 _, h.ev.keep hk (fun b hb e => by omega), h.toks.keep hk (fun b _ hb e => by omega), h.cs, hj, h.sm, h.d⟩, hk⟩
/-- The reader goes deeper, or back. -/
theorem RS.set2 {w : World} {B cs : Nat} {tv : Value} {n : Nat} {T : List Tk} {i d : Nat} (h : RS w B cs tv n T i d) {j : Nat} (hj : j ≤ 40) : RS (w.setCell ⟨cs, 2, none⟩ (.int .i64 (j : Nat))) B cs tv n T i j ∧ Keeps (fun b => b = cs) w (w.setCell ⟨cs, 2, none⟩ (.int .i64 (j : Nat))) := by
  have hk : Keeps (fun b => b = cs) w (w.setCell ⟨cs, 2, none⟩ (.int .i64 (j : Nat))) := (Keeps.refl _ _).setCell _ _ fun _ => rfl
  have hB := h.cs
  exact ⟨⟨h.rd.set 2 _, h.ev.keep hk (fun b hb e => by omega), h.toks.keep hk (fun b _ hb e => by omega), h.cs, h.i, h.sm, hj⟩, hk⟩

theorem atF_in {T : List Tk} {i : Nat} (h : i < T.length) : atF (T.drop i) = T[i] := by
  rw [List.drop_eq_getElem_cons h]; rfl
theorem atF_end {T : List Tk} {i : Nat} (h : T.length ≤ i) : atF (T.drop i) = ⟨0, [], []⟩ := by
  rw [List.drop_eq_nil_of_le h]; rfl
/-- What is written lies in new blocks alone. -/
theorem Keeps.fresh {S Q : Nat → Prop} {w w1 w2 : World} (h : Keeps S w w1) (k : Keeps Q w1 w2) (hQ : ∀ b, Q b → w.heap.size ≤ b) : Keeps S w w2 := h.trans k fun x hx e => by have := hQ x e; omega
/-- What at tells: the next token's cells. -/
def AtPost (w : World) (B : Nat) (n : Nat) (tk : Tk) (e : Ending) (w' : World) : Prop :=
  ∃ (a : Option Addr) (c : Nat), e = .returned (.agg #[.int .i64 (tk.kind : Nat), .string ⟨tk.text.toArray⟩, .slice a tk.word.length c]) ∧ PtsAt w' (fun b => b < B) n tk.word (.slice a tk.word.length c) ∧ Keeps (fun _ => False) w w'

set_option maxRecDepth 100000 in
set_option maxHeartbeats 4000000 in
theorem at_tok (w : World) (B cs n i d : Nat) (tv : Value) (T : List Tk) (h : RS w B cs tv n T i d) :
    Calls Tryd.prog 55 #[.pointer (some ⟨cs, 0, none⟩)] w (AtPost w B n (atF (T.drop i))) := by
  obtain ⟨c0, c1, _, _, _⟩ := h.cells
  obtain ⟨ta, tc, rfl, ht1, ht2⟩ := h.shape
  have hlt := h.lt
  have hc3 := cells_token
  have hsz := h.sm.1
  have HB := Lib.hid (show B ≤ w.heap.size from h.ev.low.2.2)
  rcases Nat.lt_or_ge i T.length with hi | hi
  · obtain ⟨g, o, xa, xl, xc, rfl, ⟨q0, q1, q2⟩, hx, hg⟩ := h.toks.at (Keeps.refl _ _) hi
    obtain ⟨ya, yc, hye, _, _⟩ := hx.shape
    injection hye with e1 e2 e3
    rw [e2] at q2 hx
    rw [atF_in hi]
    generalize T[i] = x at *
    have p1 : (i : Int) < (T.length : Int) := by omega
    have HX := Lib.hid hx
    unfold strV at q1
    clear hx e1 e2 e3 h
    obtain ⟨L, hL⟩ : ∃ L, L = T.length := ⟨_, rfl⟩
    obtain ⟨xl, hxl⟩ : ∃ xl, xl = x.word.length := ⟨_, rfl⟩
    obtain ⟨kd, hkd⟩ : ∃ kd, kd = x.kind := ⟨_, rfl⟩
    rw [← hxl] at q2
    rw [← hkd] at q0
    have HXL := Lib.hid hxl
    have HKD := Lib.hid hkd
    rw [← hL] at c0 p1 ht1 hsz
    clear hL hxl hkd hi
    go_enter Tryd.func55, Tryd.ntmps55
    go_wp2_with fail
    go_quiet (fail)
    obtain ⟨W1, hW1⟩ : ∃ W1, W1 = (w.alloc (.cells #[.int .i64 0, .string ⟨#[]⟩, .slice none 0 0] 65)).drewN nq := ⟨_, rfl⟩
    rw [← hW1]
    have hk1 : Keeps (fun _ => False) w W1 := by rw [hW1]; exact ((Keeps.refl _ _).alloc _).drewN _
    have hR := Lib.hid (show RecAt W1 w.heap.size [.int .i64 0, .string ⟨#[]⟩, .slice none 0 0] by rw [hW1]; exact (show RecAt (w.alloc _) w.heap.size _ from ⟨_, heap_alloc_new w _⟩).keep (S := fun _ => False) ((Keeps.refl _ _).drewN _) (fun h => h))
    have d0 := (World.cell?_of_block (a := ⟨cs, 0, none⟩) (hk1.block cs hlt (fun h => h))).trans c0
    have d1 := (World.cell?_of_block (a := ⟨cs, 1, none⟩) (hk1.block cs hlt (fun h => h))).trans c1
    have r0 := (World.cell?_of_block (a := ⟨g, o + i * 3, none⟩) (hk1.block g hg (fun h => h))).trans q0
    have r1 := (World.cell?_of_block (a := ⟨g, o + i * 3 + 1, none⟩) (hk1.block g hg (fun h => h))).trans q1
    have r2 := (World.cell?_of_block (a := ⟨g, o + i * 3 + 2, none⟩) (hk1.block g hg (fun h => h))).trans q2
    have HK1 := Lib.hid hk1
    clear hW1 hk1 q0 q1 q2 c0 c1
    go_wp2_with fail
    go_still_tail 10, (by kernel_rfl)
    change wpList _ _ _ _ _ W1.drew
    obtain ⟨W2, hW2⟩ : ∃ W2, W2 = W1.drew := ⟨_, rfl⟩
    rw [← hW2]
    have hk2 : Keeps (fun _ => False) W1 W2 := by rw [hW2]; exact (Keeps.refl _ _).drew
    have HR2 := hR.out.keep hk2 (fun h => h)
    obtain ⟨⟨z0, z1, z2⟩, f0, f1, f2⟩ := HR2.three
    have HK2 := Lib.hid (HK1.out.trans hk2 (fun _ _ h => h))
    have HP2 := Lib.hid (HX.out.keep HK2.out (fun _ _ _ h => h))
    have hlt2 := HR2.lt
    clear hW2 hk2 hR
    go_wp2_with fail
    refine bodyPost_ret (v := .agg #[.int .i64 (kd : Nat), .string ⟨x.text.toArray⟩, .slice xa xl xc]) (by simp [results, Tryd.results55, go_sem, z0, z1, z2]) rfl ?_
    have hk3 := set3_keeps W2 w.heap.size (.int .i64 (kd : Nat)) (.string ⟨x.text.toArray⟩) (.slice xa xl xc)
    refine ⟨xa, xc, by rw [← HXL.out, ← HKD.out], ?_, HK2.out.fresh hk3 (fun b e => by omega)⟩
    have hB := HB.out
    rw [← HXL.out]
    have hp := HP2.out
    rw [← HXL.out] at hp
    exact hp.keep hk3 (fun b hb h e => by omega)
  · rw [atF_end hi]
    have p1 : ¬ (i : Int) < (T.length : Int) := by omega
    clear h
    go_enter Tryd.func55, Tryd.ntmps55
    go_wp2_with fail
    go_quiet (fail)
    go_wp2_with fail
    refine bodyPost_ret (v := .agg #[.int .i64 0, .string ⟨#[]⟩, .slice none 0 0]) (by simp [results, Tryd.results55, go_sem]) rfl ?_
    refine ⟨none, 0, rfl, PtsAt.nil _ _ _, ?_⟩
    exact (((Keeps.refl _ w).alloc _).drewN nq).fresh (set3_keeps _ w.heap.size (.int .i64 0) (.string ⟨#[]⟩) (.slice none 0 0)) (fun b e => by omega)
end Go.Proofs.YtcahifkiiabioaaDoor
namespace Go.Proofs.YtcahifkiiabioaaDoor
open Go.RowKit
set_option linter.unusedVariables false

@[reducible] def failedP (x : Nat) : Ending := .panicked [{ v := .iface 68 (.agg #[.int .i64 x]), recovered := false }]
theorem pfail_any (x : Nat) (w : World) :
    Calls Tryd.prog 43 #[.int .i64 x] w fun e w' => e = failedP x ∧ w = w' := by
  go_enter Tryd.func43, Tryd.ntmps43
  go_wp2_with fail
  exact ⟨rfl, rfl, rfl⟩
theorem need_yes (w : World) :
    Calls Tryd.prog 30 #[.bool true] w fun e w' => e = .returned (.tuple #[]) ∧ w = w' := by
  go_enter Tryd.func30, Tryd.ntmps30
  go_wp2_with fail
  go_end0
  exact ⟨rfl, rfl⟩
theorem need_no (w : World) :
    Calls Tryd.prog 30 #[.bool false] w fun e w' => e = failedP 2 ∧ w = w' := by
  go_enter Tryd.func30, Tryd.ntmps30
  go_wp2_with fail
  refine (pfail_any 2 _).mono ?_
  rintro e w1 ⟨rfl, rfl⟩
  go_wp2_with fail
  exact ⟨rfl, rfl, rfl⟩

theorem field_kind (x : Int) (b : ByteArray) (a : Option Addr) (n c : Nat) (w : World) : (Instr.field 65 (.agg #[.int .i64 x, .string b, .slice a n c]) 0).run Tryd.prog w = .ok (.int .i64 x) w := by kernel_rfl
theorem field_text (x : Int) (b : ByteArray) (a : Option Addr) (n c : Nat) (w : World) : (Instr.field 65 (.agg #[.int .i64 x, .string b, .slice a n c]) 1).run Tryd.prog w = .ok (.string b) w := by kernel_rfl
def BoolPost (w : World) (q : Bool) (e : Ending) (w' : World) : Prop := e = .returned (.bool q) ∧ Keeps (fun _ => False) w w'
/-- The reader has gone on, to where r is left. -/
def MovePost (w : World) (B cs : Nat) (tv : Value) (n : Nat) (T : List Tk) (i d : Nat) (v : Value) (r : List Tk) (e : Ending) (w' : World) : Prop :=
  e = .returned v ∧ ∃ j, i ≤ j ∧ T.drop j = r ∧ RS w' B cs tv n T j d ∧ Keeps (fun b => b = cs) w w'
/-- Behind the next token, or still ahead of it. -/
def goF (q : Bool) (ts : List Tk) : List Tk := match q with | true => ts.tail | false => ts
theorem drop_tail {α} (l : List α) (i : Nat) : (l.drop i).tail = l.drop (i + 1) := by
  rw [List.tail_drop]
theorem toks_pos {T : List Tk} {i : Nat} (h : 1 ≤ (T.drop i).length) : i + 1 ≤ T.length := by
  rw [List.length_drop] at h; omega

set_option maxRecDepth 100000 in
set_option maxHeartbeats 4000000 in
theorem isOp_any (w : World) (B cs n i d : Nat) (tv : Value) (T : List Tk) (l : Bs) (q : Bool) (h : RS w B cs tv n T i d) (hq : isOpF l (T.drop i) = q) :
    Calls Tryd.prog 51 #[.pointer (some ⟨cs, 0, none⟩), .string ⟨l.toArray⟩] w (BoolPost w q) := by
  unfold isOpF at hq
  have hf0 := field_kind
  have hf1 := field_text
  have hat := fun w h => at_tok w B cs n i d tv T h
  obtain ⟨tk, htk⟩ : ∃ tk, tk = atF (T.drop i) := ⟨_, rfl⟩
  rw [← htk] at hq hat
  have HAT := Lib.hid hat
  have HH := Lib.hid h
  clear hat h htk
  by_cases k : tk.kind = 2
  · have t0 : ((tk.kind : Int) == 2) = true := by rw [beq_iff_eq]; omega
    have hq2 : (tk.text == l) = q := by rw [← hq, k]; simp
    clear hq k
    go_enter Tryd.func51, Tryd.ntmps51
    go_wp2_with fail
    refine (HAT.out _ HH.out).mono ?_
    rintro e w1 ⟨a, c, rfl, hp, hk⟩
    have HK := Lib.hid hk
    clear hp hk
    go_wp2_with fail
    refine (HAT.out _ (HH.out.keep0 HK.out)).mono ?_
    rintro e w2 ⟨a, c, rfl, hp, hk⟩
    have HK2 := Lib.hid (HK.out.trans hk (fun _ _ h => h))
    clear hp hk
    go_wp2_with fail
    go_ret
    exact ⟨rfl, HK2.out⟩
  · have t0 : ((tk.kind : Int) == 2) = false := by rw [beq_eq_false_iff_ne]; omega
    have hq2 : q = false := by rw [← hq, beq_eq_false_iff_ne.2 k]; rfl
    subst hq2
    clear hq k
    go_enter Tryd.func51, Tryd.ntmps51
    go_wp2_with fail
    refine (HAT.out _ HH.out).mono ?_
    rintro e w1 ⟨a, c, rfl, hp, hk⟩
    have HK := Lib.hid hk
    clear hp hk
    go_wp2_with fail
    go_ret
    exact ⟨rfl, HK.out⟩
theorem RS.next {w : World} {B cs : Nat} {tv : Value} {n : Nat} {T : List Tk} {i d : Nat} (h : RS w B cs tv n T i d) (hj : 1 ≤ (T.drop i).length) :
    RS (w.setCell ⟨cs, 1, none⟩ (.int .i64 ((i : Int) + 1))) B cs tv n T (i + 1) d ∧ Keeps (fun b => b = cs) w (w.setCell ⟨cs, 1, none⟩ (.int .i64 ((i : Int) + 1))) := by
  have := h.set1 (toks_pos hj)
  simpa using this

set_option maxRecDepth 100000 in
set_option maxHeartbeats 4000000 in
theorem opP_any (w : World) (B cs n i d : Nat) (tv : Value) (T : List Tk) (l : Bs) (q : Bool) (h : RS w B cs tv n T i d) (hq : isOpF l (T.drop i) = q) :
    Calls Tryd.prog 39 #[.pointer (some ⟨cs, 0, none⟩), .string ⟨l.toArray⟩] w (MovePost w B cs tv n T i d (.bool q) (goF q (T.drop i))) := by
  have his := isOp_any w B cs n i d tv T l q h hq
  have HIS := Lib.hid his
  have HH := Lib.hid h
  clear his h
  cases q with
  | false =>
    clear hq
    go_enter Tryd.func39, Tryd.ntmps39
    go_wp2_with fail
    refine HIS.out.mono ?_
    rintro e w1 ⟨rfl, hk⟩
    have HK := Lib.hid hk
    clear hk
    go_wp2_with fail
    go_ret
    exact ⟨rfl, i, Nat.le_refl _, rfl, HH.out.keep0 HK.out, HK.out.mono (fun _ _ h => h.elim)⟩
  | true =>
    have HP := Lib.hid (op_pos hq)
    clear hq
    go_enter Tryd.func39, Tryd.ntmps39
    go_wp2_with fail
    refine HIS.out.mono ?_
    rintro e w1 ⟨rfl, hk⟩
    have HH1 := Lib.hid (HH.out.keep0 hk)
    have HK := Lib.hid hk
    clear hk
    obtain ⟨c0, c1, c2, f1, f2⟩ := HH1.out.cells
    have hI := HH1.out.i
    have hT := HH1.out.sm.1
    have p0 : (i : Int) ≤ 20000 := by omega
    have p1 : (0 : Int) ≤ (i : Int) := by omega
    go_wp2_with fail
    go_ret
    obtain ⟨h2, k2⟩ := HH1.out.next HP.out
    exact ⟨rfl, i + 1, Nat.le_succ _, (drop_tail T i).symm, h2, (HK.out.mono (fun _ _ h => h.elim)).trans k2 (fun _ _ h => h)⟩

set_option maxRecDepth 100000 in
set_option maxHeartbeats 4000000 in
theorem plain_any (w : World) (D : Nat → Prop) (n : Nat) (tk : Tk) (a : Option Addr) (c : Nat) (h : PtsAt w D n tk.word (.slice a tk.word.length c)) :
    Calls Tryd.prog 54 #[.agg #[.int .i64 (tk.kind : Nat), .string ⟨tk.text.toArray⟩, .slice a tk.word.length c]] w fun e w' => e = .returned (.string ⟨(plainT tk).toArray⟩) ∧ Keeps (fun _ => False) w w' := by
  obtain ⟨r, hr⟩ : ∃ r, r = plainT tk := ⟨_, rfl⟩
  rw [← hr]
  unfold plainT at hr
  by_cases k : tk.kind = 1
  · have t0 : ((tk.kind : Int) == 1) = true := by rw [beq_iff_eq]; omega
    rw [k, if_pos (by rfl)] at hr
    clear k
    cases hw : tk.word with
    | nil =>
      rw [hw] at hr
      dsimp only at hr
      subst hr
      clear h hw
      go_enter Tryd.func54, Tryd.ntmps54
      go_wp2_with fail
      go_ret
      exact ⟨rfl, (Keeps.refl _ _).alloc _⟩
    | cons p l =>
      rw [hw] at hr h
      cases l with
      | nil =>
        dsimp only at hr
        obtain ⟨g, o, xa, xl, xc, rfl, ⟨q0, q1, q2, q3, q4, q5⟩, hx, _, hg⟩ := h.at (Keeps.refl _ _) (i := 0) (Nat.succ_pos _)
        have q0' : w.cell? ⟨g, o, none⟩ = some (.int .i64 (p.kind : Nat)) := q0
        have q1' : w.cell? ⟨g, o + 1, none⟩ = some (.string ⟨p.text.toArray⟩) := q1
        have hc6 := cells_part
        clear q0 q1 q2 q3 q4 q5 hx hw h
        by_cases k2 : p.kind = 1
        · have t1 : ((p.kind : Int) == 1) = true := by rw [beq_iff_eq]; omega
          rw [k2, if_pos (by rfl)] at hr
          clear k2
          subst hr
          show Calls _ _ #[.agg #[.int .i64 (tk.kind : Nat), .string ⟨tk.text.toArray⟩, .slice (some ⟨g, o, none⟩) 1 c]] w _
          go_enter Tryd.func54, Tryd.ntmps54
          go_wp2_with fail
          go_ret
          exact ⟨rfl, (Keeps.refl _ _).alloc _⟩
        · have t1 : ((p.kind : Int) == 1) = false := by rw [beq_eq_false_iff_ne]; omega
          rw [if_neg (by simpa using k2)] at hr
          clear k2
          subst hr
          show Calls _ _ #[.agg #[.int .i64 (tk.kind : Nat), .string ⟨tk.text.toArray⟩, .slice (some ⟨g, o, none⟩) 1 c]] w _
          go_enter Tryd.func54, Tryd.ntmps54
          go_wp2_with fail
          go_ret
          exact ⟨rfl, (Keeps.refl _ _).alloc _⟩
      | cons p2 l2 =>
        dsimp only at hr
        subst hr
        obtain ⟨L, hL⟩ : ∃ L, L = (p :: p2 :: l2).length := ⟨_, rfl⟩
        have t1 : ((L : Int) == 1) = false := by rw [beq_eq_false_iff_ne, hL]; simp only [List.length_cons]; omega
        rw [← hL]
        clear h hL hw
        go_enter Tryd.func54, Tryd.ntmps54
        go_wp2_with fail
        go_ret
        exact ⟨rfl, (Keeps.refl _ _).alloc _⟩
  · have t0 : ((tk.kind : Int) == 1) = false := by rw [beq_eq_false_iff_ne]; omega
    rw [if_neg (by simpa using k)] at hr
    subst hr
    clear h k
    go_enter Tryd.func54, Tryd.ntmps54
    go_wp2_with fail
    go_ret
    exact ⟨rfl, (Keeps.refl _ _).alloc _⟩

set_option maxRecDepth 100000 in
set_option maxHeartbeats 4000000 in
theorem is_any (w : World) (B cs n i d : Nat) (tv : Value) (T : List Tk) (l : Bs) (q : Bool) (h : RS w B cs tv n T i d) (hl : l ≠ []) (hq : isWF l (T.drop i) = q) :
    Calls Tryd.prog 63 #[.pointer (some ⟨cs, 0, none⟩), .string ⟨l.toArray⟩] w (MovePost w B cs tv n T i d (.bool q) (goF q (T.drop i))) := by
  have hat := at_tok w B cs n i d tv T h
  have hq0 := hq
  unfold isWF at hq
  obtain ⟨tk, htk⟩ : ∃ tk, tk = atF (T.drop i) := ⟨_, rfl⟩
  rw [← htk] at hq hat
  obtain ⟨pt, hpt⟩ : ∃ pt, pt = plainT tk := ⟨_, rfl⟩
  rw [← hpt] at hq
  have HAT := Lib.hid hat
  have HH := Lib.hid h
  have HPT := Lib.hid hpt
  clear hat h htk hpt
  cases q with
  | false =>
    clear hl hq0
    go_enter Tryd.func63, Tryd.ntmps63
    go_wp2_with fail
    refine HAT.out.mono ?_
    rintro e w1 ⟨a, c, rfl, hp, hk⟩
    have HK := Lib.hid hk
    have HPP := Lib.hid hp
    clear hk hp
    go_wp2_with fail
    refine (plain_any _ _ _ _ _ _ HPP.out).mono ?_
    rintro e w2 ⟨rfl, hk⟩
    rw [← HPT.out]
    have HK2 := Lib.hid (HK.out.trans hk (fun _ _ h => h))
    clear hk
    go_wp2_with fail
    go_ret
    exact ⟨rfl, i, Nat.le_refl _, rfl, HH.out.keep0 HK2.out, HK2.out.mono (fun _ _ h => h.elim)⟩
  | true =>
    have HP := Lib.hid (isW_pos hl hq0)
    clear hl hq0
    go_enter Tryd.func63, Tryd.ntmps63
    go_wp2_with fail
    refine HAT.out.mono ?_
    rintro e w1 ⟨a, c, rfl, hp, hk⟩
    have HK := Lib.hid hk
    have HPP := Lib.hid hp
    clear hk hp
    go_wp2_with fail
    refine (plain_any _ _ _ _ _ _ HPP.out).mono ?_
    rintro e w2 ⟨rfl, hk⟩
    rw [← HPT.out]
    have HK2 := Lib.hid (HK.out.trans hk (fun _ _ h => h))
    have HH2 := Lib.hid (HH.out.keep0 HK2.out)
    clear hk
    obtain ⟨c0, c1, c2, f1, f2⟩ := HH2.out.cells
    have hI := HH2.out.i
    have hT := HH2.out.sm.1
    have p0 : (i : Int) ≤ 20000 := by omega
    have p1 : (0 : Int) ≤ (i : Int) := by omega
    go_wp2_with fail
    go_ret
    obtain ⟨h2, k2⟩ := HH2.out.next HP.out
    exact ⟨rfl, i + 1, Nat.le_succ _, (drop_tail T i).symm, h2, (HK2.out.mono (fun _ _ h => h.elim)).trans k2 (fun _ _ h => h)⟩
theorem lines_cons (t : Tk) (r : List Tk) : linesF (t :: r) = if t.kind == 2 && t.text == [10] then linesF r else t :: r := by
  rw [linesF]
theorem lines_yes {ts : List Tk} (h : isOpF [10] ts = true) : linesF ts = linesF ts.tail := by
  cases ts with
  | nil => rfl
  | cons t r => rw [lines_cons, if_pos (show (t.kind == 2 && t.text == [10]) = true from h)]; rfl
theorem lines_no {ts : List Tk} (h : isOpF [10] ts = false) : linesF ts = ts := by
  cases ts with
  | nil => rfl
  | cons t r => rw [lines_cons, if_neg (show ¬ (t.kind == 2 && t.text == [10]) = true from fun e => by have e2 : isOpF [10] (t :: r) = true := e; rw [h] at e2; cases e2)]

set_option maxRecDepth 100000 in
set_option maxHeartbeats 4000000 in
theorem lines_any (w : World) (B cs n i d : Nat) (tv : Value) (T : List Tk) (h : RS w B cs tv n T i d) :
    Calls Tryd.prog 27 #[.pointer (some ⟨cs, 0, none⟩)] w (MovePost w B cs tv n T i d (.tuple #[]) (linesF (T.drop i))) := by
  go_enter Tryd.func27, Tryd.ntmps27
  go_wp2_with fail
  go_loopg [] (T.length - i) (fun k wr => ∃ I : Nat, k = T.length - I ∧ i ≤ I ∧ RS wr B cs tv n T I d ∧ Keeps (fun b => b = cs) w wr ∧ linesF (T.drop I) = linesF (T.drop i))
  case atStart => exact ⟨i, rfl, Nat.le_refl _, h, Keeps.refl _ _, rfl⟩
  case round =>
    obtain ⟨I, hgk, hiI, hrs, hkp, hl⟩ := hrel
    have HGK := Lib.hid hgk
    have HRS := Lib.hid hrs
    have HKP := Lib.hid hkp
    have HL := Lib.hid hl
    clear hgk hrs hkp hl h
    cases hq : isOpF [10] (T.drop I) with
    | true =>
      have hop := opP_any wr B cs n I d tv T [10] true HRS.out hq
      have HOP := Lib.hid hop
      have hpos := toks_pos (op_pos hq)
      have HL2 := Lib.hid ((lines_yes hq).symm.trans HL.out)
      clear hop hq
      go_wp2_with fail
      refine HOP.out.mono ?_
      rintro e w1 ⟨rfl, j, hj, hr, hrs, hk⟩
      rw [show goF true (T.drop I) = (T.drop I).tail from rfl, drop_tail] at hr
      have hjl : I + 1 ≤ j := by
        have := congrArg List.length hr
        rw [List.length_drop, List.length_drop] at this
        omega
      have HR := Lib.hid hr
      have HS := Lib.hid hrs
      have HK := Lib.hid (HKP.out.trans hk (fun _ _ h => h))
      clear hr hrs hk
      go_wp2_with fail
      go_roundg (T.length - j)
      case measure => have := HGK.out; omega
      case rel => exact ⟨j, rfl, by omega, HS.out, HK.out, by rw [HR.out, ← drop_tail]; exact HL2.out⟩
    | false =>
      have hop := opP_any wr B cs n I d tv T [10] false HRS.out hq
      have HOP := Lib.hid hop
      have HL2 := Lib.hid ((lines_no hq).symm.trans HL.out)
      clear hop hq
      go_wp2_with fail
      refine HOP.out.mono ?_
      rintro e w1 ⟨rfl, j, hj, hr, hrs, hk⟩
      have HR := Lib.hid hr
      have HS := Lib.hid hrs
      have HK := Lib.hid (HKP.out.trans hk (fun _ _ h => h))
      clear hr hrs hk
      go_wp2_with fail
      go_end0
      exact ⟨rfl, j, by omega, HR.out.trans HL2.out, HS.out, HK.out⟩
end Go.Proofs.YtcahifkiiabioaaDoor
namespace Go.Proofs.YtcahifkiiabioaaDoor
open Go.RowKit
set_option linter.unusedVariables false

theorem contains_map (L : List Bs) (l : Bs) : Lib.containsS (L.map fun l => (⟨l.toArray⟩ : ByteArray)) ⟨l.toArray⟩ = L.contains l := by
  rw [Bool.eq_iff_iff, Lib.containsS_iff, List.contains_iff_mem, List.mem_map]
  constructor
  · rintro ⟨a, ha, e⟩
    have : a = l := by
      have h := congrArg (fun b : ByteArray => b.data.toList) e
      simpa using h
    exact this ▸ ha
  · intro h
    exact ⟨l, h, rfl⟩
/-- A slice of new strings. -/
theorem strs_at (w : World) (L : List Bs) (t : TypeId) : ∀ j, j < (L.map fun l => (⟨l.toArray⟩ : ByteArray)).length → (w.alloc (.cells (L.map fun l => Value.string ⟨l.toArray⟩).toArray t)).cell? ⟨w.heap.size, 0 + j, none⟩ = some (.string ((L.map fun l => (⟨l.toArray⟩ : ByteArray)).getD j ByteArray.empty)) := by
  intro j hj
  have hb : (w.alloc (.cells (L.map fun l => Value.string ⟨l.toArray⟩).toArray t)).heap[w.heap.size]? = some (.cells (L.map fun l => Value.string ⟨l.toArray⟩).toArray t) := heap_alloc_new w _
  rw [List.length_map] at hj
  rw [cell_of_row _ _ (0 + j) _ _ _ hb, Nat.zero_add]
  simp [List.getD_eq_getElem?_getD, hj]
theorem fields_one : Lib.fields [105, 102, 32, 116, 104, 101, 110, 32, 101, 108, 105, 102, 32, 101, 108, 115, 101, 32, 102, 105, 32, 119, 104, 105, 108, 101, 32, 117, 110, 116, 105, 108, 32, 100, 111, 32, 100, 111, 110, 101, 32, 102, 111, 114, 32, 105, 110, 32, 99, 97, 115, 101, 32, 101, 115, 97, 99, 32, 123, 32, 125, 32, 33] = reservedL := by kernel_rfl
theorem fields_two : Lib.fields [105, 102, 32, 119, 104, 105, 108, 101, 32, 117, 110, 116, 105, 108, 32, 102, 111, 114, 32, 99, 97, 115, 101, 32, 123] = startsL := by kernel_rfl
theorem fields_three : Lib.fields [60, 32, 62, 32, 62, 62, 32, 50, 62, 32, 50, 62, 62] = redirL := by kernel_rfl
theorem ascii_all {s : ByteArray} (h : s.data.toList.all (fun b => decide (b.toNat < 128)) = true) (j : Nat) (b : UInt8) (hb : s.data.toList[j]? = some b) : b.toNat < 128 := by
  have := List.all_eq_true.1 h b (List.mem_of_getElem? hb)
  simpa using this
/-- A list of words out of a text. -/
def FieldsPost (w : World) (L : List Bs) (e : Ending) (w' : World) : Prop :=
  ∃ n, n = L.length ∧ e = .returned (.slice (some ⟨w.heap.size, 0, none⟩) n n) ∧ Keeps (fun _ => False) w w' ∧ ∀ (l : Bs) (W : World) , Keeps (fun _ => False) w' W → Calls Tryd.prog 66 #[.slice (some ⟨w.heap.size, 0, none⟩) n n, .string ⟨l.toArray⟩] W (BoolPost W (L.contains l))
theorem fields_any (s : ByteArray) (L : List Bs) (w : World) (B : Nat) (hs : s.size < 4294967281) (ha : s.data.toList.all (fun b => decide (b.toNat < 128)) = true) (hev : Ev w B) (hf : Lib.fields s.data.toList = L) (hL : L.length ≤ 100) :
    Calls Tryd.prog 67 #[.string s] w (FieldsPost w L) := by
  refine (Tryd.strings_Fields s w hs (fun j b hb => ascii_all ha j b hb) hev.tab).mono ?_
  rintro e w' ⟨rfl, hw'⟩
  rw [hf] at hw' ⊢
  refine ⟨L.length, rfl, rfl, by rw [hw']; exact (Keeps.refl _ _).alloc _, fun l W hk => ?_⟩
  have hc := Tryd.slices_Contains_string w.heap.size 0 L.length L.length (L.map fun l => (⟨l.toArray⟩ : ByteArray)) ⟨l.toArray⟩ W (by simp) (by omega) (fun j hj => by
    rw [← strs_at w L 9 j hj, ← hw']
    exact World.cell?_of_block (hk.block w.heap.size (by rw [hw']; simp) (fun h => h)))
  rw [show (L.map fun l => (⟨l.toArray⟩ : ByteArray)).take L.length = L.map fun l => (⟨l.toArray⟩ : ByteArray) from List.take_of_length_le (by simp), contains_map] at hc
  refine hc.mono ?_
  rintro e w2 ⟨rfl, hw2⟩
  exact ⟨rfl, by rw [hw2]; exact Keeps.refl _ _⟩

set_option maxRecDepth 100000 in
set_option maxHeartbeats 4000000 in
theorem reserved_any (l : Bs) (w : World) (B : Nat) (hev : Ev w B) :
    Calls Tryd.prog 65 #[.string ⟨l.toArray⟩] w (BoolPost w (reservedL.contains l)) := by
  obtain ⟨q, hq⟩ : ∃ q, q = reservedL.contains l := ⟨_, rfl⟩
  rw [← hq]
  have HQ := Lib.hid hq
  have HEV := Lib.hid hev
  clear hq hev
  go_enter Tryd.func65, Tryd.ntmps65
  go_wp2_with fail
  refine (fields_any _ _ _ B (by decide) (by decide) HEV.out fields_one (by decide)).mono ?_
  rintro e w1 ⟨n, hn, rfl, hk, hc⟩
  have HK := Lib.hid hk
  have HC := Lib.hid hc
  clear hk hc hn
  go_wp2_with fail
  refine (HC.out l _ (Keeps.refl _ _)).mono ?_
  rintro e w2 ⟨rfl, hk⟩
  rw [← HQ.out]
  have HK2 := Lib.hid (HK.out.trans hk (fun _ _ h => h))
  clear hk
  go_wp2_with fail
  go_ret
  exact ⟨rfl, HK2.out⟩

set_option maxRecDepth 100000 in
set_option maxHeartbeats 4000000 in
theorem ends_any (w : World) (B cs n i d : Nat) (tv : Value) (T : List Tk) (q : Bool) (h : RS w B cs tv n T i d) (hq : (endsF (T.drop i)).1 = q) :
    Calls Tryd.prog 41 #[.pointer (some ⟨cs, 0, none⟩)] w (MovePost w B cs tv n T i d (.bool q) (endsF (T.drop i)).2) := by
  obtain ⟨r, hr⟩ : ∃ r, r = (endsF (T.drop i)).2 := ⟨_, rfl⟩
  rw [← hr]
  unfold endsF at hq hr
  cases q1 : isOpF [59] (T.drop i) with
  | true =>
    rw [q1, Bool.true_or, if_pos rfl] at hq hr
    obtain rfl : true = q := hq
    have HO := Lib.hid (opP_any w B cs n i d tv T [59] true h q1)
    have HR := Lib.hid hr
    clear hr q1 h
    go_enter Tryd.func41, Tryd.ntmps41
    go_wp2_with fail
    refine HO.out.mono ?_
    rintro e w1 ⟨rfl, j, hj, ht, hrs, hk⟩
    have HS := Lib.hid hrs
    have HK := Lib.hid hk
    have HT := Lib.hid ht
    clear hrs hk ht
    go_wp2_with fail
    refine (lines_any _ _ _ _ _ _ _ _ HS.out).mono ?_
    rintro e w2 ⟨rfl, j2, hj2, ht, hrs, hk⟩
    have HS2 := Lib.hid hrs
    have HK2 := Lib.hid (HK.out.trans hk (fun _ _ h => h))
    have HT2 := Lib.hid ht
    clear hrs hk ht
    go_wp2_with fail
    go_ret
    exact ⟨rfl, j2, by omega, by rw [HT2.out, HT.out, HR.out]; rfl, HS2.out, HK2.out⟩
  | false =>
  have HO := Lib.hid (opP_any w B cs n i d tv T [59] false h q1)
  cases q2 : isOpF [10] (T.drop i) with
  | true =>
    rw [q1, q2, Bool.false_or, if_pos rfl] at hq hr
    obtain rfl : true = q := hq
    have HR := Lib.hid hr
    have HQ2 := Lib.hid q2
    clear hr q1 q2 h
    go_enter Tryd.func41, Tryd.ntmps41
    go_wp2_with fail
    refine HO.out.mono ?_
    rintro e w1 ⟨rfl, j, hj, ht, hrs, hk⟩
    have HS := Lib.hid hrs
    have HK := Lib.hid hk
    have HT := Lib.hid (show T.drop j = T.drop i from ht)
    clear hrs hk ht
    go_wp2_with fail
    refine (opP_any _ _ _ _ _ _ _ _ [10] true HS.out (by rw [HT.out]; exact HQ2.out)).mono ?_
    rintro e w1 ⟨rfl, j1, hj1, ht, hrs, hk⟩
    have HS1 := Lib.hid hrs
    have HK1 := Lib.hid (HK.out.trans hk (fun _ _ h => h))
    have HT1 := Lib.hid (show T.drop j1 = (T.drop j).tail from ht)
    clear hrs hk ht
    go_wp2_with fail
    refine (lines_any _ _ _ _ _ _ _ _ HS1.out).mono ?_
    rintro e w2 ⟨rfl, j2, hj2, ht, hrs, hk⟩
    have HS2 := Lib.hid hrs
    have HK2 := Lib.hid (HK1.out.trans hk (fun _ _ h => h))
    have HT2 := Lib.hid ht
    clear hrs hk ht
    go_wp2_with fail
    go_ret
    exact ⟨rfl, j2, by omega, by rw [HT2.out, HT1.out, HT.out, HR.out], HS2.out, HK2.out⟩
  | false =>
    rw [q1, q2, Bool.false_or, if_neg (by simp)] at hq hr
    obtain rfl : false = q := hq
    have HR := Lib.hid hr
    have HQ2 := Lib.hid q2
    clear hr q1 q2 h
    go_enter Tryd.func41, Tryd.ntmps41
    go_wp2_with fail
    refine HO.out.mono ?_
    rintro e w1 ⟨rfl, j, hj, ht, hrs, hk⟩
    have HS := Lib.hid hrs
    have HK := Lib.hid hk
    have HT := Lib.hid (show T.drop j = T.drop i from ht)
    clear hrs hk ht
    go_wp2_with fail
    refine (opP_any _ _ _ _ _ _ _ _ [10] false HS.out (by rw [HT.out]; exact HQ2.out)).mono ?_
    rintro e w1 ⟨rfl, j1, hj1, ht, hrs, hk⟩
    have HS1 := Lib.hid hrs
    have HK1 := Lib.hid (HK.out.trans hk (fun _ _ h => h))
    have HT1 := Lib.hid (show T.drop j1 = T.drop j from ht)
    clear hrs hk ht
    go_wp2_with fail
    go_ret
    exact ⟨rfl, j1, by omega, by rw [HT1.out, HT.out, HR.out], HS1.out, HK1.out⟩

theorem RecAt.three' {w : World} {b : Nat} {a0 a1 a2 : Value} (h : RecAt w b [a0, a1, a2]) : (w.cell? ⟨b, 0, none⟩ = some a0 ∧ w.cell? ⟨b, 1, none⟩ = some a1 ∧ w.cell? ⟨b, 2, none⟩ = some a2) ∧ b < w.heap.size := ⟨h.three.1, h.lt⟩
theorem new_rec3 (w : World) (a0 a1 a2 : Value) (t : TypeId) : RecAt (w.alloc (.cells #[a0, a1, a2] t)) w.heap.size [a0, a1, a2] := ⟨t, heap_alloc_new w _⟩
set_option maxRecDepth 100000 in
set_option maxHeartbeats 4000000 in
theorem redirects_any (w : World) (B cs n i d : Nat) (tv : Value) (T : List Tk) (q : Bool) (h : RS w B cs tv n T i d) (hq : redirB (T.drop i) = q) :
    Calls Tryd.prog 68 #[.pointer (some ⟨cs, 0, none⟩)] w (BoolPost w q) := by
  unfold redirB at hq
  have hat := at_tok w B cs n i d tv T h
  obtain ⟨tk, htk⟩ : ∃ tk, tk = atF (T.drop i) := ⟨_, rfl⟩
  rw [← htk] at hq hat
  have HAT := Lib.hid hat
  have HH := Lib.hid h
  clear hat h htk
  by_cases k : tk.kind = 2
  · have t0 : ((tk.kind : Int) == 2) = true := by rw [beq_iff_eq]; omega
    have hq2 : redirL.contains tk.text = q := by rw [← hq, k]; simp
    have HQ := Lib.hid hq2
    clear hq k hq2
    go_enter Tryd.func68, Tryd.ntmps68
    go_wp2_with fail
    refine HAT.out.mono ?_
    rintro e w1 ⟨a, c, rfl, hp, hk⟩
    have hks := hk.size
    have hev := HH.out.ev.keep hk (fun _ _ h => h)
    obtain ⟨W, hW⟩ : ∃ W, W = w1.alloc (.cells #[.int .i64 (tk.kind : Nat), .string ⟨tk.text.toArray⟩, .slice a tk.word.length c] 65) := ⟨_, rfl⟩
    have hkW : Keeps (fun _ => False) w1 W := by rw [hW]; exact (Keeps.refl _ _).alloc _
    have hR : RecAt W w1.heap.size [.int .i64 (tk.kind : Nat), .string ⟨tk.text.toArray⟩, .slice a tk.word.length c] := by rw [hW]; exact new_rec3 _ _ _ _ _
    obtain ⟨⟨c0, c1, c2⟩, hlt⟩ := hR.three'
    have HEV := Lib.hid (hev.keep hkW (fun _ _ h => h))
    have HR := Lib.hid hR
    have HK := Lib.hid (hk.trans hkW (fun _ _ h => h))
    obtain ⟨tl, htl⟩ : ∃ tl, tl = tk.word.length := ⟨_, rfl⟩
    rw [← htl] at hW c2 ⊢
    have HW := Lib.hid hW
    clear hp hk hks hev hkW hR htl hW
    go_wp2_with fail
    rw [← HW.out]
    go_region_with (first
      | (go_at_call 67
         refine (fields_any _ redirL _ B (by decide) (by decide) ?_ fields_three (by decide)).mono ?_
         exact HEV.out.keep (S := fun _ => False) (Keeps.refl _ _).drew (fun _ _ h => h)
         rintro e w2 ⟨n2, hn2, rfl, hk2, hc2⟩
         have hkk : Keeps (fun _ => False) W w2 := (Keeps.refl _ _).drew.trans hk2 (fun _ _ h => h)
         obtain ⟨⟨d0, d1, d2⟩, hlt2⟩ := (HR.out.keep hkk (fun h => h)).three'
         have HKK := Lib.hid hkk
         have HC2 := Lib.hid hc2
         clear hkk hk2 hc2 hn2)
      | (go_at_call 66
         refine (HC2.out tk.text _ ?_).mono ?_
         exact Keeps.refl _ _
         rintro e w3 ⟨rfl, hk3⟩
         rw [HQ.out]
         have HK3 := Lib.hid ((HK.out.trans HKK.out (fun _ _ h => h)).trans hk3 (fun _ _ h => h))
         clear hk3))
    all_goals
      go_wp2_with fail
      go_ret
      exact ⟨rfl, HK3.out⟩
  · have t0 : ((tk.kind : Int) == 2) = false := by rw [beq_eq_false_iff_ne]; omega
    have hq2 : q = false := by rw [← hq, beq_eq_false_iff_ne.2 k]; rfl
    subst hq2
    clear hq k
    go_enter Tryd.func68, Tryd.ntmps68
    go_wp2_with fail
    refine HAT.out.mono ?_
    rintro e w1 ⟨a, c, rfl, hp, hk⟩
    have HK := Lib.hid hk
    clear hp hk
    go_wp2_with fail
    go_quiet (fail)
    go_wp2_with fail
    go_ret
    exact ⟨rfl, (HK.out.alloc _).drewN _⟩
end Go.Proofs.YtcahifkiiabioaaDoor
namespace Go.Proofs.YtcahifkiiabioaaDoor
open Go.RowKit
set_option linter.unusedVariables false

set_option maxRecDepth 100000 in
set_option maxHeartbeats 4000000 in
theorem begins_any (w : World) (B cs n i d : Nat) (tv : Value) (T : List Tk) (q : Bool) (h : RS w B cs tv n T i d) (hq : beginsF (T.drop i) = q) :
    Calls Tryd.prog 53 #[.pointer (some ⟨cs, 0, none⟩)] w (BoolPost w q) := by
  have hat := at_tok w B cs n i d tv T h
  have hop := fun w q h hq => isOp_any w B cs n i d tv T [40] q h hq
  have hre := fun w q h hq => redirects_any w B cs n i d tv T q h hq
  unfold beginsF at hq
  obtain ⟨q1, hq1⟩ : ∃ q, isOpF [40] (T.drop i) = q := ⟨_, rfl⟩
  obtain ⟨q2, hq2⟩ : ∃ q, redirB (T.drop i) = q := ⟨_, rfl⟩
  rw [hq1, hq2] at hq
  have HOP := Lib.hid (fun w h => hop w q1 h hq1)
  have HRE := Lib.hid (fun w h => hre w q2 h hq2)
  obtain ⟨tk, htk⟩ : ∃ tk, tk = atF (T.drop i) := ⟨_, rfl⟩
  rw [← htk] at hq hat
  obtain ⟨pt, hpt⟩ : ∃ pt, pt = plainT tk := ⟨_, rfl⟩
  rw [← hpt] at hq
  have HAT := Lib.hid hat
  have HH := Lib.hid h
  have HPT := Lib.hid hpt
  clear hat h htk hop hre hq1 hq2 hpt
  by_cases k : tk.kind = 1
  · have t0 : ((tk.kind : Int) == 1) = true := by rw [beq_iff_eq]; omega
    rw [k, if_pos (by rfl)] at hq
    clear k
    cases q3 : reservedL.contains pt with
    | true =>
      rw [q3, if_pos rfl] at hq
      have HQ := Lib.hid hq
      have HQ3 := Lib.hid q3
      clear hq q3
      go_enter Tryd.func53, Tryd.ntmps53
      go_wp2_with fail
      refine HAT.out.mono ?_
      rintro e w1 ⟨a, c, rfl, hp, hk⟩
      have HK := Lib.hid hk
      have HP := Lib.hid hp
      clear hp hk
      go_wp2_with fail
      refine (plain_any _ _ _ _ _ _ (HP.out.keep ((Keeps.refl (fun _ => False) w1).alloc _) (fun _ _ _ h => h))).mono ?_
      rintro e w2 ⟨rfl, hk⟩
      rw [← HPT.out]
      have HK2 := Lib.hid hk
      have hR := (new_rec3 w1 (.int .i64 (tk.kind : Nat)) (.string ⟨tk.text.toArray⟩) (.slice a tk.word.length c) 65).keep hk (fun h => h)
      obtain ⟨⟨c0, c1, c2⟩, hlt⟩ := hR.three'
      have HEV := Lib.hid (HH.out.ev.keep ((HK.out.alloc _).trans hk (fun _ _ h => h)) (fun _ _ h => h))
      have HK3 := Lib.hid ((HK.out.alloc _).trans hk (fun _ _ h => h))
      clear hk hR
      go_wp2_with fail
      refine (reserved_any pt _ B HEV.out).mono ?_
      rintro e w3 ⟨rfl, hk⟩
      rw [HQ3.out]
      have HK4 := Lib.hid (HK3.out.trans hk (fun _ _ h => h))
      have HEV2 := Lib.hid (HEV.out.keep hk (fun _ _ h => h))
      clear hk
      go_wp2_with fail
      refine (fields_any _ startsL _ B (by decide) (by decide) HEV2.out fields_two (by decide)).mono ?_
      rintro e w4 ⟨n2, hn, rfl, hk, hc⟩
      have HK5 := Lib.hid (HK4.out.trans hk (fun _ _ h => h))
      have HC := Lib.hid hc
      clear hk hc hn
      go_wp2_with fail
      refine (HC.out pt _ (Keeps.refl _ _)).mono ?_
      rintro e w5 ⟨rfl, hk⟩
      rw [HQ.out]
      have HK6 := Lib.hid (HK5.out.trans hk (fun _ _ h => h))
      clear hk
      go_wp2_with fail
      go_ret
      exact ⟨rfl, HK6.out⟩
    | false =>
      rw [q3, if_neg (by simp)] at hq
      obtain rfl : true = q := hq
      have HQ3 := Lib.hid q3
      clear q3
      go_enter Tryd.func53, Tryd.ntmps53
      go_wp2_with fail
      refine HAT.out.mono ?_
      rintro e w1 ⟨a, c, rfl, hp, hk⟩
      have HK := Lib.hid hk
      have HP := Lib.hid hp
      clear hp hk
      go_wp2_with fail
      refine (plain_any _ _ _ _ _ _ (HP.out.keep ((Keeps.refl (fun _ => False) w1).alloc _) (fun _ _ _ h => h))).mono ?_
      rintro e w2 ⟨rfl, hk⟩
      rw [← HPT.out]
      have HK2 := Lib.hid hk
      have hR := (new_rec3 w1 (.int .i64 (tk.kind : Nat)) (.string ⟨tk.text.toArray⟩) (.slice a tk.word.length c) 65).keep hk (fun h => h)
      obtain ⟨⟨c0, c1, c2⟩, hlt⟩ := hR.three'
      have HR := Lib.hid hR
      have HEV := Lib.hid (HH.out.ev.keep ((HK.out.alloc _).trans hk (fun _ _ h => h)) (fun _ _ h => h))
      have HK3 := Lib.hid ((HK.out.alloc _).trans hk (fun _ _ h => h))
      clear hk hR
      go_wp2_with fail
      refine (reserved_any pt _ B HEV.out).mono ?_
      rintro e w3 ⟨rfl, hk⟩
      rw [HQ3.out]
      have HK4 := Lib.hid (HK3.out.trans hk (fun _ _ h => h))
      obtain ⟨⟨d0, d1, d2⟩, hlt2⟩ := (HR.out.keep hk (fun h => h)).three'
      clear hk
      go_wp2_with fail
      go_ret
      exact ⟨rfl, HK4.out⟩
  · have t0 : ((tk.kind : Int) == 1) = false := by rw [beq_eq_false_iff_ne]; omega
    rw [if_neg (by simpa using k)] at hq
    clear k
    cases q1 with
    | true =>
      obtain rfl : true = q := hq
      go_enter Tryd.func53, Tryd.ntmps53
      go_wp2_with fail
      refine HAT.out.mono ?_
      rintro e w1 ⟨a, c, rfl, hp, hk⟩
      have HK := Lib.hid hk
      have HP := Lib.hid hp
      clear hp hk
      go_wp2_with fail
      refine (plain_any _ _ _ _ _ _ (HP.out.keep ((Keeps.refl (fun _ => False) w1).alloc _) (fun _ _ _ h => h))).mono ?_
      rintro e w2 ⟨rfl, hk⟩
      have hR := (new_rec3 w1 (.int .i64 (tk.kind : Nat)) (.string ⟨tk.text.toArray⟩) (.slice a tk.word.length c) 65).keep hk (fun h => h)
      obtain ⟨⟨c0, c1, c2⟩, hlt⟩ := hR.three'
      have HK3 := Lib.hid ((HK.out.alloc _).trans hk (fun _ _ h => h))
      clear hk hR
      go_wp2_with fail
      refine (HOP.out _ (HH.out.keep0 HK3.out)).mono ?_
      rintro e w3 ⟨rfl, hk⟩
      have HK4 := Lib.hid (HK3.out.trans hk (fun _ _ h => h))
      clear hk
      go_wp2_with fail
      go_ret
      exact ⟨rfl, HK4.out⟩
    | false =>
      obtain rfl : q2 = q := by rw [← hq]; simp
      go_enter Tryd.func53, Tryd.ntmps53
      go_wp2_with fail
      refine HAT.out.mono ?_
      rintro e w1 ⟨a, c, rfl, hp, hk⟩
      have HK := Lib.hid hk
      have HP := Lib.hid hp
      clear hp hk
      go_wp2_with fail
      refine (plain_any _ _ _ _ _ _ (HP.out.keep ((Keeps.refl (fun _ => False) w1).alloc _) (fun _ _ _ h => h))).mono ?_
      rintro e w2 ⟨rfl, hk⟩
      have hR := (new_rec3 w1 (.int .i64 (tk.kind : Nat)) (.string ⟨tk.text.toArray⟩) (.slice a tk.word.length c) 65).keep hk (fun h => h)
      obtain ⟨⟨c0, c1, c2⟩, hlt⟩ := hR.three'
      have HK3 := Lib.hid ((HK.out.alloc _).trans hk (fun _ _ h => h))
      clear hk hR
      go_wp2_with fail
      refine (HOP.out _ (HH.out.keep0 HK3.out)).mono ?_
      rintro e w3 ⟨rfl, hk⟩
      have HK4 := Lib.hid (HK3.out.trans hk (fun _ _ h => h))
      clear hk
      go_wp2_with fail
      refine (HRE.out _ (HH.out.keep0 HK4.out)).mono ?_
      rintro e w4 ⟨rfl, hk⟩
      have HK5 := Lib.hid (HK4.out.trans hk (fun _ _ h => h))
      clear hk
      go_wp2_with fail
      go_ret
      exact ⟨rfl, HK5.out⟩

set_option maxRecDepth 100000 in
set_option maxHeartbeats 4000000 in
theorem more_any (w : World) (B cs n i d : Nat) (tv : Value) (T : List Tk) (q : Bool) (h : RS w B cs tv n T i d) (hq : moreF (T.drop i) = q) :
    Calls Tryd.prog 42 #[.pointer (some ⟨cs, 0, none⟩)] w (BoolPost w q) := by
  unfold moreF at hq
  obtain ⟨q1, hq1⟩ : ∃ q, beginsF (T.drop i) = q := ⟨_, rfl⟩
  rw [hq1] at hq
  have hbg := begins_any w B cs n i d tv T q1 h hq1
  have HB := Lib.hid hbg
  have hat := fun w h => at_tok w B cs n i d tv T h
  unfold isWF at hq
  obtain ⟨tk, htk⟩ : ∃ tk, tk = atF (T.drop i) := ⟨_, rfl⟩
  rw [← htk] at hq hat
  obtain ⟨pt, hpt⟩ : ∃ pt, pt = plainT tk := ⟨_, rfl⟩
  rw [← hpt] at hq
  have HAT := Lib.hid hat
  have HH := Lib.hid h
  have HPT := Lib.hid hpt
  clear hat h htk hbg hq1 hpt
  cases q1 with
  | true =>
    obtain rfl : true = q := hq
    go_enter Tryd.func42, Tryd.ntmps42
    go_wp2_with fail
    refine HB.out.mono ?_
    rintro e w1 ⟨rfl, hk⟩
    have HK := Lib.hid hk
    clear hk
    go_wp2_with fail
    go_ret
    exact ⟨rfl, HK.out⟩
  | false =>
    rw [Bool.false_or] at hq
    go_enter Tryd.func42, Tryd.ntmps42
    go_wp2_with fail
    refine HB.out.mono ?_
    rintro e w1 ⟨rfl, hk⟩
    have HK := Lib.hid hk
    clear hk
    go_wp2_with fail
    refine (HAT.out _ (HH.out.keep0 HK.out)).mono ?_
    rintro e w2 ⟨a, c, rfl, hp, hk⟩
    have HK2 := Lib.hid (HK.out.trans hk (fun _ _ h => h))
    have HP := Lib.hid hp
    clear hp hk
    go_wp2_with fail
    refine (plain_any _ _ _ _ _ _ HP.out).mono ?_
    rintro e w3 ⟨rfl, hk⟩
    rw [← HPT.out]
    have HK3 := Lib.hid (HK2.out.trans hk (fun _ _ h => h))
    clear hk
    go_wp2_with fail
    go_ret
    exact ⟨rfl, HK3.out⟩

set_option maxRecDepth 100000 in
set_option maxHeartbeats 4000000 in
theorem opens_any (w : World) (B cs n i d : Nat) (tv : Value) (T : List Tk) (q : Bool) (h : RS w B cs tv n T i d) (hq : opensF (T.drop i) = q) :
    Calls Tryd.prog 88 #[.pointer (some ⟨cs, 0, none⟩)] w (BoolPost w q) := by
  unfold opensF isOpF at hq
  rw [drop_tail] at hq
  obtain ⟨c0, c1, _, _, _⟩ := h.cells
  obtain ⟨ta, tc, rfl, ht1, ht2⟩ := h.shape
  have hlt := h.lt
  have hc3 := cells_token
  have hsz := h.sm.1
  have hi0 := h.i
  have ew : IntKind.i64.wrap ((i : Int) + 1) = (i : Int) + 1 := IntWalk.i64_in _ (by omega)
  rcases Nat.lt_or_ge (i + 1) T.length with hi | hi
  · obtain ⟨g, o, xa, xl, xc, rfl, ⟨q0, q1, q2⟩, hx, hg⟩ := h.toks.at (Keeps.refl _ _) hi
    rw [atF_in hi] at hq
    generalize T[i + 1] = x at *
    have p1 : (i : Int) + 1 < (T.length : Int) := by omega
    have p2 : (0 : Int) ≤ (i : Int) + 1 := by omega
    have p3 : ((i : Int) + 1).toNat = i + 1 := by omega
    unfold strV at q1
    obtain ⟨L, hL⟩ : ∃ L, L = T.length := ⟨_, rfl⟩
    obtain ⟨kd, hkd⟩ : ∃ kd, kd = x.kind := ⟨_, rfl⟩
    rw [← hkd] at q0 hq
    rw [← hL] at c0 p1 ht1 hsz hi0
    clear hL hkd hi h hx
    by_cases k : kd = 2
    · have t0 : ((kd : Int) == 2) = true := by rw [beq_iff_eq]; omega
      have hq2 : (x.text == [40]) = q := by rw [← hq, k]; simp
      clear hq k
      go_enter Tryd.func88, Tryd.ntmps88
      go_wp2_with fail
      go_quiet (fail)
      go_wp2_with fail
      go_ret
      exact ⟨rfl, (Keeps.refl _ _).drewN _⟩
    · have t0 : ((kd : Int) == 2) = false := by rw [beq_eq_false_iff_ne]; omega
      have hq2 : q = false := by rw [← hq, beq_eq_false_iff_ne.2 k]; rfl
      subst hq2
      clear hq k
      go_enter Tryd.func88, Tryd.ntmps88
      go_wp2_with fail
      go_quiet (fail)
      go_wp2_with fail
      go_ret
      exact ⟨rfl, (Keeps.refl _ _).drewN _⟩
  · rw [atF_end hi] at hq
    obtain rfl : false = q := hq
    have p1 : decide ((i : Int) + 1 < (T.length : Int)) = false := decide_eq_false (by omega)
    clear h
    go_enter Tryd.func88, Tryd.ntmps88
    go_wp2_with fail
    go_quiet (fail)
    go_wp2_with fail
    go_ret
    exact ⟨rfl, (Keeps.refl _ _).drewN _⟩

set_option maxRecDepth 100000 in
set_option maxHeartbeats 4000000 in
theorem vname_any (l : Bs) (w : World) (q : Bool) (hl : l.length ≤ 140737488351232) (hq : nameOkF l = q) :
    Calls Tryd.prog 87 #[.string ⟨l.toArray⟩] w (BoolPost w q) := by
  unfold nameOkF at hq
  have hrun := fun w => run_any ⟨l.toArray⟩ w (by rw [Lib.size_eq]; exact hl)
  obtain ⟨R, hR⟩ : ∃ R, R = runF l := ⟨_, rfl⟩
  rw [← hR] at hq
  have HRUN := Lib.hid hrun
  have HR := Lib.hid hR
  clear hrun hR
  cases l with
  | nil =>
    obtain rfl : false = q := hq
    go_enter Tryd.func87, Tryd.ntmps87
    go_wp2_with fail
    go_ret
    exact ⟨rfl, Keeps.refl _ _⟩
  | cons x t =>
    have t1 : (x :: t).isEmpty = false := rfl
    obtain ⟨l, hl2⟩ : ∃ l, l = x :: t := ⟨_, rfl⟩
    rw [← hl2] at hq t1 HRUN HR hl
    rw [← hl2]
    have t2 : (l == []) = false := by rw [hl2]; rfl
    have t3 : (l != []) = true := by rw [hl2]; rfl
    rw [t1] at hq
    clear hl2
    by_cases h1 : l.length ≤ 60
    · have p1 : (l.length : Int) ≤ 60 := by omega
      rw [decide_eq_true h1] at hq
      by_cases h2 : R = l.length
      · have p2 : ((R : Int) == (l.length : Int)) = true := by rw [beq_iff_eq]; omega
        obtain rfl : true = q := by rw [← hq, beq_iff_eq.2 h2]; rfl
        clear hq h2
        go_enter Tryd.func87, Tryd.ntmps87
        go_wp2_with fail
        refine (HRUN.out _).mono ?_
        rintro e w1 ⟨rfl, hw1⟩
        rw [show runF (⟨l.toArray⟩ : ByteArray).data.toList = R from HR.out.symm]
        subst hw1
        go_wp2_with fail
        go_ret
        exact ⟨rfl, Keeps.refl _ _⟩
      · have p2 : ((R : Int) == (l.length : Int)) = false := by rw [beq_eq_false_iff_ne]; omega
        obtain rfl : false = q := by rw [← hq, beq_eq_false_iff_ne.2 h2]; rfl
        clear hq h2
        go_enter Tryd.func87, Tryd.ntmps87
        go_wp2_with fail
        refine (HRUN.out _).mono ?_
        rintro e w1 ⟨rfl, hw1⟩
        rw [show runF (⟨l.toArray⟩ : ByteArray).data.toList = R from HR.out.symm]
        subst hw1
        go_wp2_with fail
        go_ret
        exact ⟨rfl, Keeps.refl _ _⟩
    · have p1 : ¬ (l.length : Int) ≤ 60 := by omega
      rw [decide_eq_false h1] at hq
      obtain rfl : false = q := hq
      go_enter Tryd.func87, Tryd.ntmps87
      go_wp2_with fail
      go_ret
      exact ⟨rfl, Keeps.refl _ _⟩
end Go.Proofs.YtcahifkiiabioaaDoor
namespace Go.Proofs.YtcahifkiiabioaaDoor
open Go.RowKit
set_option linter.unusedVariables false

theorem cellsL_set4 : ∀ {l : List Pt} {vs : List Value} {k : Nat} (hl : vs.length = l.length) (hk : k < l.length) (u : Value), (cellsL l vs).set (k * 6 + 4) u = cellsL l (vs.set k u)
  | p :: l, v :: vs, 0, hl, hk, u => by
    simp [cellsL, cellsP]
  | p :: l, v :: vs, k + 1, hl, hk, u => by
    have h := cellsL_set4 (l := l) (vs := vs) (k := k) (by simpa using hl) (by simpa using hk) u
    rw [List.set_cons_succ]
    simp only [cellsL]
    rw [List.set_append_right _ _ (by rw [cellsP_len]; omega), cellsP_len, show (k + 1) * 6 + 4 - 6 = k * 6 + 4 by omega, h]
theorem cells_one {l : List Pt} {vs : List Value} (hl : vs.length = l.length) (hs : ∀ i (h : i < l.length) (h' : i < vs.length), ∃ a n c, vs[i] = .slice a n c) : ∀ u ∈ cellsL l vs, u.oneCell' = true := by
  intro u hu
  obtain ⟨j, hj⟩ := List.mem_iff_getElem?.1 hu
  obtain ⟨i, r, hi, rfl, hu⟩ := cellsL_inv hl hj
  obtain ⟨a2, n2, c2, e2⟩ := hs i hi (by omega)
  have hm := List.mem_of_getElem? hu
  rw [e2] at hm
  simp only [cellsP, strV, List.mem_cons, List.not_mem_nil, or_false] at hm
  rcases hm with rfl | rfl | rfl | rfl | rfl | rfl <;> rfl
/-- A copy whose row is its own. -/
def CloneOwn (w : World) (n : Nat) (D : Nat → Prop) (l : List Pt) (e : Ending) (w' : World) : Prop :=
  ∃ (g cap : Nat) (vs : List Value), e = .returned (.slice (some ⟨g, 0, none⟩) l.length cap) ∧ vs.length = l.length ∧ w'.ownsRow w.heap.size 34 6 (.slice (some ⟨g, 0, none⟩) l.length cap) l.length (cellsL l vs) ∧
    (∀ i (h : i < l.length) (h' : i < vs.length), PtsAt w D n l[i].word vs[i]) ∧ Keeps (fun _ => False) w w'
theorem clone_own (D : Nat → Prop) (n : Nat) (l : List Pt) (v : Value) (w : World) (h : PtsAt w D (n + 1) l v) (hlen : l.length ≤ 1000000) (hl0 : 0 < l.length) :
    Calls Tryd.prog 101 #[v] w (CloneOwn w n D l) := by
  obtain ⟨a, c, rfl, hc1, hc2, H⟩ := h
  obtain ⟨g0, o0, _, ea, _⟩ := H 0 hl0
  subst ea
  have Hw : ∀ i (hi : i < l.length), ∃ wv, PtCells w g0 (o0 + i * 6) l[i] wv ∧ PtsAt w D n l[i].word wv := fun i hi => by
    obtain ⟨g, o, wv, e, _, _, hp, hq⟩ := H i hi
    obtain ⟨rfl, rfl⟩ : g0 = g ∧ o0 = o := by simpa using e
    exact ⟨wv, hp, hq⟩
  obtain ⟨vs, hl, hvs⟩ : ∃ vs : List Value, vs.length = l.length ∧ ∀ i (hi : i < l.length) (hi' : i < vs.length), PtCells w g0 (o0 + i * 6) l[i] vs[i] ∧ PtsAt w D n l[i].word vs[i] :=
    ⟨List.ofFn (fun i : Fin l.length => Classical.choose (Hw i.1 i.2)), by simp, fun i hi hi' => by
      have := Classical.choose_spec (Hw i hi)
      simpa using this⟩
  refine (clone_some D n l vs ⟨g0, o0, none⟩ c w hl hlen (fun j u hj => ?_) (cells_one hl fun i hi hi' => by
    obtain ⟨a2, c2, e2, _, _⟩ := (hvs i hi hi').2.shape
    exact ⟨_, _, _, e2⟩)).mono ?_
  · obtain ⟨i, r, hi, rfl, hu⟩ := cellsL_inv hl hj
    have := (hvs i hi (by omega)).1 r u hu
    rw [show o0 + i * 6 + r = o0 + (i * 6 + r) by omega] at this
    rw [Addr.add_lit]; exact this
  · rintro e w' ⟨v', rfl, hown, hk⟩
    obtain ⟨g, cap, rfl, _, _⟩ := hown.form hl0
    exact ⟨g, cap, vs, rfl, hl, hown, fun i hi hi' => (hvs i hi hi').2, hk⟩
/-- What clone leaves. -/
def ClonePost (w : World) (l : List Pt) (e : Ending) (w' : World) : Prop :=
  ∃ (a : Option Addr) (c m : Nat), e = .returned (.slice a l.length c) ∧ PtsAt w' (fun b => w.heap.size ≤ b) m l (.slice a l.length c) ∧ Keeps (fun _ => False) w w'
/-- Where its loop stands. -/
structure CloneAt (w wr : World) (D : Nat → Prop) (n : Nat) (l : List Pt) (g cap k m : Nat) (us : List Value) : Prop where
  len : us.length = l.length
  own : wr.ownsRow w.heap.size 34 6 (.slice (some ⟨g, 0, none⟩) l.length cap) l.length (cellsL l us)
  done : ∀ j (h : j < l.length) (h' : j < us.length), j < k → PtsAt wr (fun b => w.heap.size ≤ b ∧ b ≠ g) m l[j].word us[j]
  todo : ∀ j (h : j < l.length) (h' : j < us.length), k ≤ j → PtsAt w D n l[j].word us[j]
  kp : Keeps (fun _ => False) w wr
  low : w.heap.size ≤ g
theorem CloneAt.alloc {w wr : World} {D : Nat → Prop} {n : Nat} {l : List Pt} {g cap k m : Nat} {us : List Value} (h : CloneAt w wr D n l g cap k m us) (o : Obj) : CloneAt w (wr.alloc o) D n l g cap k m us :=
  ⟨h.len, h.own.alloc o, fun j hj hj' hk => (h.done j hj hj' hk).keep ((Keeps.refl (fun _ => False) wr).alloc o) (fun _ _ _ h => h), h.todo, h.kp.alloc o, h.low⟩
theorem CloneAt.next {w w1 w2 : World} {D : Nat → Prop} {n : Nat} {l : List Pt} {g cap k m m2 : Nat} {us : List Value} {u : Value} (h : CloneAt w w1 D n l g cap k m us) (hk : k < l.length) (h2 : Keeps (fun _ => False) w1 w2)
    (hu : PtsAt w2 (fun b => w1.heap.size ≤ b) m2 l[k].word u) : CloneAt w (w2.setCell ⟨g, k * 6 + 4, none⟩ u) D n l g cap (k + 1) (max m m2) (us.set k u) := by
  have hlt := (h.own.lt g rfl).2
  have hown2 : w2.ownsRow w.heap.size 34 6 (.slice (some ⟨g, 0, none⟩) l.length cap) l.length (cellsL l us) := by
    obtain ⟨h1, h3⟩ := h.own
    refine ⟨h1, ?_⟩
    rcases h3 with ⟨e, h0⟩ | ⟨g', cap', cur, e, hb, hg, rest⟩
    · exact .inl ⟨e, h0⟩
    · exact .inr ⟨g', cap', cur, e, hb, (h2.block g' (Array.getElem?_eq_some_iff.1 hg).1 (fun h => h)).trans hg, rest⟩
  have hk2 : Keeps (fun b => b = g) w2 (w2.setCell ⟨g, k * 6 + 4, none⟩ u) := (Keeps.refl _ _).setCell _ _ fun _ => rfl
  refine ⟨by rw [List.length_set]; exact h.len, ?_, fun j hj hj' hjk => ?_, fun j hj hj' hjk => ?_, (h.kp.trans h2 (fun _ _ h => h)).fresh hk2 (fun b e => by have := h.low; omega), h.low⟩
  · rw [← cellsL_set4 h.len hk]
    exact (hown2.stored _ _).1
  · by_cases e : j = k
    · subst e
      rw [List.getElem_set_self]
      refine (PtsAt.le ((hu.mono (D' := fun b => w.heap.size ≤ b ∧ b ≠ g) fun b _ hb => ⟨by have := h.kp.size; omega, by omega⟩).keep hk2 (fun b _ hb e => hb.2 e)) (by omega))
    · rw [List.getElem_set_ne (by omega)]
      exact (((h.done j hj (by rw [List.length_set] at hj'; exact hj') (by omega)).keep h2 (fun _ _ _ h => h)).keep hk2 (fun b _ hb e => hb.2 e)).le (by omega)
  · rw [List.getElem_set_ne (by omega)]
    exact h.todo j hj (by rw [List.length_set] at hj'; exact hj') (by omega)
theorem CloneAt.cells {w wr : World} {D : Nat → Prop} {n : Nat} {l : List Pt} {g cap k m : Nat} {us : List Value} (h : CloneAt w wr D n l g cap k m us) (hk : k < l.length) :
    ∃ (xa : Option Addr) (xl xc : Nat), Six wr g (0 + k * 6) l[k] (.slice xa xl xc) ∧ PtsAt w D n l[k].word (.slice xa xl xc) ∧ g < wr.heap.size ∧ wr.frozen? ⟨g, k * 6 + 4, none⟩ = false := by
  have hk' : k < us.length := by rw [h.len]; exact hk
  have hp := h.todo k hk hk' (Nat.le_refl _)
  obtain ⟨xa, xc, e, _, _⟩ := hp.shape
  rw [e] at hp
  refine ⟨xa, _, xc, six_of fun j u hu => ?_, hp, (h.own.lt g rfl).2, h.own.frozenAt _⟩
  have hj : j < 6 := (List.getElem?_eq_some_iff.1 hu).1
  rw [h.own.cellAt _ (by omega), Nat.zero_add]
  exact cellsL_at h.len hk j u (by rw [e]; exact hu)

set_option maxRecDepth 100000 in
set_option maxHeartbeats 4000000 in
theorem clone_deep (N : Nat) : ∀ (n : Nat), n < N → ∀ (D : Nat → Prop) (l : List Pt) (v : Value) (w : World), PtsAt w D n l v → Sm l →
    Calls Tryd.prog 97 #[v] w (ClonePost w l) := by
  induction N with
  | zero => intro n hn; omega
  | succ N ih =>
    intro n hn D l v w h hsm
    have hc6 := cells_part
    have hlen := hsm.1
    rcases Nat.eq_zero_or_pos l.length with h0 | h0
    · obtain rfl := List.eq_nil_of_length_eq_zero h0
      have hcl := clone_any D n [] v w h (Nat.zero_le _)
      have HCL := Lib.hid hcl
      obtain ⟨a, c, rfl, _, _⟩ := h.shape
      clear hcl h
      show Calls _ _ #[.slice a 0 c] w _
      go_enter Tryd.func97, Tryd.ntmps97
      go_wp2_with fail
      refine HCL.out.mono ?_
      rintro e w1 ⟨v', n', rfl, hp, hk⟩
      obtain ⟨a', c', rfl, h1, h2⟩ := hp.shape
      have HK := Lib.hid hk
      have HM := Lib.hid h2
      clear hp hk
      show _
      go_wp2_with fail
      go_loopw [10] (fun k' wr => k' = .int .i64 0 ∧ Hid (Keeps (fun _ => False) w wr)) (fun k' _ => 0)
      case atStart => exact ⟨rfl, HK⟩
      case round =>
        obtain ⟨rfl, HK⟩ := hrel
        go_wp2_with fail
        go_ret
        exact ⟨a', c', 0, rfl, ⟨rfl, a', c', rfl, HM.out⟩, HK.out⟩
    · obtain ⟨n, rfl⟩ : ∃ n', n = n' + 1 := by
        cases n with
        | zero => obtain ⟨rfl, _⟩ := h; simp at h0
        | succ n => exact ⟨n, rfl⟩
      have hcl := clone_own D n l v w h (by omega) h0
      obtain ⟨a, c, rfl, _, _⟩ := h.shape
      have HSM := Lib.hid hsm.2
      obtain ⟨L, hL⟩ : ∃ L, L = l.length := ⟨_, rfl⟩
      rw [← hL] at hcl
      have HCL := Lib.hid hcl
      rw [← hL]
      have HL := Lib.hid hL
      rw [← hL] at h0 hlen
      clear hcl h hsm hL
      go_enter Tryd.func97, Tryd.ntmps97
      go_wp2_with fail
      refine HCL.out.mono ?_
      rintro e w1 ⟨g, cap, vs, rfl, hvl, hown, hnest, hk⟩
      have HAT := Lib.hid (show CloneAt w w1 D n l g cap 0 0 vs from ⟨hvl, hown, fun j _ _ hj => absurd hj (Nat.not_lt_zero _), fun j hj hj' _ => hnest j hj hj', hk, (hown.lt g rfl).1⟩)
      rw [← HL.out]
      clear hvl hown hnest hk
      go_wp2_with fail
      go_loopw [10] (fun k' wr => ∃ (k m : Nat) (us : List Value), k' = .int .i64 k ∧ k ≤ L ∧ Hid (CloneAt w wr D n l g cap k m us)) (fun k' _ => L - (intOf k').toNat)
      case atStart => exact ⟨0, 0, vs, rfl, Nat.zero_le _, HAT⟩
      case round =>
        obtain ⟨k, m, us, rfl, hk, HC⟩ := hrel
        clear HAT
        by_cases hlt : k < L
        · have hlt2 : k < l.length := by rw [← HL.out]; exact hlt
          obtain ⟨xa, xl, xc, ⟨q0, q1, q2, q3, q4, q5⟩, hx, hg, hf⟩ := HC.out.cells hlt2
          have hsx := smL_mem HSM.out (List.getElem_mem hlt2)
          obtain ⟨x, hxe⟩ : ∃ x, x = l[k] := ⟨_, rfl⟩
          rw [← hxe] at q0 q1 q2 q3 q5 hx hsx
          unfold strV at q1 q2 q3
          rw [Nat.zero_add] at q0 q1 q2 q3 q4 q5
          have p1 : (k : Int) < (L : Int) := by omega
          have hih := fun W hkW => ih n (by omega) D x.word (.slice xa xl xc) W (hx.keep (S := fun _ => False) hkW (fun _ _ _ h => h)) hsx.2
          have HIH := Lib.hid hih
          have HXE := Lib.hid hxe
          clear hih hx hsx hxe
          obtain ⟨wl, hwl⟩ : ∃ wl, wl = x.word.length := ⟨_, rfl⟩
          go_wp2_with fail
          refine (HIH.out _ ((HC.out.kp).alloc _)).mono ?_
          rintro e w2 ⟨a2, c2, m2, rfl, hp2, hk2⟩
          have hN := (HC.out.alloc (.cells #[.int .i64 (x.kind : Nat), .string ⟨x.text.toArray⟩, .string ⟨x.name.toArray⟩, .string ⟨x.op.toArray⟩, .slice xa xl xc, .bool x.quoted] 34)).next hlt2 hk2 (by rw [← HXE.out]; exact hp2)
          have hg2 : g < w2.heap.size := by have := hk2.size; simp at this; omega
          have hf2 : w2.frozen? ⟨g, k * 6 + 4, none⟩ = false := by
            rw [World.frozen?_of_block (hk2.block g (by simp; omega) (fun h => h)), World.frozen?_of_block (((Keeps.refl (fun _ => False) wr).alloc _).block g hg (fun h => h))]
            exact hf
          have hq2 : w2.cell? ⟨g, k * 6 + 4, none⟩ = some (.slice xa xl xc) := by
            rw [World.cell?_of_block (hk2.block g (by simp; omega) (fun h => h)), World.cell?_of_block (((Keeps.refl (fun _ => False) wr).alloc _).block g hg (fun h => h))]
            exact q4
          rw [← hwl] at hN ⊢
          have HN := Lib.hid hN
          clear hN hp2 hk2 hwl
          go_wp2_with fail
          go_roundw
          case rel => exact ⟨k + 1, _, _, by go_num, by omega, HN⟩
          case measure => simp [intOf]; omega
        · obtain rfl : k = L := by omega
          have p1 : ¬ (k : Int) < (k : Int) := by omega
          go_wp2_with fail
          go_ret
          have hc := HC.out
          have hown : OwnPts wr (fun b => w.heap.size ≤ b) (.slice (some ⟨g, 0, none⟩) l.length cap) l := ⟨us, m, hc.len, (owns_low hc.own).1, fun j hj hj' => (hc.done j hj hj' (by rw [HL.out]; exact hj)).mono fun b _ hb => ⟨hb.1, fun e => hb.2 (Option.some.inj e).symm⟩⟩
          obtain ⟨m', hm⟩ := hown.reads (fun x hx => by obtain rfl : g = x := Option.some.inj hx; exact hc.low)
          exact ⟨some ⟨g, 0, none⟩, cap, m', by rw [HL.out]; rfl, hm, hc.kp⟩
theorem cloneP_any (n : Nat) (D : Nat → Prop) (l : List Pt) (v : Value) (w : World) (h : PtsAt w D n l v) (hs : Sm l) :
    Calls Tryd.prog 97 #[v] w (ClonePost w l) := clone_deep (n + 1) n (Nat.lt_succ_self _) D l v w h hs
end Go.Proofs.YtcahifkiiabioaaDoor
