/-
  Plain: what a script's tokens are, as a function of its bytes; words' parts, tidied.
-/
namespace Go.Proofs.Ytnndnldpbdhkgaa

/-- A part of a word. -/
inductive Pt where
  | mk (kind : Nat) (text name op : List UInt8) (word : List Pt) (quoted : Bool)
def Pt.kind : Pt → Nat | .mk k _ _ _ _ _ => k
def Pt.text : Pt → List UInt8 | .mk _ t _ _ _ _ => t
def Pt.name : Pt → List UInt8 | .mk _ _ n _ _ _ => n
def Pt.op : Pt → List UInt8 | .mk _ _ _ o _ _ => o
def Pt.word : Pt → List Pt | .mk _ _ _ _ w _ => w
def Pt.quoted : Pt → Bool | .mk _ _ _ _ _ q => q
def txtP (s : List UInt8) : Pt := .mk 1 s [] [] [] false
def quoP (s : List UInt8) : Pt := .mk 2 s [] [] [] false

/-- An empty quote. -/
def Pt.isE (x : Pt) : Bool := x.kind == 2 && x.text.isEmpty
def Pt.joins (y x : Pt) : Bool := y.kind == x.kind && (x.kind == 1 || x.kind == 2)
def Pt.join (y x : Pt) : Pt := .mk y.kind (y.text ++ x.text) y.name y.op y.word y.quoted
/-- One part more, tidied. -/
def addP (out : List Pt) (x : Pt) : List Pt := match out.getLast? with
  | some y => if y.joins x then out.dropLast ++ [y.join x] else out ++ [x]
  | none => [x]
def stepN (a : List Pt × Bool) (x : Pt) : List Pt × Bool := if x.isE then (a.1, true) else (addP a.1 x, true)
def normF (l : List Pt) : List Pt × Bool := l.foldl stepN ([], false)
def tidyF (l : List Pt) : List Pt := if (normF l).1.isEmpty && (normF l).2 then [quoP []] else (normF l).1

theorem normF_append (a b : List Pt) : normF (a ++ b) = b.foldl stepN (normF a) := by unfold normF; rw [List.foldl_append]
theorem normF_congr {a b : List Pt} (h : normF a = normF b) (c : List Pt) : normF (a ++ c) = normF (b ++ c) := by rw [normF_append, normF_append, h]
theorem tidyF_congr {a b : List Pt} (h : normF a = normF b) : tidyF a = tidyF b := by unfold tidyF; rw [h]

/-- Texts and quotes bear nothing else. -/
def RawOK (l : List Pt) : Prop := ∀ p ∈ l, (p.kind = 1 ∨ p.kind = 2) → p = .mk p.kind p.text [] [] [] false
def wtF : List Pt → Nat
  | [] => 0
  | p :: l => p.text.length + 1 + wtF l
theorem wtF_append (a b : List Pt) : wtF (a ++ b) = wtF a + wtF b := by
  induction a with
  | nil => simp [wtF]
  | cons p l ih => simp only [List.cons_append, wtF, ih]; omega
theorem wtF_len (a : List Pt) : a.length ≤ wtF a := by
  induction a with
  | nil => exact Nat.zero_le _
  | cons p l ih => simp only [List.length_cons, wtF]; omega
theorem RawOK.append {a b : List Pt} (ha : RawOK a) (hb : RawOK b) : RawOK (a ++ b) := fun p hp => by
  rcases List.mem_append.1 hp with h | h
  · exact ha p h
  · exact hb p h
/-- An empty quote ahead of a quote says nothing. -/
theorem normF_last (a : List Pt) (s : List UInt8) : normF (a ++ [quoP []] ++ [quoP s]) = normF (a ++ [quoP s]) := by
  have h : ∀ N, stepN (stepN N (quoP [])) (quoP s) = stepN N (quoP s) := fun N => by
    unfold stepN
    rw [if_pos (show (quoP []).isE = true from rfl)]
  rw [List.append_assoc, normF_append, normF_append]
  exact h _

def letterB (c : UInt8) : Bool := (97 ≤ c.toNat && c.toNat ≤ 122) || (65 ≤ c.toNat && c.toNat ≤ 90) || c.toNat == 95
def digitB (c : UInt8) : Bool := 48 ≤ c.toNat && c.toNat ≤ 57
def specialB (c : UInt8) : Bool := c == 63 || c == 35 || c == 64 || c == 42
def breaksB (c : UInt8) : Bool := c == 32 || c == 9 || c == 10 || c == 59 || c == 38 || c == 124 || c == 40 || c == 41 || c == 60 || c == 62
def escB (c : UInt8) : Bool := c == 36 || c == 34 || c == 92 || c == 96

def headIs (c : UInt8) : List UInt8 → Bool
  | [] => false
  | x :: _ => x == c
def startsF : List UInt8 → List UInt8 → Bool
  | [], _ => true
  | _ :: _, [] => false
  | a :: p, b :: r => a == b && startsF p r

/-- How many letters, digits, _ stand ahead. -/
def tailRun : List UInt8 → Nat
  | [] => 0
  | c :: t => if letterB c || digitB c then tailRun t + 1 else 0
def runF : List UInt8 → Nat
  | [] => 0
  | c :: t => if letterB c then tailRun t + 1 else 0
def digRun : List UInt8 → Nat
  | [] => 0
  | c :: t => if digitB c then digRun t + 1 else 0
/-- How many bytes a parameter's name has. -/
def nameF (braces : Bool) (r : List UInt8) : Nat :=
  if runF r > 0 then runF r else match r with
  | [] => 0
  | c :: t => if digitB c then (if braces then digRun t + 1 else 1) else if specialB c then 1 else 0

def findF (l : List (List UInt8)) (r : List UInt8) : List UInt8 := ((l.find? fun o => startsF o r)).getD []
/-- :- := :? :+ %% ## - = ? + % # -/
def opsL : List (List UInt8) := [[58, 45], [58, 61], [58, 63], [58, 43], [37, 37], [35, 35], [45], [61], [63], [43], [37], [35]]
def opF (r : List UInt8) : List UInt8 := findF opsL r
/-- 2>> 2> ;; && || >> ; | ( ) < > line end -/
def operL : List (List UInt8) := [[50, 62, 62], [50, 62], [59, 59], [38, 38], [124, 124], [62, 62], [59], [124], [40], [41], [60], [62], [10]]
def operF (r : List UInt8) : List UInt8 := findF operL r

/-- Where a byte stands first. -/
def untilF (c : UInt8) : List UInt8 → Option Nat
  | [] => none
  | x :: t => if x == c then some 0 else (untilF c t).map (· + 1)

/-- How long an expression is, up to what closes it. -/
def calcF : Nat → List UInt8 → Option Nat
  | _, [] => none
  | o, c :: t => if c == 40 then (calcF (o + 1) t).map (· + 1)
    else if c == 41 then (if o = 0 then (if headIs 41 t then some 0 else none) else (calcF (o - 1) t).map (· + 1))
    else (calcF o t).map (· + 1)

/-- Where one stands in a script that stands in a word. -/
inductive SM where
  | n | q1 | q2 | bn | bq
  deriving DecidableEq
/-- How long a script is, up to what closes it. -/
def subF : SM → Nat → List UInt8 → Option Nat
  | _, _, [] => none
  | .n, o, c :: t =>
    if c == 39 then (subF .q1 o t).map (· + 1) else if c == 34 then (subF .q2 o t).map (· + 1) else if c == 92 then (subF .bn o t).map (· + 1)
    else if c == 40 then (subF .n (o + 1) t).map (· + 1)
    else if c == 41 then (if o = 0 then some 0 else (subF .n (o - 1) t).map (· + 1))
    else (subF .n o t).map (· + 1)
  | .q1, o, c :: t => (subF (if c == 39 then .n else .q1) o t).map (· + 1)
  | .q2, o, c :: t => (subF (if c == 34 then .n else if c == 92 then .bq else .q2) o t).map (· + 1)
  | .bn, o, _ :: t => (subF .n o t).map (· + 1)
  | .bq, o, _ :: t => (subF .q2 o t).map (· + 1)

/-- What is read. -/
inductive Md where
  | one (q : Bool) | dq | br (q : Bool) | dol (q : Bool) | brace (q : Bool)
  deriving DecidableEq

abbrev Res := Except Nat (List Pt × List UInt8)
def Res.ahead (l : List Pt) : Res → Res
  | .error e => .error e
  | .ok (m, r) => .ok (l ++ m, r)
def longB (r : List UInt8) : Bool := headIs 35 r && !headIs 125 r.tail && (opF r.tail).isEmpty

/-- Parts, and what is left; or why not. -/
def lexD : Nat → Md → Nat → List UInt8 → Res
  | 0, _, _, _ => .error 0
  | _ + 1, .one _, _, [] => .ok ([], [])
  | n + 1, .one false, d, c :: t =>
    if c == 39 then (match untilF 39 t with
      | none => .error 2
      | some k => .ok ([quoP (t.take k)], t.drop (k + 1)))
    else if c == 34 then (lexD n .dq d t).ahead [quoP []]
    else if c == 92 then (match t with
      | [] => .ok ([quoP [92]], [])
      | x :: t' => if x == 10 then .ok ([], t') else .ok ([quoP [x]], t'))
    else if c == 96 then .error 2
    else if c == 36 then lexD n (.dol false) d t
    else .ok ([txtP [c]], t)
  | n + 1, .one true, d, c :: t =>
    if c == 34 || c == 96 then .error 2
    else if c == 92 && headIs 10 t then .ok ([], t.tail)
    else if c == 92 && escB (t.headD 0) then .ok ([quoP [t.headD 0]], t.tail)
    else if c == 36 then lexD n (.dol true) d t
    else .ok ([quoP [c]], t)
  | n + 1, .dq, d, r => match r with
    | [] => .error 2
    | c :: t => if c == 34 then .ok ([], t) else match lexD n (.one true) d r with
      | .error e => .error e
      | .ok (l, r1) => (lexD n .dq d r1).ahead l
  | n + 1, .br q, d, r => match r with
    | [] => .error 2
    | c :: t => if c == 125 then .ok ([], t) else match lexD n (.one q) d r with
      | .error e => .error e
      | .ok (l, r1) => (lexD n (.br q) d r1).ahead l
  | n + 1, .dol q, d, r =>
    if headIs 123 r then lexD n (.brace q) d r.tail
    else if startsF [40, 40] r then (match calcF 0 (r.drop 2) with
      | none => .error 2
      | some k => .ok ([.mk 4 ((r.drop 2).take k) [] [] [] q], (r.drop 2).drop (k + 2)))
    else if headIs 40 r then (match subF .n 0 r.tail with
      | none => .error 2
      | some k => .ok ([.mk 5 (r.tail.take k) [] [] [] q], r.tail.drop (k + 1)))
    else if nameF false r = 0 then .ok ([if q then quoP [36] else txtP [36]], r)
    else .ok ([.mk 3 [] (r.take (nameF false r)) [] [] q], r.drop (nameF false r))
  | n + 1, .brace q, d, r =>
    let r1 := if longB r then r.tail else r
    let k := nameF true r1
    let r2 := r1.drop k
    if k = 0 then .error 2
    else if headIs 125 r2 then .ok ([.mk 3 [] (r1.take k) (if longB r then [76] else []) [] q], r2.tail)
    else if (opF r2).isEmpty || longB r then .error 2
    else if d = 40 then .error 3
    else match lexD n (.br q) (d + 1) (r2.drop (opF r2).length) with
      | .error e => .error e
      | .ok (l, r3) => .ok ([.mk 3 [] (r1.take k) (opF r2) (tidyF l) q], r3)

/-- A word's parts: up to what breaks it, or to the end. -/
def wordD (whole : Bool) : Nat → List UInt8 → Res
  | 0, _ => .error 0
  | n + 1, r => match r with
    | [] => .ok ([], [])
    | c :: _ => if !whole && breaksB c then .ok ([], r) else match lexD (2 * r.length + 2) (.one false) 0 r with
      | .error e => .error e
      | .ok (l, r1) => (wordD whole n r1).ahead l

/-- What stands between tokens is left out (true: in a comment). -/
def skipF : Bool → List UInt8 → List UInt8
  | _, [] => []
  | true, c :: t => if c == 10 then c :: t else skipF true t
  | false, c :: t => if c == 32 || c == 9 then skipF false t
    else if c == 35 then skipF true t
    else if c == 92 then (match t with
      | [] => c :: t
      | x :: t' => if x == 10 then skipF false t' else c :: t)
    else c :: t

/-- A token: kind 1 a word, 2 an operator. -/
structure Tk where
  kind : Nat
  text : List UInt8
  word : List Pt

def consT (x : Tk) : Except Nat (List Tk) → Except Nat (List Tk)
  | .error e => .error e
  | .ok l => .ok (x :: l)
def tokD : Nat → List UInt8 → Except Nat (List Tk)
  | 0, _ => .error 0
  | n + 1, r => match skipF false r with
    | [] => .ok []
    | c :: t =>
      if (operF (c :: t)).isEmpty then
        if c == 38 then .error 2 else match wordD false ((c :: t).length + 1) (c :: t) with
        | .error e => .error e
        | .ok (l, r1) => consT ⟨1, [], tidyF l⟩ (tokD n r1)
      else consT ⟨2, operF (c :: t), []⟩ (tokD n ((c :: t).drop (operF (c :: t)).length))

def mayF (s : List UInt8) : Nat := if 16384 < s.length then 3 else if s.contains 0 then 2 else 0
def tokensF (s : List UInt8) : Except Nat (List Tk) := if mayF s = 0 then tokD (s.length + 1) s else .error (mayF s)
def wholeF (s : List UInt8) : Except Nat (List Pt) := if mayF s = 0 then (match wordD true (s.length + 1) s with
  | .error e => .error e
  | .ok (l, _) => .ok (tidyF l)) else .error (mayF s)
end Go.Proofs.Ytnndnldpbdhkgaa
