/-
  Plain: what a text with macros comes to.
-/
import Derived.Test.YtglppnpllpfaeaaStemP
namespace Go.Proofs.Ytglppnpllpfaeaa
set_option linter.unusedVariables false

abbrev Bs := List UInt8
/-- Where a byte stands first. -/
def untilF (c : UInt8) : Bs → Option Nat
  | [] => none
  | x :: t => if x == c then some 0 else (untilF c t).map (· + 1)
/-- strings.Cut at one byte. -/
def cutF (c : UInt8) (s : Bs) : Bs × Bs × Bool := match untilF c s with
  | none => (s, [], false)
  | some k => (s.take k, s.drop (k + 1), true)
/-- The value of the last pair of a name. -/
def lastF (l : List (Bs × Bs)) (name : Bs) : Option Bs := (l.reverse.find? fun p => p.1 == name).map (·.2)
/-- Where what is open is closed. -/
def closedF (o c : UInt8) : Nat → Bs → Option Nat
  | _, [] => none
  | n, x :: t => if x == o then (closedF o c (n + 1) t).map (· + 1) else if x == c then (if n = 0 then some 0 else (closedF o c (n - 1) t).map (· + 1)) else (closedF o c n t).map (· + 1)
def blankB (c : UInt8) : Bool := c == 32 || c == 9 || c == 10
/-- The words of a text: w is the one that is read now. -/
def wordsG : Bs → Bs → List Bs
  | w, [] => if w.isEmpty then [] else [w]
  | w, c :: t => if blankB c then (if w.isEmpty then wordsG [] t else w :: wordsG [] t) else wordsG (w ++ [c]) t
def wordsF (s : Bs) : List Bs := wordsG [] s
/-- One behind the other, with blanks. -/
def joinF : List Bs → Bs
  | [] => []
  | [x] => x
  | x :: y :: l => x ++ 32 :: joinF (y :: l)
def swapOne (f t s : Bs) : Bs := if Lib.hasSuffix s f then s.take (s.length - f.length) ++ t else s
def swapW (f t s : Bs) : Bs := if 0 ≤ pct f then (if (stemF f s).2 then fillF t (stemF f s).1 else s) else swapOne f t s
/-- A value's words with other ends. -/
def swappedF (v f t : Bs) : Bs := joinF ((wordsF v).map (swapW f t))

/-- What a text comes to, and how many references were met; or why not. -/
abbrev MR := Except Nat (Bs × Nat)
abbrev Ref := Nat → Bs → MR
/-- What stands behind a $: what it comes to, how many bytes it is, how many references. -/
def oneF (ref : Ref) (refs : Nat) (s : Bs) : Except Nat ((Bs × Nat) × Nat) := match s with
  | [] => .ok (([36], 0), refs)
  | c :: t =>
    if c == 36 then .ok (([36], 1), refs)
    else if 10000 < refs + 1 then .error 3
    else if c == 40 then (match closedF 40 41 0 t with
      | none => .error 2
      | some k => match ref (refs + 1) (t.take k) with | .error e => .error e | .ok (y, r) => .ok ((y, k + 2), r))
    else if c == 123 then (match closedF 123 125 0 t with
      | none => .error 2
      | some k => match ref (refs + 1) (t.take k) with | .error e => .error e | .ok (y, r) => .ok ((y, k + 2), r))
    else match ref (refs + 1) [c] with | .error e => .error e | .ok (y, r) => .ok ((y, 1), r)
/-- A text, behind what it came to so far. -/
def loopF (ref : Ref) : Nat → Bs → Nat → Bs → MR
  | 0, _, _, _ => .error 0
  | n + 1, acc, refs, s =>
    if 16384 < (acc ++ (cutF 36 s).1).length then .error 3
    else if (cutF 36 s).2.2 then (match oneF ref refs (cutF 36 s).2.1 with
      | .error e => .error e
      | .ok ((y, k), r) => if 16384 < (acc ++ (cutF 36 s).1 ++ y).length then .error 3 else loopF ref n (acc ++ (cutF 36 s).1 ++ y) r ((cutF 36 s).2.1.drop k))
    else .ok (acc ++ (cutF 36 s).1, refs)
def textF (ref : Ref) (refs : Nat) (s : Bs) : MR := if 16384 < s.length then .error 3 else loopF ref (s.length + 1) [] refs s
/-- The value of a name. text: what a text within comes to, with these names open. -/
def valueF (l auto : List (Bs × Bs)) (op : List Bs) (text : List Bs → Nat → Bs → MR) (refs : Nat) (name : Bs) : MR := match lastF auto name with
  | some v => .ok (v, refs)
  | none => match lastF l name with
    | none => .ok ([], refs)
    | some v => if op.contains name then .error 18 else text (op ++ [name]) refs v
/-- A reference: its name, and how it is swapped. -/
def partsF (s : Bs) : Option (Bs × Bs × Bs) := if (cutF 58 s).2.2 && (cutF 61 (cutF 58 s).2.1).2.2 then some ((cutF 58 s).1, (cutF 61 (cutF 58 s).2.1).1, (cutF 61 (cutF 58 s).2.1).2.1) else none
/-- What a reference comes to; k: how much deeper it may go. -/
def refF (l auto : List (Bs × Bs)) : Nat → List Bs → Nat → Bs → MR
  | 0, _, _, _ => .error 3
  | k + 1, op, refs, s => match textF (refF l auto k op) refs s with
    | .error e => .error e
    | .ok (t, r) => match partsF t with
      | none => valueF l auto op (fun o => textF (refF l auto k o)) r t
      | some (name, f, g) => match valueF l auto op (fun o => textF (refF l auto k o)) r name with
        | .error e => .error e
        | .ok (v, r2) => .ok (swappedF v f g, r2)
def expandF (l auto : List (Bs × Bs)) (s : Bs) : Except Nat Bs := match textF (refF l auto 40 []) 0 s with
  | .error e => .error e
  | .ok (t, _) => .ok t

theorem until_index (c : UInt8) : ∀ s : Bs, Lib.indexByte s c = match untilF c s with | none => -1 | some k => (k : Int)
  | [] => rfl
  | x :: t => by
    unfold Lib.indexByte untilF
    cases x == c with
    | true => rfl
    | false =>
      simp only [Bool.false_eq_true, if_false]
      rw [until_index c t]
      cases untilF c t with
      | none => rfl
      | some k =>
        dsimp only [Option.map_some]
        have hk : ((k : Int) == -1) = false := beq_eq_false_iff_ne.2 (by omega)
        rw [hk, if_neg (by simp)]
        rfl
theorem cut_one (c : UInt8) (s : Bs) : Lib.cut s [c] = cutF c s := by
  unfold Lib.cut cutF
  rw [Lib.index_one, until_index]
  cases untilF c s with
  | none => rfl
  | some k =>
    dsimp only
    rw [if_pos (Int.natCast_nonneg k), Int.toNat_natCast]
    rfl
theorem cutF_len {c : UInt8} {s : Bs} (h : (cutF c s).2.2 = true) : (cutF c s).2.1.length < s.length := by
  unfold cutF at *
  cases hu : untilF c s with
  | none => rw [hu] at h; cases h
  | some k =>
    dsimp only
    have hs : s ≠ [] := by rintro rfl; cases hu
    have := List.length_pos_iff.2 hs
    rw [List.length_drop]
    omega
theorem loopF_fuel (ref : Ref) : ∀ (n m : Nat) (acc : Bs) (refs : Nat) (s : Bs), s.length < n → s.length < m → loopF ref n acc refs s = loopF ref m acc refs s := by
  intro n
  induction n with
  | zero => intro m acc refs s h; omega
  | succ n ih =>
    intro m acc refs s hn hm
    cases m with
    | zero => omega
    | succ m =>
      unfold loopF
      split
      · rfl
      · split
        · next h2 =>
          have hl := cutF_len h2
          cases oneF ref refs (cutF 36 s).2.1 with
          | error e => rfl
          | ok z =>
            obtain ⟨⟨y, k⟩, r⟩ := z
            dsimp only
            split
            · rfl
            · exact ih m _ _ _ (by rw [List.length_drop]; omega) (by rw [List.length_drop]; omega)
        · rfl
/-- The loop, with fuel enough. -/
def loopC (ref : Ref) (acc : Bs) (refs : Nat) (s : Bs) : MR := loopF ref (s.length + 1) acc refs s
theorem loopC_eq (ref : Ref) (acc : Bs) (refs : Nat) (s : Bs) : loopC ref acc refs s = if 16384 < (acc ++ (cutF 36 s).1).length then .error 3
    else if (cutF 36 s).2.2 then (match oneF ref refs (cutF 36 s).2.1 with
      | .error e => .error e
      | .ok ((y, k), r) => if 16384 < (acc ++ (cutF 36 s).1 ++ y).length then .error 3 else loopC ref (acc ++ (cutF 36 s).1 ++ y) r ((cutF 36 s).2.1.drop k))
    else .ok (acc ++ (cutF 36 s).1, refs) := by
  show loopF ref (s.length + 1) acc refs s = _
  unfold loopF
  split
  · rfl
  · split
    · next h2 =>
      have hl := cutF_len h2
      cases oneF ref refs (cutF 36 s).2.1 with
      | error e => rfl
      | ok z =>
        obtain ⟨⟨y, k⟩, r⟩ := z
        dsimp only
        split
        · rfl
        · exact loopF_fuel ref _ _ _ _ _ (by rw [List.length_drop]; omega) (by omega)
    · rfl
end Go.Proofs.Ytglppnpllpfaeaa
