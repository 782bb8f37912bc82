/-
  Plain: what is read, laid open without fuel.
-/
import Derived.Test.YtnndnldpbdhkgaaLexPA
namespace Go.Proofs.Ytnndnldpbdhkgaa
set_option linter.unusedVariables false

theorem lexC_out (d : Nat) (c : UInt8) (t : List UInt8) : lexC (.one false) d (c :: t) =
    if c == 39 then (match untilF 39 t with
      | none => .error 2
      | some k => .ok ([quoP (t.take k)], t.drop (k + 1)))
    else if c == 34 then (lexC .dq d t).ahead [quoP []]
    else if c == 92 then (match t with
      | [] => .ok ([quoP [92]], [])
      | x :: t' => if x == 10 then .ok ([], t') else .ok ([quoP [x]], t'))
    else if c == 96 then .error 2
    else if c == 36 then lexC (.dol false) d t
    else .ok ([txtP [c]], t) := by
  unfold lexC
  rw [lexD_out, lexC_of (md := .dq) (r := t) (by simp only [Md.need, List.length_cons]; omega), lexC_of (md := .dol false) (r := t) (by simp only [Md.need, List.length_cons]; omega)]
  rfl
theorem lexC_inn (d : Nat) (c : UInt8) (t : List UInt8) : lexC (.one true) d (c :: t) =
    if c == 34 || c == 96 then .error 2
    else if c == 92 && headIs 10 t then .ok ([], t.tail)
    else if c == 92 && escB (t.headD 0) then .ok ([quoP [t.headD 0]], t.tail)
    else if c == 36 then lexC (.dol true) d t
    else .ok ([quoP [c]], t) := by
  unfold lexC
  rw [lexD_inn, lexC_of (md := .dol true) (r := t) (by simp only [Md.need, List.length_cons]; omega)]
  rfl
theorem lexC_dq (d : Nat) (r : List UInt8) : lexC .dq d r = match r with
    | [] => .error 2
    | c :: t => if c == 34 then .ok ([], t) else match lexC (.one true) d r with
      | .error e => .error e
      | .ok (l, r1) => (lexC .dq d r1).ahead l := by
  cases r with
  | nil => rfl
  | cons c t =>
    show lexD (2 * (c :: t).length + 1 + 1) .dq d (c :: t) = _
    rw [lexD_dq, lexC_of (md := .one true) (r := c :: t) (by simp only [Md.need, List.length_cons]; omega)]
    dsimp only
    cases h : lexC (.one true) d (c :: t) with
    | error e => rfl
    | ok x =>
      obtain ⟨l, r1⟩ := x
      have hl := lexD_len _ _ _ _ _ _ h
      simp only [Md.least, List.length_cons] at hl
      dsimp only
      rw [lexC_of (md := .dq) (r := r1) (by simp only [Md.need, List.length_cons]; omega)]
theorem lexC_br (d : Nat) (q : Bool) (r : List UInt8) : lexC (.br q) d r = match r with
    | [] => .error 2
    | c :: t => if c == 125 then .ok ([], t) else match lexC (.one q) d r with
      | .error e => .error e
      | .ok (l, r1) => (lexC (.br q) d r1).ahead l := by
  cases r with
  | nil => rfl
  | cons c t =>
    show lexD (2 * (c :: t).length + 1 + 1) (.br q) d (c :: t) = _
    rw [lexD_br, lexC_of (md := .one q) (r := c :: t) (by simp only [Md.need, List.length_cons]; omega)]
    dsimp only
    cases h : lexC (.one q) d (c :: t) with
    | error e => rfl
    | ok x =>
      obtain ⟨l, r1⟩ := x
      have hl := lexD_len _ _ _ _ _ _ h
      simp only [Md.least, List.length_cons] at hl
      dsimp only
      rw [lexC_of (md := .br q) (r := r1) (by simp only [Md.need, List.length_cons]; omega)]
theorem lexC_dol (d : Nat) (q : Bool) (r : List UInt8) : lexC (.dol q) d r =
    if headIs 123 r then lexC (.brace q) d r.tail
    else if startsF [40, 40] r then (match calcF 0 (r.drop 2) with
      | none => .error 2
      | some k => .ok ([.mk 4 ((r.drop 2).take k) [] [] [] q], (r.drop 2).drop (k + 2)))
    else if headIs 40 r then (match subF .n 0 r.tail with
      | none => .error 2
      | some k => .ok ([.mk 5 (r.tail.take k) [] [] [] q], r.tail.drop (k + 1)))
    else if nameF false r = 0 then .ok ([if q then quoP [36] else txtP [36]], r)
    else .ok ([.mk 3 [] (r.take (nameF false r)) [] [] q], r.drop (nameF false r)) := by
  show lexD (2 * r.length + 1 + 1) (.dol q) d r = _
  rw [lexD_dol]
  by_cases h : headIs 123 r = true
  · rw [if_pos h, if_pos h]
    obtain ⟨t, rfl⟩ := headIs_cons h
    exact lexC_of (by simp only [Md.need, List.length_cons, List.tail_cons]; omega)
  · rw [if_neg h, if_neg h]; rfl
theorem lexC_brace (d : Nat) (q : Bool) (r : List UInt8) : lexC (.brace q) d r =
    if nameF true (if longB r then r.tail else r) = 0 then .error 2
    else if headIs 125 ((if longB r then r.tail else r).drop (nameF true (if longB r then r.tail else r))) then .ok ([.mk 3 [] ((if longB r then r.tail else r).take (nameF true (if longB r then r.tail else r))) (if longB r then [76] else []) [] q], ((if longB r then r.tail else r).drop (nameF true (if longB r then r.tail else r))).tail)
    else if (opF ((if longB r then r.tail else r).drop (nameF true (if longB r then r.tail else r)))).isEmpty || longB r then .error 2
    else if d = 40 then .error 3
    else match lexC (.br q) (d + 1) (((if longB r then r.tail else r).drop (nameF true (if longB r then r.tail else r))).drop (opF ((if longB r then r.tail else r).drop (nameF true (if longB r then r.tail else r)))).length) with
      | .error e => .error e
      | .ok (l, r3) => .ok ([.mk 3 [] ((if longB r then r.tail else r).take (nameF true (if longB r then r.tail else r))) (opF ((if longB r then r.tail else r).drop (nameF true (if longB r then r.tail else r)))) (tidyF l) q], r3) := by
  show lexD (2 * r.length + 1 + 1) (.brace q) d r = _
  rw [lexD_brace]
  by_cases h0 : nameF true (if longB r then r.tail else r) = 0
  · rw [if_pos h0, if_pos h0]
  · rw [if_neg h0, if_neg h0]
    have hl1 : (if longB r then r.tail else r).length ≤ r.length := by split <;> simp
    rw [lexC_of (md := .br q) (by
      simp only [Md.need]
      rw [List.length_drop, List.length_drop]
      have hk := nameF_le true (if longB r then r.tail else r)
      omega)]
    rfl
end Go.Proofs.Ytnndnldpbdhkgaa
