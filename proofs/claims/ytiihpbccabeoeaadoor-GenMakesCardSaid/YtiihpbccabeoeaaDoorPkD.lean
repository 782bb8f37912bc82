/-
  SameParts: two words are one.
  SameTokens: two lists of tokens are one.
  Plain: what is read does not hang on spare fuel.
  Plain: what is read, laid open without fuel.
  LexBack: plain, and the walk.
  Plain: operators, and words of one letter between them.
  Tokens laid behind tokens: append(x, y...).
  Plain: what is read ahead of a blank, or of a line end, is read as it is alone.
  Slices of texts and of numbers that are only read: what a walk is told of them.
-/
import Derived.Test.YtiihpbccabeoeaaDoorPkC
import Derived.StillTailTactics
import Derived.Deep.Upon
import Derived.Test.YtiihpbccabeoeaaDoorProg
import Derived.WalkKit
import Derived.ProofKit
import Derived.SliceStrings
import Derived.Lib.Hide
import Derived.Lib.Strings
import Derived.SizedLaws
import Derived.Deep.QuietTactic
namespace Go.Proofs.YtiihpbccabeoeaaDoor
open Go.RowKit
set_option linter.unusedVariables false

theorem Pt.ext {x y : Pt} (h0 : x.kind = y.kind) (h1 : x.text = y.text) (h2 : x.name = y.name) (h3 : x.op = y.op) (h4 : x.word = y.word) (h5 : x.quoted = y.quoted) : x = y := by
  cases x; cases y
  simp only [Pt.kind, Pt.text, Pt.name, Pt.op, Pt.word, Pt.quoted] at h0 h1 h2 h3 h4 h5
  subst h0 h1 h2 h3 h4 h5
  rfl
theorem PtCells.keep {w w' : World} {b o : Nat} {p : Pt} {v : Value} (hk : Keeps (fun _ => False) w w') (hb : b < w.heap.size) (h : PtCells w b o p v) : PtCells w' b o p v := fun j u hu => by
  rw [World.cell?_of_block (hk.block b hb (fun x => x))]
  exact h j u hu
/-- One part of two words. -/
theorem PtsAt.at {w wr : World} {D : Nat → Prop} {n : Nat} {l : List Pt} {ad : Option Addr} {k c i : Nat} (h : PtsAt w D n l (.slice ad k c)) (hk : Keeps (fun _ => False) w wr) (hi : i < l.length) :
    ∃ (g o : Nat) (xa : Option Addr) (xl xc : Nat), ad = some ⟨g, o, none⟩ ∧ Six wr g (o + i * 6) l[i] (.slice xa xl xc) ∧ PtsAt wr D (n - 1) l[i].word (.slice xa xl xc) ∧ 0 < n ∧ g < wr.heap.size := by
  cases n with
  | zero => obtain ⟨rfl, _⟩ := h; simp at hi
  | succ n =>
    obtain ⟨a, c, e, _, _, H⟩ := h
    obtain ⟨b, off, wv, ea, hb, hd, hc, hw⟩ := H i hi
    obtain ⟨xa, xc, rfl, _, _⟩ := hw.shape
    injection e with e1 e2 e3
    exact ⟨b, off, xa, _, xc, e1.trans ea, six_of (hc.keep hk hb), hw.keep hk (fun _ _ _ s => s), Nat.succ_pos _, Nat.lt_of_lt_of_le hb hk.size⟩

def SamePost (w : World) (P : Prop) (e : Ending) (w' : World) : Prop := ∃ r, e = .returned (.bool r) ∧ (r = true ↔ P) ∧ Keeps (fun _ => False) w w'

theorem take_same {α} {a b : List α} {k : Nat} (hk : k < a.length) (hk2 : k < b.length) (h : a.take k = b.take k) (e : a[k] = b[k]) : a.take (k + 1) = b.take (k + 1) := by
  rw [List.take_succ_eq_append_getElem hk, List.take_succ_eq_append_getElem hk2, h, e]

end Go.Proofs.YtiihpbccabeoeaaDoor
namespace Go.Proofs.YtiihpbccabeoeaaDoor
open Go.RowKit
set_option linter.unusedVariables false

theorem Tk.ext3 {x y : Tk} (h0 : x.kind = y.kind) (h1 : x.text = y.text) (h2 : x.word = y.word) : x = y := by
  cases x; cases y
  simp only at h0 h1 h2
  subst h0 h1 h2
  rfl
/-- The three cells, one by one. -/
def Three (w : World) (b o : Nat) (p : Tk) (v : Value) : Prop :=
  w.cell? ⟨b, o, none⟩ = some (.int .i64 (p.kind : Nat)) ∧ w.cell? ⟨b, o + 1, none⟩ = some (strV p.text) ∧ w.cell? ⟨b, o + 2, none⟩ = some v
theorem three_of {w : World} {b o : Nat} {p : Tk} {v : Value} (h : TkCells w b o p v) : Three w b o p v :=
  ⟨h 0 _ rfl, h 1 _ rfl, h 2 _ rfl⟩
theorem TksAt.shape {w : World} {D : Nat → Prop} {n : Nat} {l : List Tk} {v : Value} (h : TksAt w D n l v) : ∃ a c, v = .slice a l.length c ∧ l.length ≤ c ∧ c ≤ maxLen := by
  obtain ⟨a, c, e, h1, h2, _⟩ := h
  exact ⟨a, c, e, h1, h2⟩
theorem TksAt.at {w wr : World} {D : Nat → Prop} {n : Nat} {l : List Tk} {ad : Option Addr} {k c i : Nat} (h : TksAt w D n l (.slice ad k c)) (hk : Keeps (fun _ => False) w wr) (hi : i < l.length) :
    ∃ (g o : Nat) (xa : Option Addr) (xl xc : Nat), ad = some ⟨g, o, none⟩ ∧ Three wr g (o + i * 3) l[i] (.slice xa xl xc) ∧ PtsAt wr D n l[i].word (.slice xa xl xc) ∧ g < wr.heap.size := by
  obtain ⟨a, c, e, _, _, H⟩ := h
  obtain ⟨b, off, wv, ea, hb, hd, hc, hw⟩ := H i hi
  obtain ⟨xa, xc, rfl, _, _⟩ := hw.shape
  injection e with e1 e2 e3
  refine ⟨b, off, xa, _, xc, e1.trans ea, three_of fun j u hu => ?_, hw.keep hk (fun _ _ _ s => s), Nat.lt_of_lt_of_le hb hk.size⟩
  rw [World.cell?_of_block (hk.block b hb (fun x => x))]
  exact hc j u hu

end Go.Proofs.YtiihpbccabeoeaaDoor
namespace Go.Proofs.YtiihpbccabeoeaaDoor
set_option linter.unusedVariables false

/-- How much fuel is enough. -/
def Md.need (md : Md) (r : List UInt8) : Nat := match md with
  | .one _ => max 1 (2 * r.length)
  | _ => 2 * r.length + 1
theorem headIs_cons {c : UInt8} {r : List UInt8} (h : headIs c r = true) : ∃ t, r = c :: t := by
  cases r with
  | nil => cases h
  | cons x t => exact ⟨t, by rw [beq_iff_eq.1 h]⟩

theorem lexD_fuel : ∀ (n m : Nat) (md : Md) (d : Nat) (r : List UInt8), md.need r ≤ n → md.need r ≤ m → lexD n md d r = lexD m md d r := by
  intro n
  induction n with
  | zero => intro m md d r hn; cases md <;> simp [Md.need] at hn <;> omega
  | succ n ih =>
    intro m md d r hn hm
    cases m with
    | zero => cases md <;> simp [Md.need] at hm <;> omega
    | succ m =>
      cases md with
      | one q =>
        cases r with
        | nil => cases q <;> rfl
        | cons c t =>
          simp only [Md.need, List.length_cons] at hn hm
          have e1 : ∀ d, lexD n .dq d t = lexD m .dq d t := fun d => ih m .dq d t (by simp only [Md.need]; omega) (by simp only [Md.need]; omega)
          have e2 : ∀ q d, lexD n (.dol q) d t = lexD m (.dol q) d t := fun q d => ih m (.dol q) d t (by simp only [Md.need]; omega) (by simp only [Md.need]; omega)
          cases q with
          | false => rw [lexD_out, lexD_out, e1, e2]
          | true => rw [lexD_inn, lexD_inn, e2]
      | dq =>
        rw [lexD_dq, lexD_dq]
        cases r with
        | nil => rfl
        | cons c t =>
          simp only [Md.need, List.length_cons] at hn hm
          dsimp only
          rw [ih m (.one true) d (c :: t) (by simp only [Md.need, List.length_cons]; omega) (by simp only [Md.need, List.length_cons]; omega)]
          split
          · rfl
          · cases h : lexD m (.one true) d (c :: t) with
            | error e => rfl
            | ok x =>
              obtain ⟨l, r1⟩ := x
              have hl := lexD_len _ _ _ _ _ _ h
              simp only [Md.least, List.length_cons] at hl
              dsimp only
              rw [ih m .dq d r1 (by simp only [Md.need]; omega) (by simp only [Md.need]; omega)]
      | br q =>
        rw [lexD_br, lexD_br]
        cases r with
        | nil => rfl
        | cons c t =>
          simp only [Md.need, List.length_cons] at hn hm
          dsimp only
          rw [ih m (.one q) d (c :: t) (by simp only [Md.need, List.length_cons]; omega) (by simp only [Md.need, List.length_cons]; omega)]
          split
          · rfl
          · cases h : lexD m (.one q) d (c :: t) with
            | error e => rfl
            | ok x =>
              obtain ⟨l, r1⟩ := x
              have hl := lexD_len _ _ _ _ _ _ h
              simp only [Md.least, List.length_cons] at hl
              dsimp only
              rw [ih m (.br q) d r1 (by simp only [Md.need]; omega) (by simp only [Md.need]; omega)]
      | dol q =>
        rw [lexD_dol, lexD_dol]
        by_cases h : headIs 123 r = true
        · obtain ⟨t, rfl⟩ := headIs_cons h
          simp only [Md.need, List.length_cons] at hn hm
          rw [if_pos h, if_pos h]
          exact ih m (.brace q) d t (by simp only [Md.need]; omega) (by simp only [Md.need]; omega)
        · rw [if_neg h, if_neg h]
      | brace q =>
        rw [lexD_brace, lexD_brace]
        obtain ⟨r1, hr1⟩ : ∃ r1, r1 = if longB r then r.tail else r := ⟨_, rfl⟩
        have hl1 : r1.length ≤ r.length := by rw [hr1]; split <;> simp
        rw [← hr1]
        by_cases h0 : nameF true r1 = 0
        · rw [if_pos h0, if_pos h0]
        · rw [if_neg h0, if_neg h0]
          have hk := nameF_le true r1
          have hl2 : ((r1.drop (nameF true r1)).drop (opF (r1.drop (nameF true r1))).length).length + 1 ≤ r.length := by
            rw [List.length_drop, List.length_drop]; omega
          rw [ih m (.br q) (d + 1) _ (by simp only [Md.need] at hn ⊢; omega) (by simp only [Md.need] at hm ⊢; omega)]

/-- What is read, with fuel enough. -/
def lexC (md : Md) (d : Nat) (r : List UInt8) : Res := lexD (2 * r.length + 2) md d r
theorem lexC_of {n : Nat} {md : Md} {d : Nat} {r : List UInt8} (h : md.need r ≤ n) : lexD n md d r = lexC md d r :=
  lexD_fuel _ _ _ _ _ h (by cases md <;> simp only [Md.need] <;> omega)

theorem wordD_fuel (wh : Bool) : ∀ (n m : Nat) (r : List UInt8), r.length < n → r.length < m → wordD wh n r = wordD wh m r := by
  intro n
  induction n with
  | zero => intro m r hn; omega
  | succ n ih =>
    intro m r hn hm
    cases m with
    | zero => omega
    | succ m =>
      rw [wordD_succ, wordD_succ]
      cases r with
      | nil => rfl
      | cons c t =>
        dsimp only
        split
        · rfl
        · cases h : lexD (2 * (c :: t).length + 2) (.one false) 0 (c :: t) with
          | error e => rfl
          | ok x =>
            obtain ⟨l, r1⟩ := x
            have hl := lexD_len _ _ _ _ _ _ h
            simp only [Md.least, List.length_cons] at hl hn hm
            dsimp only
            rw [ih m r1 (by omega) (by omega)]
def wordC (wh : Bool) (r : List UInt8) : Res := wordD wh (r.length + 1) r
theorem wordC_nil (wh : Bool) : wordC wh [] = .ok ([], []) := rfl
theorem wordC_cons (wh : Bool) (c : UInt8) (t : List UInt8) : wordC wh (c :: t) = if !wh && breaksB c then .ok ([], c :: t) else match lexC (.one false) 0 (c :: t) with
      | .error e => .error e
      | .ok (l, r1) => (wordC wh r1).ahead l := by
  unfold wordC
  rw [wordD_succ]
  dsimp only
  split
  · rfl
  · show (match lexC (.one false) 0 (c :: t) with | .error e => _ | .ok (l, r1) => _) = _
    cases h : lexC (.one false) 0 (c :: t) with
    | error e => rfl
    | ok x =>
      obtain ⟨l, r1⟩ := x
      have hl := lexD_len _ _ _ _ _ _ h
      simp only [Md.least, List.length_cons] at hl
      dsimp only
      rw [wordD_fuel wh (c :: t).length (r1.length + 1) r1 (by simp only [List.length_cons]; omega) (by omega)]
theorem tokD_fuel : ∀ (n m : Nat) (r : List UInt8), r.length < n → r.length < m → tokD n r = tokD m r := by
  intro n
  induction n with
  | zero => intro m r hn; omega
  | succ n ih =>
    intro m r hn hm
    cases m with
    | zero => omega
    | succ m =>
      rw [tokD_succ, tokD_succ]
      have hs := skip_len false r
      cases h : skipF false r with
      | nil => rfl
      | cons c t =>
        dsimp only
        rw [h] at hs
        simp only [List.length_cons] at hs
        cases h2 : tokOne (c :: t) with
        | error e => rfl
        | ok x =>
          obtain ⟨y, r1⟩ := x
          have hl := tokOne_len (skip_head h) h2
          dsimp only
          rw [ih m r1 (by omega) (by omega)]
def tokC (r : List UInt8) : Except Nat (List Tk) := tokD (r.length + 1) r
theorem tokC_eq (r : List UInt8) : tokC r = match skipF false r with
    | [] => .ok []
    | c :: t => match tokOne (c :: t) with
      | .error e => .error e
      | .ok (x, r1) => consT x (tokC r1) := by
  unfold tokC
  rw [tokD_succ]
  have hs := skip_len false r
  cases h : skipF false r with
  | nil => rfl
  | cons c t =>
    dsimp only
    rw [h] at hs
    simp only [List.length_cons] at hs
    cases h2 : tokOne (c :: t) with
    | error e => rfl
    | ok x =>
      obtain ⟨y, r1⟩ := x
      have hl := tokOne_len (skip_head h) h2
      dsimp only
      rw [tokD_fuel r.length (r1.length + 1) r1 (by omega) (by omega)]
theorem tokC_skip (r : List UInt8) (h : skipF false r = skipF false (skipF false r)) : tokC r = tokC (skipF false r) := by rw [tokC_eq r, tokC_eq (skipF false r), ← h]
theorem tokOne_word {r : List UInt8} (h : operF r = []) (h38 : headIs 38 r = false) : tokOne r = match wordC false r with
    | .error e => .error e
    | .ok (l, r1) => .ok (⟨1, [], tidyF l⟩, r1) := by
  unfold tokOne wordC
  rw [if_pos (by rw [h]; rfl), if_neg (by rw [h38]; simp)]
  rfl
theorem tokOne_op {r : List UInt8} (h : operF r ≠ []) : tokOne r = .ok (⟨2, operF r, []⟩, r.drop (operF r).length) := by
  unfold tokOne
  rw [if_neg (by simpa using h)]
theorem tokensF_C (s : List UInt8) (h : mayF s = 0) : tokensF s = tokC s := by unfold tokensF tokC; rw [if_pos h]
theorem wholeF_C (s : List UInt8) (h : mayF s = 0) : wholeF s = match wordC true s with | .error e => .error e | .ok (l, _) => .ok (tidyF l) := by unfold wholeF wordC; rw [if_pos h]; rfl

/-- A byte that stands for itself in a word. -/
def plainB (c : UInt8) : Bool := !(c == 39 || c == 34 || c == 92 || c == 96 || c == 36)
theorem lexC_plain {c : UInt8} (h : plainB c = true) (d : Nat) (t : List UInt8) : lexC (.one false) d (c :: t) = .ok ([txtP [c]], t) := by
  unfold lexC
  rw [lexD_out]
  simp only [plainB, Bool.not_eq_true', Bool.or_eq_false_iff] at h
  obtain ⟨⟨⟨⟨h1, h2⟩, h3⟩, h4⟩, h5⟩ := h
  rw [h1, h2, h3, h4, h5]
  rfl
theorem ahead_add (l m : List Pt) (R : Res) : (R.ahead m).ahead l = R.ahead (l ++ m) := by
  cases R with
  | error e => rfl
  | ok x => obtain ⟨a, b⟩ := x; show Except.ok _ = Except.ok _; rw [List.append_assoc]
/-- A run of such bytes. -/
theorem wordC_run (wh : Bool) : ∀ (s r : List UInt8), (∀ c ∈ s, plainB c = true ∧ (wh = true ∨ breaksB c = false)) → wordC wh (s ++ r) = (wordC wh r).ahead (s.map fun c => txtP [c])
  | [], r, _ => by
    show wordC wh r = _
    cases wordC wh r with
    | error e => rfl
    | ok x => rfl
  | c :: s, r, h => by
    obtain ⟨h1, h2⟩ := h c (List.mem_cons_self ..)
    rw [List.cons_append, wordC_cons, if_neg (by rcases h2 with h2 | h2 <;> rw [h2] <;> simp), lexC_plain h1]
    dsimp only
    rw [wordC_run wh s r (fun x hx => h x (List.mem_cons_of_mem _ hx)), ahead_add]
    rfl
/-- Texts side by side are one. -/
theorem fold_txt (s : List UInt8) : ∀ (a : List UInt8) (out : List Pt) (b : Bool), (s.map fun c => txtP [c]).foldl stepN (out ++ [txtP a], b) = (out ++ [txtP (a ++ s)], b || !s.isEmpty) := by
  induction s with
  | nil => intro a out b; simp
  | cons c s ih =>
    intro a out b
    rw [List.map_cons, List.foldl_cons]
    have e : stepN (out ++ [txtP a], b) (txtP [c]) = (out ++ [txtP (a ++ [c])], true) := by
      unfold stepN
      rw [if_neg (by show ¬ (txtP [c]).isE = true; simp [txtP, Pt.isE, Pt.kind])]
      rw [addP_yes (by show (txtP a).joins (txtP [c]) = true; rfl)]
      rfl
    rw [e, ih]
    simp
theorem fold_quo (s : List UInt8) : ∀ (a : List UInt8) (out : List Pt) (b : Bool), (s.map fun c => quoP [c]).foldl stepN (out ++ [quoP a], b) = (out ++ [quoP (a ++ s)], b || !s.isEmpty) := by
  induction s with
  | nil => intro a out b; simp
  | cons c s ih =>
    intro a out b
    rw [List.map_cons, List.foldl_cons]
    have e : stepN (out ++ [quoP a], b) (quoP [c]) = (out ++ [quoP (a ++ [c])], true) := by
      unfold stepN
      rw [if_neg (by show ¬ (quoP [c]).isE = true; simp [quoP, Pt.isE, Pt.kind, Pt.text])]
      rw [addP_yes (by show (quoP a).joins (quoP [c]) = true; rfl)]
      rfl
    rw [e, ih]
    simp
theorem tidy_txt {c : UInt8} {s : List UInt8} : tidyF ((c :: s).map fun c => txtP [c]) = [txtP (c :: s)] := by
  have h : normF ((c :: s).map fun c => txtP [c]) = ([txtP (c :: s)], true) := by
    unfold normF
    rw [List.map_cons, List.foldl_cons]
    show List.foldl stepN ([txtP [c]], true) _ = _
    have := fold_txt s [c] [] true
    simpa using this
  unfold tidyF
  rw [h]
  rfl
theorem tidy_quo (s : List UInt8) : tidyF (quoP [] :: s.map fun c => quoP [c]) = [quoP s] := by
  cases s with
  | nil => rfl
  | cons c s =>
    have h : normF (quoP [] :: (c :: s).map fun c => quoP [c]) = ([quoP (c :: s)], true) := by
      unfold normF
      rw [List.map_cons, List.foldl_cons, List.foldl_cons]
      show List.foldl stepN ([quoP [c]], true) _ = _
      have := fold_quo s [c] [] true
      simpa using this
    unfold tidyF
    rw [h]
    rfl
/-- A byte in quotes, and letters behind it. -/
theorem tidy_back (c x : UInt8) (s : List UInt8) : tidyF (quoP [c] :: (x :: s).map fun c => txtP [c]) = [quoP [c], txtP (x :: s)] := by
  have h : normF (quoP [c] :: (x :: s).map fun c => txtP [c]) = ([quoP [c], txtP (x :: s)], true) := by
    unfold normF
    rw [List.map_cons, List.foldl_cons, List.foldl_cons]
    show List.foldl stepN ([quoP [c], txtP [x]], true) _ = _
    have := fold_txt s [x] [quoP [c]] true
    simpa using this
  unfold tidyF
  rw [h]
  rfl
end Go.Proofs.YtiihpbccabeoeaaDoor
namespace Go.Proofs.YtiihpbccabeoeaaDoor
set_option linter.unusedVariables false

theorem lexC_out (d : Nat) (c : UInt8) (t : List UInt8) : lexC (.one false) d (c :: t) =
    if c == 39 then (match untilF 39 t with
      | none => .error 2
      | some k => .ok ([quoP (t.take k)], t.drop (k + 1)))
    else if c == 34 then (lexC .dq d t).ahead [quoP []]
    else if c == 92 then (match t with
      | [] => .ok ([quoP [92]], [])
      | x :: t' => if x == 10 then .ok ([], t') else .ok ([quoP [x]], t'))
    else if c == 96 then .error 2
    else if c == 36 then lexC (.dol false) d t
    else .ok ([txtP [c]], t) := by
  unfold lexC
  rw [lexD_out, lexC_of (md := .dq) (r := t) (by simp only [Md.need, List.length_cons]; omega), lexC_of (md := .dol false) (r := t) (by simp only [Md.need, List.length_cons]; omega)]
  rfl
theorem lexC_inn (d : Nat) (c : UInt8) (t : List UInt8) : lexC (.one true) d (c :: t) =
    if c == 34 || c == 96 then .error 2
    else if c == 92 && headIs 10 t then .ok ([], t.tail)
    else if c == 92 && escB (t.headD 0) then .ok ([quoP [t.headD 0]], t.tail)
    else if c == 36 then lexC (.dol true) d t
    else .ok ([quoP [c]], t) := by
  unfold lexC
  rw [lexD_inn, lexC_of (md := .dol true) (r := t) (by simp only [Md.need, List.length_cons]; omega)]
  rfl
theorem lexC_dq (d : Nat) (r : List UInt8) : lexC .dq d r = match r with
    | [] => .error 2
    | c :: t => if c == 34 then .ok ([], t) else match lexC (.one true) d r with
      | .error e => .error e
      | .ok (l, r1) => (lexC .dq d r1).ahead l := by
  cases r with
  | nil => rfl
  | cons c t =>
    show lexD (2 * (c :: t).length + 1 + 1) .dq d (c :: t) = _
    rw [lexD_dq, lexC_of (md := .one true) (r := c :: t) (by simp only [Md.need, List.length_cons]; omega)]
    dsimp only
    cases h : lexC (.one true) d (c :: t) with
    | error e => rfl
    | ok x =>
      obtain ⟨l, r1⟩ := x
      have hl := lexD_len _ _ _ _ _ _ h
      simp only [Md.least, List.length_cons] at hl
      dsimp only
      rw [lexC_of (md := .dq) (r := r1) (by simp only [Md.need, List.length_cons]; omega)]
theorem lexC_br (d : Nat) (q : Bool) (r : List UInt8) : lexC (.br q) d r = match r with
    | [] => .error 2
    | c :: t => if c == 125 then .ok ([], t) else match lexC (.one q) d r with
      | .error e => .error e
      | .ok (l, r1) => (lexC (.br q) d r1).ahead l := by
  cases r with
  | nil => rfl
  | cons c t =>
    show lexD (2 * (c :: t).length + 1 + 1) (.br q) d (c :: t) = _
    rw [lexD_br, lexC_of (md := .one q) (r := c :: t) (by simp only [Md.need, List.length_cons]; omega)]
    dsimp only
    cases h : lexC (.one q) d (c :: t) with
    | error e => rfl
    | ok x =>
      obtain ⟨l, r1⟩ := x
      have hl := lexD_len _ _ _ _ _ _ h
      simp only [Md.least, List.length_cons] at hl
      dsimp only
      rw [lexC_of (md := .br q) (r := r1) (by simp only [Md.need, List.length_cons]; omega)]
theorem lexC_dol (d : Nat) (q : Bool) (r : List UInt8) : lexC (.dol q) d r =
    if headIs 123 r then lexC (.brace q) d r.tail
    else if startsF [40, 40] r then (match calcF 0 (r.drop 2) with
      | none => .error 2
      | some k => .ok ([.mk 4 ((r.drop 2).take k) [] [] [] q], (r.drop 2).drop (k + 2)))
    else if headIs 40 r then (match subF .n 0 r.tail with
      | none => .error 2
      | some k => .ok ([.mk 5 (r.tail.take k) [] [] [] q], r.tail.drop (k + 1)))
    else if nameF false r = 0 then .ok ([if q then quoP [36] else txtP [36]], r)
    else .ok ([.mk 3 [] (r.take (nameF false r)) [] [] q], r.drop (nameF false r)) := by
  show lexD (2 * r.length + 1 + 1) (.dol q) d r = _
  rw [lexD_dol]
  by_cases h : headIs 123 r = true
  · rw [if_pos h, if_pos h]
    obtain ⟨t, rfl⟩ := headIs_cons h
    exact lexC_of (by simp only [Md.need, List.length_cons, List.tail_cons]; omega)
  · rw [if_neg h, if_neg h]; rfl
theorem lexC_brace (d : Nat) (q : Bool) (r : List UInt8) : lexC (.brace q) d r =
    if nameF true (if longB r then r.tail else r) = 0 then .error 2
    else if headIs 125 ((if longB r then r.tail else r).drop (nameF true (if longB r then r.tail else r))) then .ok ([.mk 3 [] ((if longB r then r.tail else r).take (nameF true (if longB r then r.tail else r))) (if longB r then [76] else []) [] q], ((if longB r then r.tail else r).drop (nameF true (if longB r then r.tail else r))).tail)
    else if (opF ((if longB r then r.tail else r).drop (nameF true (if longB r then r.tail else r)))).isEmpty || longB r then .error 2
    else if d = 40 then .error 3
    else match lexC (.br q) (d + 1) (((if longB r then r.tail else r).drop (nameF true (if longB r then r.tail else r))).drop (opF ((if longB r then r.tail else r).drop (nameF true (if longB r then r.tail else r)))).length) with
      | .error e => .error e
      | .ok (l, r3) => .ok ([.mk 3 [] ((if longB r then r.tail else r).take (nameF true (if longB r then r.tail else r))) (opF ((if longB r then r.tail else r).drop (nameF true (if longB r then r.tail else r)))) (tidyF l) q], r3) := by
  show lexD (2 * r.length + 1 + 1) (.brace q) d r = _
  rw [lexD_brace]
  by_cases h0 : nameF true (if longB r then r.tail else r) = 0
  · rw [if_pos h0, if_pos h0]
  · rw [if_neg h0, if_neg h0]
    have hl1 : (if longB r then r.tail else r).length ≤ r.length := by split <;> simp
    rw [lexC_of (md := .br q) (by
      simp only [Md.need]
      rw [List.length_drop, List.length_drop]
      have hk := nameF_le true (if longB r then r.tail else r)
      omega)]
    rfl
end Go.Proofs.YtiihpbccabeoeaaDoor
namespace Go.Proofs.YtiihpbccabeoeaaDoor
open Go.RowKit
set_option linter.unusedVariables false

/-- A small letter. -/
def lowB (c : UInt8) : Bool := decide (97 ≤ c.toNat) && decide (c.toNat ≤ 122)
theorem all_u8 {P : UInt8 → Bool} (h : ∀ n : Fin 256, P (UInt8.ofNat n.val) = true) (c : UInt8) : P c = true := by
  have := h ⟨c.toNat, c.toNat_lt⟩
  simpa using this
/-- With what an operator begins. -/
def opHead (c : UInt8) : Bool := c == 50 || c == 59 || c == 38 || c == 124 || c == 62 || c == 40 || c == 41 || c == 60 || c == 10
theorem operF_nil {c : UInt8} (h : opHead c = false) (t : List UInt8) : operF (c :: t) = [] := by
  unfold operF findF
  rw [List.find?_eq_none.2 (fun o ho => ?_)]
  · rfl
  · simp only [opHead, Bool.or_eq_false_iff] at h
    obtain ⟨⟨⟨⟨⟨⟨⟨⟨h1, h2⟩, h3⟩, h4⟩, h5⟩, h6⟩, h7⟩, h8⟩, h9⟩ := h
    have hc : ∀ a : UInt8, (c == a) = (a == c) := fun a => by rw [Bool.eq_iff_iff, beq_iff_eq, beq_iff_eq]; exact ⟨Eq.symm, Eq.symm⟩
    rw [hc] at h1 h2 h3 h4 h5 h6 h7 h8 h9
    simp only [operL, List.mem_cons, List.not_mem_nil, or_false] at ho
    rcases ho with rfl | rfl | rfl | rfl | rfl | rfl | rfl | rfl | rfl | rfl | rfl | rfl | rfl <;> simp [startsF, *]
theorem low_plain {c : UInt8} (h : lowB c = true) : plainB c = true ∧ breaksB c = false ∧ opHead c = false ∧ (c == 32 || c == 9) = false ∧ (c == 35) = false ∧ (c == 92) = false ∧ (c == 0) = false := by
  have := all_u8 (P := fun c => !lowB c || (plainB c && !breaksB c && !opHead c && !(c == 32 || c == 9) && !(c == 35) && !(c == 92) && !(c == 0))) (by decide +kernel) c
  rw [h] at this
  simpa [and_assoc] using this
theorem skip_stay {c : UInt8} (h1 : (c == 32 || c == 9) = false) (h2 : (c == 35) = false) (h3 : (c == 92) = false) (t : List UInt8) : skipF false (c :: t) = c :: t := by
  rw [skipF_cons, h1, h2, h3]
  simp
theorem tokC_nil : tokC [] = .ok [] := rfl
theorem wordC_all {s : List UInt8} (h : ∀ c ∈ s, lowB c = true) : wordC false s = .ok (s.map fun c => txtP [c], []) := by
  have := wordC_run false s [] (fun c hc => ⟨(low_plain (h c hc)).1, .inr (low_plain (h c hc)).2.1⟩)
  rw [List.append_nil] at this
  rw [this, wordC_nil]
  show Except.ok _ = _
  rw [List.append_nil]
def lowToks (s : List UInt8) : List Tk := match s with | [] => [] | c :: t => [⟨1, [], [txtP (c :: t)]⟩]
theorem tokC_low {s : List UInt8} (h : ∀ c ∈ s, lowB c = true) : tokC s = .ok (lowToks s) := by
  cases s with
  | nil => rfl
  | cons c t =>
    obtain ⟨h1, h2, h3, h4, h5, h6, _⟩ := low_plain (h c (List.mem_cons_self ..))
    rw [tokC_eq, skip_stay h4 h5 h6]
    dsimp only
    rw [tokOne_word (operF_nil h3 t) (by show (c == 38) = false; simp only [opHead, Bool.or_eq_false_iff] at h3; exact h3.1.1.1.1.1.1.2), wordC_all h]
    dsimp only
    rw [tidy_txt]
    rfl
theorem back_nl {s : List UInt8} (h : ∀ c ∈ s, lowB c = true) : tokC (92 :: 10 :: s) = .ok (lowToks s) := by
  have e : skipF false (92 :: 10 :: s) = skipF false s := by
    rw [skipF_cons]; rfl
  rw [tokC_eq, e, ← tokC_low h, tokC_eq]
def backParts (c : UInt8) (s : List UInt8) : List Pt := match s with | [] => [quoP [c]] | x :: t => [quoP [c], txtP (x :: t)]
theorem back_c {c : UInt8} {s : List UInt8} (hc : c ≠ 10) (h : ∀ c ∈ s, lowB c = true) : tokC (92 :: c :: s) = .ok [⟨1, [], backParts c s⟩] := by
  have e : skipF false (92 :: c :: s) = 92 :: c :: s := by
    rw [skipF_cons, if_neg (by decide), if_neg (by decide), if_pos (by decide)]
    dsimp only
    rw [if_neg (by simpa using hc)]
  rw [tokC_eq, e]
  dsimp only
  have e2 : lexC (.one false) 0 (92 :: c :: s) = .ok ([quoP [c]], s) := by
    unfold lexC
    rw [lexD_out, if_neg (by decide), if_neg (by decide), if_pos (by decide)]
    dsimp only
    rw [if_neg (by simpa using hc)]
  rw [tokOne_word (operF_nil (by decide) _) rfl, wordC_cons, if_neg (by decide), e2]
  dsimp only
  rw [wordC_all h]
  cases s with
  | nil => rfl
  | cons x t =>
    show consT ⟨1, [], tidyF (quoP [c] :: (x :: t).map fun c => txtP [c])⟩ (tokC []) = _
    rw [tidy_back]
    rfl
/-- Parts without words in a row. -/
theorem flat_reads {w : World} {D : Nat → Prop} {v : Value} {raw : List Pt} (hown : w.ownsRow 0 85 6 v raw.length (cellsL raw (raw.map fun _ => .slice none 0 0))) (hw : ∀ i (h : i < raw.length), raw[i].word = []) (hD : ∀ g, v.ownBlock = some g → D g) : ∃ n, PtsAt w D n raw v :=
  OwnPts.reads (D := D) ⟨raw.map fun _ => .slice none 0 0, 0, by simp, hown, fun i h h' => by
    rw [hw i h]
    simp only [List.getElem_map]
    exact PtsAt.nil _ _ 0⟩ hD
theorem one_own (w : World) (kd : Nat) (T : ByteArray) (q : Bool) : (w.alloc (.cells #[.int .i64 kd, .string T, .string ⟨#[]⟩, .string ⟨#[]⟩, .slice none 0 0, .bool q] 85)).ownsRow 0 85 6 (.slice (some ⟨w.heap.size, 0, none⟩) 1 1) 1 [.int .i64 kd, .string T, .string ⟨#[]⟩, .string ⟨#[]⟩, .slice none 0 0, .bool q] :=
  World.ownsRow_lit w #[.int .i64 kd, .string T, .string ⟨#[]⟩, .string ⟨#[]⟩, .slice none 0 0, .bool q] 1 (Nat.zero_le _) (by unfold maxLen; omega) rfl
theorem one_reads (w : World) (kd : Nat) (T : ByteArray) (q : Bool) : ∃ n, PtsAt (w.alloc (.cells #[.int .i64 kd, .string T, .string ⟨#[]⟩, .string ⟨#[]⟩, .slice none 0 0, .bool q] 85)) (fun _ => True) n [.mk kd T.data.toList [] [] [] q] (.slice (some ⟨w.heap.size, 0, none⟩) 1 1) := by
  refine flat_reads (raw := [.mk kd T.data.toList [] [] [] q]) ?_ (fun i h => ?_) (fun _ _ => trivial)
  · exact one_own w kd T q
  · obtain rfl : i = 0 := by simp at h; omega
    rfl
theorem may_low {s : List UInt8} (hl : s.length ≤ 16384) (h : ∀ c ∈ s, (c == 0) = false) : mayF s = 0 := by
  unfold mayF
  rw [if_neg (by omega), if_neg]
  intro hc
  rw [List.contains_iff_mem] at hc
  have := h 0 hc
  cases this
end Go.Proofs.YtiihpbccabeoeaaDoor
namespace Go.Proofs.YtiihpbccabeoeaaDoor
set_option linter.unusedVariables false

/-- The operators of a law, by number. -/
def lawOps : List (List UInt8) := [[59, 59], [38, 38], [124, 124], [62, 62], [59], [124], [40], [41], [60], [62], [10]]
def padO (blank : Bool) (o : List UInt8) : List UInt8 := if blank then 32 :: (o ++ [9]) else o
def opsX (blank : Bool) : Bool → List (List UInt8) → List UInt8
  | _, [] => []
  | first, o :: l => (if first then [] else [97]) ++ (padO blank o ++ opsX blank false l)
def opTk (o : List UInt8) : Tk := ⟨2, o, []⟩
def aTk : Tk := ⟨1, [], [txtP [97]]⟩
def opsT : Bool → List (List UInt8) → List Tk
  | _, [] => []
  | first, o :: l => (if first then [] else [aTk]) ++ (opTk o :: opsT false l)
theorem opsX_snoc (blank : Bool) (o : List UInt8) : ∀ (l : List (List UInt8)) (first : Bool), opsX blank first (l ++ [o]) = opsX blank first l ++ ((if first && l.isEmpty then [] else [97]) ++ padO blank o)
  | [], first => by cases first <;> simp [opsX]
  | x :: l, first => by
    rw [List.cons_append]
    unfold opsX
    rw [opsX_snoc blank o l false]
    simp
theorem opsT_snoc (o : List UInt8) : ∀ (l : List (List UInt8)) (first : Bool), opsT first (l ++ [o]) = opsT first l ++ ((if first && l.isEmpty then [] else [aTk]) ++ [opTk o])
  | [], first => by cases first <;> simp [opsT]
  | x :: l, first => by
    rw [List.cons_append]
    unfold opsT
    rw [opsT_snoc o l false]
    simp
theorem op_take {o : List UInt8} (ho : o ∈ lawOps) {X : List UInt8} (hX : X = [] ∨ ∃ c t, X = c :: t ∧ (c = 9 ∨ c = 97)) : operF (o ++ X) = o ∧ (∃ c t, o ++ X = c :: t ∧ (c == 32 || c == 9) = false ∧ (c == 35) = false ∧ (c == 92) = false ∧ breaksB c = true) ∧ o ≠ [] := by
  simp only [lawOps, List.mem_cons, List.not_mem_nil, or_false] at ho
  rcases hX with rfl | ⟨c, t, rfl, rfl | rfl⟩
  all_goals (rcases ho with rfl | rfl | rfl | rfl | rfl | rfl | rfl | rfl | rfl | rfl | rfl <;> exact ⟨rfl, ⟨_, _, rfl, by decide, by decide, by decide, by decide⟩, by decide⟩)
theorem tokC_blank {c : UInt8} (h : (c == 32 || c == 9) = true) (r : List UInt8) : tokC (c :: r) = tokC r := by
  rw [tokC_eq, tokC_eq r, skipF_cons, if_pos h]
theorem tokC_op {o : List UInt8} (ho : o ∈ lawOps) {X : List UInt8} (hX : X = [] ∨ ∃ c t, X = c :: t ∧ (c = 9 ∨ c = 97)) : tokC (o ++ X) = consT (opTk o) (tokC X) := by
  obtain ⟨h1, ⟨c, t, e, h2, h3, h4, _⟩, h5⟩ := op_take ho hX
  have hs : skipF false (o ++ X) = o ++ X := by rw [e]; exact skip_stay h2 h3 h4 t
  have ht : tokOne (o ++ X) = .ok (⟨2, o, []⟩, X) := by
    rw [tokOne_op (by rw [h1]; exact h5), h1, List.drop_left]
  rw [tokC_eq, hs]
  rw [e] at ht ⊢
  dsimp only
  rw [ht]
  rfl
theorem tokC_a {X : List UInt8} (hX : ∃ c t, X = c :: t ∧ breaksB c = true) : tokC (97 :: X) = consT aTk (tokC X) := by
  obtain ⟨c, t, rfl, hc⟩ := hX
  rw [tokC_eq, skip_stay (by decide) (by decide) (by decide)]
  dsimp only
  rw [tokOne_word (operF_nil (by decide) _) rfl, wordC_cons, if_neg (by decide), lexC_plain (by decide)]
  dsimp only
  rw [wordC_cons, if_pos (by rw [hc]; rfl)]
  rfl
theorem ops_head (blank : Bool) {o : List UInt8} (ho : o ∈ lawOps) {X : List UInt8} (hX : X = [] ∨ ∃ t, X = 97 :: t) : ∃ c t, padO blank o ++ X = c :: t ∧ breaksB c = true := by
  cases blank with
  | true => exact ⟨32, _, rfl, by decide⟩
  | false =>
    obtain ⟨_, ⟨c, t, e, _, _, _, hb⟩, _⟩ := op_take ho (X := X) (by rcases hX with h | ⟨t, h⟩; exact .inl h; exact .inr ⟨97, t, h, .inr rfl⟩)
    exact ⟨c, t, e, hb⟩
theorem ops_rest (blank : Bool) (l : List (List UInt8)) : opsX blank false l = [] ∨ ∃ t, opsX blank false l = 97 :: t := by
  cases l with
  | nil => exact .inl rfl
  | cons o l => exact .inr ⟨_, rfl⟩
theorem consT_ok (x : Tk) (l : List Tk) : consT x (.ok l) = .ok (x :: l) := rfl
theorem tokC_pad (blank : Bool) {o : List UInt8} (ho : o ∈ lawOps) {X : List UInt8} (hX : X = [] ∨ ∃ t, X = 97 :: t) : tokC (padO blank o ++ X) = consT (opTk o) (tokC X) := by
  cases blank with
  | true =>
    show tokC (32 :: (o ++ [9] ++ X)) = _
    rw [tokC_blank (by decide), List.append_assoc, tokC_op ho (X := [9] ++ X) (.inr ⟨9, X, rfl, .inl rfl⟩)]
    show consT (opTk o) (tokC (9 :: X)) = _
    rw [tokC_blank (by decide)]
  | false => exact tokC_op ho (by rcases hX with h | ⟨t, h⟩; exact .inl h; exact .inr ⟨97, t, h, .inr rfl⟩)
theorem tokC_ops (blank : Bool) : ∀ (l : List (List UInt8)) (first : Bool), (∀ o ∈ l, o ∈ lawOps) → tokC (opsX blank first l) = .ok (opsT first l)
  | [], first, _ => rfl
  | o :: l, first, h => by
    have ho := h o (List.mem_cons_self ..)
    have ih := tokC_ops blank l false (fun x hx => h x (List.mem_cons_of_mem _ hx))
    have hr := ops_rest blank l
    unfold opsX opsT
    cases first with
    | true =>
      simp only [if_true, List.nil_append]
      rw [tokC_pad blank ho hr, ih]
      rfl
    | false =>
      simp only [Bool.false_eq_true, if_false, List.singleton_append]
      rw [tokC_a (ops_head blank ho hr), tokC_pad blank ho hr, ih]
      rfl
theorem opsX_len (blank : Bool) : ∀ (l : List (List UInt8)) (first : Bool), (∀ o ∈ l, o ∈ lawOps) → (opsX blank first l).length ≤ 5 * l.length
  | [], first, _ => by simp [opsX]
  | o :: l, first, h => by
    have ih := opsX_len blank l false (fun x hx => h x (List.mem_cons_of_mem _ hx))
    have ho : ∀ o ∈ lawOps, o.length ≤ 2 := by decide
    have ho := ho o (h o (List.mem_cons_self ..))
    have h1 : (padO blank o).length ≤ o.length + 2 := by cases blank <;> simp [padO]
    unfold opsX
    simp only [List.length_append, List.length_cons]
    have h2 : (if first = true then ([] : List UInt8) else [97]).length ≤ 1 := by split <;> simp
    omega
theorem opsX_zero (blank : Bool) : ∀ (l : List (List UInt8)) (first : Bool), (∀ o ∈ l, o ∈ lawOps) → ∀ c ∈ opsX blank first l, (c == 0) = false
  | [], first, _, c, hc => by cases hc
  | o :: l, first, h, c, hc => by
    have ho : ∀ o ∈ lawOps, ∀ c ∈ o, (c == 0) = false := by decide
    have ho := ho o (h o (List.mem_cons_self ..))
    unfold opsX at hc
    rcases List.mem_append.1 hc with hc | hc
    · cases first
      · rw [List.mem_singleton.1 hc]; rfl
      · cases hc
    · rcases List.mem_append.1 hc with hc | hc
      · cases blank
        · exact ho c hc
        · rcases List.mem_cons.1 hc with rfl | hc
          · rfl
          · rcases List.mem_append.1 hc with hc | hc
            · exact ho c hc
            · rw [List.mem_singleton.1 hc]; rfl
      · exact opsX_zero blank l false (fun x hx => h x (List.mem_cons_of_mem _ hx)) c hc
theorem opsT_len : ∀ (l : List (List UInt8)) (first : Bool), (opsT first l).length ≤ 2 * l.length
  | [], first => by simp [opsT]
  | o :: l, first => by
    have ih := opsT_len l false
    unfold opsT
    simp only [List.length_append, List.length_cons]
    have h2 : (if first = true then ([] : List Tk) else [aTk]).length ≤ 1 := by split <;> simp
    omega
end Go.Proofs.YtiihpbccabeoeaaDoor
namespace Go.Proofs.YtiihpbccabeoeaaDoor
open Go.RowKit
set_option linter.unusedVariables false

theorem cellsT_mem : ∀ {m : List Tk} {us : List Value} {x : Value}, x ∈ cellsT m us → ∃ p ∈ m, ∃ v ∈ us, x ∈ cellsK p v
  | [], us, x, h => by cases us <;> cases h
  | p :: l, [], x, h => by cases h
  | p :: l, v :: vs, x, h => by
    simp only [cellsT, List.mem_append] at h
    rcases h with h | h
    · exact ⟨p, List.mem_cons_self .., v, List.mem_cons_self .., h⟩
    · obtain ⟨q, hq, u, hu, hx⟩ := cellsT_mem h
      exact ⟨q, List.mem_cons_of_mem _ hq, u, List.mem_cons_of_mem _ hu, hx⟩
theorem OwnTks.news {w : World} {E : Nat → Prop} {u : Value} {m : List Tk} (h : OwnTks w E u m) (hm : 0 < m.length) :
    ∃ ad c us k, u = .slice (some ad) m.length c ∧ us.length = m.length ∧ (cellsT m us).length = m.length * 3 ∧ (∀ j x, (cellsT m us)[j]? = some x → w.cell? (ad.add j) = some x) ∧ (∀ x ∈ cellsT m us, x.oneCell' = true) ∧ ∀ i (h : i < m.length) (h' : i < us.length), PtsAt w E k m[i].word us[i] := by
  obtain ⟨vs, n, hl, ho, hn⟩ := h
  obtain ⟨g, cap, rfl, _, _⟩ := ho.form hm
  refine ⟨⟨g, 0, none⟩, cap, vs, n, rfl, hl, ho.1, fun j x hx => ?_, fun x hx => ?_, fun i h h' => (hn i h h').mono fun b _ hb => hb.1⟩
  · have hj : j < m.length * 3 := by rw [← ho.1]; exact (List.getElem?_eq_some_iff.1 hx).1
    have := ho.cellAt j hj
    rw [hx] at this
    rw [← this]
    exact congrArg w.cell? (by unfold Addr.add; split <;> simp [*])
  · obtain ⟨p, hp, v, hv, hx⟩ := cellsT_mem hx
    obtain ⟨i, hi, rfl⟩ := List.mem_iff_getElem.1 hv
    obtain ⟨a, c, e, _⟩ := (hn i (by omega) hi).shape
    rw [e] at hx
    simp only [cellsK, List.mem_cons, List.not_mem_nil, or_false] at hx
    rcases hx with rfl | rfl | rfl
    · rfl
    · rfl
    · rfl
theorem OwnTks.bound {w : World} {D : Nat → Prop} {v : Value} {l : List Tk} (h : OwnTks w D v l) : OwnTks w (fun b => D b ∧ b < w.heap.size) v l := by
  obtain ⟨vs, n, hl, ho, hn⟩ := h
  exact ⟨vs, n, hl, ho, fun i h h' => (hn i h h').mono fun b hb hd => ⟨⟨hd.1, hb⟩, hd.2⟩⟩
theorem OwnTks.mono' {w : World} {D D' : Nat → Prop} {v : Value} {l : List Tk} (h : OwnTks w D v l) (hD : ∀ b, D b → D' b) : OwnTks w D' v l := by
  obtain ⟨vs, n, hl, ho, hn⟩ := h
  exact ⟨vs, n, hl, ho, fun i h h' => (hn i h h').mono fun b hb hd => ⟨hD b hd.1, hd.2⟩⟩
/-- Many more. -/
theorem grow_all {w w' : World} {v v' : Value} {E : Nat → Prop} {raw more : List Tk} {vs us : List Value} {n m : Nat} (hl : vs.length = raw.length) (hl2 : us.length = more.length)
    (hnest : ∀ i (h : i < raw.length) (h' : i < vs.length), PtsAt w (fun b => v.ownBlock ≠ some b) n raw[i].word vs[i])
    (hmore : ∀ i (h : i < more.length) (h' : i < us.length), PtsAt w E m more[i].word us[i]) (hE : ∀ b, E b → v.ownBlock ≠ some b)
    (hown : w'.ownsRow 0 66 3 v' (raw.length + more.length) (cellsT raw vs ++ cellsT more us)) (hk : Keeps (fun b => v.ownBlock = some b) w w')
    (hg : ∀ y, v'.ownBlock = some y → v.ownBlock = some y ∨ w.heap.size ≤ y) :
    OwnTks w' (fun _ => True) v' (raw ++ more) := by
  have key : ∀ (k : Nat) (l : List Pt) (u : Value), PtsAt w (fun b => v.ownBlock ≠ some b) k l u → PtsAt w' (fun b => True ∧ v'.ownBlock ≠ some b) k l u := fun k l u h => by
    have h2 : PtsAt w (fun b => v.ownBlock ≠ some b ∧ b < w.heap.size) k l u := h.mono fun b hb hd => ⟨hd, hb⟩
    refine (h2.keep hk (fun b _ hd s => hd.1 s)).mono fun b _ hd => ⟨trivial, fun e => ?_⟩
    rcases hg b e with h3 | h3
    · exact hd.1 h3
    · have := hd.2; omega
  refine ⟨vs ++ us, max n m, by simp [hl, hl2], ?_, fun i h h' => ?_⟩
  · rw [cellsT_append hl, List.length_append]
    exact hown
  · by_cases hi : i < raw.length
    · rw [List.getElem_append_left hi, List.getElem_append_left (by omega)]
      exact (key _ _ _ (hnest i hi (by omega))).le (by omega)
    · rw [List.length_append] at h
      rw [List.getElem_append_right (by omega), List.getElem_append_right (by omega)]
      simp only [hl]
      exact (key _ _ _ ((hmore (i - raw.length) (by omega) (by omega)).mono fun b _ hb => hE b hb)).le (by omega)
/-- append(x, y...): what it asks and what it gives; y has tokens. -/
theorem OwnTks.join {w : World} {D E : Nat → Prop} {v : Value} {l m : List Tk} {ua : Option Addr} {un uc : Nat} (h : OwnTks w D v l) (hu : OwnTks w E (.slice ua un uc) m) (hm : 0 < m.length) (hE : ∀ b, E b → v.ownBlock ≠ some b) :
    un = m.length ∧ ∃ ad xs news, ua = some ad ∧ w.ownsRow 0 66 3 v l.length xs ∧ news.length = m.length * 3 ∧ (∀ j x, news[j]? = some x → w.cell? (ad.add j) = some x) ∧ (∀ x ∈ news, x.oneCell' = true) ∧
      ∀ g cap (w' : World), w'.ownsRow 0 66 3 (.slice (some ⟨g, 0, none⟩) (l.length + m.length) cap) (l.length + m.length) (xs ++ news) → w.grownBy w' v.ownBlock → (v.ownBlock = some g ∨ g = w.heap.size) →
        (∃ n, TksAt w' (fun _ => True) n (l ++ m) (.slice (some ⟨g, 0, none⟩) (l.length + m.length) cap)) ∧ Keeps (fun b => v.ownBlock = some b) w w' := by
  obtain ⟨ad, c, us, k, e, h1, h2, h3, h4, h5⟩ := hu.news hm
  injection e with e1 e2 e3
  refine ⟨e2, ad, ?_⟩
  obtain ⟨vs, n, hl, ho, hn⟩ := h
  refine ⟨cellsT l vs, cellsT m us, e1, ho, h2, h3, h4, fun g cap w' hown hg hat => ?_⟩
  have hk : Keeps (fun b => v.ownBlock = some b) w w' := (Keeps.refl _ w).grown hg fun k hk _ => hk
  refine ⟨?_, hk⟩
  have ho := grow_all (v := v) (v' := .slice (some ⟨g, 0, none⟩) (l.length + m.length) cap) hl h1 (fun i h h' => (hn i h h').mono fun b _ hb => hb.2) h5 hE hown hk (fun y hy => by
    obtain rfl : g = y := Option.some.inj hy
    rcases hat with e | e
    · exact .inl e
    · exact .inr (by omega))
  exact ho.reads (fun _ _ => trivial)
/-- append(x, line end). -/
theorem OwnTks.line {w : World} {B : Nat} {v : Value} {l : List Tk} {o : Obj} (T : ByteArray) (h : OwnTks w (fun b => B ≤ b) v l) (hlow : ∀ g, v.ownBlock = some g → B ≤ g) (hB : B ≤ w.heap.size) :
    ∃ xs, (w.alloc o).ownsRow 0 66 3 v l.length xs ∧ ∀ g cap (w' : World), w'.ownsRow 0 66 3 (.slice (some ⟨g, 0, none⟩) (l.length + 1) cap) (l.length + 1) (xs ++ [.int .i64 2, .string T, .slice none 0 0]) → (w.alloc o).grownBy w' v.ownBlock → (v.ownBlock = some g ∨ g = w.heap.size + 1) →
      OwnTks w' (fun b => B ≤ b) (.slice (some ⟨g, 0, none⟩) (l.length + 1) cap) (l ++ [⟨2, T.data.toList, []⟩]) ∧ B ≤ g ∧ (v.ownBlock = some g ∨ w.heap.size ≤ g) ∧ Keeps (fun b => v.ownBlock = some b) w w' := by
  obtain ⟨vs, m, hl, ho, hn⟩ := h
  refine ⟨_, ho.alloc o, fun g cap w' hown hg hat => ?_⟩
  have k : Keeps (fun b => v.ownBlock = some b) w w' := ((Keeps.refl _ w).alloc o).grown hg fun k hk _ => hk
  have hgo : v.ownBlock = some g ∨ w.heap.size ≤ g := by
    rcases hat with e | e
    · exact .inl e
    · exact .inr (by omega)
  have hgB : B ≤ g := by
    rcases hgo with e | e
    · exact hlow _ e
    · omega
  refine ⟨grow_tks (B := B) (v := v) (w := w) (x := ⟨2, T.data.toList, []⟩) (m := 0) (PtsAt.nil w _ 0) hl hn (by unfold cellsK; dsimp only; rw [show strV T.data.toList = .string T from strV_of rfl]; exact hown) k (fun y hy => ?_), hgB, hgo, k⟩
  obtain rfl : g = y := Option.some.inj hy
  exact hgo
/-- append(x, nothing...), behind a guard that lets it. -/
theorem wpList_append_none {P : Program} {w : World} {ops : Array Oper} {rest : List Oper} {o : Oper} {a : Act} {Q : Exit → Act → World → Prop} (hgd : Region.wanted o (yielded ops a.tmps) = true) (s x : Operand) (t : TypeId)
    (ho : o.op = .call { callee := .builtin .append, args := #[s, x], argTypes := #[t, t] }) (e : TypeId) (i : TypeInfo) (ht : P.underlying t = some (.slice e)) (hi : P.info? e = some i)
    (sa : Option Addr) (n c : Nat) (hs : a.eval s = .slice sa n c) (hle : n ≤ c) (xa : Option Addr) (xc : Nat) (hx : a.eval x = .slice xa 0 xc)
    (h : wpList P ops Q rest (a.put o.dst (.slice sa n c)) w) : wpList P ops Q (o :: rest) a w :=
  wpList_step fun K hK => by
    rw [if_pos hgd]
    have hsrc : Src P i.size t (.slice xa 0 xc) 0 [] w := by
      cases xa with
      | none => exact Src.ofNil w ht xc
      | some ad => exact Src.ofSlice w ht ad 0 xc [] (by simp) (fun j u hu => by simp at hu) (fun u hu => by cases hu)
    have hr := run_append_nothing (P := P) w t t o.type e i ht hi sa n c hle (.slice xa 0 xc) hsrc
    unfold Oper.wp execOp
    simp only [ho, resolve, invoke, builtin, Sem.run_bind, Sem.run_pure, Result.andThen_ok, List.map_toArray, List.map_cons, List.map_nil, hs, hx, hr]
    exact hK _ _ h
theorem wpList_append_g {P : Program} {w : World} {ops : Array Oper} {rest : List Oper} {o : Oper} {a : Act} {Q : Exit → Act → World → Prop} (hgd : Region.wanted o (yielded ops a.tmps) = true) (s x : Operand) (t : TypeId)
    (ho : o.op = .call { callee := .builtin .append, args := #[s, x], argTypes := #[t, t] })
    (base : Nat) (e : TypeId) (i : TypeInfo) (z : Value) (size bytes : Nat) (ht : P.underlying t = some (.slice e)) (hi : P.info? e = some i) (hz : i.zero = some z)
    (hsize : i.size = size) (hby : i.bytes = bytes) (hzs : z.cells.size = size) (hsz : 0 < size)
    (v : Value) (n : Nat) (xs : List Value) (hs : a.eval s = v) (hown : w.ownsRow base e size v n xs)
    (ad : Addr) (m c : Nat) (news : List Value) (hx : a.eval x = .slice (some ad) m c) (hl : news.length = m * size) (hnews : ∀ j u, news[j]? = some u → w.cell? (ad.add j) = some u) (h1 : ∀ u ∈ news, u.oneCell' = true)
    (hm : 0 < m) (h63 : n + m ≤ maxLen) (hbytes : (n + m) * bytes ≤ 140737488355328) (hbase : base ≤ w.heap.size) (H : Nat) (hH : w.heap.size = H)
    (h : ∀ g cap w', w'.ownsRow base e size (.slice (some ⟨g, 0, none⟩) (n + m) cap) (n + m) (xs ++ news) → w.grownBy w' v.ownBlock → (v.ownBlock = some g ∨ g = H) → g < w'.heap.size → wpList P ops Q rest (a.put o.dst (.slice (some ⟨g, 0, none⟩) (n + m) cap)) w') : wpList P ops Q (o :: rest) a w :=
  wpList_step fun K hK => by
    rw [if_pos hgd]
    exact wp_append_lies w s x t ho base e i z size bytes ht hi hz hsize hby hzs hsz v n xs hs hown ad m c news hx hl hnews h1 hm h63 hbytes hbase H hH fun g cap w' h2 h3 h4 h5 => hK _ _ (h g cap w' h2 h3 h4 h5)
end Go.Proofs.YtiihpbccabeoeaaDoor
namespace Go.Proofs.YtiihpbccabeoeaaDoor
set_option linter.unusedVariables false

/-- A blank or a line end. -/
def SepB (x : UInt8) : Prop := x = 32 ∨ x = 10
/-- No comment, no backslash. -/
def FreeL (r : List UInt8) : Prop := ∀ c ∈ r, (c == 35) = false ∧ (c == 92) = false
theorem FreeL.tail {c : UInt8} {t : List UInt8} (h : FreeL (c :: t)) : FreeL t := fun x hx => h x (List.mem_cons_of_mem _ hx)
theorem FreeL.drop {r : List UInt8} (h : FreeL r) (k : Nat) : FreeL (r.drop k) := fun x hx => h x (List.mem_of_mem_drop hx)
theorem FreeL.tl {r : List UInt8} (h : FreeL r) : FreeL r.tail := fun x hx => h x (List.mem_of_mem_tail hx)

theorem untilF_ext (c : UInt8) : ∀ (r e : List UInt8) (k : Nat), untilF c r = some k → untilF c (r ++ e) = some k ∧ k < r.length
  | [], _, _, h => by cases h
  | x :: t, e, k, h => by
    unfold untilF at h
    rw [List.cons_append]
    unfold untilF
    split at h
    · next hx => obtain rfl := Option.some.inj h; rw [if_pos hx]; exact ⟨rfl, Nat.succ_pos _⟩
    · next hx =>
      cases h2 : untilF c t with
      | none => rw [h2] at h; cases h
      | some j =>
        rw [h2] at h
        obtain rfl := Option.some.inj h
        obtain ⟨i1, i2⟩ := untilF_ext c t e j h2
        rw [if_neg hx, i1]
        exact ⟨rfl, by simp only [List.length_cons]; omega⟩
theorem calcF_ext : ∀ (r e : List UInt8) (o k : Nat), calcF o r = some k → calcF o (r ++ e) = some k ∧ k + 2 ≤ r.length
  | [], _, _, _, h => by cases h
  | c :: t, e, o, k, h => by
    unfold calcF at h
    rw [List.cons_append]
    unfold calcF
    by_cases h1 : (c == 40) = true
    · rw [if_pos h1] at h ⊢
      cases h2 : calcF (o + 1) t with
      | none => rw [h2] at h; cases h
      | some j =>
        rw [h2] at h
        obtain rfl := Option.some.inj h
        obtain ⟨i1, i2⟩ := calcF_ext t e _ j h2
        rw [i1]
        exact ⟨rfl, by simp only [List.length_cons]; omega⟩
    rw [if_neg h1] at h ⊢
    by_cases h3 : (c == 41) = true
    · rw [if_pos h3] at h ⊢
      by_cases h0 : o = 0
      · rw [if_pos h0] at h ⊢
        cases t with
        | nil => cases h
        | cons x t' =>
          have hh : headIs 41 (x :: t' ++ e) = headIs 41 (x :: t') := rfl
          rw [hh]
          split at h
          · next hx => obtain rfl := Option.some.inj h; rw [if_pos hx]; exact ⟨rfl, by simp only [List.length_cons]; omega⟩
          · cases h
      · rw [if_neg h0] at h ⊢
        cases h2 : calcF (o - 1) t with
        | none => rw [h2] at h; cases h
        | some j =>
          rw [h2] at h
          obtain rfl := Option.some.inj h
          obtain ⟨i1, i2⟩ := calcF_ext t e _ j h2
          rw [i1]
          exact ⟨rfl, by simp only [List.length_cons]; omega⟩
    rw [if_neg h3] at h ⊢
    cases h2 : calcF o t with
    | none => rw [h2] at h; cases h
    | some j =>
      rw [h2] at h
      obtain rfl := Option.some.inj h
      obtain ⟨i1, i2⟩ := calcF_ext t e _ j h2
      rw [i1]
      exact ⟨rfl, by simp only [List.length_cons]; omega⟩
theorem map_some {o : Option Nat} {k : Nat} (h : o.map (· + 1) = some k) : ∃ j, o = some j ∧ k = j + 1 := by
  cases o with
  | none => cases h
  | some j => exact ⟨j, rfl, (Option.some.inj h).symm⟩
theorem subF_ext : ∀ (r e : List UInt8) (m : SM) (o k : Nat), subF m o r = some k → subF m o (r ++ e) = some k ∧ k < r.length
  | [], _, m, _, _, h => by cases m <;> cases h
  | c :: t, e, m, o, k, h => by
    have key : ∀ (m' : SM) (o' : Nat), (subF m' o' t).map (· + 1) = some k → (subF m' o' (t ++ e)).map (· + 1) = some k ∧ k < (c :: t).length := fun m' o' h' => by
      obtain ⟨j, hj, rfl⟩ := map_some h'
      obtain ⟨i1, i2⟩ := subF_ext t e m' o' j hj
      rw [i1]
      exact ⟨rfl, by simp only [List.length_cons]; omega⟩
    rw [List.cons_append]
    cases m with
    | n =>
      unfold subF at h ⊢
      by_cases h1 : (c == 39) = true
      · rw [if_pos h1] at h ⊢; exact key _ _ h
      rw [if_neg h1] at h ⊢
      by_cases h2 : (c == 34) = true
      · rw [if_pos h2] at h ⊢; exact key _ _ h
      rw [if_neg h2] at h ⊢
      by_cases h3 : (c == 92) = true
      · rw [if_pos h3] at h ⊢; exact key _ _ h
      rw [if_neg h3] at h ⊢
      by_cases h4 : (c == 40) = true
      · rw [if_pos h4] at h ⊢; exact key _ _ h
      rw [if_neg h4] at h ⊢
      by_cases h5 : (c == 41) = true
      · rw [if_pos h5] at h ⊢
        by_cases h0 : o = 0
        · rw [if_pos h0] at h ⊢; obtain rfl := Option.some.inj h; exact ⟨rfl, Nat.succ_pos _⟩
        · rw [if_neg h0] at h ⊢; exact key _ _ h
      · rw [if_neg h5] at h ⊢; exact key _ _ h
    | q1 => unfold subF at h ⊢; exact key _ _ h
    | q2 => unfold subF at h ⊢; exact key _ _ h
    | bn => unfold subF at h ⊢; exact key _ _ h
    | bq => unfold subF at h ⊢; exact key _ _ h

theorem sep_letter {x : UInt8} (hx : SepB x) : letterB x = false ∧ digitB x = false ∧ specialB x = false := by
  rcases hx with rfl | rfl <;> decide
theorem tailRun_ext {x : UInt8} (hx : SepB x) (b : List UInt8) : ∀ r, tailRun (r ++ x :: b) = tailRun r
  | [] => by
    obtain ⟨h1, h2, _⟩ := sep_letter hx
    show (if letterB x || digitB x then _ else 0) = 0
    rw [h1, h2, if_neg (by simp)]
  | c :: t => by
    show (if letterB c || digitB c then tailRun (t ++ x :: b) + 1 else 0) = (if letterB c || digitB c then tailRun t + 1 else 0)
    rw [tailRun_ext hx b t]
theorem digRun_ext {x : UInt8} (hx : SepB x) (b : List UInt8) : ∀ r, digRun (r ++ x :: b) = digRun r
  | [] => by
    obtain ⟨h1, h2, _⟩ := sep_letter hx
    show (if digitB x then _ else 0) = 0
    rw [h2, if_neg (by simp)]
  | c :: t => by
    show (if digitB c then digRun (t ++ x :: b) + 1 else 0) = (if digitB c then digRun t + 1 else 0)
    rw [digRun_ext hx b t]
theorem runF_ext {x : UInt8} (hx : SepB x) (b : List UInt8) (r : List UInt8) : runF (r ++ x :: b) = runF r := by
  cases r with
  | nil =>
    obtain ⟨h1, h2, _⟩ := sep_letter hx
    show (if letterB x then _ else 0) = 0
    rw [h1, if_neg (by simp)]
  | cons c t =>
    show (if letterB c then tailRun (t ++ x :: b) + 1 else 0) = (if letterB c then tailRun t + 1 else 0)
    rw [tailRun_ext hx b t]
theorem nameF_ext {x : UInt8} (hx : SepB x) (b : List UInt8) (q : Bool) (r : List UInt8) : nameF q (r ++ x :: b) = nameF q r := by
  unfold nameF
  rw [runF_ext hx]
  cases r with
  | nil =>
    obtain ⟨h1, h2, h3⟩ := sep_letter hx
    show (if runF [] > 0 then _ else if digitB x then _ else if specialB x then 1 else 0) = _
    rw [h2, h3]
    rfl
  | cons c t =>
    rw [List.cons_append]
    dsimp only
    rw [digRun_ext hx]
theorem starts_sep {x : UInt8} (b : List UInt8) : ∀ (o : List UInt8), x ∉ o → ∀ r, startsF o (r ++ x :: b) = startsF o r
  | [], _, r => by rw [show ∀ z, startsF [] z = true from fun z => rfl, show ∀ z, startsF [] z = true from fun z => rfl]
  | a :: p, h, [] => by
    show (a == x && startsF p b) = false
    rw [show (a == x) = false from beq_eq_false_iff_ne.2 (fun e => h (e ▸ List.mem_cons_self ..)), Bool.false_and]
  | a :: p, h, c :: t => by
    show (a == c && startsF p (t ++ x :: b)) = (a == c && startsF p t)
    rw [starts_sep b p (fun hm => h (List.mem_cons_of_mem _ hm)) t]
theorem starts_sep1 {x : UInt8} (b : List UInt8) (o : List UInt8) (h : x ∉ o.tail) (c : UInt8) (t : List UInt8) : startsF o (c :: t ++ x :: b) = startsF o (c :: t) := by
  cases o with
  | nil => rfl
  | cons a p =>
    show (a == c && startsF p (t ++ x :: b)) = (a == c && startsF p t)
    rw [starts_sep b p h t]
theorem find_congr {α} {p q : α → Bool} : ∀ (l : List α), (∀ a ∈ l, p a = q a) → l.find? p = l.find? q
  | [], _ => rfl
  | a :: l, h => by
    rw [List.find?_cons, List.find?_cons, h a (List.mem_cons_self ..), find_congr l fun y hy => h y (List.mem_cons_of_mem _ hy)]
theorem opF_ext {x : UInt8} (hx : SepB x) (b r : List UInt8) : opF (r ++ x :: b) = opF r := by
  unfold opF findF
  rw [find_congr (q := fun o => startsF o r) opsL fun o ho => starts_sep b o (by
    have h32 : ∀ o ∈ opsL, (32 : UInt8) ∉ o ∧ (10 : UInt8) ∉ o := by decide
    rcases hx with rfl | rfl
    · exact (h32 o ho).1
    · exact (h32 o ho).2) r]
theorem operF_ext {x : UInt8} (hx : SepB x) (b : List UInt8) (c : UInt8) (t : List UInt8) : operF (c :: t ++ x :: b) = operF (c :: t) := by
  unfold operF findF
  rw [find_congr (q := fun o => startsF o (c :: t)) operL fun o ho => starts_sep1 b o (by
    have h32 : ∀ o ∈ operL, (32 : UInt8) ∉ o.tail ∧ (10 : UInt8) ∉ o.tail := by decide
    rcases hx with rfl | rfl
    · exact (h32 o ho).1
    · exact (h32 o ho).2) c t]
theorem headIs_ext {y x : UInt8} (h : y ≠ x) (b r : List UInt8) : headIs y (r ++ x :: b) = headIs y r := by
  cases r with
  | nil => show (x == y) = false; exact beq_eq_false_iff_ne.2 (Ne.symm h)
  | cons c t => rfl
theorem sep_ne {x y : UInt8} (hx : SepB x) (h : y ≠ 32 ∧ y ≠ 10) : y ≠ x := by
  rcases hx with rfl | rfl
  · exact h.1
  · exact h.2
theorem longB_free {r : List UInt8} (h : FreeL r) : longB r = false := by
  unfold longB
  cases r with
  | nil => rfl
  | cons c t => show ((c == 35) && _ && _) = false; rw [(h c (List.mem_cons_self ..)).1]; rfl
theorem longB_ext {x : UInt8} (hx : SepB x) (b : List UInt8) {r : List UInt8} (h : FreeL r) : longB (r ++ x :: b) = false := by
  unfold longB
  rw [headIs_ext (sep_ne hx (by decide)) b r]
  cases r with
  | nil => rfl
  | cons c t => show ((c == 35) && _ && _) = false; rw [(h c (List.mem_cons_self ..)).1]; rfl
theorem drop_ext {r e : List UInt8} {k : Nat} (h : k ≤ r.length) : (r ++ e).drop k = r.drop k ++ e := List.drop_append_of_le_length h
theorem take_ext {r e : List UInt8} {k : Nat} (h : k ≤ r.length) : (r ++ e).take k = r.take k := List.take_append_of_le_length h
theorem lexD_ext {x : UInt8} (hx : SepB x) (b : List UInt8) : ∀ (n : Nat) (md : Md) (d : Nat) (r : List UInt8) (l : List Pt) (r1 : List UInt8), FreeL r → ((∀ q, md = .one q → r ≠ []) : Prop) → lexD n md d r = .ok (l, r1) →
    lexC md d (r ++ x :: b) = .ok (l, r1 ++ x :: b) ∧ FreeL r1 := by
  intro n
  induction n with
  | zero => intro md d r l r1 _ _ h; cases md <;> cases h
  | succ n ih =>
    intro md d r l r1 hf hne h
    cases md with
    | one q =>
      cases r with
      | nil => exact absurd rfl (hne q rfl)
      | cons c t =>
        have hft := hf.tail
        have h92 := (hf c (List.mem_cons_self ..)).2
        rw [List.cons_append]
        cases q with
        | false =>
          rw [lexD_out] at h
          rw [lexC_out]
          by_cases h39 : (c == 39) = true
          · rw [if_pos h39] at h ⊢
            cases hu : untilF 39 t with
            | none => rw [hu] at h; cases h
            | some k =>
              rw [hu] at h
              obtain ⟨rfl, rfl⟩ := Prod.mk.inj (Except.ok.inj h)
              obtain ⟨i1, i2⟩ := untilF_ext 39 t (x :: b) k hu
              rw [i1]
              dsimp only
              rw [take_ext (by omega), drop_ext (by omega)]
              exact ⟨rfl, hft.drop _⟩
          rw [if_neg h39] at h ⊢
          by_cases h34 : (c == 34) = true
          · rw [if_pos h34] at h ⊢
            obtain ⟨m, hm, rfl⟩ := ahead_ok h
            obtain ⟨i1, i2⟩ := ih .dq d t m r1 hft (by intro q e; cases e) hm
            rw [i1]
            exact ⟨rfl, i2⟩
          rw [if_neg h34] at h ⊢
          rw [if_neg (by rw [h92]; simp)] at h ⊢
          by_cases h96 : (c == 96) = true
          · rw [if_pos h96] at h; cases h
          rw [if_neg h96] at h ⊢
          by_cases h36 : (c == 36) = true
          · rw [if_pos h36] at h ⊢
            exact ih (.dol false) d t l r1 hft (by intro q e; cases e) h
          rw [if_neg h36] at h ⊢
          obtain ⟨rfl, rfl⟩ := Prod.mk.inj (Except.ok.inj h)
          exact ⟨rfl, hft⟩
        | true =>
          rw [lexD_inn] at h
          rw [lexC_inn]
          by_cases h34 : (c == 34 || c == 96) = true
          · rw [if_pos h34] at h; cases h
          rw [if_neg h34] at h ⊢
          rw [if_neg (by rw [h92]; simp), if_neg (by rw [h92]; simp)] at h ⊢
          by_cases h36 : (c == 36) = true
          · rw [if_pos h36] at h ⊢
            exact ih (.dol true) d t l r1 hft (by intro q e; cases e) h
          rw [if_neg h36] at h ⊢
          obtain ⟨rfl, rfl⟩ := Prod.mk.inj (Except.ok.inj h)
          exact ⟨rfl, hft⟩
    | dq =>
      rw [lexD_dq] at h
      rw [lexC_dq]
      cases r with
      | nil => cases h
      | cons c t =>
        rw [List.cons_append]
        dsimp only at h ⊢
        by_cases h34 : (c == 34) = true
        · rw [if_pos h34] at h ⊢
          obtain ⟨rfl, rfl⟩ := Prod.mk.inj (Except.ok.inj h)
          exact ⟨rfl, hf.tail⟩
        · rw [if_neg h34] at h ⊢
          cases h2 : lexD n (.one true) d (c :: t) with
          | error e => rw [h2] at h; cases h
          | ok z =>
            obtain ⟨l2, r2⟩ := z
            rw [h2] at h
            obtain ⟨m, hm, rfl⟩ := ahead_ok h
            obtain ⟨i1, i2⟩ := ih (.one true) d (c :: t) l2 r2 hf (fun _ _ e => by cases e) h2
            obtain ⟨j1, j2⟩ := ih .dq d r2 m r1 i2 (by intro q e; cases e) hm
            rw [List.cons_append] at i1
            rw [i1]
            dsimp only
            rw [j1]
            exact ⟨rfl, j2⟩
    | br q =>
      rw [lexD_br] at h
      rw [lexC_br]
      cases r with
      | nil => cases h
      | cons c t =>
        rw [List.cons_append]
        dsimp only at h ⊢
        by_cases h34 : (c == 125) = true
        · rw [if_pos h34] at h ⊢
          obtain ⟨rfl, rfl⟩ := Prod.mk.inj (Except.ok.inj h)
          exact ⟨rfl, hf.tail⟩
        · rw [if_neg h34] at h ⊢
          cases h2 : lexD n (.one q) d (c :: t) with
          | error e => rw [h2] at h; cases h
          | ok z =>
            obtain ⟨l2, r2⟩ := z
            rw [h2] at h
            obtain ⟨m, hm, rfl⟩ := ahead_ok h
            obtain ⟨i1, i2⟩ := ih (.one q) d (c :: t) l2 r2 hf (fun _ _ e => by cases e) h2
            obtain ⟨j1, j2⟩ := ih (.br q) d r2 m r1 i2 (by intro q e; cases e) hm
            rw [List.cons_append] at i1
            rw [i1]
            dsimp only
            rw [j1]
            exact ⟨rfl, j2⟩
    | dol q =>
      rw [lexD_dol] at h
      rw [lexC_dol]
      rw [headIs_ext (sep_ne hx (by decide)) b r]
      by_cases h1 : headIs 123 r = true
      · rw [if_pos h1] at h ⊢
        obtain ⟨t, rfl⟩ := headIs_cons h1
        exact ih (.brace q) d t l r1 hf.tail (by intro q e; cases e) h
      rw [if_neg h1] at h ⊢
      rw [starts_sep b [40, 40] (by intro hm; simp at hm; exact sep_ne hx (y := 40) (by decide) hm.symm) r]
      by_cases h2 : startsF [40, 40] r = true
      · rw [if_pos h2] at h ⊢
        have hl : 2 ≤ r.length := by
          match r, h2 with
          | [], h => cases h
          | [a], h => simp [startsF] at h
          | a :: c :: t, _ => simp
        rw [drop_ext hl]
        cases hu : calcF 0 (r.drop 2) with
        | none => rw [hu] at h; cases h
        | some k =>
          rw [hu] at h
          obtain ⟨rfl, rfl⟩ := Prod.mk.inj (Except.ok.inj h)
          obtain ⟨i1, i2⟩ := calcF_ext _ (x :: b) _ k hu
          rw [i1]
          dsimp only
          rw [take_ext (by omega), drop_ext (by omega)]
          exact ⟨rfl, (hf.drop _).drop _⟩
      rw [if_neg h2] at h ⊢
      rw [headIs_ext (sep_ne hx (by decide)) b r]
      by_cases h3 : headIs 40 r = true
      · rw [if_pos h3] at h ⊢
        obtain ⟨t, rfl⟩ := headIs_cons h3
        rw [List.cons_append, List.tail_cons]
        rw [List.tail_cons] at h
        cases hu : subF .n 0 t with
        | none => rw [hu] at h; cases h
        | some k =>
          rw [hu] at h
          obtain ⟨rfl, rfl⟩ := Prod.mk.inj (Except.ok.inj h)
          obtain ⟨i1, i2⟩ := subF_ext t (x :: b) _ _ k hu
          rw [i1]
          dsimp only
          rw [take_ext (by omega), drop_ext (by omega)]
          exact ⟨rfl, hf.tail.drop _⟩
      rw [if_neg h3] at h ⊢
      rw [nameF_ext hx]
      by_cases h4 : nameF false r = 0
      · rw [if_pos h4] at h ⊢
        obtain ⟨rfl, rfl⟩ := Prod.mk.inj (Except.ok.inj h)
        exact ⟨rfl, hf⟩
      · rw [if_neg h4] at h ⊢
        obtain ⟨rfl, rfl⟩ := Prod.mk.inj (Except.ok.inj h)
        have hk := nameF_le false r
        rw [take_ext (by omega), drop_ext (by omega)]
        exact ⟨rfl, hf.drop _⟩
    | brace q =>
      rw [lexD_brace] at h
      rw [lexC_brace]
      rw [longB_free hf] at h
      rw [longB_ext hx b hf]
      simp only [Bool.false_eq_true, if_false, Bool.or_false] at h ⊢
      rw [nameF_ext hx]
      by_cases h0 : nameF true r = 0
      · rw [if_pos h0] at h; cases h
      rw [if_neg h0] at h ⊢
      have hk := nameF_le true r
      rw [drop_ext hk, take_ext hk, headIs_ext (sep_ne hx (by decide)) b]
      have hfk := hf.drop (nameF true r)
      obtain ⟨r2, hr2⟩ : ∃ r2, r2 = r.drop (nameF true r) := ⟨_, rfl⟩
      rw [← hr2] at h hfk ⊢
      by_cases h1 : headIs 125 r2 = true
      · rw [if_pos h1] at h ⊢
        obtain ⟨rfl, rfl⟩ := Prod.mk.inj (Except.ok.inj h)
        obtain ⟨t, ht⟩ := headIs_cons h1
        rw [ht, List.cons_append, List.tail_cons, List.tail_cons]
        rw [ht] at hfk
        exact ⟨rfl, hfk.tail⟩
      rw [if_neg h1] at h ⊢
      rw [opF_ext hx]
      by_cases h2 : (opF r2).isEmpty = true
      · rw [if_pos h2] at h; cases h
      rw [if_neg h2] at h ⊢
      by_cases h3 : d = 40
      · rw [if_pos h3] at h; cases h
      rw [if_neg h3] at h ⊢
      have hop := opF_le r2
      rw [drop_ext hop]
      cases h4 : lexD n (.br q) (d + 1) (r2.drop (opF r2).length) with
      | error e => rw [h4] at h; cases h
      | ok z =>
        obtain ⟨l2, r3⟩ := z
        rw [h4] at h
        obtain ⟨rfl, rfl⟩ := Prod.mk.inj (Except.ok.inj h)
        obtain ⟨i1, i2⟩ := ih (.br q) (d + 1) _ l2 r3 (hfk.drop _) (by intro q e; cases e) h4
        rw [i1]
        exact ⟨rfl, i2⟩

theorem wordC_ext {x : UInt8} (hx : SepB x) (b : List UInt8) : ∀ (n : Nat) (r : List UInt8) (l : List Pt) (r1 : List UInt8), r.length ≤ n → FreeL r → wordC false r = .ok (l, r1) → wordC false (r ++ x :: b) = .ok (l, r1 ++ x :: b) ∧ FreeL r1 ∧ r1.length ≤ r.length := by
  have hb : breaksB x = true := by rcases hx with rfl | rfl <;> rfl
  intro n
  induction n with
  | zero =>
    intro r l r1 hn hf h
    obtain rfl : r = [] := List.eq_nil_of_length_eq_zero (by omega)
    rw [wordC_nil] at h
    obtain ⟨rfl, rfl⟩ := Prod.mk.inj (Except.ok.inj h)
    rw [List.nil_append, wordC_cons, if_pos (by rw [hb]; rfl)]
    exact ⟨rfl, hf, Nat.le_refl _⟩
  | succ n ih =>
    intro r l r1 hn hf h
    cases r with
    | nil =>
      rw [wordC_nil] at h
      obtain ⟨rfl, rfl⟩ := Prod.mk.inj (Except.ok.inj h)
      rw [List.nil_append, wordC_cons, if_pos (by rw [hb]; rfl)]
      exact ⟨rfl, hf, Nat.le_refl _⟩
    | cons c t =>
      rw [wordC_cons] at h
      rw [List.cons_append, wordC_cons]
      by_cases h1 : (!false && breaksB c) = true
      · rw [if_pos h1] at h ⊢
        obtain ⟨rfl, rfl⟩ := Prod.mk.inj (Except.ok.inj h)
        exact ⟨rfl, hf, Nat.le_refl _⟩
      rw [if_neg h1] at h ⊢
      cases h2 : lexC (.one false) 0 (c :: t) with
      | error e => rw [h2] at h; cases h
      | ok z =>
        obtain ⟨l2, r2⟩ := z
        rw [h2] at h
        obtain ⟨m, hm, rfl⟩ := ahead_ok h
        obtain ⟨i1, i2⟩ := lexD_ext hx b _ (.one false) 0 (c :: t) l2 r2 hf (fun _ _ e => by cases e) h2
        have hl := lexD_len _ _ _ _ _ _ h2
        simp only [Md.least, List.length_cons] at hl hn
        obtain ⟨j1, j2, j3⟩ := ih r2 m r1 (by omega) i2 hm
        rw [List.cons_append] at i1
        rw [i1]
        dsimp only
        rw [j1]
        exact ⟨rfl, j2, by simp only [List.length_cons]; omega⟩

theorem skipF_ext (e : List UInt8) : ∀ (r : List UInt8), FreeL r → FreeL (skipF false r) ∧ (skipF false r).length ≤ r.length ∧ skipF false (r ++ e) = (if skipF false r = [] then skipF false e else skipF false r ++ e)
  | [], h => ⟨h, Nat.le_refl _, rfl⟩
  | c :: t, h => by
    obtain ⟨h35, h92⟩ := h c (List.mem_cons_self ..)
    obtain ⟨i1, i2, i3⟩ := skipF_ext e t h.tail
    rw [List.cons_append, skipF_cons, skipF_cons]
    by_cases h1 : (c == 32 || c == 9) = true
    · rw [if_pos h1, if_pos h1]
      exact ⟨i1, by simp only [List.length_cons]; omega, i3⟩
    · rw [if_neg h1, if_neg h1]
      simp only [h35, h92, Bool.false_eq_true, if_false]
      exact ⟨h, Nat.le_refl _, by rw [if_neg (by simp)]; rfl⟩

theorem tokC_ext {x : UInt8} (hx : SepB x) (b : List UInt8) : ∀ (n : Nat) (r : List UInt8) (l : List Tk), r.length ≤ n → FreeL r → tokC r = .ok l → tokC (r ++ x :: b) = consL l (tokC (x :: b)) := by
  intro n
  induction n with
  | zero =>
    intro r l hn hf h
    obtain rfl : r = [] := List.eq_nil_of_length_eq_zero (by omega)
    have : ([] : List Tk) = l := Except.ok.inj h
    rw [← this, consL_nil]; rfl
  | succ n ih =>
    intro r l hn hf h
    obtain ⟨s1, s2, s3⟩ := skipF_ext (x :: b) r hf
    rw [tokC_eq] at h
    rw [tokC_eq (r ++ x :: b), s3]
    cases hs : skipF false r with
    | nil =>
      rw [hs] at h
      have : ([] : List Tk) = l := Except.ok.inj h
      rw [← this, consL_nil, if_pos rfl, ← tokC_eq]
    | cons c t =>
      rw [hs] at h s1 s2
      rw [if_neg (by simp)]
      dsimp only at h
      have key : ∃ y r1, tokOne (c :: t) = .ok (y, r1) ∧ tokOne (c :: t ++ x :: b) = .ok (y, r1 ++ x :: b) ∧ FreeL r1 := by
        cases h2 : tokOne (c :: t) with
        | error e => rw [h2] at h; cases h
        | ok z =>
          obtain ⟨y, r1⟩ := z
          refine ⟨y, r1, rfl, ?_⟩
          by_cases hop : operF (c :: t) = []
          · by_cases h38 : headIs 38 (c :: t) = true
            · unfold tokOne at h2
              rw [if_pos (by rw [hop]; rfl), if_pos h38] at h2
              cases h2
            · rw [tokOne_word hop (by simpa using h38)] at h2
              rw [tokOne_word (by rw [operF_ext hx, hop]) (by rw [headIs_ext (sep_ne hx (by decide))]; simpa using h38)]
              cases h3 : wordC false (c :: t) with
              | error e => rw [h3] at h2; cases h2
              | ok z2 =>
                obtain ⟨l2, r2⟩ := z2
                rw [h3] at h2
                obtain ⟨rfl, rfl⟩ := Prod.mk.inj (Except.ok.inj h2)
                obtain ⟨i1, i2, _⟩ := wordC_ext hx b _ _ _ _ (Nat.le_refl _) s1 h3
                rw [i1]
                exact ⟨rfl, i2⟩
          · rw [tokOne_op hop] at h2
            obtain ⟨rfl, rfl⟩ := Prod.mk.inj (Except.ok.inj h2)
            have hle := operF_le (c :: t)
            rw [tokOne_op (by rw [operF_ext hx]; exact hop), operF_ext hx, drop_ext hle]
            exact ⟨rfl, s1.drop _⟩
      obtain ⟨y, r1, h2, h3, h4⟩ := key
      have hl := tokOne_len (skip_head hs) h2
      rw [h2] at h
      dsimp only at h
      rw [List.cons_append]
      dsimp only
      rw [← List.cons_append, h3]
      dsimp only
      cases h5 : tokC r1 with
      | error e => rw [h5] at h; cases h
      | ok l2 =>
        rw [h5] at h
        have hl2 : (y :: l2) = l := Except.ok.inj h
        simp only [List.length_cons] at hl s2
        rw [ih r1 l2 (by omega) h4 h5, ← hl2]
        cases tokC (x :: b) with
        | error e => rfl
        | ok m => rfl
theorem tokC_sep {b : List UInt8} : tokC (10 :: b) = consT ⟨2, [10], []⟩ (tokC b) := by
  rw [tokC_eq, show skipF false (10 :: b) = 10 :: b by rw [skipF_cons]; rfl]
  dsimp only
  have h : operF (10 :: b) = [10] := by rfl
  rw [tokOne_op (by rw [h]; simp), h]
  rfl
theorem mayF_app {a b c : List UInt8} (ha : mayF a = 0) (hb : mayF b = 0) (hc : c.contains 0 = false) (hl : a.length + c.length + b.length ≤ 16384) : mayF (a ++ c ++ b) = 0 := by
  have key : ∀ s : List UInt8, mayF s = 0 → s.contains 0 = false := fun s h => by
    unfold mayF at h
    split at h
    · cases h
    · split at h
      · cases h
      · next h2 => simpa using h2
  unfold mayF
  rw [if_neg (by simp only [List.length_append]; omega), if_neg]
  have h1 := key a ha
  have h2 := key b hb
  simp only [List.contains_eq_mem, decide_eq_false_iff_not] at h1 h2 hc
  simp only [List.contains_eq_mem, decide_eq_true_eq, List.mem_append]
  rintro ((h | h) | h)
  · exact h1 h
  · exact hc h
  · exact h2 h
theorem may_ok {s : List UInt8} {l : List Tk} (h : tokensF s = .ok l) : mayF s = 0 ∧ tokC s = .ok l := by
  by_cases hm : mayF s = 0
  · exact ⟨hm, by rw [← tokensF_C s hm]; exact h⟩
  · unfold tokensF at h
    rw [if_neg hm] at h
    cases h
/-- Parted by a blank. -/
theorem split_blank {a b : List UInt8} {x y : List Tk} (ha : tokensF a = .ok x) (hb : tokensF b = .ok y) (hf : FreeL a) (hl : a.length + 1 + b.length ≤ 16384) : tokensF (a ++ [32] ++ b) = .ok (x ++ y) := by
  obtain ⟨a1, a2⟩ := may_ok ha
  obtain ⟨b1, b2⟩ := may_ok hb
  rw [tokensF_C _ (mayF_app (c := [32]) a1 b1 (by decide) hl), List.append_assoc, List.singleton_append, tokC_ext (.inl rfl) b _ a x (Nat.le_refl _) hf a2]
  rw [show tokC (32 :: b) = tokC b by rw [tokC_eq (32 :: b), tokC_eq b, skipF_cons]; rfl, b2]
  rfl
theorem split_line {a b : List UInt8} {x y : List Tk} (ha : tokensF a = .ok x) (hb : tokensF b = .ok y) (hf : FreeL a) (hl : a.length + 1 + b.length ≤ 16384) : tokensF (a ++ [10] ++ b) = .ok (x ++ [⟨2, [10], []⟩] ++ y) := by
  obtain ⟨a1, a2⟩ := may_ok ha
  obtain ⟨b1, b2⟩ := may_ok hb
  rw [tokensF_C _ (mayF_app (c := [10]) a1 b1 (by decide) hl), List.append_assoc, List.singleton_append, tokC_ext (.inr rfl) b _ a x (Nat.le_refl _) hf a2]
  rw [tokC_sep, b2]
  show Except.ok _ = Except.ok _
  rw [List.append_assoc]; rfl
/-- In a comment. -/
theorem skip_comm : ∀ (a r : List UInt8), (∀ c ∈ a, (c == 10) = false) → (headIs 10 r = true ∨ r = []) → skipF true (a ++ r) = r
  | [], r, _, h => by
    rcases h with h | h
    · obtain ⟨t, rfl⟩ := headIs_cons h; rfl
    · rw [h]; rfl
  | c :: a, r, hc, h => by
    show (if c == 10 then _ else skipF true (a ++ r)) = r
    rw [hc c (List.mem_cons_self ..), if_neg (by simp)]
    exact skip_comm a r (fun x hx => hc x (List.mem_cons_of_mem _ hx)) h
theorem comm_line {a b : List UInt8} {y : List Tk} (hb : tokensF b = .ok y) (ha : ∀ c ∈ a, (c == 10) = false) (h0 : a.contains 0 = false) (hl : a.length + 2 + b.length ≤ 16384) : tokensF ([35] ++ a ++ [10] ++ b) = .ok (⟨2, [10], []⟩ :: y) := by
  obtain ⟨b1, b2⟩ := may_ok hb
  have hm : mayF ([35] ++ a ++ [10] ++ b) = 0 := by
    have h1 : mayF ([] ++ ([35] ++ a ++ [10]) ++ b) = 0 := mayF_app (by decide) b1 (by
      simp only [List.contains_eq_mem, decide_eq_false_iff_not] at h0 ⊢
      simp only [List.mem_append, List.mem_singleton]
      rintro ((h | h) | h)
      · cases h
      · exact h0 h
      · cases h) (by simp only [List.length_append, List.length_nil, List.length_singleton]; omega)
    rw [List.nil_append] at h1
    exact h1
  rw [tokensF_C _ hm, List.append_assoc, List.append_assoc, List.singleton_append, List.singleton_append]
  have h1 : skipF false (35 :: (a ++ 10 :: b)) = 10 :: b := by
    rw [skipF_cons]
    exact skip_comm a (10 :: b) ha (.inl rfl)
  have h2 : skipF false (10 :: b) = 10 :: b := by rw [skipF_cons]; rfl
  rw [show tokC (35 :: (a ++ 10 :: b)) = tokC (10 :: b) by rw [tokC_eq (35 :: (a ++ 10 :: b)), tokC_eq (10 :: b), h1, h2], tokC_sep, b2]
  rfl
theorem comm_word {a : List UInt8} (ha : ∀ c ∈ a, (c == 10) = false) (h0 : a.contains 0 = false) (hl : a.length + 3 ≤ 16384) : tokensF ([120, 32, 35] ++ a) = .ok [⟨1, [], [txtP [120]]⟩] := by
  have hm : mayF ([120, 32, 35] ++ a) = 0 := by
    unfold mayF
    rw [if_neg (by simp only [List.length_append, List.length_cons, List.length_nil]; omega), if_neg]
    simp only [List.contains_eq_mem, decide_eq_false_iff_not] at h0
    simp only [List.contains_eq_mem, decide_eq_true_eq, List.mem_append]
    rintro (h | h)
    · revert h; decide
    · exact h0 h
  rw [tokensF_C _ hm]
  show tokC (120 :: 32 :: 35 :: a) = _
  have hop : operF (120 :: 32 :: 35 :: a) = [] := by rfl
  have hw : wordC false (120 :: 32 :: 35 :: a) = .ok ([txtP [120]], 32 :: 35 :: a) := by
    rw [wordC_cons, if_neg (by decide), lexC_plain (by decide)]
    dsimp only
    rw [wordC_cons, if_pos (by rfl)]
    rfl
  have hs : skipF true a = [] := by
    have := skip_comm a [] ha (.inr rfl)
    rw [List.append_nil] at this
    exact this
  rw [tokC_eq, show skipF false (120 :: 32 :: 35 :: a) = 120 :: 32 :: 35 :: a by rw [skipF_cons]; rfl]
  dsimp only
  rw [tokOne_word hop (by rfl), hw]
  dsimp only
  rw [tokC_eq (32 :: 35 :: a), show skipF false (32 :: 35 :: a) = skipF true a by rw [skipF_cons, if_pos (by rfl), skipF_cons]; rfl, hs]
  rfl
theorem comm_in : tokensF [120, 35, 121] = .ok [⟨1, [], [txtP [120, 35, 121]]⟩] := by rfl
theorem tokC_count : ∀ (r : List UInt8) (l : List Tk), tokC r = .ok l → l.length ≤ r.length := by
  have key : ∀ (n : Nat) (r : List UInt8) (l : List Tk), r.length ≤ n → tokC r = .ok l → l.length ≤ r.length := by
    intro n
    induction n with
    | zero =>
      intro r l hn h
      obtain rfl : r = [] := List.eq_nil_of_length_eq_zero (by omega)
      have : ([] : List Tk) = l := Except.ok.inj h
      rw [← this]; exact Nat.le_refl _
    | succ n ih =>
      intro r l hn h
      rw [tokC_eq] at h
      have hsl := skip_len false r
      cases hs : skipF false r with
      | nil =>
        rw [hs] at h
        have : ([] : List Tk) = l := Except.ok.inj h
        rw [← this]; exact Nat.zero_le _
      | cons c t =>
        rw [hs] at h hsl
        dsimp only at h
        cases h2 : tokOne (c :: t) with
        | error e => rw [h2] at h; cases h
        | ok z =>
          obtain ⟨y, r1⟩ := z
          have hl := tokOne_len (skip_head hs) h2
          rw [h2] at h
          dsimp only at h
          cases h5 : tokC r1 with
          | error e => rw [h5] at h; cases h
          | ok l2 =>
            rw [h5] at h
            have hl2 : (y :: l2) = l := Except.ok.inj h
            simp only [List.length_cons] at hsl
            have := ih r1 l2 (by omega) h5
            rw [← hl2]
            simp only [List.length_cons]
            omega
  exact fun r l h => key _ r l (Nat.le_refl _) h
theorem ba_size (a b : ByteArray) : (a ++ b).size = a.size + b.size := ByteArray.size_append
end Go.Proofs.YtiihpbccabeoeaaDoor
namespace Go.Proofs.YtiihpbccabeoeaaDoor
open Go.RowKit

/-- What a proof's frame knows of a slice of texts that came in: all texts up to the capacity. -/
def IsStrs (w : World) (a : Option Addr) (len cap : Nat) (zs : List ByteArray) : Prop :=
  (a = none ∧ len = 0 ∧ cap = 0 ∧ zs = []) ∨
  ∃ x, a = some x ∧ len ≤ cap ∧ cap ≤ maxLen ∧ zs.length = cap ∧ (∀ i, i < zs.length → w.cell? (x.add i) = some (.string (zs.getD i ByteArray.empty))) ∧ ∀ s ∈ zs, s.size ≤ 140737488351232

/-- The same of a slice of integers. -/
def IsRow (k : IntKind) (w : World) (a : Option Addr) (len cap : Nat) (zs : List Int) : Prop :=
  (a = none ∧ len = 0 ∧ cap = 0 ∧ zs = []) ∨
  ∃ x, a = some x ∧ len ≤ cap ∧ cap ≤ maxLen ∧ zs.length = cap ∧ (∀ i, i < zs.length → w.cell? (x.add i) = some (.int k (zs.getD i 0))) ∧ ∀ n ∈ zs, (Lit.int k n).wf = true

/-- The slice's elements, one cell each, are these values. -/
def Reads (w : World) (a : Option Addr) (n : Nat) (z : Nat → Value) : Prop :=
  ∀ k, k < n → ∃ b off, a = some ⟨b, off, none⟩ ∧ b < w.heap.size ∧ w.cell? ⟨b, off + k, none⟩ = some (z k)

theorem cell_lt {w : World} {b o : Nat} {v : Value} (h : w.cell? ⟨b, o, none⟩ = some v) : b < w.heap.size := by
  rcases Nat.lt_or_ge b w.heap.size with x | x
  · exact x
  · exfalso
    simp [World.cell?, Array.getElem?_eq_none x] at h

theorem reads_below {w w' : World} {a : Option Addr} {n : Nat} {z : Nat → Value} (h : Reads w a n z) (hb : Below w.heap.size w w') : Reads w' a n z := by
  intro k hk
  obtain ⟨b, off, e, hlt, hc⟩ := h k hk
  exact ⟨b, off, e, Nat.lt_of_lt_of_le hlt hb.size, (hb.cell (p := ⟨b, off + k, none⟩) hlt).trans hc⟩

theorem reads_drewN {w : World} {a : Option Addr} {n m : Nat} {z : Nat → Value} (h : Reads w a n z) : Reads (w.drewN m) a n z := by
  intro k hk
  obtain ⟨b, off, e, hlt, hc⟩ := h k hk
  exact ⟨b, off, e, by simpa using hlt, by simpa using hc⟩

theorem reads_mono {w : World} {a : Option Addr} {n m : Nat} {z : Nat → Value} (h : Reads w a n z) (hm : m ≤ n) : Reads w a m z := fun k hk => h k (by omega)

theorem isStrs_reads {w : World} {a : Option Addr} {n c : Nat} {zs : List ByteArray} (h : IsStrs w a n c zs) : Reads w a n (fun k => .string (zs.getD k ByteArray.empty)) := by
  intro k hk
  rcases h with ⟨_, h, _⟩ | ⟨⟨b, off, spot⟩, rfl, hl, _, hz, hc, _⟩
  · omega
  · have h0 := hc k (by omega)
    have hspot : spot = none := by simpa [Addr.add] using World.cell?_spot (hc 0 (by omega))
    subst hspot
    rw [Go.WideShapes.add_plain] at h0
    exact ⟨b, off, rfl, cell_lt h0, h0⟩

theorem isRow_reads {w : World} {a : Option Addr} {n c : Nat} {k : IntKind} {zs : List Int} (h : IsRow k w a n c zs) : Reads w a n (fun j => .int k (zs.getD j 0)) := by
  intro j hj
  rcases h with ⟨_, h, _⟩ | ⟨⟨b, off, spot⟩, rfl, hl, _, hz, hc, _⟩
  · omega
  · have h0 := hc j (by omega)
    have hspot : spot = none := by simpa [Addr.add] using World.cell?_spot (hc 0 (by omega))
    subst hspot
    rw [Go.WideShapes.add_plain] at h0
    exact ⟨b, off, rfl, cell_lt h0, h0⟩

theorem isStrs_size {w : World} {a : Option Addr} {n c : Nat} {zs : List ByteArray} (h : IsStrs w a n c zs) (k : Nat) : (zs.getD k ByteArray.empty).size ≤ 140737488351232 := by
  rcases h with ⟨_, _, _, rfl⟩ | ⟨x, _, _, _, _, _, hs⟩
  · simp
  · rcases Nat.lt_or_ge k zs.length with y | y
    · have := hs _ (List.getElem_mem y)
      rw [List.getD_eq_getElem?_getD, List.getElem?_eq_getElem y]
      simpa using this
    · rw [List.getD_eq_getElem?_getD, List.getElem?_eq_none y]; simp

theorem isStrs_cap {w : World} {a : Option Addr} {n c : Nat} {zs : List ByteArray} (h : IsStrs w a n c zs) : n ≤ zs.length ∧ n ≤ c ∧ c ≤ 9223372036854775807 := by
  rcases h with ⟨_, rfl, rfl, rfl⟩ | ⟨x, _, h1, h2, h3, _⟩
  · simp
  · unfold maxLen at h2; omega

theorem isRow_cap {w : World} {a : Option Addr} {n c : Nat} {k : IntKind} {zs : List Int} (h : IsRow k w a n c zs) : n ≤ zs.length ∧ n ≤ c ∧ c ≤ 9223372036854775807 := by
  rcases h with ⟨_, rfl, rfl, rfl⟩ | ⟨x, _, h1, h2, h3, _⟩
  · simp
  · unfold maxLen at h2; omega

theorem weightsAll_mem {H : Type} {P : Program} {e : TypeId} : ∀ {ss : List ByteArray} {s : ByteArray}, s ∈ ss → s.data.toList.length ∈ DataW.weightsAll P e (Go.ChangeShapes.strs (H := H) ss)
  | x :: ss, s, h => by
    show _ ∈ (DataW.weights P e (.lit (.string x.data.toList)) ++ DataW.weightsAll P e (Go.ChangeShapes.strs (H := H) ss))
    rcases List.mem_cons.1 h with rfl | h'
    · exact List.mem_append_left _ (by simp [DataW.weights])
    · exact List.mem_append_right _ (weightsAll_mem h')

/-- Each text of a slice that came in is within the form's own reach. -/
theorem sized_strs {H : Type} {P : Program} {ts : List TypeId} {ds : List (DataW H)} (h : (DataW.weightsEach P ts ds).all (· ≤ reachBytes) = true) {j n : Nat} {t e : TypeId} {zs : List ByteArray} (ht : ts[j]? = some t)
    (hd : ds[j]? = some (.slice (Go.ChangeShapes.strs (zs.take n)) (Go.ChangeShapes.strs (zs.drop n)))) (hu : P.underlying t = some (.slice e)) : ∀ s ∈ zs, s.size ≤ 140737488351232 := by
  intro s hs
  rw [← List.take_append_drop n zs] at hs
  have hm : s.data.toList.length ∈ DataW.weights P t (.slice (Go.ChangeShapes.strs (zs.take n)) (Go.ChangeShapes.strs (zs.drop n)) : DataW H) := by
    simp only [DataW.weights, hu]
    refine List.mem_cons_of_mem _ ?_
    rcases List.mem_append.1 hs with hs | hs
    · exact List.mem_append_left _ (weightsAll_mem hs)
    · exact List.mem_append_right _ (weightsAll_mem hs)
  have := of_decide_eq_true (List.all_eq_true.1 h _ (DataW.weights_mem_each ht hd _ hm))
  rw [Lib.size_eq]
  exact this

end Go.Proofs.YtiihpbccabeoeaaDoor
