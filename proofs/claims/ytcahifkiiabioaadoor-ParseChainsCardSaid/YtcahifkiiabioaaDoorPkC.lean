/-
  What stands in braces.
  One part more in the bag, of any kind but a text or a quote.
  What stands behind a dollar.
  The functions that call each other, at each fuel.
  Which texts are no script; what stands between tokens.
  One token.
  What is thrown is caught.
  A copy of parts.
  Word.
  Word behind the deferred closure.
  Word, whole.
  A slice of tokens in memory; tokens, one behind the other.
  Tokens.
  Tokens behind the deferred closure.
-/
import Derived.Test.YtcahifkiiabioaaDoorPkB
import Derived.Deep.CutBlock
import Derived.Defers
import Derived.Recover
import Derived.Laws.Pointers
import Derived.Lib.SliceRun
import Derived.Deep.RegionHeld3
namespace Go.Proofs.YtcahifkiiabioaaDoor
open Go.RowKit
set_option linter.unusedVariables false

/-- A record. -/
def RecAt (w : World) (b : Nat) (l : List Value) : Prop := ∃ T, w.heap[b]? = some (.cells l.toArray T (0, 0))
theorem RecAt.lt {w : World} {b : Nat} {l : List Value} (h : RecAt w b l) : b < w.heap.size := by
  obtain ⟨T, h⟩ := h
  exact (Array.getElem?_eq_some_iff.1 h).1
theorem RecAt.six {w : World} {b : Nat} {a0 a1 a2 a3 a4 a5 : Value} (h : RecAt w b [a0, a1, a2, a3, a4, a5]) :
    (w.cell? ⟨b, 0, none⟩ = some a0 ∧ w.cell? ⟨b, 1, none⟩ = some a1 ∧ w.cell? ⟨b, 2, none⟩ = some a2 ∧ w.cell? ⟨b, 3, none⟩ = some a3 ∧ w.cell? ⟨b, 4, none⟩ = some a4 ∧ w.cell? ⟨b, 5, none⟩ = some a5) ∧
    (w.frozen? ⟨b, 0, none⟩ = false ∧ w.frozen? ⟨b, 1, none⟩ = false ∧ w.frozen? ⟨b, 2, none⟩ = false ∧ w.frozen? ⟨b, 3, none⟩ = false ∧ w.frozen? ⟨b, 4, none⟩ = false) := by
  obtain ⟨T, h⟩ := h
  refine ⟨⟨?_, ?_, ?_, ?_, ?_, ?_⟩, ?_, ?_, ?_, ?_, ?_⟩ <;> simp [World.cell?, World.frozen?, h]
theorem RecAt.set {w : World} {b : Nat} {l : List Value} (h : RecAt w b l) (k : Nat) (v : Value) : RecAt (w.setCell ⟨b, k, none⟩ v) b (l.set k v) := by
  obtain ⟨T, h⟩ := h
  exact ⟨T, by simp [World.setCell, Array.getElem?_modify, h]⟩
theorem RecAt.keep {w w' : World} {b : Nat} {l : List Value} {S : Nat → Prop} (h : RecAt w b l) (hk : Keeps S w w') (hb : ¬ S b) : RecAt w' b l := by
  have hl := h.lt
  obtain ⟨T, h⟩ := h
  exact ⟨T, (hk.block b hl hb).trans h⟩
/-- A field of the part is written. -/
theorem part_set {w : World} {cs pb : Nat} {s : ByteArray} {i d : Int} {l : List Value} (hs : ScanAt w cs s i d) (hr : RecAt w pb l) (hne : cs ≠ pb) (k : Nat) (v : Value) :
    ∃ w1, w1 = w.setCell ⟨pb, k, none⟩ v ∧ ScanAt w1 cs s i d ∧ RecAt w1 pb (l.set k v) ∧ Keeps (fun b => b = pb) w w1 := by
  have hk : Keeps (fun b => b = pb) w (w.setCell ⟨pb, k, none⟩ v) := (Keeps.refl _ _).setCell _ _ fun _ => rfl
  exact ⟨_, rfl, hs.keep hk hne, hr.set k v, hk⟩
abbrev Two (cs pb : Nat) (b : Nat) : Prop := b = cs ∨ b = pb
theorem two_c {w w1 w2 : World} {cs pb : Nat} (h : Keeps (Two cs pb) w w1) (k : Keeps (fun b => b = cs) w1 w2) : Keeps (Two cs pb) w w2 := h.trans k fun _ _ e => .inl e
theorem two_p {w w1 w2 : World} {cs pb : Nat} (h : Keeps (Two cs pb) w w1) (k : Keeps (fun b => b = pb) w1 w2) : Keeps (Two cs pb) w w2 := h.trans k fun _ _ e => .inr e

theorem opF_nil {l : List UInt8} (h : opF l = []) : headIs 35 l = false ∧ headIs 63 l = false := by
  cases l with
  | nil => exact ⟨rfl, rfl⟩
  | cons c t =>
    constructor
    · rw [Bool.eq_false_iff]
      intro e
      obtain rfl : c = 35 := beq_iff_eq.1 e
      revert h
      unfold opF findF opsL
      simp [List.find?, startsF]
      split <;> simp
    · rw [Bool.eq_false_iff]
      intro e
      obtain rfl : c = 63 := beq_iff_eq.1 e
      revert h
      unfold opF findF opsL
      simp [List.find?, startsF]
theorem long_name {r : List UInt8} {k : Nat} (h : longB r = true) (hk : k ≠ 0) : r.tail.take k ≠ [35] ∧ r.tail.take k ≠ [63] := by
  unfold longB at h
  simp only [Bool.and_eq_true] at h
  obtain ⟨⟨_, _⟩, h⟩ := h
  have h2 := opF_nil (List.isEmpty_iff.1 h)
  revert h2
  generalize r.tail = t
  intro h2
  cases t with
  | nil => simp
  | cons c t =>
    obtain ⟨k, rfl⟩ : ∃ k', k = k' + 1 := ⟨k - 1, by omega⟩
    rw [List.take_succ_cons]
    refine ⟨fun e => ?_, fun e => ?_⟩
    · have : c = 35 := (List.cons.inj e).1
      rw [this] at h2; exact absurd h2.1 (by simp [headIs])
    · have : c = 63 := (List.cons.inj e).1
      rw [this] at h2; exact absurd h2.2 (by simp [headIs])
theorem ba_not {s : ByteArray} {l : List UInt8} (h : s.data.toList ≠ l) : (s.toList == l) = false := by
  rw [Lib.toList_data]; exact beq_eq_false_iff_ne.2 h
theorem strV_of {s : ByteArray} {l : List UInt8} (h : s.data.toList = l) : strV l = .string s := by
  unfold strV; rw [← h]

/-- What stands behind a # that asks how long something is. -/
theorem long_rest (s : ByteArray) (i : Nat) : (if longB (rest s i) then (rest s i).tail else rest s i) = rest s (i + (longB (rest s i)).toNat) := by
  cases longB (rest s i)
  · rfl
  · show (rest s i).tail = _
    exact rest_drop1 s i
theorem long_le {s : ByteArray} {i : Nat} (hi : i ≤ s.size) : i + (longB (rest s i)).toNat ≤ s.size := by
  rcases Nat.lt_or_ge i s.size with h | h
  · have := Bool.toNat_le (longB (rest s i)); omega
  · have : longB (rest s i) = false := by rw [rest_nil h]; rfl
    rw [this]; exact hi
theorem rest_tail (s : ByteArray) (i : Nat) : (rest s i).tail = rest s (i + 1) := rest_drop1 s i
theorem startsF_le : ∀ {o l : List UInt8}, startsF o l = true → o.length ≤ l.length
  | [], _, _ => Nat.zero_le _
  | a :: p, [], h => by cases h
  | a :: p, b :: r, h => by
    have h2 : startsF p r = true := by
      unfold startsF at h
      simp only [Bool.and_eq_true] at h
      exact h.2
    have := startsF_le h2
    simp only [List.length_cons]; omega
theorem findF_le (L : List (List UInt8)) (l : List UInt8) : (findF L l).length ≤ l.length := by
  unfold findF
  cases h : L.find? fun o => startsF o l with
  | none => exact Nat.zero_le _
  | some o =>
    have h2 : (fun o => startsF o l) o = true := List.find?_some (p := fun o => startsF o l) h
    exact startsF_le h2
theorem opF_le (l : List UInt8) : (opF l).length ≤ l.length := findF_le _ l

/-- Braces' end. -/
theorem brace_end {w w1 : World} {cs pb I n : Nat} {s : ByteArray} {d : Nat} {q : Bool} {v : Value} {R O : ByteArray} {name op : List UInt8} {wd : List Pt} (hs : ScanAt w1 cs s I d) (hI : I ≤ s.size) (hr : RecAt w1 pb [.int .i64 3, .string ⟨#[]⟩, .string R, .string O, v, .bool q])
    (hR : R.data.toList = name) (hO : O.data.toList = op) (hw : PtsAt w1 (fun b => w.heap.size ≤ b) n wd v) (hk : Keeps (Two cs pb) w w1) :
    BracePost w cs pb s d (.ok ([.mk 3 [] name op wd q], rest s I)) (.returned (.tuple #[])) w1 := by
  refine ⟨rfl, I, n, _, v, hI, rfl, rfl, rfl, rfl, hs, ?_, hw, hk⟩
  show RecAt w1 pb (cellsP _ v)
  unfold cellsP
  show RecAt w1 pb [.int .i64 ((3 : Nat) : Int), strV [], strV name, strV op, v, .bool q]
  rw [strV_of hR, strV_of hO]
  exact hr

set_option maxRecDepth 100000 in
set_option maxHeartbeats 8000000 in
theorem brace_step (n : Nat) (IH : ∀ m, m < n → Does m) (q : Bool) (cs pb : Nat) (s : ByteArray) (i d : Nat) (w : World) (hsc : ScanAt w cs s i d) (hi : i ≤ s.size) (hd : d ≤ 40) (hs : s.size ≤ 20000) (hne : cs ≠ pb) (hp : PartAt w pb (.mk 0 [] [] [] [] q) (.slice none 0 0)) (hn : 2 * (s.size - i) + 1 ≤ n) :
    Calls Tryd.prog 59 #[.pointer (some ⟨cs, 0, none⟩), .pointer (some ⟨pb, 0, none⟩)] w (BracePost w cs pb s d (lexD n (.brace q) d (rest s i))) := by
  obtain ⟨m, rfl⟩ : ∃ m, n = m + 1 := ⟨n - 1, by omega⟩
  have HD := Lib.hid (IH m (by omega))
  have hrec : RecAt w pb [.int .i64 0, .string ⟨#[]⟩, .string ⟨#[]⟩, .string ⟨#[]⟩, .slice none 0 0, .bool q] := hp
  obtain ⟨res, hres⟩ : ∃ res, res = lexD (m + 1) (.brace q) d (rest s i) := ⟨_, rfl⟩
  rw [← hres]
  rw [lexD_brace, long_rest] at hres
  have hjl := long_le hi
  obtain ⟨L, hL⟩ : ∃ L, L = longB (rest s i) := ⟨_, rfl⟩
  rw [← hL] at hres hjl
  obtain ⟨j, hj⟩ : ∃ j, j = i + L.toNat := ⟨_, rfl⟩
  rw [← hj] at hres hjl
  obtain ⟨k, hk⟩ : ∃ k, k = nameF true (rest s j) := ⟨_, rfl⟩
  rw [← hk, rest_drop] at hres
  have hkl : k ≤ s.size - j := by rw [hk, ← rest_len]; exact nameF_le _ _
  have hij : i ≤ j := by omega
  have HSC := Lib.hid hsc
  have HL := Lib.hid hL
  have HJ := Lib.hid hj
  have HK := Lib.hid hk
  have HRES := Lib.hid hres
  have HREC := Lib.hid hrec
  obtain ⟨⟨_, _, _, _, _, _⟩, f0, _, _, _, _⟩ := hrec.six
  have hlt0 := hrec.lt
  clear hsc IH hres hp hL hj hk hrec
  go_enter Tryd.func59, Tryd.ntmps59
  go_wp2_with fail
  obtain ⟨w1, hw1, hs1, hr1, hk1⟩ := part_set HSC.out HREC.out hne 0 (.int .i64 3)
  rw [← hw1]
  have HK1 := Lib.hid (two_p (Keeps.refl (Two cs pb) w) hk1)
  have HS1 := Lib.hid hs1
  have HR1 := Lib.hid (show RecAt w1 pb [.int .i64 3, .string ⟨#[]⟩, .string ⟨#[]⟩, .string ⟨#[]⟩, .slice none 0 0, .bool q] from hr1)
  clear hw1 hs1 hr1 hk1 f0
  refine (long_any cs s i d _ HS1.out (by omega) hi).mono ?_
  rw [← HL.out, ← HJ.out]
  rintro e w2 ⟨rfl, hs2, hk2⟩
  have HS2 := Lib.hid hs2
  have HR2 := Lib.hid (HR1.out.keep hk2 (fun h => hne h.symm))
  have HK2 := Lib.hid (two_c HK1.out hk2)
  clear hs2 hk2
  go_wp2_with fail
  refine (name_any cs s j d _ true HS2.out (by omega) hjl k HK.out.symm).mono ?_
  rintro e w3 ⟨R, rfl, hR, hs3, hk3⟩
  have hr3 := HR2.out.keep hk3 (fun h => hne h.symm)
  have HR := Lib.hid hR
  have HS3 := Lib.hid hs3
  have HR3 := Lib.hid hr3
  have HK3 := Lib.hid (two_c HK2.out hk3)
  obtain ⟨⟨_, _, _, _, _, _⟩, _, _, f2, _, _⟩ := hr3.six
  clear hR hs3 hk3 hr3
  by_cases hk0 : k = 0
  · have hr5 := HRES.out
    rw [if_pos hk0] at hr5
    have HRF := Lib.hid hr5
    obtain ⟨t1, t2⟩ := ba_empty (s := R) (by rw [HR.out, hk0, List.take_zero])
    clear hr5 hk0
    go_wp2_with fail
    obtain ⟨w4, hw4, hs4, hr4, hk4⟩ := part_set HS3.out HR3.out hne 2 (.string R)
    rw [← hw4]
    have HK4 := Lib.hid (two_p HK3.out hk4)
    have HS4 := Lib.hid hs4
    have hr4' : RecAt w4 pb [.int .i64 3, .string ⟨#[]⟩, .string R, .string ⟨#[]⟩, .slice none 0 0, .bool q] := hr4
    have HR4 := Lib.hid hr4'
    obtain ⟨⟨_, _, c2, _, _, _⟩, _, _, _, f3, _⟩ := hr4'.six
    clear hw4 hs4 hr4 hk4 f2 hr4'
    refine (fail_any 2 _).mono ?_
    rintro e w9 ⟨rfl, rfl⟩
    go_wp2_with fail
    refine ⟨rfl, ?_⟩
    rw [HRF.out]
    exact ⟨rfl, HK4.out⟩
  · have hne0 : R.data.toList ≠ [] := by
      intro h
      have h2 := congrArg List.length (HR.out.symm.trans h)
      rw [List.length_take, rest_len] at h2
      simp only [List.length_nil] at h2
      omega
    obtain ⟨t1, t2⟩ := ba_full (s := R) hne0
    clear hne0
    cases L with
    | true =>
      have hnm := long_name (r := rest s i) HL.out.symm hk0
      rw [rest_tail] at hnm
      have hj1 : j = i + 1 := HJ.out
      rw [← hj1, ← HR.out] at hnm
      have t3 : (R.toList == [35]) = false := ba_not hnm.1
      have t4 : (R.toList == [63]) = false := ba_not hnm.2
      clear hnm hj1
      cases hh : headIs 125 (rest s (j + k)) with
      | true =>
        have hr5 := HRES.out
        rw [if_neg hk0, if_pos hh] at hr5
        rw [HR.out.symm] at hr5
        have HRF := Lib.hid hr5
        have HH := Lib.hid hh
        clear hr5 hk0 hh
        go_wp2_with fail
        obtain ⟨w4, hw4, hs4, hr4, hk4⟩ := part_set HS3.out HR3.out hne 2 (.string R)
        rw [← hw4]
        have HK4 := Lib.hid (two_p HK3.out hk4)
        have HS4 := Lib.hid hs4
        have hr4' : RecAt w4 pb [.int .i64 3, .string ⟨#[]⟩, .string R, .string ⟨#[]⟩, .slice none 0 0, .bool q] := hr4
        have HR4 := Lib.hid hr4'
        obtain ⟨⟨_, _, c2, _, _, _⟩, _, _, _, f3, _⟩ := hr4'.six
        clear hw4 hs4 hr4 hk4 f2 hr4'
        refine (is_yes cs s ⟨#[125]⟩ (j + k) d _ HS4.out (by omega) (by omega) (by decide) (by rw [hasPrefix_starts, starts_one]; exact HH.out)).mono ?_
        rintro e w5 ⟨rfl, hs5, hk5⟩
        have HS5 := Lib.hid hs5
        have hr6 := HR4.out.keep hk5 (fun h => hne h.symm)
        have HR5 := Lib.hid hr6
        have HK5 := Lib.hid (two_c HK4.out hk5)
        obtain ⟨⟨_, _, _, _, _, _⟩, _, _, _, g3, _⟩ := hr6.six
        have hlt : j + k < s.size := by
          rcases Nat.lt_or_ge (j + k) s.size with x | x
          · exact x
          · have := HH.out; rw [rest_nil x] at this; cases this
        clear hs5 hk5 hr6
        go_wp2_with fail
        obtain ⟨w6, hw6, hs6, hr6, hk6⟩ := part_set HS5.out HR5.out hne 3 (.string ⟨#[76]⟩)
        rw [← hw6]
        go_end0
        rw [HRF.out, if_pos trivial, rest_tail]
        exact brace_end hs6 hlt hr6 rfl rfl (PtsAt.nil _ _ 0) (two_p HK5.out hk6)
      | false =>
        have hr5 := HRES.out
        rw [if_neg hk0, hh, if_neg (by simp)] at hr5
        have HRF0 := Lib.hid hr5
        have HH := Lib.hid hh
        clear hr5 hk0 hh
        go_wp2_with fail
        obtain ⟨w4, hw4, hs4, hr4, hk4⟩ := part_set HS3.out HR3.out hne 2 (.string R)
        rw [← hw4]
        have HK4 := Lib.hid (two_p HK3.out hk4)
        have HS4 := Lib.hid hs4
        have hr4' : RecAt w4 pb [.int .i64 3, .string ⟨#[]⟩, .string R, .string ⟨#[]⟩, .slice none 0 0, .bool q] := hr4
        have HR4 := Lib.hid hr4'
        obtain ⟨⟨_, _, c2, _, _, _⟩, _, _, _, f3, _⟩ := hr4'.six
        clear hw4 hs4 hr4 hk4 f2 hr4'
        refine (is_no cs s ⟨#[125]⟩ (j + k) d _ HS4.out (by omega) (by rw [hasPrefix_starts, starts_one]; exact HH.out)).mono ?_
        rintro e w5 ⟨rfl, q5, rfl⟩
        go_wp2_with fail
        refine (op_any cs s (j + k) d _ (HS4.out.drewN q5) (by omega) (by omega)).mono ?_
        rintro e w5 ⟨O, rfl, hO, hs5, hk5⟩
        have hkq : Keeps (fun b => b = cs) w4 (w4.drewN q5) := (Keeps.refl _ _).drewN _
        have hr6 := (HR4.out.keep hkq (fun h => hne h.symm)).keep hk5 (fun h => hne h.symm)
        have HS5 := Lib.hid hs5
        have HR5 := Lib.hid hr6
        have HK5 := Lib.hid (two_c (two_c HK4.out hkq) hk5)
        have HO := Lib.hid hO
        obtain ⟨⟨_, _, _, _, _, _⟩, _, _, _, g3, _⟩ := hr6.six
        obtain ⟨_, _, m2, _, mf2⟩ := hs5.cells
        clear hO hs5 hk5 hr6 hkq
        clear t1 t2 t3 t4
        by_cases ho : opF (rest s (j + k)) = []
        · obtain ⟨t1, t2⟩ := ba_empty (s := O) (HO.out.trans ho)
          have hr5 := HRF0.out
          rw [ho, if_pos (by rfl)] at hr5
          have HRF := Lib.hid hr5
          clear hr5 ho
          go_wp2_with fail
          obtain ⟨w6, hw6, hs6, hr6, hk6⟩ := part_set HS5.out HR5.out hne 3 (.string O)
          rw [← hw6]
          have HK6 := Lib.hid (two_p HK5.out hk6)
          have HS6 := Lib.hid hs6
          have hr6' : RecAt w6 pb [.int .i64 3, .string ⟨#[]⟩, .string R, .string O, .slice none 0 0, .bool q] := hr6
          have HR6 := Lib.hid hr6'
          obtain ⟨⟨_, _, _, d3, _, d5⟩, _, _, _, _, f4⟩ := hr6'.six
          obtain ⟨_, _, e2, _, g2⟩ := hs6.cells
          clear hw6 hs6 hr6 hk6 g3 hr6'
          refine (fail_any 2 _).mono ?_
          rintro e w9 ⟨rfl, rfl⟩
          go_wp2_with fail
          refine ⟨rfl, ?_⟩
          rw [HRF.out]
          exact ⟨rfl, HK6.out⟩
        · obtain ⟨t1, t2⟩ := ba_full (s := O) (by rw [HO.out]; exact ho)
          have hr5 := HRF0.out
          rw [if_pos (by simp)] at hr5
          have HRF := Lib.hid hr5
          clear hr5 ho
          go_wp2_with fail
          obtain ⟨w6, hw6, hs6, hr6, hk6⟩ := part_set HS5.out HR5.out hne 3 (.string O)
          rw [← hw6]
          have HK6 := Lib.hid (two_p HK5.out hk6)
          have HS6 := Lib.hid hs6
          have hr6' : RecAt w6 pb [.int .i64 3, .string ⟨#[]⟩, .string R, .string O, .slice none 0 0, .bool q] := hr6
          have HR6 := Lib.hid hr6'
          obtain ⟨⟨_, _, _, d3, _, d5⟩, _, _, _, _, f4⟩ := hr6'.six
          obtain ⟨_, _, e2, _, g2⟩ := hs6.cells
          clear hw6 hs6 hr6 hk6 g3 hr6'
          refine (fail_any 2 _).mono ?_
          rintro e w9 ⟨rfl, rfl⟩
          go_wp2_with fail
          refine ⟨rfl, ?_⟩
          rw [HRF.out]
          exact ⟨rfl, HK6.out⟩
    | false =>
      cases hh : headIs 125 (rest s (j + k)) with
      | true =>
        have hr5 := HRES.out
        rw [if_neg hk0, if_pos hh] at hr5
        rw [HR.out.symm] at hr5
        have HRF := Lib.hid hr5
        have HH := Lib.hid hh
        clear hr5 hk0 hh
        go_wp2_with fail
        obtain ⟨w4, hw4, hs4, hr4, hk4⟩ := part_set HS3.out HR3.out hne 2 (.string R)
        rw [← hw4]
        have HK4 := Lib.hid (two_p HK3.out hk4)
        have HS4 := Lib.hid hs4
        have hr4' : RecAt w4 pb [.int .i64 3, .string ⟨#[]⟩, .string R, .string ⟨#[]⟩, .slice none 0 0, .bool q] := hr4
        have HR4 := Lib.hid hr4'
        obtain ⟨⟨_, _, c2, _, _, _⟩, _, _, _, f3, _⟩ := hr4'.six
        clear hw4 hs4 hr4 hk4 f2 hr4'
        refine (is_yes cs s ⟨#[125]⟩ (j + k) d _ HS4.out (by omega) (by omega) (by decide) (by rw [hasPrefix_starts, starts_one]; exact HH.out)).mono ?_
        rintro e w5 ⟨rfl, hs5, hk5⟩
        have HS5 := Lib.hid hs5
        have hr6 := HR4.out.keep hk5 (fun h => hne h.symm)
        have HR5 := Lib.hid hr6
        have HK5 := Lib.hid (two_c HK4.out hk5)
        obtain ⟨⟨_, _, _, _, _, _⟩, _, _, _, g3, _⟩ := hr6.six
        have hlt : j + k < s.size := by
          rcases Nat.lt_or_ge (j + k) s.size with x | x
          · exact x
          · have := HH.out; rw [rest_nil x] at this; cases this
        clear hs5 hk5 hr6
        go_wp2_with fail
        go_end0
        rw [HRF.out, if_neg (by simp), rest_tail]
        exact brace_end HS5.out hlt HR5.out rfl rfl (PtsAt.nil _ _ 0) HK5.out
      | false =>
        have hr5 := HRES.out
        rw [if_neg hk0, hh, if_neg (by simp)] at hr5
        have HRF0 := Lib.hid hr5
        have HH := Lib.hid hh
        clear hr5 hk0 hh
        go_wp2_with fail
        obtain ⟨w4, hw4, hs4, hr4, hk4⟩ := part_set HS3.out HR3.out hne 2 (.string R)
        rw [← hw4]
        have HK4 := Lib.hid (two_p HK3.out hk4)
        have HS4 := Lib.hid hs4
        have hr4' : RecAt w4 pb [.int .i64 3, .string ⟨#[]⟩, .string R, .string ⟨#[]⟩, .slice none 0 0, .bool q] := hr4
        have HR4 := Lib.hid hr4'
        obtain ⟨⟨_, _, c2, _, _, _⟩, _, _, _, f3, _⟩ := hr4'.six
        clear hw4 hs4 hr4 hk4 f2 hr4'
        refine (is_no cs s ⟨#[125]⟩ (j + k) d _ HS4.out (by omega) (by rw [hasPrefix_starts, starts_one]; exact HH.out)).mono ?_
        rintro e w5 ⟨rfl, q5, rfl⟩
        go_wp2_with fail
        refine (op_any cs s (j + k) d _ (HS4.out.drewN q5) (by omega) (by omega)).mono ?_
        rintro e w5 ⟨O, rfl, hO, hs5, hk5⟩
        have hkq : Keeps (fun b => b = cs) w4 (w4.drewN q5) := (Keeps.refl _ _).drewN _
        have hr6 := (HR4.out.keep hkq (fun h => hne h.symm)).keep hk5 (fun h => hne h.symm)
        have HS5 := Lib.hid hs5
        have HR5 := Lib.hid hr6
        have HK5 := Lib.hid (two_c (two_c HK4.out hkq) hk5)
        have HO := Lib.hid hO
        obtain ⟨⟨_, _, _, _, _, _⟩, _, _, _, g3, _⟩ := hr6.six
        obtain ⟨_, _, m2, _, mf2⟩ := hs5.cells
        clear hO hs5 hk5 hr6 hkq
        clear t1 t2
        by_cases ho : opF (rest s (j + k)) = []
        · obtain ⟨t1, t2⟩ := ba_empty (s := O) (HO.out.trans ho)
          have hr5 := HRF0.out
          rw [ho, if_pos (by rfl)] at hr5
          have HRF := Lib.hid hr5
          clear hr5 ho
          go_wp2_with fail
          obtain ⟨w6, hw6, hs6, hr6, hk6⟩ := part_set HS5.out HR5.out hne 3 (.string O)
          rw [← hw6]
          have HK6 := Lib.hid (two_p HK5.out hk6)
          have HS6 := Lib.hid hs6
          have hr6' : RecAt w6 pb [.int .i64 3, .string ⟨#[]⟩, .string R, .string O, .slice none 0 0, .bool q] := hr6
          have HR6 := Lib.hid hr6'
          obtain ⟨⟨_, _, _, d3, _, d5⟩, _, _, _, _, f4⟩ := hr6'.six
          obtain ⟨_, _, e2, _, g2⟩ := hs6.cells
          clear hw6 hs6 hr6 hk6 g3 hr6'
          refine (fail_any 2 _).mono ?_
          rintro e w9 ⟨rfl, rfl⟩
          go_wp2_with fail
          refine ⟨rfl, ?_⟩
          rw [HRF.out]
          exact ⟨rfl, HK6.out⟩
        · obtain ⟨t1, t2⟩ := ba_full (s := O) (by rw [HO.out]; exact ho)
          have hr5 := HRF0.out
          have ho2 : (opF (rest s (j + k))).isEmpty = false := by cases hx : opF (rest s (j + k)) with | nil => exact absurd hx ho | cons a b => rfl
          rw [ho2, if_neg (by simp)] at hr5
          by_cases h40 : d = 40
          · rw [if_pos h40] at hr5
            have HRF := Lib.hid hr5
            have e40 : ((d : Int) == 40) = true := by rw [beq_iff_eq]; omega
            clear hr5 ho ho2 h40
            go_wp2_with fail
            obtain ⟨w6, hw6, hs6, hr6, hk6⟩ := part_set HS5.out HR5.out hne 3 (.string O)
            rw [← hw6]
            have HK6 := Lib.hid (two_p HK5.out hk6)
            have HS6 := Lib.hid hs6
            have hr6' : RecAt w6 pb [.int .i64 3, .string ⟨#[]⟩, .string R, .string O, .slice none 0 0, .bool q] := hr6
            have HR6 := Lib.hid hr6'
            obtain ⟨⟨_, _, _, d3, _, d5⟩, _, _, _, _, f4⟩ := hr6'.six
            obtain ⟨_, _, e2, _, g2⟩ := hs6.cells
            clear hw6 hs6 hr6 hk6 g3 hr6'
            refine (fail_any 3 _).mono ?_
            rintro e w9 ⟨rfl, rfl⟩
            go_wp2_with fail
            refine ⟨rfl, ?_⟩
            rw [HRF.out]
            exact ⟨rfl, HK6.out⟩
          · rw [if_neg h40, rest_drop] at hr5
            have HRF0 := Lib.hid hr5
            have e40 : ((d : Int) == 40) = false := by rw [beq_eq_false_iff_ne]; omega
            have w1e : IntKind.i64.wrap ((d : Int) + 1) = (d : Int) + 1 := IntWalk.i64_in _ (by omega)
            have hol := opF_le (rest s (j + k))
            rw [rest_len] at hol
            have hop : 1 ≤ (opF (rest s (j + k))).length := by
              rcases Nat.eq_zero_or_pos (opF (rest s (j + k))).length with x | x
              · exact absurd (List.eq_nil_of_length_eq_zero x) ho
              · exact x
            obtain ⟨p, hpe⟩ : ∃ p, p = j + k + (opF (rest s (j + k))).length := ⟨_, rfl⟩
            rw [← hpe] at hr5
            have HRF1 := Lib.hid hr5
            have HPE := Lib.hid hpe
            have hp1 : p ≤ s.size := by omega
            have hp2 : i + 1 ≤ p := by omega
            clear hr5 ho ho2 HRF0 hpe hol hop
            go_wp2_with fail
            obtain ⟨w6, hw6, hs6, hr6, hk6⟩ := part_set HS5.out HR5.out hne 3 (.string O)
            rw [← hw6]
            have HK6 := Lib.hid (two_p HK5.out hk6)
            have HS6 := Lib.hid hs6
            have hr6' : RecAt w6 pb [.int .i64 3, .string ⟨#[]⟩, .string R, .string O, .slice none 0 0, .bool q] := hr6
            have HR6 := Lib.hid hr6'
            obtain ⟨⟨_, _, _, d3, _, d5⟩, _, _, _, _, f4⟩ := hr6'.six
            obtain ⟨_, _, e2, _, g2⟩ := hs6.cells
            clear hw6 hs6 hr6 hk6 g3 hr6'
            have hs6p := HS6.out
            rw [← HPE.out] at hs6p
            have HSP := Lib.hid hs6p
            clear hs6p
            obtain ⟨w7, hw7⟩ : ∃ w7, w7 = w6.setCell ⟨cs, 2, none⟩ (.int .i64 ((d : Int) + 1)) := ⟨_, rfl⟩
            rw [← hw7]
            have hs7 : ScanAt w7 cs s p ((d + 1 : Nat) : Int) := by rw [hw7]; exact HSP.out.set2 _
            have hk7 : Keeps (fun b => b = cs) w6 w7 := by rw [hw7]; exact keep_end0 _ _ _ _
            have hr7 := HR6.out.keep hk7 (fun h => hne h.symm)
            have HS7 := Lib.hid hs7
            have HR7 := Lib.hid hr7
            have HK7 := Lib.hid (two_c HK6.out hk7)
            obtain ⟨⟨_, _, _, _, _, k5⟩, _, _, _, _, _⟩ := hr7.six
            clear hw7 hs7 hr7 hk7 f4 e2 g2 d3 d5
            go_wp2_with fail
            refine (HD.out.br q cs s p (d + 1) _ HS7.out hp1 (by omega) hs (by omega)).mono ?_
            intro e w8 hin
            cases hres2 : lexD m (.br q) (d + 1) (rest s p) with
            | error x =>
              rw [hres2] at hin
              have hr2 := HRF1.out
              rw [hres2] at hr2
              have HRF := Lib.hid hr2
              obtain ⟨he, hk8⟩ := hin
              subst he
              have HK8 := Lib.hid (two_c HK7.out hk8)
              clear hres2 hr2 hk8
              go_wp2_with fail
              refine ⟨rfl, ?_⟩
              rw [HRF.out]
              exact ⟨rfl, HK8.out⟩
            | ok lr =>
              obtain ⟨l2, r2⟩ := lr
              rw [hres2] at hin
              have hr2 := HRF1.out
              rw [hres2] at hr2
              dsimp only at hr2
              obtain ⟨I2, N2, v, he, a1, a2, a3, a4, a5⟩ := hin
              subst he
              obtain ⟨ax, cx, rfl, _, _⟩ := a4.shape
              have hr8 := HR7.out.keep a5 (fun h => hne h.symm)
              have HRF := Lib.hid hr2
              have HS8 := Lib.hid a3
              have HP8 := Lib.hid a4
              have HR8 := Lib.hid hr8
              have HK8 := Lib.hid (two_c HK7.out a5)
              have HA2 := Lib.hid a2
              obtain ⟨⟨_, _, _, _, _, _⟩, _, _, _, _, f4⟩ := hr8.six
              have HPS := Lib.hid (part_set HS8.out HR8.out hne 4 (.slice ax (tidyF l2).length cx))
              obtain ⟨_, _, e2, _, g2⟩ := (show ScanAt w8 cs s I2 ((d : Int) + 1) from a3).cells
              have w2e : IntKind.i64.wrap ((d : Int) + 1 - 1) = (d : Int) := by rw [show ((d : Int) + 1 - 1) = (d : Int) by omega]; exact IntWalk.i64_in _ (by omega)
              have w3e : IntKind.i64.wrap (d : Int) = (d : Int) := IntWalk.i64_in _ (by omega)
              clear hres2 hr2 a2 a3 a4 a5 hr8 k5
              go_wp2_with fail
              obtain ⟨w9, hw9, hs9, hr9, hk9⟩ := HPS.out
              rw [← hw9]
              have HK9 := Lib.hid (two_p HK8.out hk9)
              have HS9 := Lib.hid hs9
              have HR9 := Lib.hid hr9
              have HP9 := Lib.hid (HP8.out.keep hk9 (fun b hb hx e => by have := HR7.out.lt; omega))
              clear hw9 hs9 hr9 hk9 f4
              go_end0
              rw [HRF.out, ← HA2.out, ← HR.out, ← HO.out]
              have hkx := keep_end0 w9 cs 2 (.int .i64 (d : Int))
              exact brace_end (HS9.out.set2 _) a1 (HR9.out.keep hkx (fun h => hne h.symm)) rfl rfl ((HP9.out.keep hkx (fun b hb hx e => by have := HSC.out.lt; have := HK7.out.size; omega)).mono (fun b _ h => by have := HK7.out.size; omega)) (two_c HK9.out hkx)
end Go.Proofs.YtcahifkiiabioaaDoor
namespace Go.Proofs.YtcahifkiiabioaaDoor
open Go.RowKit
set_option linter.unusedVariables false

theorem grow_pts2 {w w' : World} {v v' : Value} {B wb : Nat} {raw : List Pt} {x : Pt} {vs : List Value} {n : Nat} {wv : Value} (hx : PtsAt w (fun b => (B ≤ b ∧ b ≠ wb) ∧ v.ownBlock ≠ some b) n x.word wv) (hl : vs.length = raw.length)
    (hnest : ∀ i (h : i < raw.length) (h' : i < vs.length), PtsAt w (fun b => (B ≤ b ∧ b ≠ wb) ∧ v.ownBlock ≠ some b) n raw[i].word vs[i])
    (hown : w'.ownsRow 0 34 6 v' (raw.length + 1) (cellsL raw vs ++ cellsP x wv)) (hk : Keeps (fun b => b = wb ∨ v.ownBlock = some b) w w')
    (hg : ∀ y, v'.ownBlock = some y → v.ownBlock = some y ∨ w.heap.size ≤ y) :
    OwnPts w' (fun b => B ≤ b ∧ b ≠ wb) v' (raw ++ [x]) := by
  have key : ∀ (l : List Pt) (u : Value), PtsAt w (fun b => (B ≤ b ∧ b ≠ wb) ∧ v.ownBlock ≠ some b) n l u → PtsAt w' (fun b => (B ≤ b ∧ b ≠ wb) ∧ v'.ownBlock ≠ some b) n l u := fun l u h => by
    have h2 : PtsAt w (fun b => ((B ≤ b ∧ b ≠ wb) ∧ v.ownBlock ≠ some b) ∧ b < w.heap.size) n l u := h.mono fun b hb hd => ⟨hd, hb⟩
    refine (h2.keep hk (fun b _ hd s => by rcases s with s | s; exact hd.1.1.2 s; exact hd.1.2 s)).mono fun b _ hd => ⟨hd.1.1, fun e => ?_⟩
    rcases hg b e with h3 | h3
    · exact hd.1.2 h3
    · have := hd.2; omega
  refine ⟨vs ++ [wv], n, by simp [hl], ?_, fun i h h' => ?_⟩
  · rw [cellsL_append hl]
    simpa [cellsL] using hown
  · by_cases hi : i < raw.length
    · rw [List.getElem_append_left hi, List.getElem_append_left (by omega)]
      exact key _ _ (hnest i hi (by omega))
    · have hi2 : i = raw.length := by simp at h; omega
      subst hi2
      rw [List.getElem_append_right (Nat.le_refl _), List.getElem_append_right (by omega)]
      simp only [hl, Nat.sub_self, List.getElem_cons_zero]
      exact key _ _ hx

theorem bag_more2 {w : World} {B cs wb : Nat} {v : Value} {raw : List Pt} {vs : List Value} {n m : Nat} {x : Pt} {wv : Value} {N : List Pt × Bool} {e : Ending} {w' : World} (ho : v.ownBlock ≠ some cs) (hcw : cs < B ∧ B ≤ wb) (hl : vs.length = raw.length)
    (lcs : cs < w.heap.size) (hxw : PtsAt w (fun b => (B ≤ b ∧ b ≠ wb) ∧ v.ownBlock ≠ some b) n x.word wv)
    (hnest : ∀ i (h : i < raw.length) (h' : i < vs.length), PtsAt w (fun b => (B ≤ b ∧ b ≠ wb) ∧ v.ownBlock ≠ some b) n raw[i].word vs[i])
    (hok : RawOK raw) (hN : normF raw = N) (hm : wtF raw ≤ m) (hk1 : x.kind ≠ 1) (hk2 : x.kind ≠ 2) (hp : PutCore w wb raw.length v (cellsL raw vs ++ cellsP x wv) e w') :
    PutPost w B cs wb v.ownBlock (stepN N x) (m + x.text.length + 1) e w' := by
  obtain ⟨he, g, cap, h1, h2, h3, h4, h5⟩ := hp
  refine ⟨he, some g, ⟨_, raw ++ [x], h1, grow_pts2 (v := v) hxw hl hnest h2 h5 (fun y hy => ?_), rfl, fun e => h4 (Option.some.inj e), ?_, hcw, ?_, hok.append (fun p hp hk => ?_), ?_⟩, ?_, h5⟩
  · obtain rfl : g = y := Option.some.inj hy
    exact h3
  · intro e
    obtain rfl : g = cs := Option.some.inj e
    rcases h3 with h3 | h3
    · exact ho h3
    · omega
  · rw [normF_append, hN]; rfl
  · obtain rfl := List.mem_singleton.1 hp
    rcases hk with hk | hk
    · exact absurd hk hk1
    · exact absurd hk hk2
  · rw [wtF_append]
    simp only [wtF]
    omega
  · rcases h3 with h3 | h3
    · exact .inl h3.symm
    · exact .inr ⟨g, rfl, h3⟩

/-- A bag, and a part that is made: what goes behind. -/
def Made (w : World) (B cs wb pb : Nat) (s : ByteArray) (d : Nat) (g : Option Nat) (N : List Pt × Bool) (m : Nat) (res : Res) : Prop :=
  ∃ (i' k : Nat) (x : Pt) (v : Value), res = .ok ([x], rest s i') ∧ i' ≤ s.size ∧ m + x.text.length + 1 ≤ 2 * i' ∧ x.kind ≠ 1 ∧ x.kind ≠ 2 ∧ ScanAt w cs s i' d ∧ Bag w B cs wb g N m ∧
    RecAt w pb (cellsP x v) ∧ PtsAt w (fun b => (B ≤ b ∧ b ≠ wb) ∧ g ≠ some b) k x.word v
end Go.Proofs.YtcahifkiiabioaaDoor
namespace Go.Proofs.YtcahifkiiabioaaDoor
open Go.RowKit
set_option linter.unusedVariables false

theorem after_append {W1 w1 : World} {o : Obj} {wb pb : Nat} {u v : Value} {l : List Value} (hg : (W1.alloc o).grownBy w1 v.ownBlock) (hw : WordAt W1 wb u) (hr : RecAt W1 pb l) (hv : v.ownBlock ≠ some wb) (hvp : v.ownBlock ≠ some pb) : WordAt w1 wb u ∧ RecAt w1 pb l ∧ Keeps (fun b => v.ownBlock = some b) W1 w1 := by
  have k : Keeps (fun b => v.ownBlock = some b) W1 w1 := ((Keeps.refl _ W1).alloc o).grown hg fun k hk _ => hk
  exact ⟨hw.keep k hv, hr.keep k hvp, k⟩
theorem after_append_d {W1 w1 : World} {o : Obj} {wb pb : Nat} {u v : Value} {l : List Value} (hg : (W1.alloc o).drew.grownBy w1 v.ownBlock) (hw : WordAt W1 wb u) (hr : RecAt W1 pb l) (hv : v.ownBlock ≠ some wb) (hvp : v.ownBlock ≠ some pb) : WordAt w1 wb u ∧ RecAt w1 pb l ∧ Keeps (fun b => v.ownBlock = some b) W1 w1 := by
  have k : Keeps (fun b => v.ownBlock = some b) W1 w1 := ((Keeps.refl _ W1).alloc o).drew.grown hg fun k hk _ => hk
  exact ⟨hw.keep k hv, hr.keep k hvp, k⟩
theorem core_a {W1 w1 : World} {wb g cap L : Nat} {u v : Value} {xs : List Value} {z0 z1 z2 z3 z4 z5 u0 u1 u2 u3 u4 u5 : Value} (hk : Keeps (fun b => v.ownBlock = some b) W1 w1) (hw : WordAt w1 wb u)
    (hown : w1.ownsRow 0 34 6 (.slice (some ⟨g, 0, none⟩) (L + 1) cap) (L + 1) (xs ++ [z0, z1, z2, z3, z4, z5])) (hat : v.ownBlock = some g ∨ g = W1.heap.size + 1) (hgw : g ≠ wb) :
    PutCore W1 wb L v (xs ++ [u0, u1, u2, u3, u4, u5]) (.returned (.tuple #[])) (set6 (w1.setCell ⟨wb, 0, none⟩ (.slice (some ⟨g, 0, none⟩) (L + 1) cap)) g (L * 6) u0 u1 u2 u3 u4 u5) := by
  have hx : xs.length = L * 6 := by have := hown.1; simp at this; omega
  have k1 : Keeps (fun b => b = wb ∨ v.ownBlock = some b) W1 w1 := hk.mono fun _ _ h => .inr h
  have k2 : ∀ k, k < W1.heap.size → k = g → (k = wb ∨ v.ownBlock = some k) := fun k hk e => by
    rcases hat with hat | hat
    · exact .inr (by rw [hat, e])
    · omega
  refine ⟨rfl, g, cap, ?_, ?_, ?_, hgw, ?_⟩
  · exact (hw.set _).keep (set6_keeps _ _ _ _ _ _ _ _ _) (Ne.symm hgw)
  · exact six_stored hx (Go.ownsRow_setCell_other hown (by simpa [Value.ownBlock] using hgw) _) _ _ _ _ _ _
  · rcases hat with h | h; exact .inl h; exact .inr (by omega)
  · exact (k1.setCell _ _ fun _ => .inl rfl).trans (set6_keeps _ _ _ _ _ _ _ _ _) fun k hk e => k2 k hk e
theorem core_b {W1 w1 : World} {wb g cap L : Nat} {u v : Value} {ys : List Value} (hk : Keeps (fun b => v.ownBlock = some b) W1 w1) (hw : WordAt w1 wb u)
    (hown : w1.ownsRow 0 34 6 (.slice (some ⟨g, 0, none⟩) (L + 1) cap) (L + 1) ys) (hat : v.ownBlock = some g ∨ g = W1.heap.size + 1) (hgw : g ≠ wb) :
    PutCore W1 wb L v ys (.returned (.tuple #[])) (w1.setCell ⟨wb, 0, none⟩ (.slice (some ⟨g, 0, none⟩) (L + 1) cap)) := by
  refine ⟨rfl, g, cap, hw.set _, Go.ownsRow_setCell_other hown (by simpa [Value.ownBlock] using hgw) _, ?_, hgw, ?_⟩
  · rcases hat with h | h; exact .inl h; exact .inr (by omega)
  · exact (hk.mono fun _ _ h => .inr h).setCell _ _ fun _ => .inl rfl

--LEM--
theorem two_new {w w1 w2 : World} {cs pb : Nat} (h : Keeps (fun b => b = cs) w w1) (hpb : pb = w.heap.size) (k : Keeps (Two cs pb) w1 w2) : Keeps (fun b => b = cs) w w2 := h.trans k fun x hx e => by
  rcases e with e | e
  · exact e
  · omega
theorem one_new {w w1 w2 : World} {cs pb : Nat} (h : Keeps (fun b => b = cs) w w1) (hpb : pb = w.heap.size) (k : Keeps (fun b => b = pb) w1 w2) : Keeps (fun b => b = cs) w w2 := h.trans k fun x hx e => by omega
theorem fresh_ok {w : World} {B cs wb : Nat} {g : Option Nat} {N : List Pt × Bool} {m b : Nat} (h : Bag w B cs wb g N m) (hb : w.heap.size ≤ b) : (B ≤ b ∧ b ≠ wb) ∧ g ≠ some b := by
  have hl := h.le
  refine ⟨⟨by omega, by omega⟩, fun e => ?_⟩
  obtain ⟨v0, raw0, _, ho0, e0, _⟩ := h
  have := ho0.lt (e0.trans e)
  omega
theorem made_of {w w3 : World} {B cs wb pb I d m k : Nat} {s : ByteArray} {g : Option Nat} {N : List Pt × Bool} {x : Pt} {v : Value} {res : Res} (hb : Bag w B cs wb g N m) (hk : Keeps (fun b => b = cs) w w3) (hs : ScanAt w3 cs s I d)
    (hr : RecAt w3 pb (cellsP x v)) (hx : PtsAt w3 (fun b => w.heap.size ≤ b) k x.word v) (h1 : x.kind ≠ 1) (h2 : x.kind ≠ 2) (hI : I ≤ s.size) (hm : m + x.text.length + 1 ≤ 2 * I) (hres : res = .ok ([x], rest s I)) :
    Made w3 B cs wb pb s d g N m res ∧ Keeps (fun b => b = cs) w w3 :=
  ⟨⟨I, k, x, v, hres, hI, hm, h1, h2, hs, hb.keep hk (fun _ _ e => e), hr, hx.mono fun b _ h => fresh_ok hb h⟩, hk⟩
/-- Two fields are written. -/
theorem made_two {w w2 : World} {B cs wb pb I d m : Nat} {s : ByteArray} {g : Option Nat} {N : List Pt × Bool} {kd : Nat} {name text : List UInt8} {q : Bool} {res : Res} {j : Nat} {u : Value} (hb : Bag w B cs wb g N m) (hpb : pb = w.heap.size) (hne : cs ≠ pb) (hk : Keeps (fun b => b = cs) w w2) (hs : ScanAt w2 cs s I d)
    (hr : RecAt w2 pb [.int .i64 0, .string ⟨#[]⟩, .string ⟨#[]⟩, .string ⟨#[]⟩, .slice none 0 0, .bool q]) (hl : ([.int .i64 (kd : Nat), .string ⟨#[]⟩, .string ⟨#[]⟩, .string ⟨#[]⟩, .slice none 0 0, .bool q] : List Value).set j u = cellsP (.mk kd text name [] [] q) (.slice none 0 0))
    (h1 : kd ≠ 1) (h2 : kd ≠ 2) (hI : I ≤ s.size) (hm : m + text.length + 1 ≤ 2 * I) (hres : res = .ok ([.mk kd text name [] [] q], rest s I)) :
    Made ((w2.setCell ⟨pb, 0, none⟩ (.int .i64 (kd : Nat))).setCell ⟨pb, j, none⟩ u) B cs wb pb s d g N m res ∧ Keeps (fun b => b = cs) w ((w2.setCell ⟨pb, 0, none⟩ (.int .i64 (kd : Nat))).setCell ⟨pb, j, none⟩ u) := by
  obtain ⟨w3, hw3, hs3, hr3, hk3⟩ := part_set hs hr hne 0 (.int .i64 (kd : Nat))
  obtain ⟨w4, hw4, hs4, hr4, hk4⟩ := part_set hs3 hr3 hne j u
  subst hw3
  subst hw4
  refine made_of (x := .mk kd text name [] [] q) hb (one_new (one_new hk hpb hk3) hpb hk4) hs4 ?_ (PtsAt.nil _ _ 0) h1 h2 hI hm hres
  rw [← hl]
  exact hr4
theorem starts_two (a b : UInt8) {r : List UInt8} (h : startsF [a, b] r = true) : 2 ≤ r.length := startsF_le h
theorem calcF_len : ∀ {l : List UInt8} {o k : Nat}, calcF o l = some k → k + 2 ≤ l.length
  | [], o, k, h => by cases h
  | c :: t, o, k, h => by
    have hm : ∀ o', (calcF o' t).map (· + 1) = some k → k + 2 ≤ t.length + 1 := fun o' h => by
      cases h2 : calcF o' t with
      | none => rw [h2] at h; cases h
      | some j =>
        rw [h2] at h
        have := calcF_len h2
        have : j + 1 = k := Option.some.inj h
        omega
    unfold calcF at h
    rw [List.length_cons]
    split at h
    · exact hm _ h
    split at h
    · split at h
      · split at h
        · next hh =>
          have : 0 = k := Option.some.inj h
          cases t with
          | nil => cases hh
          | cons a b => rw [List.length_cons]; omega
        · cases h
      · exact hm _ h
    · exact hm _ h
theorem subF_len : ∀ {l : List UInt8} {md : SM} {o k : Nat}, subF md o l = some k → k + 1 ≤ l.length
  | [], md, o, k, h => by cases md <;> cases h
  | c :: t, md, o, k, h => by
    have hm : ∀ md' o', (subF md' o' t).map (· + 1) = some k → k + 1 ≤ t.length + 1 := fun md' o' h => by
      cases h2 : subF md' o' t with
      | none => rw [h2] at h; cases h
      | some j =>
        rw [h2] at h
        have := subF_len h2
        have : j + 1 = k := Option.some.inj h
        omega
    rw [List.length_cons]
    cases md with
    | n =>
      unfold subF at h
      split at h
      · exact hm _ _ h
      split at h
      · exact hm _ _ h
      split at h
      · exact hm _ _ h
      split at h
      · exact hm _ _ h
      split at h
      · split at h
        · have : 0 = k := Option.some.inj h
          omega
        · exact hm _ _ h
      · exact hm _ _ h
    | q1 => exact hm _ _ h
    | q2 => exact hm _ _ h
    | bn => exact hm _ _ h
    | bq => exact hm _ _ h
theorem calc_le {s : ByteArray} {i k : Nat} (h : calcF 0 (rest s i) = some k) (hi : i ≤ s.size) : i + (k + 2) ≤ s.size := by
  have := calcF_len h
  rw [rest_len] at this
  omega
theorem sub_le {s : ByteArray} {i k : Nat} (h : subF .n 0 (rest s i) = some k) (hi : i ≤ s.size) : i + (k + 1) ≤ s.size := by
  have := subF_len h
  rw [rest_len] at this
  omega
--END--
set_option maxRecDepth 100000 in
set_option maxHeartbeats 8000000 in
theorem dol_step (n : Nat) (IH : ∀ m, m < n → Does m) (q : Bool) (B cs wb : Nat) (s : ByteArray) (i d m : Nat) (g : Option Nat) (N : List Pt × Bool) (w : World) (hsc : ScanAt w cs s i d) (hi : i ≤ s.size) (hd : d ≤ 40) (hs : s.size ≤ 20000) (hb : Bag w B cs wb g N m) (hm : m + 2 ≤ 2 * i) (hn : 2 * (s.size - i) + 1 ≤ n) :
    Calls Tryd.prog 50 #[.pointer (some ⟨cs, 0, none⟩), .pointer (some ⟨wb, 0, none⟩), .bool q] w (ThingPost w B cs wb s d g N (lexD n (.dol q) d (rest s i))) := by
  have HD := Lib.hid IH
  have HSC := Lib.hid hsc
  have HB := Lib.hid hb
  obtain ⟨res, hres⟩ : ∃ res, res = lexD n (.dol q) d (rest s i) := ⟨_, rfl⟩
  rw [← hres]
  have HRES := Lib.hid hres
  have hle := hb.le
  clear IH hsc hb hres
  go_enter Tryd.func50, Tryd.ntmps50
  go_upto_block 0 with fail
  go_cut [] from 9 to 44 (fun wx => Made wx B cs wb w.heap.size s d g N m res ∧ Keeps (fun b => b = cs) w wx)
  case first =>
--FIRST--
    obtain ⟨pb, hpb⟩ : ∃ pb, pb = w.heap.size := ⟨_, rfl⟩
    obtain ⟨w0, hw0⟩ : ∃ w0, w0 = w.alloc (.cells #[.int .i64 0, .string ⟨#[]⟩, .string ⟨#[]⟩, .string ⟨#[]⟩, .slice none 0 0, .bool q] 34) := ⟨_, rfl⟩
    have hr0 : RecAt w0 pb [.int .i64 0, .string ⟨#[]⟩, .string ⟨#[]⟩, .string ⟨#[]⟩, .slice none 0 0, .bool q] := by rw [hw0, hpb]; exact ⟨_, heap_alloc_new w _⟩
    have hk0 : Keeps (fun b => b = cs) w w0 := by rw [hw0]; exact (Keeps.refl _ _).alloc _
    rw [← hw0, ← hpb]
    have HS0 := Lib.hid (HSC.out.keep (show Keeps (fun _ => False) w w0 by rw [hw0]; exact (Keeps.refl _ _).alloc _) (fun h => h))
    have hne : cs ≠ pb := by omega
    have HPB := Lib.hid hpb
    have HR0 := Lib.hid hr0
    have HK0 := Lib.hid hk0
    clear hw0 hr0 hk0 hpb
    obtain ⟨M, rfl⟩ : ∃ M, n = M + 1 := ⟨n - 1, by omega⟩
    have hr := HRES.out
    rw [lexD_dol] at hr
    by_cases hh : headIs 123 (rest s i) = true
    · rw [if_pos hh, rest_tail] at hr
      have hlt : i < s.size := by
        rcases Nat.lt_or_ge i s.size with x | x
        · exact x
        · rw [rest_nil x] at hh; cases hh
      have HH := Lib.hid hh
      have HR := Lib.hid hr
      clear hr hh
      go_wp2_with fail
      refine (is_yes cs s ⟨#[123]⟩ i d _ HS0.out (by omega) hi (by decide) (by rw [hasPrefix_starts, starts_one]; exact HH.out)).mono ?_
      rintro e w1 ⟨rfl, hs1, hk1⟩
      have HS1 := Lib.hid hs1
      have HR1 := Lib.hid (HR0.out.keep hk1 (fun h => hne h.symm))
      have HK1 := Lib.hid (HK0.out.trans hk1 (fun _ _ e => e))
      clear hs1 hk1
      go_wp2_with fail
      refine ((HD.out M (by omega)).brace q cs pb s (i + 1) d _ HS1.out hlt hd hs hne HR1.out (by omega)).mono ?_
      intro e w2 hp
      cases hres2 : lexD M (.brace q) d (rest s (i + 1)) with
      | error x =>
        rw [hres2] at hp
        have hr2 := HR.out
        rw [hres2] at hr2
        obtain ⟨he, hk2⟩ := hp
        subst he
        have HR2 := Lib.hid hr2
        have HK2 := Lib.hid (two_new HK1.out HPB.out hk2)
        clear hr2 hres2 hk2
        go_wp2_with fail
        refine ⟨rfl, ?_⟩
        rw [HR2.out]
        exact ⟨rfl, HK2.out.mono fun _ _ e => .inl e⟩
      | ok lr =>
        obtain ⟨l, r⟩ := lr
        rw [hres2] at hp
        have hr2 := HR.out
        rw [hres2] at hr2
        have hlen := lexD_len _ _ _ _ _ _ hres2
        obtain ⟨he, I, k, x, v, a1, a2, a3, a4, a5, a6, a7, a8, a9⟩ := hp
        subst he
        rw [← a2, rest_len, rest_len] at hlen
        rw [a3, ← a2] at hr2
        have hlen2 : i + 1 ≤ I := by simp only [Md.least] at hlen; omega
        have hkw := two_new HK1.out HPB.out a9
        have HF := Lib.hid (made_of (m := m) HB.out hkw a6 a7 (a8.mono fun b _ h => by have := HK1.out.size; omega) (by rw [a4]; decide) (by rw [a4]; decide) a1 (by rw [a5]; show m + 0 + 1 ≤ _; omega) hr2)
        clear hr2 hres2 a2 a3 a4 a5 a6 a7 a8 a9 hkw hlen
        go_wp2_with fail
        have hpb := HPB.out
        subst hpb
        go_meet
        case rel => exact HF.out
    · rw [if_neg hh] at hr
      have hh' : headIs 123 (rest s i) = false := by simpa using hh
      have HH := Lib.hid hh'
      clear hh hh'
      by_cases h2 : startsF [40, 40] (rest s i) = true
      · rw [if_pos h2, rest_drop] at hr
        have hlt : i + 2 ≤ s.size := by
          have := starts_two 40 40 h2
          rw [rest_len] at this; omega
        have H2 := Lib.hid h2
        have HR := Lib.hid hr
        clear hr h2
        go_wp2_with fail
        refine (is_no cs s ⟨#[123]⟩ i d _ HS0.out hi (by rw [hasPrefix_starts, starts_one]; exact HH.out)).mono ?_
        rintro e w1 ⟨rfl, q1, rfl⟩
        go_wp2_with fail
        refine (is_yes cs s ⟨#[40, 40]⟩ i d _ (HS0.out.drewN q1) (by omega) hi (by decide) (by rw [hasPrefix_starts]; exact H2.out)).mono ?_
        rintro e w1 ⟨rfl, hs1, hk1⟩
        have hkd : Keeps (fun b => b = cs) w0 (w0.drewN q1) := (Keeps.refl _ _).drewN _
        have HS1 := Lib.hid hs1
        have HR1 := Lib.hid ((HR0.out.keep hkd (fun h => hne h.symm)).keep hk1 (fun h => hne h.symm))
        have HK1 := Lib.hid ((HK0.out.trans hkd (fun _ _ e => e)).trans hk1 (fun _ _ e => e))
        clear hs1 hk1 hkd
        go_wp2_with fail
        refine (calc_any cs s (i + 2) d _ HS1.out (by omega) hlt (calcF 0 (rest s (i + 2))) rfl).mono ?_
        intro e w2 hp
        cases hres2 : calcF 0 (rest s (i + 2)) with
        | none =>
          rw [hres2] at hp
          have hr2 := HR.out
          rw [hres2] at hr2
          dsimp only at hr2
          obtain ⟨he, hk2⟩ := hp
          subst he
          have HR2 := Lib.hid hr2
          have HK2 := Lib.hid (HK1.out.trans hk2 (fun _ _ e => e))
          clear hr2 hres2 hk2
          go_wp2_with fail
          refine ⟨rfl, ?_⟩
          rw [HR2.out]
          exact ⟨rfl, HK2.out.mono fun _ _ e => .inl e⟩
        | some k =>
          rw [hres2] at hp
          have hr2 := HR.out
          rw [hres2] at hr2
          dsimp only at hr2
          obtain ⟨R, he, hR, hs2, hk2⟩ := hp
          subst he
          have hrq := HR1.out.keep hk2 (fun h => hne h.symm)
          have hkw := HK1.out.trans hk2 (fun _ _ e => e)
          obtain ⟨⟨_, _, _, _, _, _⟩, f0, f1, _, _, _⟩ := hrq.six
          have hlt2 : i + 2 + (k + 2) ≤ s.size := calc_le hres2 hlt
          have htl : R.data.toList.length ≤ k := by rw [hR, List.length_take]; omega
          have HF := Lib.hid (made_two (m := m) (res := res) (kd := 4) (j := 1) (u := .string R) (text := R.data.toList) (name := []) HB.out HPB.out hne hkw hs2 hrq rfl (by decide) (by decide) hlt2 (by omega) (by rw [hr2, hR, rest_drop]))
          clear hr2 hres2 hR hs2 hk2 hrq hkw
          go_wp2_with fail
          have hpb := HPB.out
          subst hpb
          go_meet
          case rel => exact HF.out
      · rw [if_neg h2] at hr
        have h2' : startsF [40, 40] (rest s i) = false := by simpa using h2
        have H2 := Lib.hid h2'
        clear h2 h2'
        by_cases h3 : headIs 40 (rest s i) = true
        · rw [if_pos h3, rest_tail] at hr
          have hlt : i + 1 ≤ s.size := by
            rcases Nat.lt_or_ge i s.size with x | x
            · exact x
            · rw [rest_nil x] at h3; cases h3
          have H3 := Lib.hid h3
          have HR := Lib.hid hr
          clear hr h3
          go_wp2_with fail
          refine (is_no cs s ⟨#[123]⟩ i d _ HS0.out hi (by rw [hasPrefix_starts, starts_one]; exact HH.out)).mono ?_
          rintro e w1 ⟨rfl, q1, rfl⟩
          go_wp2_with fail
          refine (is_no cs s ⟨#[40, 40]⟩ i d _ (HS0.out.drewN q1) hi (by rw [hasPrefix_starts]; exact H2.out)).mono ?_
          rintro e w1 ⟨rfl, q2, rfl⟩
          go_wp2_with fail
          refine (is_yes cs s ⟨#[40]⟩ i d _ (HS0.out.drewN (q1 + q2)) (by omega) hi (by decide) (by rw [hasPrefix_starts, starts_one]; exact H3.out)).mono ?_
          rintro e w1 ⟨rfl, hs1, hk1⟩
          have hkd : Keeps (fun b => b = cs) w0 (w0.drewN (q1 + q2)) := (Keeps.refl _ _).drewN _
          have HS1 := Lib.hid hs1
          have HR1 := Lib.hid ((HR0.out.keep hkd (fun h => hne h.symm)).keep hk1 (fun h => hne h.symm))
          have HK1 := Lib.hid ((HK0.out.trans hkd (fun _ _ e => e)).trans hk1 (fun _ _ e => e))
          clear hs1 hk1 hkd
          go_wp2_with fail
          refine (sub_any cs s (i + 1) d _ HS1.out (by omega) hlt (subF .n 0 (rest s (i + 1))) rfl).mono ?_
          intro e w2 hp
          cases hres2 : subF .n 0 (rest s (i + 1)) with
          | none =>
            rw [hres2] at hp
            have hr2 := HR.out
            rw [hres2] at hr2
            dsimp only at hr2
            obtain ⟨he, hk2⟩ := hp
            subst he
            have HR2 := Lib.hid hr2
            have HK2 := Lib.hid (HK1.out.trans hk2 (fun _ _ e => e))
            clear hr2 hres2 hk2
            go_wp2_with fail
            refine ⟨rfl, ?_⟩
            rw [HR2.out]
            exact ⟨rfl, HK2.out.mono fun _ _ e => .inl e⟩
          | some k =>
            rw [hres2] at hp
            have hr2 := HR.out
            rw [hres2] at hr2
            dsimp only at hr2
            obtain ⟨R, he, hR, hs2, hk2⟩ := hp
            subst he
            have hrq := HR1.out.keep hk2 (fun h => hne h.symm)
            have hkw := HK1.out.trans hk2 (fun _ _ e => e)
            obtain ⟨⟨_, _, _, _, _, _⟩, f0, f1, _, _, _⟩ := hrq.six
            have hlt2 : i + 1 + (k + 1) ≤ s.size := sub_le hres2 hlt
            have htl : R.data.toList.length ≤ k := by rw [hR, List.length_take]; omega
            have HF := Lib.hid (made_two (m := m) (res := res) (kd := 5) (j := 1) (u := .string R) (text := R.data.toList) (name := []) HB.out HPB.out hne hkw hs2 hrq rfl (by decide) (by decide) hlt2 (by omega) (by rw [hr2, hR, rest_drop]))
            clear hr2 hres2 hR hs2 hk2 hrq hkw
            go_wp2_with fail
            have hpb := HPB.out
            subst hpb
            go_meet
            case rel => exact HF.out
        · rw [if_neg h3] at hr
          have h3' : headIs 40 (rest s i) = false := by simpa using h3
          have H3 := Lib.hid h3'
          clear h3 h3'
          obtain ⟨k, hk⟩ : ∃ k, k = nameF false (rest s i) := ⟨_, rfl⟩
          rw [← hk] at hr
          have hkl : k ≤ s.size - i := by rw [hk, ← rest_len]; exact nameF_le _ _
          have HR := Lib.hid hr
          have HKN := Lib.hid hk
          clear hr hk
          go_wp2_with fail
          refine (is_no cs s ⟨#[123]⟩ i d _ HS0.out hi (by rw [hasPrefix_starts, starts_one]; exact HH.out)).mono ?_
          rintro e w1 ⟨rfl, q1, rfl⟩
          go_wp2_with fail
          refine (is_no cs s ⟨#[40, 40]⟩ i d _ (HS0.out.drewN q1) hi (by rw [hasPrefix_starts]; exact H2.out)).mono ?_
          rintro e w1 ⟨rfl, q2, rfl⟩
          go_wp2_with fail
          refine (is_no cs s ⟨#[40]⟩ i d _ (HS0.out.drewN (q1 + q2)) hi (by rw [hasPrefix_starts, starts_one]; exact H3.out)).mono ?_
          rintro e w1 ⟨rfl, q3, rfl⟩
          go_wp2_with fail
          refine (name_any cs s i d _ false (HS0.out.drewN (q1 + q2 + q3)) (by omega) hi k HKN.out.symm).mono ?_
          rintro e w2 ⟨R, rfl, hR, hs2, hk2⟩
          have hkd : Keeps (fun b => b = cs) w0 (w0.drewN (q1 + q2 + q3)) := (Keeps.refl _ _).drewN _
          have hrq := (HR0.out.keep hkd (fun h => hne h.symm)).keep hk2 (fun h => hne h.symm)
          have HR2 := Lib.hid hrq
          have HS2 := Lib.hid hs2
          have HK2 := Lib.hid ((HK0.out.trans hkd (fun _ _ e => e)).trans hk2 (fun _ _ e => e))
          have HT := Lib.hid hR
          obtain ⟨⟨_, _, _, _, _, _⟩, f0, _, f2, _, _⟩ := hrq.six
          clear hR hs2 hk2 hkd hrq
          by_cases hk0 : k = 0
          · obtain ⟨t1, t2⟩ := ba_empty (s := R) (by rw [HT.out, hk0, List.take_zero])
            have hr := HR.out
            rw [if_pos hk0] at hr
            have hs3 := HS2.out
            rw [hk0] at hs3
            obtain ⟨w3, hw3, hs4, hr4, hk4⟩ := part_set hs3 HR2.out hne 0 (.int .i64 3)
            obtain ⟨w4, hw4, hs5, hr5, hk5⟩ := part_set hs4 hr4 hne 2 (.string R)
            have HK5 := Lib.hid (one_new (one_new HK2.out HPB.out hk4) HPB.out hk5)
            have HS5 := Lib.hid hs5
            have HB5 := Lib.hid (HB.out.keep HK5.out (fun _ _ e => e))
            have HW := Lib.hid (show w4 = (w2.setCell ⟨pb, 0, none⟩ (.int .i64 3)).setCell ⟨pb, 2, none⟩ (.string R) by rw [hw4, hw3])
            clear hk0 hs3 hw3 hs4 hr4 hk4 hw4 hs5 hr5 hk5
            cases q with
            | true =>
              have HRR := Lib.hid hr
              clear hr
              go_wp2_with fail
              rw [← HW.out]
              refine (put2_any B cs wb g N m ⟨#[36]⟩ _ HB5.out (by omega) (HS5.out.lt)).mono ?_
              intro e w5 hp
              have hfin := thing_put (d := d) (i := i) (r := rest s i) (l := [quoP [36]]) hp HS5.out HB5.out HK5.out hi rfl rfl (by show m + 1 + 1 ≤ _; omega)
              have he := hp.1
              subst he
              have HF := Lib.hid hfin
              clear hp hfin
              go_wp2_with fail
              go_end0
              rw [HRR.out]
              exact HF.out
            | false =>
              have HRR := Lib.hid hr
              clear hr
              go_wp2_with fail
              rw [← HW.out]
              refine (put1_any B cs wb g N m ⟨#[36]⟩ _ HB5.out (by simp) (by omega) (HS5.out.lt)).mono ?_
              intro e w5 hp
              have hfin := thing_put (d := d) (i := i) (r := rest s i) (l := [txtP [36]]) hp HS5.out HB5.out HK5.out hi rfl rfl (by show m + 1 + 1 ≤ _; omega)
              have he := hp.1
              subst he
              have HF := Lib.hid hfin
              clear hp hfin
              go_wp2_with fail
              go_end0
              rw [HRR.out]
              exact HF.out
          · have hne0 : R.data.toList ≠ [] := by
              intro h
              have h2 := congrArg List.length (HT.out.symm.trans h)
              rw [List.length_take, rest_len] at h2
              simp only [List.length_nil] at h2
              omega
            obtain ⟨t1, t2⟩ := ba_full (s := R) hne0
            have hr := HR.out
            rw [if_neg hk0, rest_drop] at hr
            have HF := Lib.hid (made_two (m := m) (res := res) (kd := 3) (j := 2) (u := .string R) (text := []) (name := R.data.toList) HB.out HPB.out hne HK2.out HS2.out HR2.out rfl (by decide) (by decide) (by omega) (by show m + 0 + 1 ≤ _; omega) (by rw [hr, HT.out]))
            clear hne0 hk0 hr
            go_wp2_with fail
            have hpb := HPB.out
            subst hpb
            go_meet
            case rel => exact HF.out
--LAST--
  case rest =>
    obtain ⟨hmade, hkx⟩ := hcut
    obtain ⟨pb, hpb⟩ : ∃ pb, pb = w.heap.size := ⟨_, rfl⟩
    rw [← hpb] at hmade ⊢
    have HPB := Lib.hid hpb
    have hwp : wb ≠ pb := by omega
    clear hpb
    obtain ⟨I, k, x, xv, hr, hI, hmI, hx1, hx2, hs1, hb1, hr1, hp1⟩ := hmade
    obtain ⟨ax, cx, rfl, _, _⟩ := hp1.shape
    obtain ⟨xl, hxl⟩ : ∃ xl, xl = x.word.length := ⟨_, rfl⟩
    rw [← hxl] at hr1 hp1
    have hcells : RecAt wc pb [.int .i64 (x.kind : Nat), .string ⟨x.text.toArray⟩, .string ⟨x.name.toArray⟩, .string ⟨x.op.toArray⟩, .slice ax xl cx, .bool x.quoted] := hr1
    have hbx := hb1
    obtain ⟨vb, raw, hw, ho, hvb, h1, h2, h3, h4, h5, h6⟩ := hb1
    obtain ⟨a, c, rfl, h7, h8⟩ := ho.shape
    obtain ⟨vs, nn, hl, hown, hnest⟩ := ho
    have hwl := wtF_len raw
    have hgw : (Value.slice a raw.length c).ownBlock ≠ some wb := by rw [hvb]; exact h1
    have hgc : (Value.slice a raw.length c).ownBlock ≠ some cs := by rw [hvb]; exact h2
    have hgp : (Value.slice a raw.length c).ownBlock ≠ some pb := by
      rw [hvb]
      intro e
      obtain ⟨v0, raw0, _, ho0, e0, _⟩ := HB.out
      have := ho0.lt (e0.trans e)
      have := HPB.out
      omega
    have hfin : ∀ W1, Keeps (fun _ => False) wc W1 → ∀ e w2, PutCore W1 wb raw.length (.slice a raw.length c) (cellsL raw vs ++ cellsP x (.slice ax xl cx)) e w2 → ThingPost w B cs wb s d g N res e w2 := fun W1 hk1 e w2 hp => by
      have hp2 : PtsAt wc (fun b => (B ≤ b ∧ b ≠ wb) ∧ (Value.slice a raw.length c).ownBlock ≠ some b) k x.word (.slice ax xl cx) := hp1.mono fun b _ h => by rw [hvb]; exact h
      have hput := bag_more2 (n := k + nn) (m := m) (N := N) (B := B) (cs := cs) hgc h3 hl (by have := hs1.lt; have := hk1.size; omega) ((hp2.keep hk1 (fun _ _ _ h => h)).le (by omega)) (fun i h h' => ((hnest i h h').keep hk1 (fun _ _ _ h => h)).le (by omega)) h5 h4 h6 hx1 hx2 hp
      rw [hvb] at hput
      rw [hr]
      exact thing_put hput (hs1.keep hk1 (fun h => h)) (hbx.keep hk1 (fun _ _ h => h.elim)) (hkx.trans hk1 fun _ _ h => h.elim) hI rfl rfl (by omega)
    obtain ⟨L, hL⟩ : ∃ L, L = raw.length := ⟨_, rfl⟩
    obtain ⟨xs, hxs⟩ : ∃ xs, xs = cellsL raw vs := ⟨_, rfl⟩
    have hLle : L ≤ 1000000 := by omega
    rw [← hxs] at hown hfin
    rw [← hL] at hown hfin hw hgw hgc hgp
    have HFIN := Lib.hid hfin
    have HC := Lib.hid hcells
    have HW := Lib.hid hw
    have HOWN := Lib.hid hown
    have lwc := hw.lt
    obtain ⟨i0, hi0, hz0, hz1, hz2⟩ := info_parts info_part
    have hc6 := cells_part
    clear hkx hr hs1 hp1 hr1 hcells hbx hw hvb h1 h2 h4 h5 h6 h7 h8 hown hnest hl hfin hwl hxl hL hxs
    go_wp2_with fail
    go_region
    · obtain ⟨W1, hW1⟩ : ∃ W1, W1 = (wc.alloc (.cells #[.bool false] 4)).drew := ⟨_, rfl⟩
      have hk1 : Keeps (fun _ => False) wc W1 := by rw [hW1]; exact ((Keeps.refl _ _).alloc _).drew
      have hown1 : W1.ownsRow 0 34 6 (.slice a L c) L xs := by rw [hW1]; exact (HOWN.out.alloc _).drew
      rw [← hW1]
      have hcells := HC.out.keep hk1 (fun h => h)
      have hword := HW.out.keep hk1 (fun h => h)
      obtain ⟨⟨c0, c1, c2, c3, c4, c5⟩, _⟩ := hcells.six
      obtain ⟨wc0, wf0⟩ := hword.cell
      have lw := hword.lt
      have HFI := Lib.hid (HFIN.out W1 hk1)
      have HC1 := Lib.hid hcells
      have HW1 := Lib.hid hword
      clear hW1 hk1 hcells hword HFIN
      go_wp2_with fail
      go_region_law
        ((refine step_append_lies _ (by rfl) _ _ _ (by rfl) 0 34 i0 _ 6 88 Tryd.underlying32 hi0 hz0 hz1 hz2 rfl (by omega) (.slice a L c) L xs (by rfl) ((hown1.alloc _).drew)
            ⟨W1.heap.size, 0, none⟩ 1 1 [.int .i64 (x.kind : Nat), .string ⟨x.text.toArray⟩, .string ⟨x.name.toArray⟩, .string ⟨x.op.toArray⟩, .slice ax xl cx, .bool x.quoted] (by rfl) (by rfl) (World.news_of_block (cs := #[.int .i64 (x.kind : Nat), .string ⟨x.text.toArray⟩, .string ⟨x.name.toArray⟩, .string ⟨x.op.toArray⟩, .slice ax xl cx, .bool x.quoted]) (t := 34) (fr := (0, 0)) (heap_alloc_new W1 _)) (by simp [Value.oneCell'])
            (by omega) (by unfold maxLen; omega) (by omega) (by simp) (W1.heap.size + 1) (by simp) ?_; intro gg cap w1 hown2 hgrow hat hlt
          obtain ⟨hwa, hra, hka⟩ := after_append_d hgrow HW1.out HC1.out hgw hgp
          have hgw2 := row_apart hgw hat lw
          obtain ⟨y0, y1⟩ := hwa.cell))
      all_goals (go_end0; exact HFI.out _ _ (core_b hka hwa hown2 hat hgw2))
    · obtain ⟨W1, hW1⟩ : ∃ W1, W1 = (wc.alloc (.cells #[.bool true] 4)).drew := ⟨_, rfl⟩
      have hk1 : Keeps (fun _ => False) wc W1 := by rw [hW1]; exact ((Keeps.refl _ _).alloc _).drew
      have hown1 : W1.ownsRow 0 34 6 (.slice a L c) L xs := by rw [hW1]; exact (HOWN.out.alloc _).drew
      rw [← hW1]
      have hcells := HC.out.keep hk1 (fun h => h)
      have hword := HW.out.keep hk1 (fun h => h)
      obtain ⟨wc0, wf0⟩ := hword.cell
      have lw := hword.lt
      have HFI := Lib.hid (HFIN.out W1 hk1)
      have HC1 := Lib.hid hcells
      have HW1 := Lib.hid hword
      clear hW1 hk1 hcells hword HFIN
      go_wp2_with (at_builtin; refine wpList_append_lies _ rfl (.tmp 50) (.tmp 52) _ rfl 0 34 i0 _ 6 88 Tryd.underlying32 hi0 hz0 hz1 hz2 rfl (by omega) (.slice a L c) L xs rfl (hown1.alloc _) ⟨W1.heap.size, 0, none⟩ 1 1 [.int .i64 0, .string ⟨#[]⟩, .string ⟨#[]⟩, .string ⟨#[]⟩, .slice none 0 0, .bool false] rfl rfl (World.news_of_block (cs := #[.int .i64 0, .string ⟨#[]⟩, .string ⟨#[]⟩, .string ⟨#[]⟩, .slice none 0 0, .bool false]) (t := 34) (fr := (0, 0)) (heap_alloc_new W1 _)) (by simp [Value.oneCell']) (by omega) (by unfold maxLen; omega) (by omega) (by simp) (W1.heap.size + 1) (by simp) ?_; intro gg cap w1 hown2 hgrow hat hlt; obtain ⟨hwa, hra, hka⟩ := after_append hgrow HW1.out HC1.out hgw hgp; have hgw2 := row_apart hgw hat lw; obtain ⟨y0, y1⟩ := hwa.cell; obtain ⟨⟨c0, c1, c2, c3, c4, c5⟩, _⟩ := hra.six; obtain ⟨t0, t1, t2, t3, t4, t5, z0, z1, z2, z3, z4, z5⟩ := zero_facts hown2)
      go_end0
      exact HFI.out _ _ (core_a hka hwa hown2 hat hgw2)
end Go.Proofs.YtcahifkiiabioaaDoor
namespace Go.Proofs.YtcahifkiiabioaaDoor
open Go.RowKit

theorem does (n : Nat) : Does n := by
  induction n using Nat.strongRecOn with
  | _ n IH => exact {
      out := fun B cs wb s i d g N w h1 h2 h3 h4 h5 h6 => out_step n IH B cs wb s i d g N w h1 h2 h3 h4 h5 h6
      inn := fun B cs wb s i d g N w h1 h2 h3 h4 h5 h6 h7 => inn_step n IH B cs wb s i d g N w h1 h2 h3 h4 h5 h6 h7
      dq := fun B cs wb s i d m g N w h1 h2 h3 h4 h5 h6 h7 => dq_step n IH B cs wb s i d m g N w h1 h2 h3 h4 h5 h6 h7
      dol := fun q B cs wb s i d m g N w h1 h2 h3 h4 h5 h6 h7 => dol_step n IH q B cs wb s i d m g N w h1 h2 h3 h4 h5 h6 h7
      brace := fun q cs pb s i d w h1 h2 h3 h4 h5 h6 h7 => brace_step n IH q cs pb s i d w h1 h2 h3 h4 h5 h6 h7
      br := fun q cs s i d w h1 h2 h3 h4 h5 => br_step n IH q cs s i d w h1 h2 h3 h4 h5 }
end Go.Proofs.YtcahifkiiabioaaDoor
namespace Go.Proofs.YtcahifkiiabioaaDoor
open Go.RowKit
set_option linter.unusedVariables false

theorem contains_until (c : UInt8) : ∀ l : List UInt8, l.contains c = (untilF c l).isSome
  | [] => rfl
  | x :: t => by
    show (c == x || t.contains c) = _
    unfold untilF
    rw [contains_until c t]
    by_cases h : x = c
    · rw [if_pos (beq_iff_eq.2 h), h]; simp
    · rw [if_neg (fun e => h (beq_iff_eq.1 e)), show (c == x) = false from beq_eq_false_iff_ne.2 (Ne.symm h), Bool.false_or]
      cases untilF c t <;> rfl

set_option maxHeartbeats 1000000 in
theorem may_any (s : ByteArray) (w : World) (hs : s.size ≤ 140737488351232) :
    Calls Tryd.prog 20 #[.string s] w fun e w' => e = .returned (.int .i64 (mayF s.data.toList : Nat)) ∧ w' = w := by
  obtain ⟨r, hr⟩ : ∃ r, r = mayF s.data.toList := ⟨_, rfl⟩
  rw [← hr]
  unfold mayF at hr
  rw [← Lib.size_eq, contains_until] at hr
  by_cases h1 : 16384 < s.size
  · rw [if_pos h1] at hr
    have h1' : (16384 : Int) < (s.size : Int) := by omega
    clear h1
    subst hr
    go_enter Tryd.func20, Tryd.ntmps20
    go_wp2_with fail
    go_ret
    exact ⟨rfl, rfl⟩
  · rw [if_neg h1] at hr
    have h1' : ¬ (16384 : Int) < (s.size : Int) := by omega
    clear h1
    cases hu : untilF 0 s.data.toList with
    | none =>
      rw [hu] at hr
      have hn := untilF_none hu
      clear hu
      have hr2 : r = 0 := hr
      clear hr
      subst hr2
      go_enter Tryd.func20, Tryd.ntmps20
      go_wp2_with (go_at_call 31; refine (Tryd.strings_IndexByte _ _ _).mono ?_; rintro e w1 ⟨rfl, hw1⟩; subst hw1)
      go_ret
      exact ⟨rfl, rfl⟩
    | some k =>
      rw [hu] at hr
      have hn := (untilF_some hu).1
      clear hu
      have hr2 : r = 2 := hr
      clear hr
      subst hr2
      go_enter Tryd.func20, Tryd.ntmps20
      go_wp2_with (go_at_call 31; refine (Tryd.strings_IndexByte _ _ _).mono ?_; rintro e w1 ⟨rfl, hw1⟩; subst hw1)
      go_ret
      exact ⟨rfl, rfl⟩

theorem blanks_amid (c : UInt8) : amid ⟨#[32, 9]⟩ c = (c == 32 || c == 9) := by
  have h : ∀ n : Fin 256, amid ⟨#[32, 9]⟩ (UInt8.ofNat n.val) = (UInt8.ofNat n.val == 32 || UInt8.ofNat n.val == 9) := by decide +kernel
  have := h ⟨c.toNat, c.toNat_lt⟩
  simpa using this
theorem skipF_true : ∀ l : List UInt8, skipF true l = match untilF 10 l with | none => [] | some k => l.drop k
  | [] => rfl
  | c :: t => by
    unfold skipF untilF
    by_cases h : c = 10
    · rw [if_pos (beq_iff_eq.2 h), if_pos (beq_iff_eq.2 h)]; rfl
    · rw [if_neg (fun e => h (beq_iff_eq.1 e)), if_neg (fun e => h (beq_iff_eq.1 e)), skipF_true t]
      cases untilF 10 t <;> rfl
theorem skipF_cons (c : UInt8) (t : List UInt8) : skipF false (c :: t) = if c == 32 || c == 9 then skipF false t
    else if c == 35 then skipF true t
    else if c == 92 then (match t with
      | [] => c :: t
      | x :: t' => if x == 10 then skipF false t' else c :: t)
    else c :: t := by rw [skipF.eq_def]; rfl
theorem untilF_head {c : UInt8} : ∀ {l : List UInt8} {k : Nat}, untilF c l = some k → l[k]? = some c
  | [], k, h => by cases h
  | x :: t, k, h => by
    unfold untilF at h
    by_cases e : x = c
    · rw [if_pos (beq_iff_eq.2 e)] at h
      obtain rfl : 0 = k := Option.some.inj h
      rw [e]; rfl
    · rw [if_neg (fun h => e (beq_iff_eq.1 h))] at h
      cases h2 : untilF c t with
      | none => rw [h2] at h; cases h
      | some j =>
        rw [h2] at h
        obtain rfl : j + 1 = k := Option.some.inj h
        have := untilF_head h2
        simpa using this
theorem rest_get2 (s : ByteArray) (i k : Nat) : (rest s i)[k]? = s.data.toList[i + k]? := by
  unfold rest; rw [List.getElem?_drop]
theorem skip_line {s : ByteArray} {j : Nat} (h : s.data.toList[j]? = some 10) : rest s j = skipF false (rest s j) := by
  have hj : j < s.size := by rw [Lib.size_eq]; exact (List.getElem?_eq_some_iff.1 h).1
  have hb : byteAt s j = 10 := by unfold byteAt; rw [List.getD_eq_getElem?_getD, h]; rfl
  rw [rest_cons hj, hb, skipF_cons, if_neg (by decide), if_neg (by decide), if_neg (by decide)]
def SkipPost (w : World) (b : Nat) (s : ByteArray) (i : Nat) (d : Int) (e : Ending) (w' : World) : Prop :=
  e = .returned (.tuple #[]) ∧ ∃ j : Nat, i ≤ j ∧ j ≤ s.size ∧ rest s j = skipF false (rest s i) ∧ ScanAt w' b s j d ∧ Keeps (fun k => k = b) w w'

set_option maxRecDepth 100000 in
set_option maxHeartbeats 4000000 in
theorem skip_any (b : Nat) (s : ByteArray) (i : Nat) (d : Int) (w : World) (h : ScanAt w b s i d) (hs : s.size ≤ 140737488351000) (hi : i ≤ s.size) :
    Calls Tryd.prog 23 #[.pointer (some ⟨b, 0, none⟩)] w (SkipPost w b s i d) := by
  go_enter Tryd.func23, Tryd.ntmps23
  go_wp2_with fail
  go_loopg [] (s.size + 2 - i) (fun k wr => ∃ I : Nat, k = s.size + 2 - I ∧ i ≤ I ∧ I ≤ s.size ∧ ScanAt wr b s I d ∧ Keeps (fun k => k = b) w wr ∧ skipF false (rest s I) = skipF false (rest s i))
  case atStart => exact ⟨i, rfl, Nat.le_refl _, hi, h, Keeps.refl _ _, rfl⟩
  case round =>
    obtain ⟨I, hgk, hiI, hI, hsc, hkp, hsk⟩ := hrel
    have HGK := Lib.hid hgk
    have HSC := Lib.hid hsc
    have HKP := Lib.hid hkp
    have HSK := Lib.hid hsk
    clear hgk hsc hkp hsk h
    rcases Nat.lt_or_ge I s.size with hlt | hge
    · obtain ⟨c, hc⟩ : ∃ c, c = byteAt s I := ⟨_, rfl⟩
      have hcons := skipF_cons c (rest s (I + 1))
      rw [hc, ← rest_cons hlt, ← hc] at hcons
      have HC := Lib.hid hc
      clear hc
      cases t1 : (c == 32 || c == 9) with
      | true =>
        rw [t1, if_pos rfl] at hcons
        have HN := Lib.hid (hcons.symm.trans HSK.out)
        have HT := Lib.hid t1
        obtain ⟨c0, c1, c2, f1, f2⟩ := HSC.out.cells
        have w1e : IntKind.i64.wrap ((I : Int) + 1) = (I : Int) + 1 := IntWalk.i64_in _ (by omega)
        clear hcons t1
        go_wp2_with fail
        refine (among_in b s _ I d _ HSC.out (by omega) hlt true (by rw [blanks_amid, ← HC.out]; exact HT.out)).mono ?_
        rintro e w1 ⟨rfl, q1, rfl⟩
        go_wp2_with fail
        obtain ⟨w2, hw2, hs2, hk2⟩ := scan_moved (n := q1) HSC.out ((I : Int) + 1)
        rw [← hw2]
        go_roundg (s.size + 2 - (I + 1))
        case measure => have := HGK.out; omega
        case rel => exact ⟨I + 1, rfl, by omega, by omega, hs2, HKP.out.trans hk2 (fun x _ hx => hx), HN.out⟩
      | false =>
        rw [t1, if_neg (by simp)] at hcons
        have HT := Lib.hid t1
        clear t1
        cases t2 : startsF [92, 10] (rest s I) with
        | true =>
          have hl2 := startsF_le t2
          rw [rest_len] at hl2
          have hl3 : I + 2 ≤ s.size := by simp only [List.length_cons, List.length_nil] at hl2; omega
          have hn : skipF false (rest s (I + 2)) = skipF false (rest s I) := by
            rw [hcons]
            rw [rest_cons hlt, ← HC.out, rest_cons (show I + 1 < s.size by omega)] at t2
            have t3 : (92 == c && (10 == byteAt s (I + 1) && true)) = true := t2
            simp only [Bool.and_eq_true, beq_iff_eq, Bool.and_true] at t3
            obtain ⟨rfl, h10⟩ := t3
            rw [if_neg (by decide), if_pos (by decide), rest_cons (show I + 1 < s.size by omega), ← h10]
            rfl
          have HN := Lib.hid (hn.trans HSK.out)
          have H2 := Lib.hid t2
          clear hcons t2 hn hl2
          go_wp2_with fail
          refine (among_in b s _ I d _ HSC.out (by omega) hlt false (by rw [blanks_amid, ← HC.out]; exact HT.out)).mono ?_
          rintro e w1 ⟨rfl, q1, rfl⟩
          go_wp2_with fail
          refine (is_yes b s ⟨#[92, 10]⟩ I d _ (HSC.out.drewN q1) (by omega) hI (by decide) (by rw [hasPrefix_starts]; exact H2.out)).mono ?_
          rintro e w1 ⟨rfl, hs1, hk1⟩
          have hkd := (HKP.out.drewN q1).trans hk1 (fun x _ hx => hx)
          go_wp2_with fail
          go_roundg (s.size + 2 - (I + 2))
          case measure => have := HGK.out; omega
          case rel => exact ⟨I + 2, rfl, by omega, hl3, hs1, hkd, HN.out⟩
        | false =>
          have H2 := Lib.hid t2
          by_cases t3 : c = 35
          · rw [if_pos (beq_iff_eq.2 t3)] at hcons
            rw [skipF_true] at hcons
            have e3 : ((c.toNat : Int) == 35) = true := test_yes (c := c) (k := 35) t3
            have hu : untilF 10 (rest s I) = (untilF 10 (rest s (I + 1))).map (· + 1) := by
              rw [rest_cons hlt, ← HC.out, t3]; rfl
            clear t2
            cases h10 : untilF 10 (rest s (I + 1)) with
            | none =>
              rw [h10] at hu hcons
              have hn2 := untilF_none hu
              rw [← rest_take] at hn2
              have HN := Lib.hid (show skipF false (rest s s.size) = skipF false (rest s i) by rw [rest_nil (Nat.le_refl _), ← HSK.out, hcons]; rfl)
              have w1e : IntKind.i64.wrap ((s.size : Int) - (I : Int)) = (s.size : Int) - (I : Int) := IntWalk.i64_in _ (by omega)
              have a1 : (I : Int) + ((s.size : Int) - (I : Int)) = (s.size : Int) := by omega
              have w3e : IntKind.i64.wrap (s.size : Int) = (s.size : Int) := IntWalk.i64_in _ (by omega)
              clear hu hcons h10 t3
              go_wp2_with fail
              refine (among_in b s _ I d _ HSC.out (by omega) hlt false (by rw [blanks_amid, ← HC.out]; exact HT.out)).mono ?_
              rintro e w1 ⟨rfl, q1, rfl⟩
              go_wp2_with fail
              refine (is_no b s ⟨#[92, 10]⟩ I d _ (HSC.out.drewN q1) hI (by rw [hasPrefix_starts]; exact H2.out)).mono ?_
              rintro e w1 ⟨rfl, q2, rfl⟩
              go_wp2_with fail
              refine (at0_any b s I d _ (HSC.out.drewN _) (by omega) (by omega)).mono ?_
              rintro e w1 ⟨rfl, q3, rfl⟩
              rw [← HC.out]
              go_wp2_with fail
              obtain ⟨W, hW⟩ : ∃ W, W = wr.drewN (q1 + q2 + q3) := ⟨_, rfl⟩
              rw [← hW]
              have hsW : ScanAt W b s I d := by rw [hW]; exact HSC.out.drewN _
              have HKW := Lib.hid (show Keeps (fun k => k = b) w W by rw [hW]; exact HKP.out.drewN _)
              have HSW := Lib.hid hsW
              obtain ⟨c0, c1, c2, f1, f2⟩ := hsW.cells
              clear hW hsW
              go_quiet ((go_at_call 31; exact Calls.quiet_of_same (Tryd.strings_IndexByte _ _ _)))
              go_wp2_with fail
              go_quiet (fail)
              go_wp2_with fail
              go_roundg (s.size + 2 - s.size)
              case measure => have := HGK.out; omega
              case rel => exact ⟨s.size, rfl, hi, Nat.le_refl _, scan_end HSW.out _ rfl, HKW.out.trans (keep_end _ _ _ _ _) (fun x _ hx => hx), HN.out⟩
            | some k =>
              rw [h10] at hu hcons
              obtain ⟨hn2, hk⟩ := untilF_some hu
              rw [rest_len] at hk
              have hk' : k + 1 < s.size - I := hk
              clear hk
              have hk := hk'
              rw [← rest_take] at hn2
              have HN := Lib.hid (show skipF false (rest s (I + (k + 1))) = skipF false (rest s i) by
                rw [← HSK.out, hcons]
                dsimp only
                rw [rest_drop, show I + 1 + k = I + (k + 1) by omega]
                have h2 := untilF_head h10
                rw [rest_get2, show I + 1 + k = I + (k + 1) by omega] at h2
                exact (skip_line h2).symm)
              have w1e : IntKind.i64.wrap ((I : Int) + ((k : Int) + 1)) = (I : Int) + ((k : Int) + 1) := IntWalk.i64_in _ (by omega)
              clear hu hcons h10 t3
              go_wp2_with fail
              refine (among_in b s _ I d _ HSC.out (by omega) hlt false (by rw [blanks_amid, ← HC.out]; exact HT.out)).mono ?_
              rintro e w1 ⟨rfl, q1, rfl⟩
              go_wp2_with fail
              refine (is_no b s ⟨#[92, 10]⟩ I d _ (HSC.out.drewN q1) hI (by rw [hasPrefix_starts]; exact H2.out)).mono ?_
              rintro e w1 ⟨rfl, q2, rfl⟩
              go_wp2_with fail
              refine (at0_any b s I d _ (HSC.out.drewN _) (by omega) (by omega)).mono ?_
              rintro e w1 ⟨rfl, q3, rfl⟩
              rw [← HC.out]
              go_wp2_with fail
              obtain ⟨W, hW⟩ : ∃ W, W = wr.drewN (q1 + q2 + q3) := ⟨_, rfl⟩
              rw [← hW]
              have hsW : ScanAt W b s I d := by rw [hW]; exact HSC.out.drewN _
              have HKW := Lib.hid (show Keeps (fun k => k = b) w W by rw [hW]; exact HKP.out.drewN _)
              have HSW := Lib.hid hsW
              obtain ⟨c0, c1, c2, f1, f2⟩ := hsW.cells
              clear hW hsW
              go_quiet ((go_at_call 31; exact Calls.quiet_of_same (Tryd.strings_IndexByte _ _ _)))
              go_wp2_with fail
              go_roundg (s.size + 2 - (I + (k + 1)))
              case measure => have := HGK.out; omega
              case rel => exact ⟨I + (k + 1), rfl, by omega, by omega, scan_end HSW.out _ (by omega), HKW.out.trans (keep_end _ _ _ _ _) (fun x _ hx => hx), HN.out⟩
          · rw [if_neg (fun h => t3 (beq_iff_eq.1 h))] at hcons
            have e3 : ((c.toNat : Int) == 35) = false := test_no (c := c) (k := 35) t3
            have hfin : rest s I = skipF false (rest s i) := by
              rw [← HSK.out, hcons, rest_cons hlt, ← HC.out]
              rw [rest_cons hlt, ← HC.out] at t2
              split
              · next h92 =>
                have h92' := beq_iff_eq.1 h92
                subst h92'
                cases hr : rest s (I + 1) with
                | nil => rfl
                | cons x t' =>
                  rw [hr] at t2
                  have t4 : (92 == (92 : UInt8) && (10 == x && true)) = false := t2
                  simp only [beq_self_eq_true, Bool.true_and, Bool.and_true] at t4
                  dsimp only
                  rw [if_neg (by rw [beq_iff_eq]; rw [beq_eq_false_iff_ne] at t4; exact fun h => t4 h.symm)]
              · rfl
            have HF := Lib.hid hfin
            clear t2 t3 hcons hfin
            go_wp2_with fail
            refine (among_in b s _ I d _ HSC.out (by omega) hlt false (by rw [blanks_amid, ← HC.out]; exact HT.out)).mono ?_
            rintro e w1 ⟨rfl, q1, rfl⟩
            go_wp2_with fail
            refine (is_no b s ⟨#[92, 10]⟩ I d _ (HSC.out.drewN q1) hI (by rw [hasPrefix_starts]; exact H2.out)).mono ?_
            rintro e w1 ⟨rfl, q2, rfl⟩
            go_wp2_with fail
            refine (at0_any b s I d _ (HSC.out.drewN _) (by omega) (by omega)).mono ?_
            rintro e w1 ⟨rfl, q3, rfl⟩
            rw [← HC.out]
            go_wp2_with fail
            go_end0
            exact ⟨rfl, I, hiI, hI, HF.out, HSC.out.drewN _, HKP.out.drewN _⟩
    · have hfin : rest s I = skipF false (rest s i) := by rw [← HSK.out, rest_nil hge]; rfl
      have HF := Lib.hid hfin
      have hpre : startsF [92, 10] (rest s I) = false := by rw [rest_nil hge]; rfl
      have H2 := Lib.hid hpre
      have hz : byteAt s I = 0 := by rw [byteAt_rest, rest_nil hge]; rfl
      have HZ := Lib.hid hz
      clear hfin hpre hz
      go_wp2_with fail
      refine (among_end b s _ I d _ HSC.out hge).mono ?_
      rintro e w1 ⟨rfl, q1, rfl⟩
      go_wp2_with fail
      refine (is_no b s ⟨#[92, 10]⟩ I d _ (HSC.out.drewN q1) hI (by rw [hasPrefix_starts]; exact H2.out)).mono ?_
      rintro e w1 ⟨rfl, q2, rfl⟩
      go_wp2_with fail
      refine (at0_any b s I d _ (HSC.out.drewN _) (by omega) (by omega)).mono ?_
      rintro e w1 ⟨rfl, q3, rfl⟩
      rw [HZ.out]
      go_wp2_with fail
      go_end0
      exact ⟨rfl, I, hiI, hI, HF.out, HSC.out.drewN _, HKP.out.drewN _⟩
end Go.Proofs.YtcahifkiiabioaaDoor
namespace Go.Proofs.YtcahifkiiabioaaDoor
open Go.RowKit
set_option linter.unusedVariables false

def tokOne (r : List UInt8) : Except Nat (Tk × List UInt8) :=
  if (operF r).isEmpty then
    if headIs 38 r then .error 2 else match wordD false (r.length + 1) r with
    | .error e => .error e
    | .ok (l, r1) => .ok (⟨1, [], tidyF l⟩, r1)
  else .ok (⟨2, operF r, []⟩, r.drop (operF r).length)
theorem tokD_eq (n : Nat) (r : List UInt8) : tokD (n + 1) r = match skipF false r with
    | [] => .ok []
    | c :: t =>
      if (operF (c :: t)).isEmpty then
        if c == 38 then .error 2 else match wordD false ((c :: t).length + 1) (c :: t) with
        | .error e => .error e
        | .ok (l, r1) => consT ⟨1, [], tidyF l⟩ (tokD n r1)
      else consT ⟨2, operF (c :: t), []⟩ (tokD n ((c :: t).drop (operF (c :: t)).length)) := rfl
theorem tokD_succ (n : Nat) (r : List UInt8) : tokD (n + 1) r = match skipF false r with
    | [] => .ok []
    | c :: t => match tokOne (c :: t) with
      | .error e => .error e
      | .ok (x, r1) => consT x (tokD n r1) := by
  rw [tokD_eq]
  cases skipF false r with
  | nil => rfl
  | cons c t =>
    dsimp only
    unfold tokOne
    by_cases h : (operF (c :: t)).isEmpty = true
    · rw [if_pos h, if_pos h]
      by_cases h2 : (c == 38) = true
      · rw [if_pos h2, if_pos (show headIs 38 (c :: t) = true from h2)]
      · rw [if_neg h2, if_neg (show ¬ headIs 38 (c :: t) = true from h2)]
        cases wordD false ((c :: t).length + 1) (c :: t) with
        | error e => rfl
        | ok lr => obtain ⟨l, r1⟩ := lr; rfl
    · rw [if_neg h, if_neg h]
theorem breaks_amid (c : UInt8) : amid ⟨#[32, 9, 10, 59, 38, 124, 40, 41, 60, 62]⟩ c = breaksB c := by
  have h : ∀ n : Fin 256, amid ⟨#[32, 9, 10, 59, 38, 124, 40, 41, 60, 62]⟩ (UInt8.ofNat n.val) = breaksB (UInt8.ofNat n.val) := by decide +kernel
  have := h ⟨c.toNat, c.toNat_lt⟩
  simpa using this
theorem operF_le (l : List UInt8) : (operF l).length ≤ l.length := findF_le _ l

theorem RecAt.three {w : World} {b : Nat} {a0 a1 a2 : Value} (h : RecAt w b [a0, a1, a2]) :
    (w.cell? ⟨b, 0, none⟩ = some a0 ∧ w.cell? ⟨b, 1, none⟩ = some a1 ∧ w.cell? ⟨b, 2, none⟩ = some a2) ∧
    (w.frozen? ⟨b, 0, none⟩ = false ∧ w.frozen? ⟨b, 1, none⟩ = false ∧ w.frozen? ⟨b, 2, none⟩ = false) := by
  obtain ⟨T, h⟩ := h
  refine ⟨⟨?_, ?_, ?_⟩, ?_, ?_, ?_⟩ <;> simp [World.cell?, World.frozen?, h]
theorem set3_keeps (w : World) (b : Nat) (u0 u1 u2 : Value) : Keeps (fun x => x = b) w (((w.setCell ⟨b, 0, none⟩ u0).setCell ⟨b, 1, none⟩ u1).setCell ⟨b, 2, none⟩ u2) := by
  have h0 := (Keeps.refl (fun x => x = b) w).set1 0 u0 rfl
  have h1 := h0.set1 1 u1 rfl
  exact h1.set1 2 u2 rfl
/-- What token leaves. -/
def TokPost (w : World) (cs : Nat) (s : ByteArray) (res : Except Nat (Tk × List UInt8)) (e : Ending) (w' : World) : Prop :=
  match res with
  | .ok (tk, r) => ∃ (i' n : Nat) (T : ByteArray) (v : Value), e = .returned (.agg #[.int .i64 (tk.kind : Nat), .string T, v]) ∧ T.data.toList = tk.text ∧ i' ≤ s.size ∧ rest s i' = r ∧ ScanAt w' cs s i' ((0 : Nat) : Int) ∧ PtsAt w' (fun b => w.heap.size ≤ b) n tk.word v ∧ Keeps (fun b => b = cs) w w'
  | .error x => e = failed x ∧ Keeps (fun b => b = cs) w w'

theorem wordD_succ (wh : Bool) (n : Nat) (r : List UInt8) : wordD wh (n + 1) r = match r with
    | [] => .ok ([], [])
    | c :: _ => if !wh && breaksB c then .ok ([], r) else match lexD (2 * r.length + 2) (.one false) 0 r with
      | .error e => .error e
      | .ok (l, r1) => (wordD wh n r1).ahead l := by cases r <;> rfl
def WdAt (wh : Bool) (n : Nat) (r0 : List UInt8) (m : Nat) (l : List Pt) (r : List UInt8) : Prop := wordD wh n r0 = (wordD wh m r).ahead l

set_option maxRecDepth 100000 in
set_option maxHeartbeats 4000000 in
theorem token_any (cs : Nat) (s : ByteArray) (i : Nat) (w : World) (hsc : ScanAt w cs s i ((0 : Nat) : Int)) (hi : i < s.size) (hs : s.size ≤ 20000) :
    Calls Tryd.prog 25 #[.pointer (some ⟨cs, 0, none⟩)] w (TokPost w cs s (tokOne (rest s i))) := by
  obtain ⟨res, hres⟩ : ∃ res, res = tokOne (rest s i) := ⟨_, rfl⟩
  rw [← hres]
  unfold tokOne at hres
  have HSC := Lib.hid hsc
  have hlt0 := hsc.lt
  have HRES := Lib.hid hres
  clear hsc hres
  go_enter Tryd.func25, Tryd.ntmps25
  go_wp2_with fail
  obtain ⟨w0, hw0⟩ : ∃ w0, w0 = w.alloc (.cells #[.int .i64 0, .string ⟨#[]⟩, .slice none 0 0] 65) := ⟨_, rfl⟩
  rw [← hw0]
  have hk0 : Keeps (fun b => b = cs) w w0 := by rw [hw0]; exact (Keeps.refl _ _).alloc _
  have hs0 : ScanAt w0 cs s i ((0 : Nat) : Int) := by rw [hw0]; exact HSC.out.alloc _
  have ht0 : RecAt w0 w.heap.size [.int .i64 0, .string ⟨#[]⟩, .slice none 0 0] := by rw [hw0]; exact ⟨_, heap_alloc_new w _⟩
  refine (operator_any cs s i ((0 : Nat) : Int) _ hs0 (by omega) (by omega)).mono ?_
  rintro e w1 ⟨O, rfl, hO, hs1, hk1⟩
  have HT1 := Lib.hid (ht0.keep hk1 (fun h => by omega))
  have HK1 := Lib.hid (hk0.trans hk1 (fun _ _ e => e))
  have HS1 := Lib.hid hs1
  have HO := Lib.hid hO
  clear hw0 hk0 hs0 ht0 hO hs1 hk1
  by_cases ho : operF (rest s i) = []
--W--
  · obtain ⟨t1, t2⟩ := ba_empty (s := O) (HO.out.trans ho)
    have hr := HRES.out
    rw [ho, if_pos (by rfl)] at hr
    have hs1 := HS1.out
    rw [ho] at hs1
    have HSA := Lib.hid (show ScanAt w1 cs s i ((0 : Nat) : Int) from hs1)
    have HHL0 := Lib.hid HT1.out.lt
    clear ho hs1
    rw [rest_cons hi] at hr
    obtain ⟨c, hc⟩ : ∃ c, c = byteAt s i := ⟨_, rfl⟩
    rw [← hc] at hr
    by_cases t : c = 38
    · rw [if_pos (show headIs 38 (c :: rest s (i + 1)) = true by rw [t]; rfl)] at hr
      have e1 : ((c.toNat : Int) == 38) = true := test_yes (c := c) (k := 38) t
      have HR := Lib.hid hr
      have HC := Lib.hid hc
      clear hr hc t
      go_wp2_with fail
      refine (at0_any cs s i _ _ HSA.out (by omega) (by omega)).mono ?_
      rintro e w2 ⟨rfl, q1, rfl⟩
      rw [← HC.out]
      go_wp2_with fail
      refine (fail_any 2 _).mono ?_
      rintro e w2 ⟨rfl, rfl⟩
      go_wp2_with fail
      refine ⟨rfl, ?_⟩
      rw [HR.out]
      exact ⟨rfl, HK1.out.drewN _⟩
    · rw [if_neg (show ¬ headIs 38 (c :: rest s (i + 1)) = true from fun h => t (beq_iff_eq.1 h)), hc, ← rest_cons hi, rest_len] at hr
      have e1 : ((c.toNat : Int) == 38) = false := test_no (c := c) (k := 38) t
      have HR := Lib.hid hr
      have HC := Lib.hid hc
      clear hr hc t
      go_wp2_with fail
      refine (at0_any cs s i _ _ HSA.out (by omega) (by omega)).mono ?_
      rintro e w2 ⟨rfl, q1, rfl⟩
      rw [← HC.out]
      obtain ⟨W, hW⟩ : ∃ W, W = w1.drewN q1 := ⟨_, rfl⟩
      rw [← hW]
      have hkW : Keeps (fun _ => False) w1 W := by rw [hW]; exact (Keeps.refl _ _).drewN _
      have HSW := Lib.hid (HSA.out.keep hkW (fun h => h))
      have HTW := Lib.hid (HT1.out.keep hkW (fun h => h))
      have HKW := Lib.hid (HK1.out.trans hkW (fun _ _ h => h.elim))
      clear hW hkW HT1 HK1 HSA HS1 HHL0
      go_wp2_with fail
      have hltW := HSW.out.lt
      go_loopg [] (s.size + 2 - i) (fun k wr => ∃ (I M : Nat) (l : List Pt) (g' : Option Nat), k = s.size + 2 - I ∧ I ≤ s.size ∧ ScanAt wr cs s I ((0 : Nat) : Int) ∧ Bag wr W.heap.size cs W.heap.size g' (l.foldl stepN ([], false)) (2 * I) ∧ Newer (W.alloc (.cells #[.slice none 0 0] 86)) none g' ∧ Keeps (Fp cs W.heap.size none) (W.alloc (.cells #[.slice none 0 0] 86)) wr ∧ s.size - I + 1 ≤ M ∧ WdAt false (s.size - i + 1) (rest s i) M l (rest s I))
      case atStart => exact ⟨i, s.size - i + 1, [], none, rfl, by omega, HSW.out.alloc _, (Bag.new _ hltW).mono (Nat.zero_le _), Newer.refl _ _, Keeps.refl _ _, Nat.le_refl _, (ahead_nil _).symm⟩
      case round =>
        obtain ⟨I, M, l, g', hgk, hI, hsc, hbg, hnw, hkp, hMn, hat⟩ := hrel
        have HGK := Lib.hid hgk
        have HSI := Lib.hid hsc
        have HBI := Lib.hid hbg
        have HNI := Lib.hid hnw
        have HKI := Lib.hid hkp
        obtain ⟨M, rfl⟩ : ∃ M', M = M' + 1 := ⟨M - 1, by omega⟩
        have hat' : wordD false (s.size - i + 1) (rest s i) = (wordD false (M + 1) (rest s I)).ahead l := hat
        have hr : res = match (wordD false (M + 1) (rest s I)).ahead l with
            | .error e => .error e
            | .ok (l, r1) => .ok (⟨1, [], tidyF l⟩, r1) := by rw [HR.out, hat']
        have HAT := Lib.hid hat'
        clear hgk hsc hbg hnw hkp hat hat'
        rcases Nat.lt_or_ge I s.size with hlt | hge
        · obtain ⟨c2, hc2⟩ : ∃ c, c = byteAt s I := ⟨_, rfl⟩
          have he : decide (s.size ≤ I) = false := decide_eq_false (by omega)
          have HE := Lib.hid he
          rw [wordD_succ, rest_cons hlt, ← hc2] at hr
          dsimp only at hr
          have HC2 := Lib.hid hc2
          clear he
          cases hb : breaksB c2 with
          | true =>
            rw [hb, if_pos (by rfl), hc2, ← rest_cons hlt] at hr
            have HBR := Lib.hid hb
            have HRX := Lib.hid (show res = .ok (⟨1, [], tidyOf (l.foldl stepN ([], false))⟩, rest s I) by rw [hr]; show (Except.ok ((⟨1, [], tidyF (l ++ [])⟩ : Tk), _) : Except Nat (Tk × List UInt8)) = _; rw [List.append_nil]; rfl)
            clear hr hb hc2
            go_wp2_with fail
            refine (end_any cs s I _ _ HSI.out).mono ?_
            rintro e w2 ⟨rfl, q2, rfl⟩
            rw [HE.out]
            go_wp2_with fail
            refine (among_in cs s _ I _ _ (HSI.out.drewN _) (by omega) hlt true (by rw [breaks_amid, ← HC2.out]; exact HBR.out)).mono ?_
            rintro e w2 ⟨rfl, q3, rfl⟩
            go_wp2_with fail
            have hkd : Keeps (fun b => b = cs) wr (wr.drewN (q2 + q3)) := (Keeps.refl _ _).drewN _
            have HB2 := Lib.hid (HBI.out.keep hkd (fun _ _ e => e))
            have HS2 := Lib.hid (HSI.out.drewN (q2 + q3))
            have HK2 := Lib.hid ((fp_new HKI.out).trans hkd (fun _ _ e => e))
            clear hkd
            refine (parts_any W.heap.size cs W.heap.size g' _ _ _ HB2.out (by omega) HS2.out.lt).mono ?_
            rintro e w3 ⟨v, k, rfl, hp, hk3⟩
            obtain ⟨ax, cx, rfl, _, _⟩ := hp.shape
            obtain ⟨tl, htl⟩ : ∃ tl, tl = (tidyOf (l.foldl stepN ([], false))).length := ⟨_, rfl⟩
            rw [← htl] at hp
            rw [← htl]
            have ht3 := ((HTW.out.keep HK2.out (fun h => by omega))).keep hk3 (fun h => h)
            obtain ⟨⟨c0, c1, c2⟩, f0, f1, f2⟩ := ht3.three
            have HP := Lib.hid hp
            have HK3 := Lib.hid hk3
            have HHL := Lib.hid (show w.heap.size < W.heap.size from HTW.out.lt)
            clear hp hk3 ht3 htl
            go_wp2_with fail
            refine bodyPost_ret (v := .agg #[.int .i64 1, .string ⟨#[]⟩, .slice ax tl cx]) (by simp [results, Tryd.results25, go_sem, c0, c1, c2]) rfl ?_
            show TokPost w cs s res _ _
            rw [HRX.out]
            have hk4 := set3_keeps w3 w.heap.size (.int .i64 1) (.string ⟨#[]⟩) (.slice ax tl cx)
            have hkk : Keeps (fun b => b = cs) w w3 := (HKW.out.trans HK2.out (fun _ _ e => e)).trans HK3.out (fun _ _ h => h.elim)
            exact ⟨I, k, ⟨#[]⟩, _, rfl, rfl, hI, rfl, (HS2.out.keep HK3.out (fun h => h)).keep hk4 (fun h => by omega), (HP.out.keep hk4 (fun b hb hx e => by have := hx.1; have := HHL.out; omega)).mono (fun b _ h => by have := h.1; have := HHL.out; omega), one_new hkk rfl hk4⟩
          | false =>
            rw [hb, if_neg (by simp), hc2, ← rest_cons hlt, rest_len] at hr
            have HBR := Lib.hid hb
            have HR1 := Lib.hid hr
            clear hr hb hc2
            go_wp2_with fail
            refine (end_any cs s I _ _ HSI.out).mono ?_
            rintro e w2 ⟨rfl, q2, rfl⟩
            rw [HE.out]
            go_wp2_with fail
            refine (among_in cs s _ I _ _ (HSI.out.drewN _) (by omega) hlt false (by rw [breaks_amid, ← HC2.out]; exact HBR.out)).mono ?_
            rintro e w2 ⟨rfl, q3, rfl⟩
            go_wp2_with fail
            have hkd : Keeps (fun b => b = cs) wr (wr.drewN (q2 + q3)) := (Keeps.refl _ _).drewN _
            refine ((does (2 * (s.size - I) + 2)).out W.heap.size cs W.heap.size s I 0 g' _ _ (HSI.out.drewN (q2 + q3)) hlt (by omega) hs (HBI.out.keep hkd (fun _ _ e => e)) (by omega)).mono ?_
            intro e w3 hp
            have hfin := thing_from hp hkd
            clear hkd hp
            cases hres2 : lexD (2 * (s.size - I) + 2) (.one false) 0 (rest s I) with
            | error x =>
              rw [hres2] at hfin
              have hr2 := HR1.out
              rw [hres2] at hr2
              have HRX := Lib.hid (show res = .error x from hr2)
              obtain ⟨he, hk5⟩ := hfin
              subst he
              have HK5 := Lib.hid (HKW.out.trans (fp_new (HKI.out.next HNI.out hk5)) (fun _ _ e => e))
              clear hres2 hr2 hk5
              go_wp2_with fail
              refine ⟨rfl, ?_⟩
              rw [HRX.out]
              exact ⟨rfl, HK5.out⟩
            | ok lr =>
              obtain ⟨l2, r2⟩ := lr
              rw [hres2] at hfin
              have hlen := lexD_len _ _ _ _ _ _ hres2
              have hat2 := HAT.out
              rw [wordD_succ false M, rest_cons hlt, ← HC2.out] at hat2
              try dsimp only at hat2
              rw [HBR.out, if_neg (by simp), HC2.out, ← rest_cons hlt, rest_len, hres2] at hat2
              try dsimp only at hat2
              rw [ahead_ahead] at hat2
              obtain ⟨he, I2, g2, a1, a2, a3, a4, a5, a6⟩ := hfin
              subst he
              rw [← a2, rest_len, rest_len] at hlen
              rw [← a2] at hat2
              have HAT2 := Lib.hid hat2
              have HS3 := Lib.hid a3
              have HB3 := Lib.hid a4
              have HN3 := Lib.hid a5
              have HK3 := Lib.hid a6
              have hlen2 : I + 1 ≤ I2 := by simp only [Md.least] at hlen; omega
              clear hres2 hat2 a2 a3 a4 a5 a6 hlen
              go_wp2_with fail
              go_roundg (s.size + 2 - I2)
              case measure => have := HGK.out; omega
              case rel => exact ⟨I2, M, l ++ l2, g2, rfl, a1, HS3.out, by rw [List.foldl_append]; exact HB3.out, HNI.out.trans HKI.out.size HN3.out, HKI.out.next HNI.out HK3.out, by omega, HAT2.out⟩
        · have he : decide (s.size ≤ I) = true := decide_eq_true hge
          have HE := Lib.hid he
          rw [wordD_succ, rest_nil hge] at hr
          have HRX := Lib.hid (show res = .ok (⟨1, [], tidyOf (l.foldl stepN ([], false))⟩, rest s I) by rw [hr, rest_nil hge]; show (Except.ok ((⟨1, [], tidyF (l ++ [])⟩ : Tk), _) : Except Nat (Tk × List UInt8)) = _; rw [List.append_nil]; rfl)
          clear hr he
          go_wp2_with fail
          refine (end_any cs s I _ _ HSI.out).mono ?_
          rintro e w2 ⟨rfl, q2, rfl⟩
          rw [HE.out]
          go_wp2_with fail
          have hkd : Keeps (fun b => b = cs) wr (wr.drewN q2) := (Keeps.refl _ _).drewN _
          have HB2 := Lib.hid (HBI.out.keep hkd (fun _ _ e => e))
          have HS2 := Lib.hid (HSI.out.drewN q2)
          have HK2 := Lib.hid ((fp_new HKI.out).trans hkd (fun _ _ e => e))
          clear hkd
          refine (parts_any W.heap.size cs W.heap.size g' _ _ _ HB2.out (by omega) HS2.out.lt).mono ?_
          rintro e w3 ⟨v, k, rfl, hp, hk3⟩
          obtain ⟨ax, cx, rfl, _, _⟩ := hp.shape
          obtain ⟨tl, htl⟩ : ∃ tl, tl = (tidyOf (l.foldl stepN ([], false))).length := ⟨_, rfl⟩
          rw [← htl] at hp
          rw [← htl]
          have ht3 := ((HTW.out.keep HK2.out (fun h => by omega))).keep hk3 (fun h => h)
          obtain ⟨⟨c0, c1, c2⟩, f0, f1, f2⟩ := ht3.three
          have HP := Lib.hid hp
          have HK3 := Lib.hid hk3
          have HHL := Lib.hid (show w.heap.size < W.heap.size from HTW.out.lt)
          clear hp hk3 ht3 htl
          go_wp2_with fail
          refine bodyPost_ret (v := .agg #[.int .i64 1, .string ⟨#[]⟩, .slice ax tl cx]) (by simp [results, Tryd.results25, go_sem, c0, c1, c2]) rfl ?_
          show TokPost w cs s res _ _
          rw [HRX.out]
          have hk4 := set3_keeps w3 w.heap.size (.int .i64 1) (.string ⟨#[]⟩) (.slice ax tl cx)
          have hkk : Keeps (fun b => b = cs) w w3 := (HKW.out.trans HK2.out (fun _ _ e => e)).trans HK3.out (fun _ _ h => h.elim)
          exact ⟨I, k, ⟨#[]⟩, _, rfl, rfl, hI, rfl, (HS2.out.keep HK3.out (fun h => h)).keep hk4 (fun h => by omega), (HP.out.keep hk4 (fun b hb hx e => by have := hx.1; have := HHL.out; omega)).mono (fun b _ h => by have := h.1; have := HHL.out; omega), one_new hkk rfl hk4⟩
--X--
  · obtain ⟨t1, t2⟩ := ba_full (s := O) (by rw [HO.out]; exact ho)
    obtain ⟨⟨c0, c1, c2⟩, f0, f1, f2⟩ := HT1.out.three
    have ho2 : (operF (rest s i)).isEmpty = false := by cases hx : operF (rest s i) with | nil => exact absurd hx ho | cons a b => rfl
    have hr := HRES.out
    rw [ho2, if_neg (by simp), rest_drop] at hr
    have HR := Lib.hid hr
    have hol := operF_le (rest s i)
    rw [rest_len] at hol
    have hle : i + (operF (rest s i)).length ≤ s.size := by omega
    clear ho ho2 hr hol
    go_wp2_with fail
    refine bodyPost_ret (v := .agg #[.int .i64 2, .string O, .slice none 0 0]) (by simp [results, Tryd.results25, go_sem, c0, c1, c2]) rfl ?_
    show TokPost w cs s res _ _
    rw [HR.out]
    have hk3 := set3_keeps w1 w.heap.size (.int .i64 2) (.string O) (.slice none 0 0)
    exact ⟨i + (operF (rest s i)).length, 0, O, .slice none 0 0, rfl, HO.out, hle, rfl, HS1.out.keep hk3 (fun h => by omega), PtsAt.nil _ _ 0, one_new HK1.out rfl hk3⟩
end Go.Proofs.YtcahifkiiabioaaDoor
namespace Go.Proofs.YtcahifkiiabioaaDoor
open Go.RowKit
set_option linter.unusedVariables false

theorem caught_any (x : Nat) (w : World) :
    Calls Tryd.prog 22 #[.iface 78 (.agg #[.int .i64 x])] w fun e w' => e = .returned (.int .i64 x) ∧ w' = w.alloc (.cells #[.int .i64 x] 78) := by
  have ha : ∀ (v : Value) (W : World), (Instr.typeAssert (.iface 78 v) 20 78 true).run Tryd.prog W = .ok (.tuple #[v, .bool true]) W := fun v W => by kernel_rfl
  go_enter Tryd.func22, Tryd.ntmps22
  go_wp2_with fail
  go_ret
  exact ⟨rfl, rfl⟩

theorem tok_catch_idle (p q : Addr) (w : World) :
    CallsD Tryd.prog 21 #[.pointer (some p), .pointer (some q)] .returning w fun e u' w' => e = .returned (.tuple #[]) ∧ u' = .returning ∧ w' = w := by
  refine callsD_of_wpS Tryd.func21 rfl fun c₀ cs hu => ?_
  apply wpS_seq
  apply wpS_region
  simp [wpOpsS, go_sem, recoverD, hu, Tryd.ntmps21, Exit.thenS]
  apply wpS_seq
  apply wpS_region
  simp [wpOpsS, go_sem, Exit.thenS]
  refine wpS_cond (t := false) (by simp [Act.eval, Array.replicate]) ?_
  simp only [Bool.false_eq_true, if_false]
  refine wpS_of_wp (wp_skip ?_)
  cases c₀
  simp_all [bodyPostS, results, Tryd.results21]

theorem tok_catch (a b : Nat) (x : Nat) (u0 u1 : Value) (older : List PanicEntry) (w : World) (hp : w.cell? ⟨a, 0, none⟩ = some u0) (hq : w.cell? ⟨b, 0, none⟩ = some u1) (hpf : w.frozen? ⟨a, 0, none⟩ = false) (hqf : w.frozen? ⟨b, 0, none⟩ = false) (hpq : a ≠ b) (la : a < w.heap.size) (lb : b < w.heap.size) :
    CallsD Tryd.prog 21 #[.pointer (some ⟨a, 0, none⟩), .pointer (some ⟨b, 0, none⟩)] (.panicking ({ v := .iface 78 (.agg #[.int .i64 x]), recovered := false } :: older)) w fun e u' w' =>
      e = .returned (.tuple #[]) ∧ u' = .panicking ({ v := .iface 78 (.agg #[.int .i64 x]), recovered := true } :: older) ∧ w' = ((w.setCell ⟨a, 0, none⟩ (.slice none 0 0)).setCell ⟨b, 0, none⟩ (.int .i64 x)).alloc (.cells #[.int .i64 x] 78) := by
  refine callsD_of_wpS Tryd.func21 rfl fun c₀ cs hu => ?_
  apply wpS_seq
  apply wpS_region
  simp [wpOpsS, go_sem, recoverD, hu, Tryd.ntmps21, Exit.thenS]
  apply wpS_seq
  apply wpS_region
  simp [wpOpsS, go_sem, Exit.thenS]
  refine wpS_cond (t := true) (by simp [Act.eval, Array.replicate]) ?_
  simp only [if_true]
  refine wpS_of_wp ?_
  go_wp2_with fail
  refine (caught_any x _).mono ?_
  rintro e w1 ⟨rfl, hw1⟩
  subst hw1
  go_wp2_with fail
  cases c₀
  simp_all [bodyPostS, results, Tryd.results21]
end Go.Proofs.YtcahifkiiabioaaDoor
namespace Go.Proofs.YtcahifkiiabioaaDoor
open Go.RowKit
set_option linter.unusedVariables false

theorem cellsL_inv {l : List Pt} {vs : List Value} (hl : vs.length = l.length) {j : Nat} {u : Value} (h : (cellsL l vs)[j]? = some u) : ∃ (i r : Nat) (hi : i < l.length), j = i * 6 + r ∧ (cellsP l[i] (vs[i]'(by omega)))[r]? = some u := by
  have hj : j < l.length * 6 := by
    have := (List.getElem?_eq_some_iff.1 h).1
    rw [cellsL_len hl] at this
    exact this
  have hi : j / 6 < l.length := by omega
  have hr : j % 6 < (cellsP l[j / 6] (vs[j / 6]'(by omega))).length := by rw [cellsP_len]; exact Nat.mod_lt _ (by decide)
  obtain ⟨u', hu'⟩ : ∃ u', (cellsP l[j / 6] (vs[j / 6]'(by omega)))[j % 6]? = some u' := ⟨_, List.getElem?_eq_getElem hr⟩
  have h2 := cellsL_at hl hi (j % 6) u' hu'
  rw [show j / 6 * 6 + j % 6 = j by omega, h] at h2
  refine ⟨j / 6, j % 6, hi, by omega, ?_⟩
  rw [hu', Option.some.inj h2]

set_option maxRecDepth 100000 in
set_option maxHeartbeats 2000000 in
theorem clone_nil (n c : Nat) (w : World) :
    Calls Tryd.prog 101 #[.slice none n c] w fun e w' => e = .returned (.slice none 0 0) ∧ w' = w := by
  have q32 : ∀ (w : World) (a : Option Addr) (n c n' c' : Nat), (binOp .eql 32 (.slice a n c) (.slice none n' c')).run Tryd.prog w = .ok (.bool a.isNone) w := fun w a n c n' c' => Lib.run_eql_slice_nil w _ _ a n c n' c' Tryd.underlying32
  go_enter Tryd.func101, Tryd.ntmps101
  go_wp2_with fail
  go_ret
  exact ⟨rfl, rfl⟩

set_option maxRecDepth 100000 in
set_option maxHeartbeats 2000000 in
theorem clone_some (D : Nat → Prop) (k : Nat) (l : List Pt) (vs : List Value) (ad : Addr) (c : Nat) (w : World) (hl : vs.length = l.length) (hlen : l.length ≤ 1000000)
    (hc : ∀ j u, (cellsL l vs)[j]? = some u → w.cell? (ad.add j) = some u) (hone : ∀ u ∈ cellsL l vs, u.oneCell' = true) :
    Calls Tryd.prog 101 #[.slice (some ad) l.length c] w fun e w' => ∃ v', e = .returned v' ∧ w'.ownsRow w.heap.size 34 6 v' l.length (cellsL l vs) ∧ Keeps (fun _ => False) w w' := by
  have q32 : ∀ (w : World) (a : Option Addr) (n c n' c' : Nat), (binOp .eql 32 (.slice a n c) (.slice none n' c')).run Tryd.prog w = .ok (.bool a.isNone) w := fun w a n c n' c' => Lib.run_eql_slice_nil w _ _ a n c n' c' Tryd.underlying32
  obtain ⟨i0, hi0, hz0, hz1, hz2⟩ := info_parts info_part
  have hc6 := cells_part
  have HC := Lib.hid hc
  have HO := Lib.hid hone
  obtain ⟨L, hL⟩ : ∃ L, L = l.length := ⟨_, rfl⟩
  have hcl : (cellsL l vs).length = L * 6 := by rw [cellsL_len hl, hL]
  obtain ⟨xs, hxs⟩ : ∃ xs, xs = cellsL l vs := ⟨_, rfl⟩
  rw [← hxs] at hc hone hcl
  have HC := Lib.hid hc
  have HO := Lib.hid hone
  have HCL := Lib.hid hcl
  rw [← hL] at hlen
  rw [← hxs, ← hL]
  clear hc hone hcl hL hxs hl
  go_enter Tryd.func101, Tryd.ntmps101
  go_wp2_with (at_builtin; refine wpList_append_own _ rfl _ _ 32 rfl w.heap.size 34 i0 _ 6 88 Tryd.underlying32 hi0 hz0 hz1 hz2 rfl (by decide) _ _ _ rfl (World.ownsRow_made w #[] 0 (Nat.le_refl _) (Nat.zero_le _) rfl) ad L c xs rfl ?qc1 ?qc2 ?qc3 ?qc4 ?qc5 ?qc6 ?_)
  case qc1 => exact HCL.out
  case qc2 => intro j u hj; exact Lib.cell?_alloc_some _ (HC.out j u hj)
  case qc3 => exact HO.out
  case qc4 => unfold maxLen; omega
  case qc5 => omega
  case qc6 => simp
  intro v' w1 hown hgrow hnil
  go_wp2_with fail
  go_ret
  refine ⟨v', rfl, by simpa using hown, ?_⟩
  exact ((Keeps.refl _ w).alloc _).grown hgrow (fun k hk hkl => by simp [Value.ownBlock] at hk; omega)

theorem owns_low {w : World} {B : Nat} {e : TypeId} {z n : Nat} {v : Value} {xs : List Value} (h : w.ownsRow B e z v n xs) : w.ownsRow 0 e z v n xs ∧ ∀ g, v.ownBlock = some g → B ≤ g := by
  obtain ⟨h1, h2⟩ := h
  rcases h2 with h2 | ⟨g, cap, cur, rfl, hb, hr⟩
  · refine ⟨⟨h1, .inl h2⟩, fun g hg => ?_⟩
    rw [h2.1] at hg
    cases hg
  · exact ⟨⟨h1, .inr ⟨g, cap, cur, rfl, Nat.zero_le _, hr⟩⟩, fun y hy => by have h9 : g = y := Option.some.inj hy; omega⟩

theorem clone_any (D : Nat → Prop) (n : Nat) (l : List Pt) (v : Value) (w : World) (h : PtsAt w D n l v) (hlen : l.length ≤ 1000000) :
    Calls Tryd.prog 101 #[v] w fun e w' => ∃ v' n', e = .returned v' ∧ PtsAt w' (fun b => D b ∨ w.heap.size ≤ b) n' l v' ∧ Keeps (fun _ => False) w w' := by
  obtain ⟨a, c, rfl, hc1, hc2, H⟩ := h.succ
  cases a with
  | none =>
    have hl : l = [] := by
      cases l with
      | nil => rfl
      | cons x y =>
        obtain ⟨g, o, wv, e, _⟩ := H 0 (Nat.succ_pos _)
        cases e
    subst hl
    refine (clone_nil _ c w).mono ?_
    rintro e w' ⟨rfl, rfl⟩
    exact ⟨_, 0, rfl, PtsAt.nil _ _ 0, Keeps.refl _ _⟩
  | some ad =>
    have Hw : ∀ i (hi : i < l.length), ∃ wv g o, some ad = some (⟨g, o, none⟩ : Addr) ∧ g < w.heap.size ∧ D g ∧ PtCells w g (o + i * 6) l[i] wv ∧ PtsAt w D n l[i].word wv := fun i hi => by
      obtain ⟨g, o, wv, e⟩ := H i hi
      exact ⟨wv, g, o, e⟩
    obtain ⟨vs, hl, hvs⟩ : ∃ vs : List Value, vs.length = l.length ∧ ∀ i (hi : i < l.length) (hi' : i < vs.length), ∃ g o, some ad = some (⟨g, o, none⟩ : Addr) ∧ g < w.heap.size ∧ D g ∧ PtCells w g (o + i * 6) l[i] vs[i] ∧ PtsAt w D n l[i].word vs[i] :=
      ⟨List.ofFn (fun i : Fin l.length => Classical.choose (Hw i.1 i.2)), by simp, fun i hi hi' => by
        have := Classical.choose_spec (Hw i hi)
        simpa using this⟩
    refine (clone_some D n l vs ad c w hl hlen (fun j u hj => ?_) (fun u hu => ?_)).mono ?_
    · obtain ⟨i, r, hi, rfl, hu⟩ := cellsL_inv hl hj
      obtain ⟨g, o, e, _, _, hp, _⟩ := hvs i hi (by omega)
      obtain rfl := Option.some.inj e
      have := hp r u hu
      rw [show o + i * 6 + r = o + (i * 6 + r) by omega] at this
      rw [Addr.add_lit]; exact this
    · obtain ⟨j, hj⟩ := List.mem_iff_getElem?.1 hu
      obtain ⟨i, r, hi, rfl, hu⟩ := cellsL_inv hl hj
      obtain ⟨g, o, e, _, _, hp, hq⟩ := hvs i hi (by omega)
      obtain ⟨a2, c2, e2, _, _⟩ := hq.shape
      have hm := List.mem_of_getElem? hu
      rw [e2] at hm
      simp only [cellsP, strV, List.mem_cons, List.not_mem_nil, or_false] at hm
      rcases hm with rfl | rfl | rfl | rfl | rfl | rfl <;> rfl
    · rintro e w' ⟨v', rfl, hown, hk⟩
      obtain ⟨hown0, hbase⟩ := owns_low hown
      have hO : OwnPts w' (fun b => D b ∨ w.heap.size ≤ b) v' l := ⟨vs, n, hl, hown0, fun i hi hi' => by
        obtain ⟨g, o, e, _, _, hp, hq⟩ := hvs i hi hi'
        have h2 : PtsAt w (fun b => D b ∧ b < w.heap.size) n l[i].word vs[i] := hq.mono fun b hb hd => ⟨hd, hb⟩
        exact (h2.keep hk (fun _ _ _ h => h)).mono fun b _ hd => ⟨.inl hd.1, fun e => by have := hbase b e; omega⟩⟩
      obtain ⟨m, hm⟩ := hO.reads (fun g hg => .inr (hbase g hg))
      exact ⟨v', m, rfl, hm, hk⟩
end Go.Proofs.YtcahifkiiabioaaDoor
namespace Go.Proofs.YtcahifkiiabioaaDoor
open Go.RowKit
set_option linter.unusedVariables false

/-- What Word hands back. -/
def WordPost (w : World) (res : Except Nat (List Pt)) (e : Ending) (w' : World) : Prop :=
  match res with
  | .ok l => ∃ (v : Value) (n : Nat), e = .returned (.tuple #[v, .int .i64 0]) ∧ PtsAt w' (fun b => w.heap.size ≤ b) n l v ∧ Keeps (fun _ => False) w w'
  | .error x => e = .returned (.tuple #[.slice none 0 0, .int .i64 x]) ∧ Keeps (fun _ => False) w w'

end Go.Proofs.YtcahifkiiabioaaDoor
namespace Go.Proofs.YtcahifkiiabioaaDoor
open Go.RowKit
set_option linter.unusedVariables false

def wordRes (r : Res) : Except Nat (List Pt) := match r with
  | .error e => .error e
  | .ok (l, _) => .ok (tidyF l)
/-- What stands in the world where Word's loop begins. -/
def Cells2 (w wr : World) (R : Nat) : Prop := ∃ T T', wr.heap[R]? = some (.cells #[.slice none 0 0] T (0, 0)) ∧ wr.heap[R + 1]? = some (.cells #[.int .i64 0] T' (0, 0))
theorem Cells2.keep {w wr wr' : World} {R : Nat} {S : Nat → Prop} (h : Cells2 w wr R) (hk : Keeps S wr wr') (h0 : ¬ S R) (h1 : ¬ S (R + 1)) : Cells2 w wr' R := by
  obtain ⟨T, T', a, b⟩ := h
  exact ⟨T, T', (hk.block R (Array.getElem?_eq_some_iff.1 a).1 h0).trans a, (hk.block (R + 1) (Array.getElem?_eq_some_iff.1 b).1 h1).trans b⟩
theorem Cells2.cells {w wr : World} {R : Nat} (h : Cells2 w wr R) : wr.cell? ⟨R, 0, none⟩ = some (.slice none 0 0) ∧ wr.cell? ⟨R + 1, 0, none⟩ = some (.int .i64 0) ∧ wr.frozen? ⟨R, 0, none⟩ = false ∧ wr.frozen? ⟨R + 1, 0, none⟩ = false ∧ R + 1 < wr.heap.size := by
  obtain ⟨T, T', a, b⟩ := h
  refine ⟨?_, ?_, ?_, ?_, (Array.getElem?_eq_some_iff.1 b).1⟩ <;> simp [World.cell?, World.frozen?, a, b]

theorem RecAt.one {w : World} {b : Nat} {a0 : Value} (h : RecAt w b [a0]) : w.cell? ⟨b, 0, none⟩ = some a0 ∧ w.frozen? ⟨b, 0, none⟩ = false := by
  obtain ⟨T, h⟩ := h
  refine ⟨?_, ?_⟩ <;> simp [World.cell?, World.frozen?, h]
theorem caught_cells {w w3 : World} {R x : Nat} {o : Obj} (h : Cells2 w w3 R) : ∃ W4, W4 = ((w3.setCell ⟨R, 0, none⟩ (.slice none 0 0)).setCell ⟨R + 1, 0, none⟩ (.int .i64 x)).alloc o ∧ W4.cell? ⟨R, 0, none⟩ = some (.slice none 0 0) ∧ W4.cell? ⟨R + 1, 0, none⟩ = some (.int .i64 x) ∧ Keeps (fun b => b = R ∨ b = R + 1) w3 W4 := by
  obtain ⟨T, T', a, b⟩ := h
  have hA : RecAt w3 R [.slice none 0 0] := ⟨T, a⟩
  have hB : RecAt w3 (R + 1) [.int .i64 0] := ⟨T', b⟩
  have k1 : Keeps (fun b => b = R) w3 (w3.setCell ⟨R, 0, none⟩ (.slice none 0 0)) := (Keeps.refl _ _).setCell _ _ fun _ => rfl
  have k2 : Keeps (fun b => b = R + 1) (w3.setCell ⟨R, 0, none⟩ (.slice none 0 0)) ((w3.setCell ⟨R, 0, none⟩ (.slice none 0 0)).setCell ⟨R + 1, 0, none⟩ (.int .i64 x)) := (Keeps.refl _ _).setCell _ _ fun _ => rfl
  have k3 : Keeps (fun _ => False) ((w3.setCell ⟨R, 0, none⟩ (.slice none 0 0)).setCell ⟨R + 1, 0, none⟩ (.int .i64 x)) (((w3.setCell ⟨R, 0, none⟩ (.slice none 0 0)).setCell ⟨R + 1, 0, none⟩ (.int .i64 x)).alloc o) := (Keeps.refl _ _).alloc _
  have hA2 := ((hA.set 0 (.slice none 0 0)).keep k2 (by omega)).keep k3 (fun h => h)
  have hB2 := ((hB.keep k1 (by omega)).set 0 (.int .i64 x)).keep k3 (fun h => h)
  exact ⟨_, rfl, hA2.one.1, hB2.one.1, ((k1.mono fun _ _ e => .inl e).trans k2 fun _ _ e => .inr e).trans k3 fun _ _ e => e.elim⟩

theorem done_cells {w w3 : World} {R : Nat} {u : Value} (h : Cells2 w w3 R) : ∃ W4, W4 = (w3.setCell ⟨R, 0, none⟩ u).setCell ⟨R + 1, 0, none⟩ (.int .i64 0) ∧ W4.cell? ⟨R, 0, none⟩ = some u ∧ W4.cell? ⟨R + 1, 0, none⟩ = some (.int .i64 0) ∧ Keeps (fun b => b = R ∨ b = R + 1) w3 W4 := by
  obtain ⟨T, T', a, b⟩ := h
  have hA : RecAt w3 R [.slice none 0 0] := ⟨T, a⟩
  have hB : RecAt w3 (R + 1) [.int .i64 0] := ⟨T', b⟩
  have k1 : Keeps (fun b => b = R) w3 (w3.setCell ⟨R, 0, none⟩ u) := (Keeps.refl _ _).setCell _ _ fun _ => rfl
  have k2 : Keeps (fun b => b = R + 1) (w3.setCell ⟨R, 0, none⟩ u) ((w3.setCell ⟨R, 0, none⟩ u).setCell ⟨R + 1, 0, none⟩ (.int .i64 0)) := (Keeps.refl _ _).setCell _ _ fun _ => rfl
  have hA2 := (hA.set 0 u).keep k2 (by omega)
  have hB2 := (hB.keep k1 (by omega)).set 0 (.int .i64 0)
  exact ⟨_, rfl, hA2.one.1, hB2.one.1, (k1.mono fun _ _ e => .inl e).trans k2 fun _ _ e => .inr e⟩

end Go.Proofs.YtcahifkiiabioaaDoor
namespace Go.Proofs.YtcahifkiiabioaaDoor
open Go.RowKit
set_option linter.unusedVariables false

theorem rest0 (s : ByteArray) : rest s 0 = s.data.toList := List.drop_zero
end Go.Proofs.YtcahifkiiabioaaDoor
namespace Go.Proofs.YtcahifkiiabioaaDoor
open Go.RowKit
set_option linter.unusedVariables false

/-- The three cells of a token; its word's slice is v. -/
def cellsK (t : Tk) (v : Value) : List Value := [.int .i64 t.kind, strV t.text, v]
theorem cellsK_len (t : Tk) (v : Value) : (cellsK t v).length = 3 := rfl
def TkCells (w : World) (b o : Nat) (t : Tk) (v : Value) : Prop := ∀ j u, (cellsK t v)[j]? = some u → w.cell? ⟨b, o + j, none⟩ = some u

/-- A slice that reads as these tokens, in blocks that D lets. -/
def TksAt (w : World) (D : Nat → Prop) (n : Nat) (l : List Tk) (v : Value) : Prop :=
  ∃ a c, v = .slice a l.length c ∧ l.length ≤ c ∧ c ≤ maxLen ∧
    ∀ i (h : i < l.length), ∃ b off wv, a = some ⟨b, off, none⟩ ∧ b < w.heap.size ∧ D b ∧ TkCells w b (off + i * 3) l[i] wv ∧ PtsAt w D n l[i].word wv
theorem TksAt.keep {w w' : World} {D S : Nat → Prop} (hk : Keeps S w w') (hD : ∀ b, b < w.heap.size → D b → ¬ S b) {n : Nat} {l : List Tk} {v : Value} : TksAt w D n l v → TksAt w' D n l v
  | ⟨a, c, h1, h2, h3, h⟩ => ⟨a, c, h1, h2, h3, fun i hi => by
      obtain ⟨b, off, wv, e, hb, hd, hc, hw⟩ := h i hi
      refine ⟨b, off, wv, e, Nat.lt_of_lt_of_le hb hk.size, hd, fun j u hu => ?_, PtsAt.keep hk hD hw⟩
      rw [World.cell?_of_block (hk.block b hb (hD b hb hd))]
      exact hc j u hu⟩
theorem TksAt.mono {w : World} {D D' : Nat → Prop} (hD : ∀ b, b < w.heap.size → D b → D' b) {n : Nat} {l : List Tk} {v : Value} : TksAt w D n l v → TksAt w D' n l v
  | ⟨a, c, h1, h2, h3, h⟩ => ⟨a, c, h1, h2, h3, fun i hi => by
      obtain ⟨b, off, wv, e, hb, hd, hc, hw⟩ := h i hi
      exact ⟨b, off, wv, e, hb, hD b hb hd, hc, PtsAt.mono hD hw⟩⟩
theorem TksAt.nil (w : World) (D : Nat → Prop) (n : Nat) : TksAt w D n [] (.slice none 0 0) := ⟨none, 0, rfl, Nat.le_refl _, Nat.zero_le _, fun i hi => absurd hi (Nat.not_lt_zero _)⟩
theorem TksAt.le {w : World} {D : Nat → Prop} {n m : Nat} {l : List Tk} {v : Value} (hm : n ≤ m) : TksAt w D n l v → TksAt w D m l v
  | ⟨a, c, h1, h2, h3, h⟩ => ⟨a, c, h1, h2, h3, fun i hi => by
      obtain ⟨b, off, wv, e, hb, hd, hc, hw⟩ := h i hi
      exact ⟨b, off, wv, e, hb, hd, hc, hw.le hm⟩⟩

/-- The cells of tokens, one behind the other. -/
def cellsT : List Tk → List Value → List Value
  | p :: l, v :: vs => cellsK p v ++ cellsT l vs
  | _, _ => []
theorem cellsT_append : ∀ {l m : List Tk} {vs us : List Value}, vs.length = l.length → cellsT (l ++ m) (vs ++ us) = cellsT l vs ++ cellsT m us
  | [], m, [], us, _ => rfl
  | p :: l, m, v :: vs, us, h => by
    simp only [List.cons_append, cellsT, cellsT_append (l := l) (vs := vs) (by simpa using h), List.append_assoc]
theorem cellsT_at : ∀ {l : List Tk} {vs : List Value} {i : Nat} (h : vs.length = l.length) (hi : i < l.length) (j : Nat) (u : Value), (cellsK l[i] (vs[i]'(by omega)))[j]? = some u → (cellsT l vs)[i * 3 + j]? = some u
  | p :: l, v :: vs, 0, h, hi, j, u, hu => by
    simp only [List.getElem_cons_zero] at hu
    rw [Nat.zero_mul, Nat.zero_add]
    simp only [cellsT]
    rw [List.getElem?_append_left]
    · exact hu
    · exact (List.getElem?_eq_some_iff.1 hu).1
  | p :: l, v :: vs, i + 1, h, hi, j, u, hu => by
    simp only [List.getElem_cons_succ] at hu
    simp only [cellsT]
    rw [List.getElem?_append_right (by rw [cellsK_len]; omega), cellsK_len, show (i + 1) * 3 + j - 3 = i * 3 + j by omega]
    exact cellsT_at (by simpa using h) (by simpa using hi) j u hu

/-- A slice of tokens in a row that the call owns. -/
def OwnTks (w : World) (D : Nat → Prop) (v : Value) (raw : List Tk) : Prop :=
  ∃ vs n, vs.length = raw.length ∧ w.ownsRow 0 65 3 v raw.length (cellsT raw vs) ∧
    ∀ i (h : i < raw.length) (h' : i < vs.length), PtsAt w (fun b => D b ∧ v.ownBlock ≠ some b) n raw[i].word vs[i]
theorem OwnTks.nil (w : World) (D : Nat → Prop) : OwnTks w D (.slice none 0 0) [] :=
  ⟨[], 0, rfl, World.ownsRow_nil _ _ _ _, fun i h => absurd h (Nat.not_lt_zero _)⟩
theorem OwnTks.shape {w : World} {D : Nat → Prop} {v : Value} {raw : List Tk} (h : OwnTks w D v raw) : ∃ a c, v = .slice a raw.length c ∧ raw.length ≤ c ∧ c ≤ maxLen := by
  obtain ⟨vs, n, hl, ho, _⟩ := h
  rcases ho.2 with ⟨rfl, h0⟩ | ⟨g, cap, cur, rfl, _, _, h1, h2, _⟩
  · exact ⟨none, 0, by rw [h0], by omega, Nat.zero_le _⟩
  · exact ⟨_, cap, rfl, h1, h2⟩
theorem OwnTks.lt {w : World} {D : Nat → Prop} {v : Value} {raw : List Tk} (h : OwnTks w D v raw) {g : Nat} (hg : v.ownBlock = some g) : g < w.heap.size := by
  obtain ⟨vs, n, hl, ho, _⟩ := h
  exact (ho.lt g hg).2
theorem OwnTks.keep {w w' : World} {D S : Nat → Prop} {v : Value} {raw : List Tk} (h : OwnTks w D v raw) (hk : Keeps S w w') (hD : ∀ b, b < w.heap.size → D b → ¬ S b) (hv : ∀ g, v.ownBlock = some g → ¬ S g) : OwnTks w' D v raw := by
  obtain ⟨vs, n, hl, ho, hn⟩ := h
  refine ⟨vs, n, hl, ⟨ho.1, ?_⟩, fun i h h' => (hn i h h').keep hk fun b hb hd => hD b hb hd.1⟩
  rcases ho.2 with h0 | ⟨g, cap, cur, rfl, hb, hg, rest⟩
  · exact .inl h0
  · exact .inr ⟨g, cap, cur, rfl, hb, (hk.block g (Array.getElem?_eq_some_iff.1 hg).1 (hv g rfl)).trans hg, rest⟩
theorem OwnTks.reads {w : World} {D : Nat → Prop} {v : Value} {raw : List Tk} (h : OwnTks w D v raw) (hD : ∀ g, v.ownBlock = some g → D g) : ∃ n, TksAt w D n raw v := by
  have hs := h.shape
  obtain ⟨vs, n, hl, ho, hn⟩ := h
  obtain ⟨a, c, e, h1, h2⟩ := hs
  subst e
  refine ⟨n, a, c, rfl, h1, h2, fun i hi => ?_⟩
  rcases ho.2 with ⟨_, h0⟩ | ⟨g, cap, cur, e, _, hg, _⟩
  · omega
  simp only [Value.slice.injEq] at e
  obtain ⟨rfl, _, rfl⟩ := e
  refine ⟨g, 0, vs[i]'(by omega), rfl, (Array.getElem?_eq_some_iff.1 hg).1, hD g rfl, fun j u hu => ?_, (hn i hi (by omega)).mono fun b _ hb => hb.1⟩
  have hj : j < 3 := (List.getElem?_eq_some_iff.1 hu).1
  rw [ho.cellAt _ (by omega), Nat.zero_add]
  exact cellsT_at hl hi j u hu
theorem grow_tks {w w' : World} {v v' : Value} {B : Nat} {raw : List Tk} {x : Tk} {vs : List Value} {n m : Nat} {wv : Value} (hx : PtsAt w (fun b => B ≤ b ∧ v.ownBlock ≠ some b) m x.word wv) (hl : vs.length = raw.length)
    (hnest : ∀ i (h : i < raw.length) (h' : i < vs.length), PtsAt w (fun b => B ≤ b ∧ v.ownBlock ≠ some b) n raw[i].word vs[i])
    (hown : w'.ownsRow 0 65 3 v' (raw.length + 1) (cellsT raw vs ++ cellsK x wv)) (hk : Keeps (fun b => v.ownBlock = some b) w w')
    (hg : ∀ y, v'.ownBlock = some y → v.ownBlock = some y ∨ w.heap.size ≤ y) :
    OwnTks w' (fun b => B ≤ b) v' (raw ++ [x]) := by
  have key : ∀ (k : Nat) (l : List Pt) (u : Value), PtsAt w (fun b => B ≤ b ∧ v.ownBlock ≠ some b) k l u → PtsAt w' (fun b => B ≤ b ∧ v'.ownBlock ≠ some b) k l u := fun k l u h => by
    have h2 : PtsAt w (fun b => (B ≤ b ∧ v.ownBlock ≠ some b) ∧ b < w.heap.size) k l u := h.mono fun b hb hd => ⟨hd, hb⟩
    refine (h2.keep hk (fun b _ hd s => hd.1.2 s)).mono fun b _ hd => ⟨hd.1.1, fun e => ?_⟩
    rcases hg b e with h3 | h3
    · exact hd.1.2 h3
    · have := hd.2; omega
  refine ⟨vs ++ [wv], max n m, by simp [hl], ?_, fun i h h' => ?_⟩
  · rw [cellsT_append hl]
    simpa [cellsT] using hown
  · by_cases hi : i < raw.length
    · rw [List.getElem_append_left hi, List.getElem_append_left (by omega)]
      exact (key _ _ _ (hnest i hi (by omega))).le (by omega)
    · have hi2 : i = raw.length := by simp at h; omega
      subst hi2
      rw [List.getElem_append_right (Nat.le_refl _), List.getElem_append_right (by omega)]
      simp only [hl, Nat.sub_self, List.getElem_cons_zero]
      exact (key _ _ _ hx).le (by omega)

theorem info_token : (Tryd.prog.info? 65).map (fun i => (i.zero, i.size, i.bytes)) = some (some (.agg #[.int .i64 0, .string ⟨#[]⟩, .slice none 0 0]), 3, 48) := by kernel_rfl
theorem cells_token : Tryd.prog.cellsOf 65 = 3 := by kernel_rfl

/-- Plain: tokens ahead. -/
def consL (l : List Tk) : Except Nat (List Tk) → Except Nat (List Tk)
  | .error e => .error e
  | .ok m => .ok (l ++ m)
theorem consL_nil (r : Except Nat (List Tk)) : consL [] r = r := by cases r <;> rfl
theorem consL_cons (l : List Tk) (x : Tk) (r : Except Nat (List Tk)) : consL l (consT x r) = consL (l ++ [x]) r := by
  cases r with
  | error e => rfl
  | ok m => show Except.ok (l ++ (x :: m)) = Except.ok ((l ++ [x]) ++ m); rw [List.append_assoc]; rfl
/-- The tokens of what begins with a token. -/
def tokT (m : Nat) (r : List UInt8) : Except Nat (List Tk) := match r with
  | [] => .ok []
  | c :: t => match tokOne (c :: t) with
      | .error e => .error e
      | .ok (x, r1) => consT x (tokD m r1)
theorem tokD_tokT (n : Nat) (r : List UInt8) : tokD (n + 1) r = tokT n (skipF false r) := by
  rw [tokD_succ]; unfold tokT; rfl

theorem wordD_len (wh : Bool) : ∀ (n : Nat) (r : List UInt8) (l : List Pt) (r1 : List UInt8), wordD wh n r = .ok (l, r1) → r1.length ≤ r.length
  | 0, r, l, r1, h => by cases h
  | n + 1, [], l, r1, h => by
    obtain ⟨_, rfl⟩ := Prod.mk.inj (Except.ok.inj h); exact Nat.le_refl _
  | n + 1, c :: t, l, r1, h => by
    rw [wordD_succ] at h
    dsimp only at h
    split at h
    · obtain ⟨_, rfl⟩ := Prod.mk.inj (Except.ok.inj h); exact Nat.le_refl _
    · cases h2 : lexD (2 * (c :: t).length + 2) (.one false) 0 (c :: t) with
      | error e => rw [h2] at h; cases h
      | ok x =>
        obtain ⟨l2, r2⟩ := x
        rw [h2] at h
        obtain ⟨m', h3, _⟩ := ahead_ok h
        have h4 := lexD_len _ _ _ _ _ _ h2
        have h5 := wordD_len wh n _ _ _ h3
        omega
/-- Where nothing is skipped a token takes something. -/
theorem breaks_op (c : UInt8) (t : List UInt8) (ho : operF (c :: t) = []) (h38 : c ≠ 38) (h32 : (c == 32 || c == 9) = false) : breaksB c = false := by
  cases hb : breaksB c with
  | false => rfl
  | true =>
    exfalso
    have h1 : c = 10 ∨ c = 59 ∨ c = 124 ∨ c = 40 ∨ c = 41 ∨ c = 60 ∨ c = 62 := by
      simp only [breaksB, Bool.or_eq_true, beq_iff_eq, Bool.or_eq_false_iff, beq_eq_false_iff_ne] at hb h32
      simp only [or_assoc] at hb
      rcases hb with h | h | h | h | h | h | h | h | h | h <;> simp_all
    have h2 : ∀ o ∈ operL, startsF o (c :: t) = true → o ≠ [] → operF (c :: t) ≠ [] := by
      intro o hm hs hne he
      unfold operF findF at he
      cases hf : operL.find? (fun o => startsF o (c :: t)) with
      | none => exact absurd hs (by simpa using List.find?_eq_none.1 hf o hm)
      | some p =>
        rw [hf] at he
        have hp : p ∈ operL := List.mem_of_find?_eq_some hf
        have : p = [] := he
        subst this
        exact absurd hp (by decide)
    rcases h1 with rfl | rfl | rfl | rfl | rfl | rfl | rfl
    · exact h2 [10] (by decide) rfl (by decide) ho
    · exact h2 [59] (by decide) rfl (by decide) ho
    · exact h2 [124] (by decide) rfl (by decide) ho
    · exact h2 [40] (by decide) rfl (by decide) ho
    · exact h2 [41] (by decide) rfl (by decide) ho
    · exact h2 [60] (by decide) rfl (by decide) ho
    · exact h2 [62] (by decide) rfl (by decide) ho
theorem skip_head_n : ∀ (k : Nat) (m : Bool) (r : List UInt8) (c : UInt8) (t : List UInt8), r.length ≤ k → skipF m r = c :: t → (c == 32 || c == 9) = false
  | _, m, [], c, t, _, h => by cases m <;> cases h
  | 0, m, x :: r, c, t, hk, h => by simp at hk
  | k + 1, true, x :: r, c, t, hk, h => by
    unfold skipF at h
    split at h
    · next hx =>
      obtain ⟨rfl, rfl⟩ := List.cons.inj h
      rw [beq_iff_eq.1 hx]; rfl
    · exact skip_head_n k true r c t (by simpa using hk) h
  | k + 1, false, x :: r, c, t, hk, h => by
    rw [skipF_cons] at h
    cases hx : (x == 32 || x == 9) with
    | true => rw [hx, if_pos rfl] at h; exact skip_head_n k false r c t (by simpa using hk) h
    | false =>
      rw [hx, if_neg (by simp)] at h
      split at h
      · exact skip_head_n k true r c t (by simpa using hk) h
      · split at h
        · cases r with
          | nil => obtain ⟨rfl, rfl⟩ := List.cons.inj h; exact hx
          | cons y r' =>
            dsimp only at h
            split at h
            · exact skip_head_n k false r' c t (by simp at hk; omega) h
            · obtain ⟨rfl, rfl⟩ := List.cons.inj h; exact hx
        · obtain ⟨rfl, rfl⟩ := List.cons.inj h; exact hx
theorem skip_head {r : List UInt8} {c : UInt8} {t : List UInt8} (h : skipF false r = c :: t) : (c == 32 || c == 9) = false := skip_head_n _ _ _ _ _ (Nat.le_refl _) h
theorem skip_len_n : ∀ (k : Nat) (m : Bool) (r : List UInt8), r.length ≤ k → (skipF m r).length ≤ r.length
  | _, m, [], _ => by cases m <;> exact Nat.le_refl _
  | 0, m, x :: r, hk => by simp at hk
  | k + 1, true, x :: r, hk => by
    unfold skipF
    split
    · exact Nat.le_refl _
    · have := skip_len_n k true r (by simpa using hk); simp; omega
  | k + 1, false, x :: r, hk => by
    rw [skipF_cons]
    have h1 := skip_len_n k false r (by simpa using hk)
    have h2 := skip_len_n k true r (by simpa using hk)
    split
    · simp; omega
    · split
      · simp; omega
      · split
        · cases r with
          | nil => exact Nat.le_refl _
          | cons y r' =>
            dsimp only
            split
            · have h3 := skip_len_n k false r' (by simp at hk; omega); simp; omega
            · exact Nat.le_refl _
        · exact Nat.le_refl _
theorem skip_len (m : Bool) (r : List UInt8) : (skipF m r).length ≤ r.length := skip_len_n _ m r (Nat.le_refl _)

theorem tokOne_len {c : UInt8} {t : List UInt8} {x : Tk} {r1 : List UInt8} (h32 : (c == 32 || c == 9) = false) (h : tokOne (c :: t) = .ok (x, r1)) : r1.length ≤ t.length := by
  unfold tokOne at h
  by_cases ho : operF (c :: t) = []
  · rw [ho, if_pos (by rfl)] at h
    by_cases h38 : c = 38
    · rw [if_pos (show headIs 38 (c :: t) = true by rw [h38]; rfl)] at h; cases h
    · rw [if_neg (show ¬ headIs 38 (c :: t) = true from fun h => h38 (beq_iff_eq.1 h))] at h
      have hb := breaks_op c t ho h38 h32
      rw [wordD_succ] at h
      dsimp only at h
      rw [hb, if_neg (by simp)] at h
      cases h2 : lexD (2 * (c :: t).length + 2) (.one false) 0 (c :: t) with
      | error e => rw [h2] at h; cases h
      | ok y =>
        obtain ⟨l2, r2⟩ := y
        rw [h2] at h
        dsimp only at h
        have h4 := lexD_len _ _ _ _ _ _ h2
        cases h5 : wordD false (c :: t).length r2 with
        | error e => rw [h5] at h; cases h
        | ok z =>
          obtain ⟨l3, r3⟩ := z
          rw [h5] at h
          obtain ⟨_, rfl⟩ := Prod.mk.inj (Except.ok.inj h)
          have h6 := wordD_len _ _ _ _ _ h5
          simp only [Md.least, List.length_cons] at h4
          omega
  · rw [if_neg (by simpa using ho)] at h
    obtain ⟨_, rfl⟩ := Prod.mk.inj (Except.ok.inj h)
    rw [List.length_drop, List.length_cons]
    have := List.length_pos_iff.2 ho
    omega
end Go.Proofs.YtcahifkiiabioaaDoor
namespace Go.Proofs.YtcahifkiiabioaaDoor
open Go.RowKit
set_option linter.unusedVariables false

/-- What Tokens hands back. -/
def TokensPost (w : World) (res : Except Nat (List Tk)) (e : Ending) (w' : World) : Prop :=
  match res with
  | .ok l => ∃ (v : Value) (n : Nat), e = .returned (.tuple #[v, .int .i64 0]) ∧ TksAt w' (fun b => w.heap.size ≤ b) n l v ∧ Keeps (fun _ => False) w w'
  | .error x => e = .returned (.tuple #[.slice none 0 0, .int .i64 x]) ∧ Keeps (fun _ => False) w w'

set_option maxRecDepth 100000 in
set_option maxHeartbeats 4000000 in
theorem tokens_long (s : ByteArray) (w : World) (hs : s.size ≤ 140737488351232) (x : Nat) (hx : mayF s.data.toList = x) (h0 : x ≠ 0) :
    Calls Tryd.prog 16 #[.string s] w (TokensPost w (.error x)) := by
  have HX := Lib.hid hx
  have e1 : ((x : Int) != 0) = true := by rw [bne_iff_ne]; omega
  clear hx h0
  go_enter_defers Tryd.func16, Tryd.ntmps16
  go_wp2_with fail
  refine (may_any s _ hs).mono ?_
  rintro e w1 ⟨rfl, hw1⟩
  rw [HX.out]
  subst hw1
  go_wp2_with fail
  simp [bodyPostD, Leaves, results, Tryd.results16, go_sem]
  exact ⟨rfl, ((Keeps.refl _ _).alloc _).alloc _⟩

theorem caught_cells2 {w3 : World} {R x : Nat} {o : Obj} {u v : Value} (hA : RecAt w3 R [u]) (hB : RecAt w3 (R + 1) [v]) : ∃ W4, W4 = ((w3.setCell ⟨R, 0, none⟩ (.slice none 0 0)).setCell ⟨R + 1, 0, none⟩ (.int .i64 x)).alloc o ∧ W4.cell? ⟨R, 0, none⟩ = some (.slice none 0 0) ∧ W4.cell? ⟨R + 1, 0, none⟩ = some (.int .i64 x) ∧ Keeps (fun b => b = R ∨ b = R + 1) w3 W4 := by
  have k1 : Keeps (fun b => b = R) w3 (w3.setCell ⟨R, 0, none⟩ (.slice none 0 0)) := (Keeps.refl _ _).setCell _ _ fun _ => rfl
  have k2 : Keeps (fun b => b = R + 1) (w3.setCell ⟨R, 0, none⟩ (.slice none 0 0)) ((w3.setCell ⟨R, 0, none⟩ (.slice none 0 0)).setCell ⟨R + 1, 0, none⟩ (.int .i64 x)) := (Keeps.refl _ _).setCell _ _ fun _ => rfl
  have k3 : Keeps (fun _ => False) ((w3.setCell ⟨R, 0, none⟩ (.slice none 0 0)).setCell ⟨R + 1, 0, none⟩ (.int .i64 x)) (((w3.setCell ⟨R, 0, none⟩ (.slice none 0 0)).setCell ⟨R + 1, 0, none⟩ (.int .i64 x)).alloc o) := (Keeps.refl _ _).alloc _
  have hA2 := ((hA.set 0 (.slice none 0 0)).keep k2 (by omega)).keep k3 (fun h => h)
  have hB2 := ((hB.keep k1 (by omega)).set 0 (.int .i64 x)).keep k3 (fun h => h)
  exact ⟨_, rfl, hA2.one.1, hB2.one.1, ((k1.mono fun _ _ e => .inl e).trans k2 fun _ _ e => .inr e).trans k3 fun _ _ e => e.elim⟩
theorem done_cells2 {w3 : World} {R : Nat} {u u0 v : Value} (hA : RecAt w3 R [u0]) (hB : RecAt w3 (R + 1) [v]) : ∃ W4, W4 = (w3.setCell ⟨R, 0, none⟩ u).setCell ⟨R + 1, 0, none⟩ (.int .i64 0) ∧ W4.cell? ⟨R, 0, none⟩ = some u ∧ W4.cell? ⟨R + 1, 0, none⟩ = some (.int .i64 0) ∧ Keeps (fun b => b = R ∨ b = R + 1) w3 W4 := by
  have k1 : Keeps (fun b => b = R) w3 (w3.setCell ⟨R, 0, none⟩ u) := (Keeps.refl _ _).setCell _ _ fun _ => rfl
  have k2 : Keeps (fun b => b = R + 1) (w3.setCell ⟨R, 0, none⟩ u) ((w3.setCell ⟨R, 0, none⟩ u).setCell ⟨R + 1, 0, none⟩ (.int .i64 0)) := (Keeps.refl _ _).setCell _ _ fun _ => rfl
  have hA2 := (hA.set 0 u).keep k2 (by omega)
  have hB2 := (hB.keep k1 (by omega)).set 0 (.int .i64 0)
  exact ⟨_, rfl, hA2.one.1, hB2.one.1, (k1.mono fun _ _ e => .inl e).trans k2 fun _ _ e => .inr e⟩
/-- What holds where Tokens' loop begins a round. -/
structure TkLoop (W wr : World) (R cs : Nat) (s : ByteArray) (I : Nat) (l : List Tk) (v : Value) : Prop where
  sc : ScanAt wr cs s I ((0 : Nat) : Int)
  r0 : RecAt wr R [v]
  r1 : RecAt wr (R + 1) [.int .i64 0]
  own : OwnTks wr (fun b => W.heap.size ≤ b) v l
  low : ∀ g, v.ownBlock = some g → W.heap.size ≤ g
  kp : Keeps (fun b => b = cs ∨ b = R) W wr
  len : l.length ≤ I
theorem TkLoop.move {W wr w' : World} {R cs : Nat} {s : ByteArray} {I J : Nat} {l : List Tk} {v : Value} (h : TkLoop W wr R cs s I l v) (hk : Keeps (fun b => b = cs) wr w') (hs : ScanAt w' cs s J ((0 : Nat) : Int)) (hI : I ≤ J) (h1 : cs ≠ R) (h2 : cs ≠ R + 1) (h3 : cs < W.heap.size) : TkLoop W w' R cs s J l v :=
  ⟨hs, h.r0.keep hk (fun e => h1 e.symm), h.r1.keep hk (fun e => h2 e.symm), h.own.keep hk (fun b _ hb e => by omega) (fun g hg e => by have := h.low g hg; omega), h.low, h.kp.trans hk (fun _ _ e => .inl e), Nat.le_trans h.len hI⟩
/-- A token more. -/
theorem TkLoop.more {W wr w1 : World} {R cs : Nat} {s : ByteArray} {I J : Nat} {l : List Tk} {v : Value} (h : TkLoop W wr R cs s I l v) (hk : Keeps (fun b => b = cs) wr w1) (hs : ScanAt w1 cs s J ((0 : Nat) : Int)) (hI : I < J) (h1 : cs ≠ R) (h2 : cs ≠ R + 1) (h3 : cs < W.heap.size) (hR : R + 1 < W.heap.size)
    {x : Tk} {wv : Value} {n : Nat} (hx : PtsAt w1 (fun b => wr.heap.size ≤ b) n x.word wv) :
    ∃ xs, w1.ownsRow 0 65 3 v l.length xs ∧ v.ownBlock ≠ some R ∧ ∀ (g cap : Nat) (w2 : World) (o : Obj), w2.ownsRow 0 65 3 (.slice (some ⟨g, 0, none⟩) (l.length + 1) cap) (l.length + 1) (xs ++ cellsK x wv) → (w1.alloc o).grownBy w2 v.ownBlock → (v.ownBlock = some g ∨ g = w1.heap.size + 1) →
      w2.cell? ⟨R, 0, none⟩ = some v ∧ w2.frozen? ⟨R, 0, none⟩ = false ∧ TkLoop W (w2.setCell ⟨R, 0, none⟩ (.slice (some ⟨g, 0, none⟩) (l.length + 1) cap)) R cs s J (l ++ [x]) (.slice (some ⟨g, 0, none⟩) (l.length + 1) cap) := by
  have hm := h.move hk hs (by omega) h1 h2 h3
  have hm0 := hm.own
  obtain ⟨vs, m, hl, ho, hn⟩ := hm.own
  have hWw := hm.kp.size
  refine ⟨_, ho, fun e => by have := h.low _ e; omega, fun g cap w2 o hown hg hat => ?_⟩
  have hvR : ∀ b, v.ownBlock = some b → W.heap.size ≤ b := h.low
  have k : Keeps (fun b => v.ownBlock = some b) w1 w2 := ((Keeps.refl _ w1).alloc o).grown hg fun k hk _ => hk
  have hr0 := hm.r0.keep k (fun e => by have := hvR _ e; omega)
  have hgW : W.heap.size ≤ g := by
    rcases hat with e | e
    · exact hvR _ e
    · omega
  have hk2 : Keeps (fun b => b = R) w2 (w2.setCell ⟨R, 0, none⟩ (.slice (some ⟨g, 0, none⟩) (l.length + 1) cap)) := (Keeps.refl _ _).setCell _ _ fun _ => rfl
  have hgrow := grow_tks (B := W.heap.size) (v := v) (w := w1) (x := x) (m := n) (hx.mono fun b hb hd => ⟨by have := h.kp.size; omega, fun e => by have := h.own.lt e; omega⟩) hl hn hown k (fun y hy => by
    obtain rfl : g = y := Option.some.inj hy
    rcases hat with e | e
    · exact .inl e
    · exact .inr (by omega))
  refine ⟨hr0.one.1, hr0.one.2, (hm.sc.keep k (fun e => by have := hvR _ e; omega)).keep hk2 h1, ?_, (hm.r1.keep k (fun e => by have := hvR _ e; omega)).keep hk2 (by omega), hgrow.keep hk2 (fun b _ hb e => by omega) (fun y hy e => by obtain rfl : g = y := Option.some.inj hy; omega), fun y hy => by obtain rfl : g = y := Option.some.inj hy; exact hgW, ?_, ?_⟩
  · exact hr0.set 0 _
  · exact (hm.kp.trans k (fun b hb e => by have := hvR _ e; omega)).trans hk2 (fun _ _ e => .inr e)
  · rw [List.length_append]; have := h.len; show l.length + 1 ≤ J; omega
end Go.Proofs.YtcahifkiiabioaaDoor
namespace Go.Proofs.YtcahifkiiabioaaDoor
open Go.RowKit
set_option linter.unusedVariables false

set_option maxRecDepth 100000 in
set_option maxHeartbeats 4000000 in
theorem tokens_rest (s : ByteArray) (w : World) (hs : s.size ≤ 20000) (hx : mayF s.data.toList = 0) :
    Calls Tryd.prog 16 #[.string s] w (TokensPost w (tokD (s.size + 1) (rest s 0))) := by
  have HX := Lib.hid hx
  obtain ⟨res, hres⟩ : ∃ res, res = tokD (s.size + 1) (rest s 0) := ⟨_, rfl⟩
  rw [← hres]
  rw [tokD_tokT] at hres
  have HR := Lib.hid hres
  clear hx hres
  have hmf : ∀ (fn : Fn) (first cap : Array Value) (w : World), (Instr.makeFunc fn first cap).run Tryd.prog w = .ok (.func fn first cap) w := fun _ _ _ _ => rfl
  have hc3 := cells_token
  obtain ⟨i0, hi0, hz0, hz1, hz2⟩ := info_parts info_token
  go_enter_defers Tryd.func16, Tryd.ntmps16
  go_wp2_with fail
  refine (may_any s _ (by omega)).mono ?_
  rintro e w1 ⟨rfl, hw1⟩
  rw [HX.out]
  subst hw1
  go_wp2_with fail
  obtain ⟨W, hW⟩ : ∃ W, W = ((w.alloc (.cells #[.slice none 0 0] 51)).alloc (.cells #[.int .i64 0] 25)).alloc (.cells #[.string s, .int .i64 0, .int .i64 0] 63) := ⟨_, rfl⟩
  rw [← hW]
  have hsz : W.heap.size = w.heap.size + 1 + 1 + 1 := by rw [hW]; simp
  have hsW : ScanAt W (w.heap.size + 1 + 1) s ((0 : Nat) : Int) ((0 : Nat) : Int) := by
    rw [hW]
    refine ⟨63, ?_⟩
    have := heap_alloc_new ((w.alloc (.cells #[.slice none 0 0] 51)).alloc (.cells #[.int .i64 0] 25)) (.cells #[.string s, .int .i64 0, .int .i64 0] 63)
    have e : ((w.alloc (.cells #[.slice none 0 0] 51)).alloc (.cells #[.int .i64 0] 25)).heap.size = w.heap.size + 1 + 1 := by simp
    rw [e] at this
    exact this
  obtain ⟨cs, hcs⟩ : ∃ cs, cs = w.heap.size + 1 + 1 := ⟨_, rfl⟩
  rw [← hcs] at hsW
  rw [← hcs] at hsz
  rw [← hcs]
  have HSZ := Lib.hid hsz
  have HCS := Lib.hid hcs
  have hR : RecAt W w.heap.size [.slice none 0 0] ∧ RecAt W (w.heap.size + 1) [.int .i64 0] := by
    have k1 : Keeps (fun _ => False) (w.alloc (.cells #[.slice none 0 0] 51)) W := by rw [hW]; exact ((Keeps.refl _ _).alloc _).alloc _
    have k2 : Keeps (fun _ => False) ((w.alloc (.cells #[.slice none 0 0] 51)).alloc (.cells #[.int .i64 0] 25)) W := by rw [hW]; exact (Keeps.refl _ _).alloc _
    have a1 := heap_alloc_new w (.cells #[.slice none 0 0] 51)
    have a2 := heap_alloc_new (w.alloc (.cells #[.slice none 0 0] 51)) (.cells #[.int .i64 0] 25)
    rw [show (w.alloc (.cells #[.slice none 0 0] 51)).heap.size = w.heap.size + 1 by simp] at a2
    exact ⟨⟨_, (k1.block _ (by simp) (fun h => h)).trans a1⟩, ⟨_, (k2.block _ (by simp) (fun h => h)).trans a2⟩⟩
  have h12 : cs ≠ w.heap.size ∧ cs ≠ w.heap.size + 1 ∧ cs < W.heap.size ∧ w.heap.size + 1 < W.heap.size := ⟨by omega, by omega, by omega, by omega⟩
  have hL0 : TkLoop W W w.heap.size cs s 0 [] (.slice none 0 0) := ⟨hsW, hR.1, hR.2, OwnTks.nil _ _, fun g hg => (by cases hg), Keeps.refl _ _, Nat.zero_le _⟩
  have HL0 := Lib.hid hL0
  have H12 := Lib.hid h12
  have HKW := Lib.hid (show Keeps (fun _ => False) w W by rw [hW]; exact (((Keeps.refl _ _).alloc _).alloc _).alloc _)
  clear hW hcs hsz hR hL0 h12
  refine (skip_any cs s 0 _ _ hsW (by omega) (by omega)).mono ?_
  rintro e w2 ⟨rfl, J, _, hJs, hJr, hJc, hJk⟩
  rw [← hJr] at HR
  have hh : ∀ c t, rest s J = c :: t → (c == 32 || c == 9) = false := fun c t e => skip_head (hJr.symm.trans e)
  have HL1 := Lib.hid (HL0.out.move hJk hJc (Nat.zero_le _) H12.out.1 H12.out.2.1 H12.out.2.2.1)
  have HH := Lib.hid hh
  clear hJr hJc hJk hh hsW HL0
  go_wp2_with fail
  go_loopg [] (s.size + 2 - J) (fun k wr => ∃ (I M : Nat) (l : List Tk) (v : Value), k = s.size + 2 - I ∧ I ≤ s.size ∧ TkLoop W wr w.heap.size cs s I l v ∧ s.size - I ≤ M ∧ res = consL l (tokT M (rest s I)) ∧ (∀ c t, rest s I = c :: t → (c == 32 || c == 9) = false))
  case atStart => exact ⟨J, s.size, [], _, rfl, hJs, HL1.out, by omega, by rw [consL_nil]; exact HR.out, HH.out⟩
  case round =>
    obtain ⟨I, M, l, v, hgk, hI, hlp, hMn, hr, hhd⟩ := hrel
    have HGK := Lib.hid hgk
    have HLP := Lib.hid hlp
    have HHD := Lib.hid hhd
    clear hgk hlp hhd HL1 HH
    rcases Nat.lt_or_ge I s.size with hlt | hge
    · have he : decide (s.size ≤ I) = false := decide_eq_false (by omega)
      have HE := Lib.hid he
      obtain ⟨M, rfl⟩ : ∃ M', M = M' + 1 := ⟨M - 1, by omega⟩
      have hb := HHD.out _ _ (rest_cons hlt)
      have hr2 : res = consL l (match tokOne (rest s I) with
        | .error e => .error e
        | .ok (x, r1) => consT x (tokD (M + 1) r1)) := by rw [hr, rest_cons hlt]; rfl
      have HR2 := Lib.hid hr2
      have HB := Lib.hid hb
      clear hr hr2 he hb
      go_wp2_with fail
      refine (end_any cs s I _ _ HLP.out.sc).mono ?_
      rintro e w3 ⟨rfl, q2, rfl⟩
      rw [HE.out]
      obtain ⟨w3, hw3⟩ : ∃ w3, w3 = wr.drewN q2 := ⟨_, rfl⟩
      rw [← hw3]
      have HL3 := Lib.hid (show TkLoop W w3 w.heap.size cs s I l v from HLP.out.move (by rw [hw3]; exact (Keeps.refl _ _).drewN _) (by rw [hw3]; exact HLP.out.sc.drewN _) (Nat.le_refl _) H12.out.1 H12.out.2.1 H12.out.2.2.1)
      clear hw3
      cases htk : tokOne (rest s I) with
      | error x =>
        have hrx : res = .error x := by rw [HR2.out, htk]; rfl
        have HRX := Lib.hid hrx
        have HTK := Lib.hid htk
        obtain ⟨c0, f0⟩ := HL3.out.r0.one
        obtain ⟨va, vn, vc, rfl⟩ : ∃ a n c, v = .slice a n c := by obtain ⟨a, c, e, _⟩ := HL3.out.own.shape; exact ⟨a, _, c, e⟩
        have HSD := Lib.hid (show ScanAt w3.drew cs s I ((0 : Nat) : Int) from HL3.out.sc.keep (S := fun _ => False) (Keeps.refl _ _).drew (fun h => h))
        clear hrx htk
        have hL4 : ∀ w4, Keeps (fun b => b = cs) w3.drew w4 → RecAt w4 w.heap.size [.slice va vn vc] ∧ RecAt w4 (w.heap.size + 1) [.int .i64 0] ∧ Keeps (fun b => b = cs) w3 w4 := fun w4 hk => by
          have hk' := (Keeps.refl (fun b => b = cs) w3).drew.trans hk (fun _ _ h => h)
          exact ⟨HL3.out.r0.keep hk' (fun e => H12.out.1 e.symm), HL3.out.r1.keep hk' (fun e => H12.out.2.1 e.symm), hk'⟩
        have HFIN := Lib.hid (show ∀ w4 w5, Keeps (fun b => b = cs) w3 w4 → Keeps (fun b => b = w.heap.size ∨ b = w.heap.size + 1) w4 w5 → Keeps (fun _ => False) w w5 from fun w4 w5 h1 h2 =>
          (((HKW.out.trans HL3.out.kp (fun b hb e => by have := HCS.out; omega)).trans h1 (fun b hb e => by have := HCS.out; omega)).trans h2 (fun b hb e => by omega)))
        go_wp2_with fail
        refine wp_region_any (by kernel_rfl) ?_
        change wpAny _ _ _ _ _ _ _ (World.drew _)
        refine wpAny_ready (rs := [0, 1]) (by kernel_rfl) (by simp) ?_
        refine AllReady.cons rfl (fun K hK => ?_) (AllReady.cons rfl (fun K hK => ?_) AllReady.nil)
        · go_simp
          refine hK _ _ ?_
          clear hK K
          refine wpAny_ready (rs := [1]) (by kernel_rfl) (by simp) ?_
          refine AllReady.cons rfl (fun K hK => ?_) AllReady.nil
          go_simp
          refine hK _ _ ?_
          clear hK K
          refine wpAny_ready (rs := [2]) (by kernel_rfl) (by simp) ?_
          refine AllReady.cons rfl (fun K hK => ?_) AllReady.nil
          go_simp
          go_at_call 25
          refine (token_any cs s I _ HSD.out hlt hs).mono ?_
          rw [HTK.out]
          rintro e w4 ⟨rfl, hk4⟩
          obtain ⟨hA, hB, hk5⟩ := hL4 w4 hk4
          have HK5 := Lib.hid hk5
          have g0 := hA.one
          have g1 := hB.one
          have glt := hB.lt
          clear hk4 hk5
          go_simp
          clear hK K
          refine leaves_cons (f := 21) (args := #[.pointer (some ⟨w.heap.size, 0, none⟩), .pointer (some ⟨w.heap.size + 1, 0, none⟩)]) (by simp) (by simp [go_sem]) ?_
          refine (tok_catch _ _ x _ _ [] _ g0.1 g1.1 g0.2 g1.2 (by omega) (by omega) glt).mono ?_
          rintro e u' w'' ⟨rfl, rfl, rfl⟩
          obtain ⟨W4, hW4, k0, k1, hk4⟩ := caught_cells2 (x := x) (o := .cells #[.int .i64 x] 78) hA hB
          rw [← hW4]
          simp [Leaves, settle, results, Tryd.results16, go_sem, k0, k1]
          rw [HRX.out]
          exact ⟨rfl, HFIN.out _ _ HK5.out hk4⟩
        · go_simp
          refine hK _ _ ?_
          clear hK K
          refine wpAny_ready (rs := [0, 2]) (by kernel_rfl) (by simp) ?_
          refine AllReady.cons rfl (fun K hK => ?_) (AllReady.cons rfl (fun K hK => ?_) AllReady.nil)
          · go_simp
            refine hK _ _ ?_
            clear hK K
            refine wpAny_ready (rs := [2]) (by kernel_rfl) (by simp) ?_
            refine AllReady.cons rfl (fun K hK => ?_) AllReady.nil
            go_simp
            go_at_call 25
            refine (token_any cs s I _ HSD.out hlt hs).mono ?_
            rw [HTK.out]
            rintro e w4 ⟨rfl, hk4⟩
            obtain ⟨hA, hB, hk5⟩ := hL4 w4 hk4
            have HK5 := Lib.hid hk5
            have g0 := hA.one
            have g1 := hB.one
            have glt := hB.lt
            clear hk4 hk5
            go_simp
            clear hK K
            refine leaves_cons (f := 21) (args := #[.pointer (some ⟨w.heap.size, 0, none⟩), .pointer (some ⟨w.heap.size + 1, 0, none⟩)]) (by simp) (by simp [go_sem]) ?_
            refine (tok_catch _ _ x _ _ [] _ g0.1 g1.1 g0.2 g1.2 (by omega) (by omega) glt).mono ?_
            rintro e u' w'' ⟨rfl, rfl, rfl⟩
            obtain ⟨W4, hW4, k0, k1, hk4⟩ := caught_cells2 (x := x) (o := .cells #[.int .i64 x] 78) hA hB
            rw [← hW4]
            simp [Leaves, settle, results, Tryd.results16, go_sem, k0, k1]
            rw [HRX.out]
            exact ⟨rfl, HFIN.out _ _ HK5.out hk4⟩
          · go_simp
            go_at_call 25
            refine (token_any cs s I _ HSD.out hlt hs).mono ?_
            rw [HTK.out]
            rintro e w4 ⟨rfl, hk4⟩
            obtain ⟨hA, hB, hk5⟩ := hL4 w4 hk4
            have HK5 := Lib.hid hk5
            have g0 := hA.one
            have g1 := hB.one
            have glt := hB.lt
            clear hk4 hk5
            go_simp
            clear hK K
            refine leaves_cons (f := 21) (args := #[.pointer (some ⟨w.heap.size, 0, none⟩), .pointer (some ⟨w.heap.size + 1, 0, none⟩)]) (by simp) (by simp [go_sem]) ?_
            refine (tok_catch _ _ x _ _ [] _ g0.1 g1.1 g0.2 g1.2 (by omega) (by omega) glt).mono ?_
            rintro e u' w'' ⟨rfl, rfl, rfl⟩
            obtain ⟨W4, hW4, k0, k1, hk4⟩ := caught_cells2 (x := x) (o := .cells #[.int .i64 x] 78) hA hB
            rw [← hW4]
            simp [Leaves, settle, results, Tryd.results16, go_sem, k0, k1]
            rw [HRX.out]
            exact ⟨rfl, HFIN.out _ _ HK5.out hk4⟩
      | ok xr =>
        obtain ⟨x, r1⟩ := xr
        have hrx : res = consL (l ++ [x]) (tokT M (skipF false r1)) := by
          rw [HR2.out, htk]
          show consL l (consT x (tokD (M + 1) r1)) = _
          rw [consL_cons, tokD_tokT]
        have hlen : r1.length ≤ (rest s (I + 1)).length := by
          have h := htk
          rw [rest_cons hlt] at h
          exact tokOne_len HB.out h
        have HRX := Lib.hid hrx
        have HTK := Lib.hid htk
        obtain ⟨c0, f0⟩ := HL3.out.r0.one
        obtain ⟨L, hL⟩ : ∃ L, L = l.length := ⟨_, rfl⟩
        obtain ⟨va, vc, rfl⟩ : ∃ a c, v = .slice a L c := by obtain ⟨a, c, e, _⟩ := HL3.out.own.shape; exact ⟨a, c, by rw [hL]; exact e⟩
        have hLI : L ≤ I := by rw [hL]; exact HL3.out.len
        have HSD := Lib.hid (show ScanAt w3.drew cs s I ((0 : Nat) : Int) from HL3.out.sc.keep (S := fun _ => False) (Keeps.refl _ _).drew (fun h => h))
        have HCALL := Lib.hid (show ∀ e w4, TokPost w3.drew cs s (.ok (x, r1)) e w4 → ∃ (I2 : Nat) (T : ByteArray) (ax : Option Addr) (xl cx : Nat) (xs : List Value), e = .returned (.agg #[.int .i64 (x.kind : Nat), .string T, .slice ax xl cx]) ∧ (I < I2 ∧ I2 ≤ s.size ∧ rest s I2 = r1) ∧ w4.ownsRow 0 65 3 (.slice va L vc) L xs ∧ w4.cell? ⟨w.heap.size, 0, none⟩ = some (.slice va L vc) ∧ w.heap.size < w4.heap.size ∧
            (∀ (g cap : Nat) (w5 : World) (o : Obj), w5.ownsRow 0 65 3 (.slice (some ⟨g, 0, none⟩) (L + 1) cap) (L + 1) (xs ++ [.int .i64 (x.kind : Nat), .string T, .slice ax xl cx]) → (w4.alloc o).grownBy w5 (Value.slice va L vc).ownBlock → ((Value.slice va L vc).ownBlock = some g ∨ g = w4.heap.size + 1) →
              w5.cell? ⟨w.heap.size, 0, none⟩ = some (.slice va L vc) ∧ w5.frozen? ⟨w.heap.size, 0, none⟩ = false ∧ TkLoop W (w5.setCell ⟨w.heap.size, 0, none⟩ (.slice (some ⟨g, 0, none⟩) (L + 1) cap)) w.heap.size cs s I2 (l ++ [x]) (.slice (some ⟨g, 0, none⟩) (L + 1) cap)) from fun e w4 hp => by
          subst hL
          obtain ⟨I2, n, T, tv, he, hT, hI2, hr2, hs2, hp2, hk2⟩ := hp
          obtain ⟨ax, cx, rfl, _, _⟩ := hp2.shape
          have hk' := (Keeps.refl (fun b => b = cs) w3).drew.trans hk2 (fun _ _ h => h)
          rw [← hr2, rest_len, rest_len] at hlen
          obtain ⟨xs, ho, hne, hF⟩ := HL3.out.more hk' hs2 (show I < I2 by omega) H12.out.1 H12.out.2.1 H12.out.2.2.1 H12.out.2.2.2 hp2
          obtain ⟨T⟩ := T
          have hT2 : T = x.text.toArray := by rw [← hT]
          refine ⟨I2, ⟨T⟩, ax, _, cx, xs, he, ⟨by omega, hI2, hr2⟩, ho, (HL3.out.r0.keep hk' (fun e => H12.out.1 e.symm)).one.1, (HL3.out.r0.keep hk' (fun e => H12.out.1 e.symm)).lt, fun g cap w5 o h1 h2 h3 => ?_⟩
          rw [hT2] at h1
          exact hF g cap w5 o h1 h2 h3)
        clear hrx htk hlen hL
        go_wp2_with fail
        first
          | go_region_law (first
            | (refine step_append_lies _ (by rfl) _ _ _ (by rfl) 0 65 i0 _ 3 48 Tryd.underlying51 hi0 hz0 hz1 hz2 rfl (by omega) (.slice va L vc) L xs (by rfl) (hown4.alloc _)
                ⟨w4.heap.size, 0, none⟩ 1 1 [.int .i64 (x.kind : Nat), .string T, .slice ax xl cx] (by rfl) (by rfl) (World.news_of_block (cs := #[.int .i64 (x.kind : Nat), .string T, .slice ax xl cx]) (t := 65) (fr := (0, 0)) (heap_alloc_new w4 _)) (by simp [Value.oneCell'])
                (by omega) (by unfold maxLen; omega) (by omega) (by simp) (w4.heap.size + 1) (by simp) ?_; intro gg cap w5 hown2 hgrow hat hlt5
               obtain ⟨y0, y1, hTL⟩ := HF.out gg cap w5 _ hown2 hgrow hat
               have HTL := Lib.hid hTL
               clear hTL hown2 hgrow hat)
            | (go_simp; go_at_call 25; refine (token_any cs s I _ HSD.out hlt hs).mono ?_; rw [HTK.out]; intro e w4 hp; obtain ⟨I2, T, ax, xl, cx, xs, he, hI2, hown4, c4, lw4, hF⟩ := HCALL.out e w4 hp; subst he; have HF := Lib.hid hF; have HI2 := Lib.hid hI2; clear hp hF hI2))
          | fail
        all_goals
          go_wp2_with fail
          refine (skip_any cs s I2 _ _ HTL.out.sc (by omega) HI2.out.2.1).mono ?_
          rintro e w6 ⟨rfl, J2, hJ1, hJ2, hJ3, hJ4, hJ5⟩
          have HL6 := Lib.hid (HTL.out.move hJ5 hJ4 hJ1 H12.out.1 H12.out.2.1 H12.out.2.2.1)
          have hjh : ∀ c t, rest s J2 = c :: t → (c == 32 || c == 9) = false := fun c t e => skip_head (hJ3.symm.trans e)
          have hjr : res = consL (l ++ [x]) (tokT M (rest s J2)) := by rw [HRX.out, hJ3, HI2.out.2.2]
          have HJR := Lib.hid hjr
          have HJH := Lib.hid hjh
          clear hJ3 hJ4 hJ5 hjh hjr HTL
          go_wp2_with fail
          go_roundg (s.size + 2 - J2)
          case measure => have := HGK.out; have := HI2.out.1; omega
          case rel => exact ⟨J2, M, l ++ [x], _, rfl, hJ2, HL6.out, by have := HI2.out.1; omega, HJR.out, HJH.out⟩
    · have he : decide (s.size ≤ I) = true := decide_eq_true hge
      have HE := Lib.hid he
      have hrx : res = .ok l := by rw [hr, rest_nil hge]; show Except.ok (l ++ []) = _; rw [List.append_nil]
      have HRX := Lib.hid hrx
      clear hr hrx he
      go_wp2_with fail
      refine (end_any cs s I _ _ HLP.out.sc).mono ?_
      rintro e w3 ⟨rfl, q2, rfl⟩
      rw [HE.out]
      obtain ⟨w3, hw3⟩ : ∃ w3, w3 = wr.drewN q2 := ⟨_, rfl⟩
      rw [← hw3]
      have HL3 := Lib.hid (show TkLoop W w3 w.heap.size cs s I l v from HLP.out.move (by rw [hw3]; exact (Keeps.refl _ _).drewN _) (by rw [hw3]; exact HLP.out.sc.drewN _) (Nat.le_refl _) H12.out.1 H12.out.2.1 H12.out.2.2.1)
      clear hw3
      obtain ⟨va, vn, vc, rfl⟩ : ∃ a n c, v = .slice a n c := by obtain ⟨a, c, e, _⟩ := HL3.out.own.shape; exact ⟨a, _, c, e⟩
      obtain ⟨c0, f0⟩ := HL3.out.r0.one
      obtain ⟨c1, f1⟩ := HL3.out.r1.one
      have glt := HL3.out.r1.lt
      go_wp2_with fail
      refine leaves_cons (f := 21) (args := #[.pointer (some ⟨w.heap.size, 0, none⟩), .pointer (some ⟨w.heap.size + 1, 0, none⟩)]) (by simp) (by simp [go_sem]) ?_
      refine (tok_catch_idle _ _ _).mono ?_
      rintro e u' w'' ⟨rfl, rfl, rfl⟩
      obtain ⟨W5, hW5, k0, k1, hk5⟩ := done_cells2 (u := .slice va vn vc) HL3.out.r0 HL3.out.r1
      rw [← hW5]
      refine ⟨.tuple #[.slice va vn vc, .int .i64 0], by simp [results, Tryd.results16, go_sem, k0, k1], ?_⟩
      rw [HRX.out]
      have hwz := HSZ.out
      have hwc := HCS.out
      have ho := HL3.out.own.keep hk5 (fun b hb hB e => by omega) (fun g hg e => by have := HL3.out.low g hg; omega)
      obtain ⟨n, hn⟩ := ho.reads (fun g hg => HL3.out.low g hg)
      exact ⟨_, n, rfl, hn.mono (fun b hb h => by omega), (HKW.out.trans HL3.out.kp (fun b hb e => by omega)).trans hk5 (fun b hb e => by omega)⟩

theorem tokens_any (s : ByteArray) (w : World) (hs : s.size ≤ 140737488351232) : Calls Tryd.prog 16 #[.string s] w (TokensPost w (tokensF s.data.toList)) := by
  unfold tokensF
  by_cases h : mayF s.data.toList = 0
  · rw [if_pos h]
    have hl : s.size ≤ 16384 := by
      unfold mayF at h
      rw [← Lib.size_eq] at h
      split at h
      · cases h
      · omega
    have := tokens_rest s w (by omega) h
    rw [rest0, Lib.size_eq] at this
    exact this
  · rw [if_neg h]
    exact tokens_long s w hs _ rfl h
end Go.Proofs.YtcahifkiiabioaaDoor
