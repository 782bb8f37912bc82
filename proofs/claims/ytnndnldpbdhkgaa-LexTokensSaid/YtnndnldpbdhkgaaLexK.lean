/-
  What stands in braces.
-/
import Derived.Test.YtnndnldpbdhkgaaLexJ
namespace Go.Proofs.Ytnndnldpbdhkgaa
open Go.RowKit
set_option linter.unusedVariables false

/-- A record. -/
def RecAt (w : World) (b : Nat) (l : List Value) : Prop := ∃ T, w.heap[b]? = some (.cells l.toArray T (0, 0))
theorem RecAt.lt {w : World} {b : Nat} {l : List Value} (h : RecAt w b l) : b < w.heap.size := by
  obtain ⟨T, h⟩ := h
  exact (Array.getElem?_eq_some_iff.1 h).1
theorem RecAt.six {w : World} {b : Nat} {a0 a1 a2 a3 a4 a5 : Value} (h : RecAt w b [a0, a1, a2, a3, a4, a5]) :
    (w.cell? ⟨b, 0, none⟩ = some a0 ∧ w.cell? ⟨b, 1, none⟩ = some a1 ∧ w.cell? ⟨b, 2, none⟩ = some a2 ∧ w.cell? ⟨b, 3, none⟩ = some a3 ∧ w.cell? ⟨b, 4, none⟩ = some a4 ∧ w.cell? ⟨b, 5, none⟩ = some a5) ∧
    (w.frozen? ⟨b, 0, none⟩ = false ∧ w.frozen? ⟨b, 1, none⟩ = false ∧ w.frozen? ⟨b, 2, none⟩ = false ∧ w.frozen? ⟨b, 3, none⟩ = false ∧ w.frozen? ⟨b, 4, none⟩ = false) := by
  obtain ⟨T, h⟩ := h
  refine ⟨⟨?_, ?_, ?_, ?_, ?_, ?_⟩, ?_, ?_, ?_, ?_, ?_⟩ <;> simp [World.cell?, World.frozen?, h]
theorem RecAt.set {w : World} {b : Nat} {l : List Value} (h : RecAt w b l) (k : Nat) (v : Value) : RecAt (w.setCell ⟨b, k, none⟩ v) b (l.set k v) := by
  obtain ⟨T, h⟩ := h
  exact ⟨T, by simp [World.setCell, Array.getElem?_modify, h]⟩
theorem RecAt.keep {w w' : World} {b : Nat} {l : List Value} {S : Nat → Prop} (h : RecAt w b l) (hk : Keeps S w w') (hb : ¬ S b) : RecAt w' b l := by
  have hl := h.lt
  obtain ⟨T, h⟩ := h
  exact ⟨T, (hk.block b hl hb).trans h⟩
/-- A field of the part is written. -/
theorem part_set {w : World} {cs pb : Nat} {s : ByteArray} {i d : Int} {l : List Value} (hs : ScanAt w cs s i d) (hr : RecAt w pb l) (hne : cs ≠ pb) (k : Nat) (v : Value) :
    ∃ w1, w1 = w.setCell ⟨pb, k, none⟩ v ∧ ScanAt w1 cs s i d ∧ RecAt w1 pb (l.set k v) ∧ Keeps (fun b => b = pb) w w1 := by
  have hk : Keeps (fun b => b = pb) w (w.setCell ⟨pb, k, none⟩ v) := (Keeps.refl _ _).setCell _ _ fun _ => rfl
  exact ⟨_, rfl, hs.keep hk hne, hr.set k v, hk⟩
abbrev Two (cs pb : Nat) (b : Nat) : Prop := b = cs ∨ b = pb
theorem two_c {w w1 w2 : World} {cs pb : Nat} (h : Keeps (Two cs pb) w w1) (k : Keeps (fun b => b = cs) w1 w2) : Keeps (Two cs pb) w w2 := h.trans k fun _ _ e => .inl e
theorem two_p {w w1 w2 : World} {cs pb : Nat} (h : Keeps (Two cs pb) w w1) (k : Keeps (fun b => b = pb) w1 w2) : Keeps (Two cs pb) w w2 := h.trans k fun _ _ e => .inr e

theorem opF_nil {l : List UInt8} (h : opF l = []) : headIs 35 l = false ∧ headIs 63 l = false := by
  cases l with
  | nil => exact ⟨rfl, rfl⟩
  | cons c t =>
    constructor
    · rw [Bool.eq_false_iff]
      intro e
      obtain rfl : c = 35 := beq_iff_eq.1 e
      revert h
      unfold opF findF opsL
      simp [List.find?, startsF]
      split <;> simp
    · rw [Bool.eq_false_iff]
      intro e
      obtain rfl : c = 63 := beq_iff_eq.1 e
      revert h
      unfold opF findF opsL
      simp [List.find?, startsF]
theorem long_name {r : List UInt8} {k : Nat} (h : longB r = true) (hk : k ≠ 0) : r.tail.take k ≠ [35] ∧ r.tail.take k ≠ [63] := by
  unfold longB at h
  simp only [Bool.and_eq_true] at h
  obtain ⟨⟨_, _⟩, h⟩ := h
  have h2 := opF_nil (List.isEmpty_iff.1 h)
  revert h2
  generalize r.tail = t
  intro h2
  cases t with
  | nil => simp
  | cons c t =>
    obtain ⟨k, rfl⟩ : ∃ k', k = k' + 1 := ⟨k - 1, by omega⟩
    rw [List.take_succ_cons]
    refine ⟨fun e => ?_, fun e => ?_⟩
    · have : c = 35 := (List.cons.inj e).1
      rw [this] at h2; exact absurd h2.1 (by simp [headIs])
    · have : c = 63 := (List.cons.inj e).1
      rw [this] at h2; exact absurd h2.2 (by simp [headIs])
theorem ba_not {s : ByteArray} {l : List UInt8} (h : s.data.toList ≠ l) : (s.toList == l) = false := by
  rw [Lib.toList_data]; exact beq_eq_false_iff_ne.2 h
theorem strV_of {s : ByteArray} {l : List UInt8} (h : s.data.toList = l) : strV l = .string s := by
  unfold strV; rw [← h]

/-- What stands behind a # that asks how long something is. -/
theorem long_rest (s : ByteArray) (i : Nat) : (if longB (rest s i) then (rest s i).tail else rest s i) = rest s (i + (longB (rest s i)).toNat) := by
  cases longB (rest s i)
  · rfl
  · show (rest s i).tail = _
    exact rest_drop1 s i
theorem long_le {s : ByteArray} {i : Nat} (hi : i ≤ s.size) : i + (longB (rest s i)).toNat ≤ s.size := by
  rcases Nat.lt_or_ge i s.size with h | h
  · have := Bool.toNat_le (longB (rest s i)); omega
  · have : longB (rest s i) = false := by rw [rest_nil h]; rfl
    rw [this]; exact hi
theorem rest_tail (s : ByteArray) (i : Nat) : (rest s i).tail = rest s (i + 1) := rest_drop1 s i
theorem startsF_le : ∀ {o l : List UInt8}, startsF o l = true → o.length ≤ l.length
  | [], _, _ => Nat.zero_le _
  | a :: p, [], h => by cases h
  | a :: p, b :: r, h => by
    have h2 : startsF p r = true := by
      unfold startsF at h
      simp only [Bool.and_eq_true] at h
      exact h.2
    have := startsF_le h2
    simp only [List.length_cons]; omega
theorem findF_le (L : List (List UInt8)) (l : List UInt8) : (findF L l).length ≤ l.length := by
  unfold findF
  cases h : L.find? fun o => startsF o l with
  | none => exact Nat.zero_le _
  | some o =>
    have h2 : (fun o => startsF o l) o = true := List.find?_some (p := fun o => startsF o l) h
    exact startsF_le h2
theorem opF_le (l : List UInt8) : (opF l).length ≤ l.length := findF_le _ l

/-- Braces' end. -/
theorem brace_end {w w1 : World} {cs pb I n : Nat} {s : ByteArray} {d : Nat} {q : Bool} {v : Value} {R O : ByteArray} {name op : List UInt8} {wd : List Pt} (hs : ScanAt w1 cs s I d) (hI : I ≤ s.size) (hr : RecAt w1 pb [.int .i64 3, .string ⟨#[]⟩, .string R, .string O, v, .bool q])
    (hR : R.data.toList = name) (hO : O.data.toList = op) (hw : PtsAt w1 (fun b => w.heap.size ≤ b) n wd v) (hk : Keeps (Two cs pb) w w1) :
    BracePost w cs pb s d (.ok ([.mk 3 [] name op wd q], rest s I)) (.returned (.tuple #[])) w1 := by
  refine ⟨rfl, I, n, _, v, hI, rfl, rfl, rfl, rfl, hs, ?_, hw, hk⟩
  show RecAt w1 pb (cellsP _ v)
  unfold cellsP
  show RecAt w1 pb [.int .i64 ((3 : Nat) : Int), strV [], strV name, strV op, v, .bool q]
  rw [strV_of hR, strV_of hO]
  exact hr

set_option maxRecDepth 100000 in
set_option maxHeartbeats 8000000 in
theorem brace_step (n : Nat) (IH : ∀ m, m < n → Does m) (q : Bool) (cs pb : Nat) (s : ByteArray) (i d : Nat) (w : World) (hsc : ScanAt w cs s i d) (hi : i ≤ s.size) (hd : d ≤ 40) (hs : s.size ≤ 20000) (hne : cs ≠ pb) (hp : PartAt w pb (.mk 0 [] [] [] [] q) (.slice none 0 0)) (hn : 2 * (s.size - i) + 1 ≤ n) :
    Calls Try.prog 65 #[.pointer (some ⟨cs, 0, none⟩), .pointer (some ⟨pb, 0, none⟩)] w (BracePost w cs pb s d (lexD n (.brace q) d (rest s i))) := by
  obtain ⟨m, rfl⟩ : ∃ m, n = m + 1 := ⟨n - 1, by omega⟩
  have HD := Lib.hid (IH m (by omega))
  have hrec : RecAt w pb [.int .i64 0, .string ⟨#[]⟩, .string ⟨#[]⟩, .string ⟨#[]⟩, .slice none 0 0, .bool q] := hp
  obtain ⟨res, hres⟩ : ∃ res, res = lexD (m + 1) (.brace q) d (rest s i) := ⟨_, rfl⟩
  rw [← hres]
  rw [lexD_brace, long_rest] at hres
  have hjl := long_le hi
  obtain ⟨L, hL⟩ : ∃ L, L = longB (rest s i) := ⟨_, rfl⟩
  rw [← hL] at hres hjl
  obtain ⟨j, hj⟩ : ∃ j, j = i + L.toNat := ⟨_, rfl⟩
  rw [← hj] at hres hjl
  obtain ⟨k, hk⟩ : ∃ k, k = nameF true (rest s j) := ⟨_, rfl⟩
  rw [← hk, rest_drop] at hres
  have hkl : k ≤ s.size - j := by rw [hk, ← rest_len]; exact nameF_le _ _
  have hij : i ≤ j := by omega
  have HSC := Lib.hid hsc
  have HL := Lib.hid hL
  have HJ := Lib.hid hj
  have HK := Lib.hid hk
  have HRES := Lib.hid hres
  have HREC := Lib.hid hrec
  obtain ⟨⟨_, _, _, _, _, _⟩, f0, _, _, _, _⟩ := hrec.six
  have hlt0 := hrec.lt
  clear hsc IH hres hp hL hj hk hrec
  go_enter Try.func65, Try.ntmps65
  go_wp2_with fail
  obtain ⟨w1, hw1, hs1, hr1, hk1⟩ := part_set HSC.out HREC.out hne 0 (.int .i64 3)
  rw [← hw1]
  have HK1 := Lib.hid (two_p (Keeps.refl (Two cs pb) w) hk1)
  have HS1 := Lib.hid hs1
  have HR1 := Lib.hid (show RecAt w1 pb [.int .i64 3, .string ⟨#[]⟩, .string ⟨#[]⟩, .string ⟨#[]⟩, .slice none 0 0, .bool q] from hr1)
  clear hw1 hs1 hr1 hk1 f0
  refine (long_any cs s i d _ HS1.out (by omega) hi).mono ?_
  rw [← HL.out, ← HJ.out]
  rintro e w2 ⟨rfl, hs2, hk2⟩
  have HS2 := Lib.hid hs2
  have HR2 := Lib.hid (HR1.out.keep hk2 (fun h => hne h.symm))
  have HK2 := Lib.hid (two_c HK1.out hk2)
  clear hs2 hk2
  go_wp2_with fail
  refine (name_any cs s j d _ true HS2.out (by omega) hjl k HK.out.symm).mono ?_
  rintro e w3 ⟨R, rfl, hR, hs3, hk3⟩
  have hr3 := HR2.out.keep hk3 (fun h => hne h.symm)
  have HR := Lib.hid hR
  have HS3 := Lib.hid hs3
  have HR3 := Lib.hid hr3
  have HK3 := Lib.hid (two_c HK2.out hk3)
  obtain ⟨⟨_, _, _, _, _, _⟩, _, _, f2, _, _⟩ := hr3.six
  clear hR hs3 hk3 hr3
  by_cases hk0 : k = 0
  · have hr5 := HRES.out
    rw [if_pos hk0] at hr5
    have HRF := Lib.hid hr5
    obtain ⟨t1, t2⟩ := ba_empty (s := R) (by rw [HR.out, hk0, List.take_zero])
    clear hr5 hk0
    go_wp2_with fail
    obtain ⟨w4, hw4, hs4, hr4, hk4⟩ := part_set HS3.out HR3.out hne 2 (.string R)
    rw [← hw4]
    have HK4 := Lib.hid (two_p HK3.out hk4)
    have HS4 := Lib.hid hs4
    have hr4' : RecAt w4 pb [.int .i64 3, .string ⟨#[]⟩, .string R, .string ⟨#[]⟩, .slice none 0 0, .bool q] := hr4
    have HR4 := Lib.hid hr4'
    obtain ⟨⟨_, _, c2, _, _, _⟩, _, _, _, f3, _⟩ := hr4'.six
    clear hw4 hs4 hr4 hk4 f2 hr4'
    refine (fail_any 2 _).mono ?_
    rintro e w9 ⟨rfl, rfl⟩
    go_wp2_with fail
    refine ⟨rfl, ?_⟩
    rw [HRF.out]
    exact ⟨rfl, HK4.out⟩
  · have hne0 : R.data.toList ≠ [] := by
      intro h
      have h2 := congrArg List.length (HR.out.symm.trans h)
      rw [List.length_take, rest_len] at h2
      simp only [List.length_nil] at h2
      omega
    obtain ⟨t1, t2⟩ := ba_full (s := R) hne0
    clear hne0
    cases L with
    | true =>
      have hnm := long_name (r := rest s i) HL.out.symm hk0
      rw [rest_tail] at hnm
      have hj1 : j = i + 1 := HJ.out
      rw [← hj1, ← HR.out] at hnm
      have t3 : (R.toList == [35]) = false := ba_not hnm.1
      have t4 : (R.toList == [63]) = false := ba_not hnm.2
      clear hnm hj1
      cases hh : headIs 125 (rest s (j + k)) with
      | true =>
        have hr5 := HRES.out
        rw [if_neg hk0, if_pos hh] at hr5
        rw [HR.out.symm] at hr5
        have HRF := Lib.hid hr5
        have HH := Lib.hid hh
        clear hr5 hk0 hh
        go_wp2_with fail
        obtain ⟨w4, hw4, hs4, hr4, hk4⟩ := part_set HS3.out HR3.out hne 2 (.string R)
        rw [← hw4]
        have HK4 := Lib.hid (two_p HK3.out hk4)
        have HS4 := Lib.hid hs4
        have hr4' : RecAt w4 pb [.int .i64 3, .string ⟨#[]⟩, .string R, .string ⟨#[]⟩, .slice none 0 0, .bool q] := hr4
        have HR4 := Lib.hid hr4'
        obtain ⟨⟨_, _, c2, _, _, _⟩, _, _, _, f3, _⟩ := hr4'.six
        clear hw4 hs4 hr4 hk4 f2 hr4'
        refine (is_yes cs s ⟨#[125]⟩ (j + k) d _ HS4.out (by omega) (by omega) (by decide) (by rw [hasPrefix_starts, starts_one]; exact HH.out)).mono ?_
        rintro e w5 ⟨rfl, hs5, hk5⟩
        have HS5 := Lib.hid hs5
        have hr6 := HR4.out.keep hk5 (fun h => hne h.symm)
        have HR5 := Lib.hid hr6
        have HK5 := Lib.hid (two_c HK4.out hk5)
        obtain ⟨⟨_, _, _, _, _, _⟩, _, _, _, g3, _⟩ := hr6.six
        have hlt : j + k < s.size := by
          rcases Nat.lt_or_ge (j + k) s.size with x | x
          · exact x
          · have := HH.out; rw [rest_nil x] at this; cases this
        clear hs5 hk5 hr6
        go_wp2_with fail
        obtain ⟨w6, hw6, hs6, hr6, hk6⟩ := part_set HS5.out HR5.out hne 3 (.string ⟨#[76]⟩)
        rw [← hw6]
        go_end0
        rw [HRF.out, if_pos trivial, rest_tail]
        exact brace_end hs6 hlt hr6 rfl rfl (PtsAt.nil _ _ 0) (two_p HK5.out hk6)
      | false =>
        have hr5 := HRES.out
        rw [if_neg hk0, hh, if_neg (by simp)] at hr5
        have HRF0 := Lib.hid hr5
        have HH := Lib.hid hh
        clear hr5 hk0 hh
        go_wp2_with fail
        obtain ⟨w4, hw4, hs4, hr4, hk4⟩ := part_set HS3.out HR3.out hne 2 (.string R)
        rw [← hw4]
        have HK4 := Lib.hid (two_p HK3.out hk4)
        have HS4 := Lib.hid hs4
        have hr4' : RecAt w4 pb [.int .i64 3, .string ⟨#[]⟩, .string R, .string ⟨#[]⟩, .slice none 0 0, .bool q] := hr4
        have HR4 := Lib.hid hr4'
        obtain ⟨⟨_, _, c2, _, _, _⟩, _, _, _, f3, _⟩ := hr4'.six
        clear hw4 hs4 hr4 hk4 f2 hr4'
        refine (is_no cs s ⟨#[125]⟩ (j + k) d _ HS4.out (by omega) (by rw [hasPrefix_starts, starts_one]; exact HH.out)).mono ?_
        rintro e w5 ⟨rfl, q5, rfl⟩
        go_wp2_with fail
        refine (op_any cs s (j + k) d _ (HS4.out.drewN q5) (by omega) (by omega)).mono ?_
        rintro e w5 ⟨O, rfl, hO, hs5, hk5⟩
        have hkq : Keeps (fun b => b = cs) w4 (w4.drewN q5) := (Keeps.refl _ _).drewN _
        have hr6 := (HR4.out.keep hkq (fun h => hne h.symm)).keep hk5 (fun h => hne h.symm)
        have HS5 := Lib.hid hs5
        have HR5 := Lib.hid hr6
        have HK5 := Lib.hid (two_c (two_c HK4.out hkq) hk5)
        have HO := Lib.hid hO
        obtain ⟨⟨_, _, _, _, _, _⟩, _, _, _, g3, _⟩ := hr6.six
        obtain ⟨_, _, m2, _, mf2⟩ := hs5.cells
        clear hO hs5 hk5 hr6 hkq
        clear t1 t2 t3 t4
        by_cases ho : opF (rest s (j + k)) = []
        · obtain ⟨t1, t2⟩ := ba_empty (s := O) (HO.out.trans ho)
          have hr5 := HRF0.out
          rw [ho, if_pos (by rfl)] at hr5
          have HRF := Lib.hid hr5
          clear hr5 ho
          go_wp2_with fail
          obtain ⟨w6, hw6, hs6, hr6, hk6⟩ := part_set HS5.out HR5.out hne 3 (.string O)
          rw [← hw6]
          have HK6 := Lib.hid (two_p HK5.out hk6)
          have HS6 := Lib.hid hs6
          have hr6' : RecAt w6 pb [.int .i64 3, .string ⟨#[]⟩, .string R, .string O, .slice none 0 0, .bool q] := hr6
          have HR6 := Lib.hid hr6'
          obtain ⟨⟨_, _, _, d3, _, d5⟩, _, _, _, _, f4⟩ := hr6'.six
          obtain ⟨_, _, e2, _, g2⟩ := hs6.cells
          clear hw6 hs6 hr6 hk6 g3 hr6'
          refine (fail_any 2 _).mono ?_
          rintro e w9 ⟨rfl, rfl⟩
          go_wp2_with fail
          refine ⟨rfl, ?_⟩
          rw [HRF.out]
          exact ⟨rfl, HK6.out⟩
        · obtain ⟨t1, t2⟩ := ba_full (s := O) (by rw [HO.out]; exact ho)
          have hr5 := HRF0.out
          rw [if_pos (by simp)] at hr5
          have HRF := Lib.hid hr5
          clear hr5 ho
          go_wp2_with fail
          obtain ⟨w6, hw6, hs6, hr6, hk6⟩ := part_set HS5.out HR5.out hne 3 (.string O)
          rw [← hw6]
          have HK6 := Lib.hid (two_p HK5.out hk6)
          have HS6 := Lib.hid hs6
          have hr6' : RecAt w6 pb [.int .i64 3, .string ⟨#[]⟩, .string R, .string O, .slice none 0 0, .bool q] := hr6
          have HR6 := Lib.hid hr6'
          obtain ⟨⟨_, _, _, d3, _, d5⟩, _, _, _, _, f4⟩ := hr6'.six
          obtain ⟨_, _, e2, _, g2⟩ := hs6.cells
          clear hw6 hs6 hr6 hk6 g3 hr6'
          refine (fail_any 2 _).mono ?_
          rintro e w9 ⟨rfl, rfl⟩
          go_wp2_with fail
          refine ⟨rfl, ?_⟩
          rw [HRF.out]
          exact ⟨rfl, HK6.out⟩
    | false =>
      cases hh : headIs 125 (rest s (j + k)) with
      | true =>
        have hr5 := HRES.out
        rw [if_neg hk0, if_pos hh] at hr5
        rw [HR.out.symm] at hr5
        have HRF := Lib.hid hr5
        have HH := Lib.hid hh
        clear hr5 hk0 hh
        go_wp2_with fail
        obtain ⟨w4, hw4, hs4, hr4, hk4⟩ := part_set HS3.out HR3.out hne 2 (.string R)
        rw [← hw4]
        have HK4 := Lib.hid (two_p HK3.out hk4)
        have HS4 := Lib.hid hs4
        have hr4' : RecAt w4 pb [.int .i64 3, .string ⟨#[]⟩, .string R, .string ⟨#[]⟩, .slice none 0 0, .bool q] := hr4
        have HR4 := Lib.hid hr4'
        obtain ⟨⟨_, _, c2, _, _, _⟩, _, _, _, f3, _⟩ := hr4'.six
        clear hw4 hs4 hr4 hk4 f2 hr4'
        refine (is_yes cs s ⟨#[125]⟩ (j + k) d _ HS4.out (by omega) (by omega) (by decide) (by rw [hasPrefix_starts, starts_one]; exact HH.out)).mono ?_
        rintro e w5 ⟨rfl, hs5, hk5⟩
        have HS5 := Lib.hid hs5
        have hr6 := HR4.out.keep hk5 (fun h => hne h.symm)
        have HR5 := Lib.hid hr6
        have HK5 := Lib.hid (two_c HK4.out hk5)
        obtain ⟨⟨_, _, _, _, _, _⟩, _, _, _, g3, _⟩ := hr6.six
        have hlt : j + k < s.size := by
          rcases Nat.lt_or_ge (j + k) s.size with x | x
          · exact x
          · have := HH.out; rw [rest_nil x] at this; cases this
        clear hs5 hk5 hr6
        go_wp2_with fail
        go_end0
        rw [HRF.out, if_neg (by simp), rest_tail]
        exact brace_end HS5.out hlt HR5.out rfl rfl (PtsAt.nil _ _ 0) HK5.out
      | false =>
        have hr5 := HRES.out
        rw [if_neg hk0, hh, if_neg (by simp)] at hr5
        have HRF0 := Lib.hid hr5
        have HH := Lib.hid hh
        clear hr5 hk0 hh
        go_wp2_with fail
        obtain ⟨w4, hw4, hs4, hr4, hk4⟩ := part_set HS3.out HR3.out hne 2 (.string R)
        rw [← hw4]
        have HK4 := Lib.hid (two_p HK3.out hk4)
        have HS4 := Lib.hid hs4
        have hr4' : RecAt w4 pb [.int .i64 3, .string ⟨#[]⟩, .string R, .string ⟨#[]⟩, .slice none 0 0, .bool q] := hr4
        have HR4 := Lib.hid hr4'
        obtain ⟨⟨_, _, c2, _, _, _⟩, _, _, _, f3, _⟩ := hr4'.six
        clear hw4 hs4 hr4 hk4 f2 hr4'
        refine (is_no cs s ⟨#[125]⟩ (j + k) d _ HS4.out (by omega) (by rw [hasPrefix_starts, starts_one]; exact HH.out)).mono ?_
        rintro e w5 ⟨rfl, q5, rfl⟩
        go_wp2_with fail
        refine (op_any cs s (j + k) d _ (HS4.out.drewN q5) (by omega) (by omega)).mono ?_
        rintro e w5 ⟨O, rfl, hO, hs5, hk5⟩
        have hkq : Keeps (fun b => b = cs) w4 (w4.drewN q5) := (Keeps.refl _ _).drewN _
        have hr6 := (HR4.out.keep hkq (fun h => hne h.symm)).keep hk5 (fun h => hne h.symm)
        have HS5 := Lib.hid hs5
        have HR5 := Lib.hid hr6
        have HK5 := Lib.hid (two_c (two_c HK4.out hkq) hk5)
        have HO := Lib.hid hO
        obtain ⟨⟨_, _, _, _, _, _⟩, _, _, _, g3, _⟩ := hr6.six
        obtain ⟨_, _, m2, _, mf2⟩ := hs5.cells
        clear hO hs5 hk5 hr6 hkq
        clear t1 t2
        by_cases ho : opF (rest s (j + k)) = []
        · obtain ⟨t1, t2⟩ := ba_empty (s := O) (HO.out.trans ho)
          have hr5 := HRF0.out
          rw [ho, if_pos (by rfl)] at hr5
          have HRF := Lib.hid hr5
          clear hr5 ho
          go_wp2_with fail
          obtain ⟨w6, hw6, hs6, hr6, hk6⟩ := part_set HS5.out HR5.out hne 3 (.string O)
          rw [← hw6]
          have HK6 := Lib.hid (two_p HK5.out hk6)
          have HS6 := Lib.hid hs6
          have hr6' : RecAt w6 pb [.int .i64 3, .string ⟨#[]⟩, .string R, .string O, .slice none 0 0, .bool q] := hr6
          have HR6 := Lib.hid hr6'
          obtain ⟨⟨_, _, _, d3, _, d5⟩, _, _, _, _, f4⟩ := hr6'.six
          obtain ⟨_, _, e2, _, g2⟩ := hs6.cells
          clear hw6 hs6 hr6 hk6 g3 hr6'
          refine (fail_any 2 _).mono ?_
          rintro e w9 ⟨rfl, rfl⟩
          go_wp2_with fail
          refine ⟨rfl, ?_⟩
          rw [HRF.out]
          exact ⟨rfl, HK6.out⟩
        · obtain ⟨t1, t2⟩ := ba_full (s := O) (by rw [HO.out]; exact ho)
          have hr5 := HRF0.out
          have ho2 : (opF (rest s (j + k))).isEmpty = false := by cases hx : opF (rest s (j + k)) with | nil => exact absurd hx ho | cons a b => rfl
          rw [ho2, if_neg (by simp)] at hr5
          by_cases h40 : d = 40
          · rw [if_pos h40] at hr5
            have HRF := Lib.hid hr5
            have e40 : ((d : Int) == 40) = true := by rw [beq_iff_eq]; omega
            clear hr5 ho ho2 h40
            go_wp2_with fail
            obtain ⟨w6, hw6, hs6, hr6, hk6⟩ := part_set HS5.out HR5.out hne 3 (.string O)
            rw [← hw6]
            have HK6 := Lib.hid (two_p HK5.out hk6)
            have HS6 := Lib.hid hs6
            have hr6' : RecAt w6 pb [.int .i64 3, .string ⟨#[]⟩, .string R, .string O, .slice none 0 0, .bool q] := hr6
            have HR6 := Lib.hid hr6'
            obtain ⟨⟨_, _, _, d3, _, d5⟩, _, _, _, _, f4⟩ := hr6'.six
            obtain ⟨_, _, e2, _, g2⟩ := hs6.cells
            clear hw6 hs6 hr6 hk6 g3 hr6'
            refine (fail_any 3 _).mono ?_
            rintro e w9 ⟨rfl, rfl⟩
            go_wp2_with fail
            refine ⟨rfl, ?_⟩
            rw [HRF.out]
            exact ⟨rfl, HK6.out⟩
          · rw [if_neg h40, rest_drop] at hr5
            have HRF0 := Lib.hid hr5
            have e40 : ((d : Int) == 40) = false := by rw [beq_eq_false_iff_ne]; omega
            have w1e : IntKind.i64.wrap ((d : Int) + 1) = (d : Int) + 1 := IntWalk.i64_in _ (by omega)
            have hol := opF_le (rest s (j + k))
            rw [rest_len] at hol
            have hop : 1 ≤ (opF (rest s (j + k))).length := by
              rcases Nat.eq_zero_or_pos (opF (rest s (j + k))).length with x | x
              · exact absurd (List.eq_nil_of_length_eq_zero x) ho
              · exact x
            obtain ⟨p, hpe⟩ : ∃ p, p = j + k + (opF (rest s (j + k))).length := ⟨_, rfl⟩
            rw [← hpe] at hr5
            have HRF1 := Lib.hid hr5
            have HPE := Lib.hid hpe
            have hp1 : p ≤ s.size := by omega
            have hp2 : i + 1 ≤ p := by omega
            clear hr5 ho ho2 HRF0 hpe hol hop
            go_wp2_with fail
            obtain ⟨w6, hw6, hs6, hr6, hk6⟩ := part_set HS5.out HR5.out hne 3 (.string O)
            rw [← hw6]
            have HK6 := Lib.hid (two_p HK5.out hk6)
            have HS6 := Lib.hid hs6
            have hr6' : RecAt w6 pb [.int .i64 3, .string ⟨#[]⟩, .string R, .string O, .slice none 0 0, .bool q] := hr6
            have HR6 := Lib.hid hr6'
            obtain ⟨⟨_, _, _, d3, _, d5⟩, _, _, _, _, f4⟩ := hr6'.six
            obtain ⟨_, _, e2, _, g2⟩ := hs6.cells
            clear hw6 hs6 hr6 hk6 g3 hr6'
            have hs6p := HS6.out
            rw [← HPE.out] at hs6p
            have HSP := Lib.hid hs6p
            clear hs6p
            obtain ⟨w7, hw7⟩ : ∃ w7, w7 = w6.setCell ⟨cs, 2, none⟩ (.int .i64 ((d : Int) + 1)) := ⟨_, rfl⟩
            rw [← hw7]
            have hs7 : ScanAt w7 cs s p ((d + 1 : Nat) : Int) := by rw [hw7]; exact HSP.out.set2 _
            have hk7 : Keeps (fun b => b = cs) w6 w7 := by rw [hw7]; exact keep_end0 _ _ _ _
            have hr7 := HR6.out.keep hk7 (fun h => hne h.symm)
            have HS7 := Lib.hid hs7
            have HR7 := Lib.hid hr7
            have HK7 := Lib.hid (two_c HK6.out hk7)
            obtain ⟨⟨_, _, _, _, _, k5⟩, _, _, _, _, _⟩ := hr7.six
            clear hw7 hs7 hr7 hk7 f4 e2 g2 d3 d5
            go_wp2_with fail
            refine (HD.out.br q cs s p (d + 1) _ HS7.out hp1 (by omega) hs (by omega)).mono ?_
            intro e w8 hin
            cases hres2 : lexD m (.br q) (d + 1) (rest s p) with
            | error x =>
              rw [hres2] at hin
              have hr2 := HRF1.out
              rw [hres2] at hr2
              have HRF := Lib.hid hr2
              obtain ⟨he, hk8⟩ := hin
              subst he
              have HK8 := Lib.hid (two_c HK7.out hk8)
              clear hres2 hr2 hk8
              go_wp2_with fail
              refine ⟨rfl, ?_⟩
              rw [HRF.out]
              exact ⟨rfl, HK8.out⟩
            | ok lr =>
              obtain ⟨l2, r2⟩ := lr
              rw [hres2] at hin
              have hr2 := HRF1.out
              rw [hres2] at hr2
              dsimp only at hr2
              obtain ⟨I2, N2, v, he, a1, a2, a3, a4, a5⟩ := hin
              subst he
              obtain ⟨ax, cx, rfl, _, _⟩ := a4.shape
              have hr8 := HR7.out.keep a5 (fun h => hne h.symm)
              have HRF := Lib.hid hr2
              have HS8 := Lib.hid a3
              have HP8 := Lib.hid a4
              have HR8 := Lib.hid hr8
              have HK8 := Lib.hid (two_c HK7.out a5)
              have HA2 := Lib.hid a2
              obtain ⟨⟨_, _, _, _, _, _⟩, _, _, _, _, f4⟩ := hr8.six
              have HPS := Lib.hid (part_set HS8.out HR8.out hne 4 (.slice ax (tidyF l2).length cx))
              obtain ⟨_, _, e2, _, g2⟩ := (show ScanAt w8 cs s I2 ((d : Int) + 1) from a3).cells
              have w2e : IntKind.i64.wrap ((d : Int) + 1 - 1) = (d : Int) := by rw [show ((d : Int) + 1 - 1) = (d : Int) by omega]; exact IntWalk.i64_in _ (by omega)
              have w3e : IntKind.i64.wrap (d : Int) = (d : Int) := IntWalk.i64_in _ (by omega)
              clear hres2 hr2 a2 a3 a4 a5 hr8 k5
              go_wp2_with fail
              obtain ⟨w9, hw9, hs9, hr9, hk9⟩ := HPS.out
              rw [← hw9]
              have HK9 := Lib.hid (two_p HK8.out hk9)
              have HS9 := Lib.hid hs9
              have HR9 := Lib.hid hr9
              have HP9 := Lib.hid (HP8.out.keep hk9 (fun b hb hx e => by have := HR7.out.lt; omega))
              clear hw9 hs9 hr9 hk9 f4
              go_end0
              rw [HRF.out, ← HA2.out, ← HR.out, ← HO.out]
              have hkx := keep_end0 w9 cs 2 (.int .i64 (d : Int))
              exact brace_end (HS9.out.set2 _) a1 (HR9.out.keep hkx (fun h => hne h.symm)) rfl rfl ((HP9.out.keep hkx (fun b hb hx e => by have := HSC.out.lt; have := HK7.out.size; omega)).mono (fun b _ h => by have := HK7.out.size; omega)) (two_c HK9.out hkx)
end Go.Proofs.Ytnndnldpbdhkgaa
