/-
  LexQuotes: plain, and the walk.
-/
import Derived.Test.YtnndnldpbdhkgaaLexBD
namespace Go.Proofs.Ytnndnldpbdhkgaa
open Go.RowKit
set_option linter.unusedVariables false

/-- What may stand in quotes. -/
def inQ (two : Bool) (c : UInt8) : Bool := !(c == 0 || c == 39 || (two && (c == 34 || c == 92 || c == 36 || c == 96)))
theorem until_behind {q : UInt8} : ∀ {s : List UInt8}, (∀ c ∈ s, (c == q) = false) → ∀ r, untilF q (s ++ q :: r) = some s.length
  | [], _, r => by simp [untilF]
  | c :: s, h, r => by
    rw [List.cons_append]
    unfold untilF
    rw [h c (List.mem_cons_self ..), if_neg (by simp), until_behind (fun x hx => h x (List.mem_cons_of_mem _ hx)) r]
    rfl
theorem until_none {q : UInt8} : ∀ {s : List UInt8}, (∀ c ∈ s, (c == q) = false) → untilF q s = none
  | [], _ => rfl
  | c :: s, h => by
    unfold untilF
    rw [h c (List.mem_cons_self ..), if_neg (by simp), until_none (fun x hx => h x (List.mem_cons_of_mem _ hx))]
    rfl
theorem inn_plain {c : UInt8} (h : inQ true c = true) (n d : Nat) (t : List UInt8) : lexD (n + 1) (.one true) d (c :: t) = .ok ([quoP [c]], t) := by
  simp only [inQ, Bool.true_and, Bool.not_eq_true', Bool.or_eq_false_iff] at h
  obtain ⟨⟨h0, h1⟩, ⟨⟨h2, h3⟩, h4⟩, h5⟩ := h
  rw [lexD_inn, h2, h3, h4, h5]
  rfl
theorem dq_run : ∀ (s r : List UInt8) (n d : Nat), (∀ c ∈ s, inQ true c = true) → s.length + 2 ≤ n → lexD n .dq d (s ++ 34 :: r) = .ok (s.map fun c => quoP [c], r)
  | [], r, n, d, _, hn => by
    obtain ⟨n, rfl⟩ : ∃ m, n = m + 1 := ⟨n - 1, by simp at hn; omega⟩
    rw [lexD_dq]; rfl
  | c :: s, r, n, d, h, hn => by
    simp only [List.length_cons] at hn
    obtain ⟨n, rfl⟩ : ∃ m, n = m + 1 + 1 := ⟨n - 2, by omega⟩
    rw [lexD_dq]
    have hc := h c (List.mem_cons_self ..)
    have h34 : (c == 34) = false := by
      simp only [inQ, Bool.true_and, Bool.not_eq_true', Bool.or_eq_false_iff] at hc
      exact hc.2.1.1.1
    rw [List.cons_append]
    dsimp only
    rw [h34, if_neg (by simp), inn_plain hc]
    dsimp only
    rw [dq_run s r (n + 1) d (fun x hx => h x (List.mem_cons_of_mem _ hx)) (by omega)]
    rfl
theorem dq_open : ∀ (s : List UInt8) (n d : Nat), (∀ c ∈ s, inQ true c = true) → s.length + 2 ≤ n → lexD n .dq d s = .error 2
  | [], n, d, _, hn => by
    obtain ⟨n, rfl⟩ : ∃ m, n = m + 1 := ⟨n - 1, by simp at hn; omega⟩
    rw [lexD_dq]
  | c :: s, n, d, h, hn => by
    simp only [List.length_cons] at hn
    obtain ⟨n, rfl⟩ : ∃ m, n = m + 1 + 1 := ⟨n - 2, by omega⟩
    rw [lexD_dq]
    have hc := h c (List.mem_cons_self ..)
    have h34 : (c == 34) = false := by
      simp only [inQ, Bool.true_and, Bool.not_eq_true', Bool.or_eq_false_iff] at hc
      exact hc.2.1.1.1
    dsimp only
    rw [h34, if_neg (by simp), inn_plain hc]
    dsimp only
    rw [dq_open s (n + 1) d (fun x hx => h x (List.mem_cons_of_mem _ hx)) (by omega)]
    rfl
def quoB (two : Bool) : UInt8 := if two then 34 else 39
theorem quote_lex (two : Bool) {s : List UInt8} (h : ∀ c ∈ s, inQ two c = true) (r : List UInt8) : ∃ l, lexC (.one false) 0 (quoB two :: (s ++ quoB two :: r)) = .ok (l, r) ∧ tidyF l = [quoP s] := by
  cases two with
  | false =>
    refine ⟨[quoP s], ?_, ?_⟩
    · show lexD (2 * (39 :: (s ++ 39 :: r)).length + 1 + 1) (.one false) 0 (39 :: (s ++ 39 :: r)) = _
      rw [lexD_out, if_pos (by decide), until_behind (fun c hc => by have := h c hc; simp only [inQ, Bool.false_and, Bool.or_false, Bool.not_eq_true', Bool.or_eq_false_iff] at this; exact this.2) r]
      simp
    · cases s with
      | nil => rfl
      | cons c t => rfl
  | true =>
    refine ⟨quoP [] :: s.map fun c => quoP [c], ?_, tidy_quo s⟩
    show lexD (2 * (34 :: (s ++ 34 :: r)).length + 1 + 1) (.one false) 0 (34 :: (s ++ 34 :: r)) = _
    rw [lexD_out, if_neg (by decide), if_pos (by decide), dq_run s r _ _ h (by simp; omega)]
    rfl
theorem quote_open (two : Bool) {s : List UInt8} (h : ∀ c ∈ s, inQ two c = true) : lexC (.one false) 0 (quoB two :: s) = .error 2 := by
  cases two with
  | false =>
    show lexD (2 * (39 :: s).length + 1 + 1) (.one false) 0 (39 :: s) = _
    rw [lexD_out, if_pos (by decide), until_none (fun c hc => by have := h c hc; simp only [inQ, Bool.false_and, Bool.or_false, Bool.not_eq_true', Bool.or_eq_false_iff] at this; exact this.2)]
  | true =>
    show lexD (2 * (34 :: s).length + 1 + 1) (.one false) 0 (34 :: s) = _
    rw [lexD_out, if_neg (by decide), if_pos (by decide), dq_open s _ _ h (by simp; omega)]
    rfl
theorem quote_head (two : Bool) : breaksB (quoB two) = false ∧ opHead (quoB two) = false ∧ (quoB two == 32 || quoB two == 9) = false ∧ (quoB two == 35) = false ∧ (quoB two == 92) = false ∧ (quoB two == 38) = false := by cases two <;> decide
theorem quote_toks (two : Bool) {s : List UInt8} (h : ∀ c ∈ s, inQ two c = true) : tokC (quoB two :: (s ++ [quoB two])) = .ok [⟨1, [], [quoP s]⟩] := by
  obtain ⟨h1, h2, h3, h4, h5, h6⟩ := quote_head two
  obtain ⟨l, hl, ht⟩ := quote_lex two h []
  rw [tokC_eq, skip_stay h3 h4 h5]
  dsimp only
  rw [tokOne_word (operF_nil h2 _) h6, wordC_cons, h1, if_neg (by simp), hl]
  dsimp only
  rw [wordC_nil]
  show consT ⟨1, [], tidyF (l ++ [])⟩ (tokC []) = _
  rw [List.append_nil, ht]
  rfl
theorem quote_word (two : Bool) {s : List UInt8} (h : ∀ c ∈ s, inQ two c = true) : ∃ l, wordC true (quoB two :: (s ++ [quoB two])) = .ok (l, []) ∧ tidyF l = [quoP s] := by
  obtain ⟨l, hl, ht⟩ := quote_lex two h []
  refine ⟨l, ?_, ht⟩
  rw [wordC_cons, if_neg (by simp), hl]
  dsimp only
  rw [wordC_nil]
  show Except.ok (_ ++ [], _) = _
  rw [List.append_nil]
theorem quote_bad (two : Bool) {s : List UInt8} (h : ∀ c ∈ s, inQ two c = true) : tokC (quoB two :: s) = .error 2 := by
  obtain ⟨h1, h2, h3, h4, h5, h6⟩ := quote_head two
  rw [tokC_eq, skip_stay h3 h4 h5]
  dsimp only
  rw [tokOne_word (operF_nil h2 _) h6, wordC_cons, h1, if_neg (by simp), quote_open two h]
theorem inQ_zero {two : Bool} {c : UInt8} (h : inQ two c = true) : (c == 0) = false := by
  simp only [inQ, Bool.not_eq_true', Bool.or_eq_false_iff] at h
  exact h.1.1

set_option maxRecDepth 100000 in
set_option maxHeartbeats 4000000 in
theorem lexQuotes_walk (a0 : ByteArray) (a1 : Bool) (w : World) (h1 : a0.size ≤ 140737488351232) (hsh : w.ShapedOpen Try.prog) :
    Calls Try.prog 10 #[.string a0, .bool a1] w fun e w' => e = .returned (.bool true) ∧ Below w.heap.size w w' := by
  have hc3 := cells_token
  have hc6 := cells_part
  by_cases hl : 300 < a0.size
  · have t1 : (300 : Int) < (a0.size : Int) := by omega
    go_enter Try.func10, Try.ntmps10
    go_wp2_with fail
    refine (alive_any w).mono ?_
    rintro e w1 ⟨rfl, hk⟩
    have HK := Lib.hid hk
    clear hk
    go_wp2_with fail
    go_ret
    exact ⟨rfl, HK.out.below0 (fun _ h => h.elim)⟩
  have t1 : ¬ (300 : Int) < (a0.size : Int) := by omega
  cases a1 with
  | false =>
    go_enter Try.func10, Try.ntmps10
    go_wp2_with fail
    refine (alive_any w).mono ?_
    rintro e w1 ⟨rfl, hk⟩
    have HK := Lib.hid hk
    clear hk
    go_wp2_with fail
    go_loopw [6] (fun k' wr => ∃ k : Nat, k' = .int .i64 k ∧ k ≤ a0.size ∧ Hid (∀ j, j < k → inQ false (byteAt a0 j) = true) ∧ wr = w1) (fun k' _ => a0.size - (intOf k').toNat)
    case atStart => exact ⟨0, rfl, Nat.zero_le _, Lib.hid (fun j hj => absurd hj (Nat.not_lt_zero _)), rfl⟩
    case round =>
      obtain ⟨k, rfl, hk, HL, rfl⟩ := hrel
      rcases Nat.lt_or_ge k a0.size with hlt | hge
      · have p1 : (k : Int) < (a0.size : Int) := by omega
        have hb := byteAt_in hlt
        obtain ⟨x, hx⟩ : ∃ x, x = byteAt a0 k := ⟨_, rfl⟩
        rw [← hx] at hb
        have HX := Lib.hid hx
        clear hx
        by_cases t0 : x = 0
        · have f0 : ((x.toNat : Int) == 0) = true := test_yes (c := x) (k := 0) t0
          clear t0
          go_wp2_with fail
          go_ret
          exact ⟨rfl, HK.out.below0 (fun _ h => h.elim)⟩
        have f0 : ((x.toNat : Int) == 0) = false := test_no (c := x) (k := 0) t0
        have g0 : (x == 0) = false := beq_eq_false_iff_ne.2 t0
        have G0 := Lib.hid g0
        clear t0 g0
        by_cases t39 : x = 39
        · have f39 : ((x.toNat : Int) == 39) = true := test_yes (c := x) (k := 39) t39
          clear t39
          go_wp2_with fail
          go_ret
          exact ⟨rfl, HK.out.below0 (fun _ h => h.elim)⟩
        have f39 : ((x.toNat : Int) == 39) = false := test_no (c := x) (k := 39) t39
        have g39 : (x == 39) = false := beq_eq_false_iff_ne.2 t39
        have G39 := Lib.hid g39
        clear t39 g39
        have hl2 : inQ false x = true := by
          unfold inQ
          rw [G0.out, G39.out]
          rfl
        have HL2 := Lib.hid hl2
        clear hl2
        go_wp2_with fail
        go_roundw
        case rel => exact ⟨k + 1, by go_num, by omega, Lib.hid (fun j hj => by
          rcases Nat.lt_or_ge j k with h | h
          · exact HL.out j h
          · obtain rfl : j = k := by omega
            rw [← HX.out]; exact HL2.out), trivial⟩
        case measure => simp [intOf]; omega
      · obtain rfl : k = a0.size := by omega
        have hin : ∀ x ∈ a0.data.toList, inQ false x = true := fun x hx => by
          obtain ⟨j, hj⟩ := List.mem_iff_getElem?.1 hx
          have h2 := HL.out j (by rw [Lib.size_eq]; exact (List.getElem?_eq_some_iff.1 hj).1)
          unfold byteAt at h2
          rw [List.getD_eq_getElem?_getD, hj] at h2
          exact h2
        have HIN := Lib.hid hin
        have p1 : ¬ (a0.size : Int) < (a0.size : Int) := by omega
        clear hin hge
        obtain ⟨S, hS⟩ : ∃ S, S = (⟨#[39]⟩ : ByteArray) ++ a0 ++ ⟨#[39]⟩ := ⟨_, rfl⟩
        obtain ⟨U, hU⟩ : ∃ U, U = (⟨#[39]⟩ : ByteArray) ++ a0 := ⟨_, rfl⟩
        have hSl : S.data.toList = quoB false :: (a0.data.toList ++ [quoB false]) := by rw [hS, ba_append, ba_append]; rfl
        have hUl : U.data.toList = quoB false :: a0.data.toList := by rw [hU, ba_append]; rfl
        have hSz : S.size ≤ 310 := by rw [Lib.size_eq, hSl, List.length_cons, List.length_append, ← Lib.size_eq]; simp; omega
        have hUz : U.size ≤ 310 := by rw [Lib.size_eq, hUl, List.length_cons, ← Lib.size_eq]; omega
        have hSm : mayF S.data.toList = 0 := by
          rw [hSl]
          refine may_low (by rw [← hSl, ← Lib.size_eq]; omega) (fun x hx => ?_)
          rcases List.mem_cons.1 hx with rfl | hx
          · rfl
          · rcases List.mem_append.1 hx with hx | hx
            · exact inQ_zero (HIN.out x hx)
            · obtain rfl := List.mem_singleton.1 hx; rfl
        have hUm : mayF U.data.toList = 0 := by
          rw [hUl]
          refine may_low (by rw [← hUl, ← Lib.size_eq]; omega) (fun x hx => ?_)
          rcases List.mem_cons.1 hx with rfl | hx
          · rfl
          · exact inQ_zero (HIN.out x hx)
        have hT1 := fun W => tokens_any S W (by omega)
        rw [tokensF_C _ hSm, hSl, quote_toks false HIN.out] at hT1
        have hT2 := fun W => word_any S W (by omega)
        obtain ⟨l, hl1, hl2⟩ := quote_word false HIN.out
        rw [wholeF_C _ hSm, hSl, hl1] at hT2
        dsimp only at hT2
        rw [hl2] at hT2
        have hT3 := fun W => tokens_any U W (by omega)
        rw [tokensF_C _ hUm, hUl, quote_bad false HIN.out] at hT3
        have HT1 := Lib.hid hT1
        have HT2 := Lib.hid hT2
        have HT3 := Lib.hid hT3
        have HS := Lib.hid hS
        have HU := Lib.hid hU
        clear hT1 hT2 hT3 hS hU hSl hUl hSz hUz hSm hUm hl1 hl2
        go_wp2_with fail
        rw [← HS.out]
        refine (HT1.out _).mono ?_
        rintro e w2 ⟨v, n, rfl, hv, hk2⟩
        obtain ⟨va, vc, rfl, _, _⟩ := hv.shape
        obtain ⟨g, o, xa, xl, xc, rfl, ⟨q0, q1, q2⟩, hx, hg⟩ := hv.at (Keeps.refl _ _) (i := 0) (Nat.succ_pos _)
        rw [show ([(⟨1, [], [quoP a0.data.toList]⟩ : Tk)] : List Tk).length = 1 from rfl]
        have q2' : w2.cell? ⟨g, o + 2, none⟩ = some (.slice xa xl xc) := q2
        have HX := Lib.hid (show PtsAt w2 _ _ [quoP a0.data.toList] _ from hx)
        have HK2 := Lib.hid (HK.out.trans hk2 (fun _ _ h => h))
        have HQ2 := Lib.hid q2'
        clear hk2 hv q0 q1 q2 hx q2'
        go_wp2_with fail
        rw [← HS.out]
        refine (HT2.out _).mono ?_
        rintro e w3 ⟨v, n3, rfl, hp, hk3⟩
        obtain ⟨ya, yc, rfl, _, _⟩ := hp.shape
        have HP := Lib.hid hp
        have HK3 := Lib.hid hk3
        clear hp hk3
        go_wp2_with fail
        rw [← HU.out]
        refine (HT3.out _).mono ?_
        rintro e w4 ⟨rfl, hk4⟩
        have hk24 : Keeps (fun _ => False) w2 w4 := HK3.out.trans hk4 (fun _ _ h => h)
        have hg4 : g < w4.heap.size := Nat.lt_of_lt_of_le hg hk24.size
        have q4 : w4.cell? ⟨g, o + 2, none⟩ = some (.slice xa xl xc) := (World.cell?_of_block (a := ⟨g, o + 2, none⟩) (hk24.block g hg (fun h => h))).trans HQ2.out
        obtain ⟨m, hm⟩ := one_reads w4 2 a0 false
        have hka : Keeps (fun _ => False) w4 (w4.alloc (.cells #[.int .i64 2, .string a0, .string ⟨#[]⟩, .string ⟨#[]⟩, .slice none 0 0, .bool false] 39)) := (Keeps.refl _ _).alloc _
        have hS1 := sameparts_any _ _ _ _ _ _ _ _ _ (HX.out.keep (hk24.trans hka (fun _ _ h => h)) (fun _ _ _ h => h)) hm
        have hP5 := HP.out.keep (hk4.trans hka (fun _ _ h => h)) (fun _ _ _ h => h)
        have HS1 := Lib.hid hS1
        have HP5 := Lib.hid hP5
        have HM := Lib.hid hm
        have HK5 := Lib.hid ((HK2.out.trans hk24 (fun _ _ h => h)).trans hka (fun _ _ h => h))
        clear hk4 hk24 hka hS1 hP5 hm
        go_wp2_with fail
        refine (num_any 0 _).mono ?_
        rintro e w5 ⟨rfl, hw5⟩
        subst hw5
        go_wp2_with fail
        refine HS1.out.mono ?_
        rintro e w6 ⟨r, rfl, hr, hk6⟩
        obtain rfl : r = true := hr.2 rfl
        have hS2 := sameparts_any _ _ _ _ _ _ _ _ _ (HP5.out.keep hk6 (fun _ _ _ h => h)) (HM.out.keep hk6 (fun _ _ _ h => h))
        have HS2 := Lib.hid hS2
        have HK6 := Lib.hid (HK5.out.trans hk6 (fun _ _ h => h))
        clear hr hk6 hS2
        go_wp2_with fail
        refine (num_any 0 _).mono ?_
        rintro e w7 ⟨rfl, hw7⟩
        subst hw7
        go_wp2_with fail
        refine HS2.out.mono ?_
        rintro e w8 ⟨r, rfl, hr, hk8⟩
        obtain rfl : r = true := hr.2 rfl
        have HK8 := Lib.hid (HK6.out.trans hk8 (fun _ _ h => h))
        clear hr hk8
        go_wp2_with fail
        refine (num_any 2 _).mono ?_
        rintro e w9 ⟨rfl, hw9⟩
        subst hw9
        go_wp2_with fail
        go_ret
        exact ⟨rfl, HK8.out.below0 (fun _ h => h.elim)⟩
  | true =>
    go_enter Try.func10, Try.ntmps10
    go_wp2_with fail
    refine (alive_any w).mono ?_
    rintro e w1 ⟨rfl, hk⟩
    have HK := Lib.hid hk
    clear hk
    go_wp2_with fail
    go_loopw [6] (fun k' wr => ∃ k : Nat, k' = .int .i64 k ∧ k ≤ a0.size ∧ Hid (∀ j, j < k → inQ true (byteAt a0 j) = true) ∧ wr = w1) (fun k' _ => a0.size - (intOf k').toNat)
    case atStart => exact ⟨0, rfl, Nat.zero_le _, Lib.hid (fun j hj => absurd hj (Nat.not_lt_zero _)), rfl⟩
    case round =>
      obtain ⟨k, rfl, hk, HL, rfl⟩ := hrel
      rcases Nat.lt_or_ge k a0.size with hlt | hge
      · have p1 : (k : Int) < (a0.size : Int) := by omega
        have hb := byteAt_in hlt
        obtain ⟨x, hx⟩ : ∃ x, x = byteAt a0 k := ⟨_, rfl⟩
        rw [← hx] at hb
        have HX := Lib.hid hx
        clear hx
        by_cases t0 : x = 0
        · have f0 : ((x.toNat : Int) == 0) = true := test_yes (c := x) (k := 0) t0
          clear t0
          go_wp2_with fail
          go_ret
          exact ⟨rfl, HK.out.below0 (fun _ h => h.elim)⟩
        have f0 : ((x.toNat : Int) == 0) = false := test_no (c := x) (k := 0) t0
        have g0 : (x == 0) = false := beq_eq_false_iff_ne.2 t0
        have G0 := Lib.hid g0
        clear t0 g0
        by_cases t39 : x = 39
        · have f39 : ((x.toNat : Int) == 39) = true := test_yes (c := x) (k := 39) t39
          clear t39
          go_wp2_with fail
          go_ret
          exact ⟨rfl, HK.out.below0 (fun _ h => h.elim)⟩
        have f39 : ((x.toNat : Int) == 39) = false := test_no (c := x) (k := 39) t39
        have g39 : (x == 39) = false := beq_eq_false_iff_ne.2 t39
        have G39 := Lib.hid g39
        clear t39 g39
        by_cases t34 : x = 34
        · have f34 : ((x.toNat : Int) == 34) = true := test_yes (c := x) (k := 34) t34
          clear t34
          go_wp2_with fail
          go_ret
          exact ⟨rfl, HK.out.below0 (fun _ h => h.elim)⟩
        have f34 : ((x.toNat : Int) == 34) = false := test_no (c := x) (k := 34) t34
        have g34 : (x == 34) = false := beq_eq_false_iff_ne.2 t34
        have G34 := Lib.hid g34
        clear t34 g34
        by_cases t92 : x = 92
        · have f92 : ((x.toNat : Int) == 92) = true := test_yes (c := x) (k := 92) t92
          clear t92
          go_wp2_with fail
          go_ret
          exact ⟨rfl, HK.out.below0 (fun _ h => h.elim)⟩
        have f92 : ((x.toNat : Int) == 92) = false := test_no (c := x) (k := 92) t92
        have g92 : (x == 92) = false := beq_eq_false_iff_ne.2 t92
        have G92 := Lib.hid g92
        clear t92 g92
        by_cases t36 : x = 36
        · have f36 : ((x.toNat : Int) == 36) = true := test_yes (c := x) (k := 36) t36
          clear t36
          go_wp2_with fail
          go_ret
          exact ⟨rfl, HK.out.below0 (fun _ h => h.elim)⟩
        have f36 : ((x.toNat : Int) == 36) = false := test_no (c := x) (k := 36) t36
        have g36 : (x == 36) = false := beq_eq_false_iff_ne.2 t36
        have G36 := Lib.hid g36
        clear t36 g36
        by_cases t96 : x = 96
        · have f96 : ((x.toNat : Int) == 96) = true := test_yes (c := x) (k := 96) t96
          clear t96
          go_wp2_with fail
          go_ret
          exact ⟨rfl, HK.out.below0 (fun _ h => h.elim)⟩
        have f96 : ((x.toNat : Int) == 96) = false := test_no (c := x) (k := 96) t96
        have g96 : (x == 96) = false := beq_eq_false_iff_ne.2 t96
        have G96 := Lib.hid g96
        clear t96 g96
        have hl2 : inQ true x = true := by
          unfold inQ
          rw [G0.out, G39.out, G34.out, G92.out, G36.out, G96.out]
          rfl
        have HL2 := Lib.hid hl2
        clear hl2
        go_wp2_with fail
        go_roundw
        case rel => exact ⟨k + 1, by go_num, by omega, Lib.hid (fun j hj => by
          rcases Nat.lt_or_ge j k with h | h
          · exact HL.out j h
          · obtain rfl : j = k := by omega
            rw [← HX.out]; exact HL2.out), trivial⟩
        case measure => simp [intOf]; omega
      · obtain rfl : k = a0.size := by omega
        have hin : ∀ x ∈ a0.data.toList, inQ true x = true := fun x hx => by
          obtain ⟨j, hj⟩ := List.mem_iff_getElem?.1 hx
          have h2 := HL.out j (by rw [Lib.size_eq]; exact (List.getElem?_eq_some_iff.1 hj).1)
          unfold byteAt at h2
          rw [List.getD_eq_getElem?_getD, hj] at h2
          exact h2
        have HIN := Lib.hid hin
        have p1 : ¬ (a0.size : Int) < (a0.size : Int) := by omega
        clear hin hge
        obtain ⟨S, hS⟩ : ∃ S, S = (⟨#[34]⟩ : ByteArray) ++ a0 ++ ⟨#[34]⟩ := ⟨_, rfl⟩
        obtain ⟨U, hU⟩ : ∃ U, U = (⟨#[34]⟩ : ByteArray) ++ a0 := ⟨_, rfl⟩
        have hSl : S.data.toList = quoB true :: (a0.data.toList ++ [quoB true]) := by rw [hS, ba_append, ba_append]; rfl
        have hUl : U.data.toList = quoB true :: a0.data.toList := by rw [hU, ba_append]; rfl
        have hSz : S.size ≤ 310 := by rw [Lib.size_eq, hSl, List.length_cons, List.length_append, ← Lib.size_eq]; simp; omega
        have hUz : U.size ≤ 310 := by rw [Lib.size_eq, hUl, List.length_cons, ← Lib.size_eq]; omega
        have hSm : mayF S.data.toList = 0 := by
          rw [hSl]
          refine may_low (by rw [← hSl, ← Lib.size_eq]; omega) (fun x hx => ?_)
          rcases List.mem_cons.1 hx with rfl | hx
          · rfl
          · rcases List.mem_append.1 hx with hx | hx
            · exact inQ_zero (HIN.out x hx)
            · obtain rfl := List.mem_singleton.1 hx; rfl
        have hUm : mayF U.data.toList = 0 := by
          rw [hUl]
          refine may_low (by rw [← hUl, ← Lib.size_eq]; omega) (fun x hx => ?_)
          rcases List.mem_cons.1 hx with rfl | hx
          · rfl
          · exact inQ_zero (HIN.out x hx)
        have hT1 := fun W => tokens_any S W (by omega)
        rw [tokensF_C _ hSm, hSl, quote_toks true HIN.out] at hT1
        have hT2 := fun W => word_any S W (by omega)
        obtain ⟨l, hl1, hl2⟩ := quote_word true HIN.out
        rw [wholeF_C _ hSm, hSl, hl1] at hT2
        dsimp only at hT2
        rw [hl2] at hT2
        have hT3 := fun W => tokens_any U W (by omega)
        rw [tokensF_C _ hUm, hUl, quote_bad true HIN.out] at hT3
        have HT1 := Lib.hid hT1
        have HT2 := Lib.hid hT2
        have HT3 := Lib.hid hT3
        have HS := Lib.hid hS
        have HU := Lib.hid hU
        clear hT1 hT2 hT3 hS hU hSl hUl hSz hUz hSm hUm hl1 hl2
        go_wp2_with fail
        rw [← HS.out]
        refine (HT1.out _).mono ?_
        rintro e w2 ⟨v, n, rfl, hv, hk2⟩
        obtain ⟨va, vc, rfl, _, _⟩ := hv.shape
        obtain ⟨g, o, xa, xl, xc, rfl, ⟨q0, q1, q2⟩, hx, hg⟩ := hv.at (Keeps.refl _ _) (i := 0) (Nat.succ_pos _)
        rw [show ([(⟨1, [], [quoP a0.data.toList]⟩ : Tk)] : List Tk).length = 1 from rfl]
        have q2' : w2.cell? ⟨g, o + 2, none⟩ = some (.slice xa xl xc) := q2
        have HX := Lib.hid (show PtsAt w2 _ _ [quoP a0.data.toList] _ from hx)
        have HK2 := Lib.hid (HK.out.trans hk2 (fun _ _ h => h))
        have HQ2 := Lib.hid q2'
        clear hk2 hv q0 q1 q2 hx q2'
        go_wp2_with fail
        rw [← HS.out]
        refine (HT2.out _).mono ?_
        rintro e w3 ⟨v, n3, rfl, hp, hk3⟩
        obtain ⟨ya, yc, rfl, _, _⟩ := hp.shape
        have HP := Lib.hid hp
        have HK3 := Lib.hid hk3
        clear hp hk3
        go_wp2_with fail
        rw [← HU.out]
        refine (HT3.out _).mono ?_
        rintro e w4 ⟨rfl, hk4⟩
        have hk24 : Keeps (fun _ => False) w2 w4 := HK3.out.trans hk4 (fun _ _ h => h)
        have hg4 : g < w4.heap.size := Nat.lt_of_lt_of_le hg hk24.size
        have q4 : w4.cell? ⟨g, o + 2, none⟩ = some (.slice xa xl xc) := (World.cell?_of_block (a := ⟨g, o + 2, none⟩) (hk24.block g hg (fun h => h))).trans HQ2.out
        obtain ⟨m, hm⟩ := one_reads w4 2 a0 false
        have hka : Keeps (fun _ => False) w4 (w4.alloc (.cells #[.int .i64 2, .string a0, .string ⟨#[]⟩, .string ⟨#[]⟩, .slice none 0 0, .bool false] 39)) := (Keeps.refl _ _).alloc _
        have hS1 := sameparts_any _ _ _ _ _ _ _ _ _ (HX.out.keep (hk24.trans hka (fun _ _ h => h)) (fun _ _ _ h => h)) hm
        have hP5 := HP.out.keep (hk4.trans hka (fun _ _ h => h)) (fun _ _ _ h => h)
        have HS1 := Lib.hid hS1
        have HP5 := Lib.hid hP5
        have HM := Lib.hid hm
        have HK5 := Lib.hid ((HK2.out.trans hk24 (fun _ _ h => h)).trans hka (fun _ _ h => h))
        clear hk4 hk24 hka hS1 hP5 hm
        go_wp2_with fail
        refine (num_any 0 _).mono ?_
        rintro e w5 ⟨rfl, hw5⟩
        subst hw5
        go_wp2_with fail
        refine HS1.out.mono ?_
        rintro e w6 ⟨r, rfl, hr, hk6⟩
        obtain rfl : r = true := hr.2 rfl
        have hS2 := sameparts_any _ _ _ _ _ _ _ _ _ (HP5.out.keep hk6 (fun _ _ _ h => h)) (HM.out.keep hk6 (fun _ _ _ h => h))
        have HS2 := Lib.hid hS2
        have HK6 := Lib.hid (HK5.out.trans hk6 (fun _ _ h => h))
        clear hr hk6 hS2
        go_wp2_with fail
        refine (num_any 0 _).mono ?_
        rintro e w7 ⟨rfl, hw7⟩
        subst hw7
        go_wp2_with fail
        refine HS2.out.mono ?_
        rintro e w8 ⟨r, rfl, hr, hk8⟩
        obtain rfl : r = true := hr.2 rfl
        have HK8 := Lib.hid (HK6.out.trans hk8 (fun _ _ h => h))
        clear hr hk8
        go_wp2_with fail
        refine (num_any 2 _).mono ?_
        rintro e w9 ⟨rfl, hw9⟩
        subst hw9
        go_wp2_with fail
        go_ret
        exact ⟨rfl, HK8.out.below0 (fun _ h => h.elim)⟩
end Go.Proofs.Ytnndnldpbdhkgaa
