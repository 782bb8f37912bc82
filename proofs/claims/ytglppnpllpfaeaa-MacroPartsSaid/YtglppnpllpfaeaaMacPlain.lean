/-
  MacroPlain's walk.
-/
import Derived.Test.YtglppnpllpfaeaaMacR
namespace Go.Proofs.Ytglppnpllpfaeaa
open Go.RowKit
set_option linter.unusedVariables false

/-- How long the values are. -/
def sumV : List (Bs × Bs) → Nat
  | [] => 0
  | p :: l => p.2.length + sumV l
theorem sumV_append : ∀ (l m : List (Bs × Bs)), sumV (l ++ m) = sumV l + sumV m
  | [], m => by simp [sumV]
  | p :: l, m => by rw [List.cons_append, sumV, sumV_append l m, sumV]; omega
theorem sumV_le {M : Nat} : ∀ (l : List (Bs × Bs)), (∀ p ∈ l, p.2.length ≤ M) → sumV l ≤ l.length * M
  | [], _ => Nat.zero_le _
  | p :: l, h => by
    have h1 := h p (List.mem_cons_self ..)
    have h2 := sumV_le l fun q hq => h q (List.mem_cons_of_mem _ hq)
    rw [sumV, List.length_cons, Nat.add_mul, Nat.one_mul]
    omega
theorem sumV_mem : ∀ {l : List (Bs × Bs)} {p : Bs × Bs}, p ∈ l → p.2.length ≤ sumV l
  | q :: l, p, h => by
    rw [sumV]
    rcases List.mem_cons.1 h with rfl | h
    · omega
    · have := sumV_mem h; omega
def bigF (l : List (Bs × Bs)) : Bool := decide (30 < l.length) || decide (2000 < sumV (l.take 40))
theorem bigF_no {l : List (Bs × Bs)} (h : bigF l = false) : Small l ∧ l.length ≤ 30 := by
  unfold bigF at h
  rw [Bool.or_eq_false_iff, decide_eq_false_iff_not, decide_eq_false_iff_not] at h
  refine ⟨fun p hp => ?_, by omega⟩
  have h2 := h.2
  rw [List.take_of_length_le (by omega)] at h2
  have := sumV_mem hp
  omega
set_option maxRecDepth 100000 in
set_option maxHeartbeats 4000000 in
theorem big_any (a : Option Addr) (n c : Nat) (l : List (Bs × Bs)) (w : World) (h : IsPairs w a n c l) : Calls Try.prog 12 #[.slice a n c] w fun e w' => e = .returned (.bool (bigF l)) ∧ w' = w := by
  have hc2 : Try.prog.cellsOf 35 = 2 := by kernel_rfl
  obtain ⟨hp, hn, hz⟩ := h
  obtain ⟨a', c', hv, hl63, H⟩ := hp
  have HH := Lib.hid H
  have HN := Lib.hid hn
  have HZ := Lib.hid hz
  obtain ⟨res, hres⟩ : ∃ res, res = bigF l := ⟨_, rfl⟩
  rw [← hres]
  have HRES := Lib.hid hres
  have hav : a = a' := by injection hv
  have HAV := Lib.hid hav
  have hn63 : n ≤ 9223372036854775807 := by rw [hn]; exact hl63
  clear hv hl63 H hn hz hres hav
  go_enter Try.func12, Try.ntmps12
  go_wp2_with fail
  go_loopw [3, 4] (fun s' i' wr => ∃ i s : Nat, s' = .int .i64 s ∧ i' = .int .i64 i ∧ i ≤ n ∧ i ≤ 40 ∧ Hid (s = sumV (l.take i)) ∧ w = wr) (fun _ i' _ => 40 - (intOf i').toNat)
  case atStart => exact ⟨0, 0, rfl, rfl, Nat.zero_le _, by omega, Lib.hid rfl, rfl⟩
  case round =>
    obtain ⟨i, s, rfl, rfl, hi, hi40, HS, hw⟩ := hrel
    subst hw
    have hsb : s ≤ 40 * 140737488351232 := by
      rw [HS.out]
      refine Nat.le_trans (sumV_le (M := 140737488351232) _ fun p hp => (HZ.out p (List.mem_of_mem_take hp)).2) ?_
      exact Nat.mul_le_mul_right _ (by rw [List.length_take]; omega)
    by_cases hstop : i < n ∧ i < 40
    · obtain ⟨hin, hi4⟩ := hstop
      have p1 : (i : Int) < (n : Int) := by omega
      have p2 : (i : Int) < 40 := by omega
      obtain ⟨b, off, ea, hb, _, c1, c2⟩ := HH.out i (by rw [← HN.out]; exact hin)
      obtain ⟨x, hx⟩ : ∃ x : ByteArray, x = ⟨(l[i]'(by rw [← HN.out]; exact hin)).2.toArray⟩ := ⟨_, rfl⟩
      have hxl : x.size ≤ 140737488351232 := by rw [hx, Lib.size_eq]; exact (HZ.out _ (List.getElem_mem _)).2
      have HXL := Lib.hid (show x.size = (l[i]'(by rw [← HN.out]; exact hin)).2.length by rw [hx, Lib.size_eq])
      have c2' : w.cell? ⟨b, off + i * 2 + 1, none⟩ = some (.string x) := by rw [c2, hx]; rfl
      obtain rfl : a = some ⟨b, off, none⟩ := HAV.out.trans ea
      have HSN := Lib.hid (show s + x.size = sumV (l.take (i + 1)) by
        rw [List.take_succ_eq_append_getElem (by rw [← HN.out]; exact hin), sumV_append, ← HS.out, HXL.out]
        simp [sumV])
      have ews : IntKind.i64.wrap ((s : Int) + (x.size : Int)) = ((s + x.size : Nat) : Int) := by rw [IntWalk.i64_in _ (by omega)]; rfl
      clear c1 c2 hx
      go_wp2_with fail
      go_roundw
      case rel => exact ⟨i + 1, s + x.size, rfl, by go_num, by omega, by omega, HSN, by first | rfl | trivial⟩
      case measure => simp [intOf]; omega
    · have HR2 := Lib.hid (show res = (decide (30 < n) || decide (2000 < s)) by
        rw [HRES.out, HS.out, HN.out]
        unfold bigF
        rcases Nat.lt_or_ge 30 l.length with h1 | h1
        · rw [decide_eq_true h1]; rfl
        · rw [List.take_of_length_le (show l.length ≤ 40 by omega), List.take_of_length_le (by rw [← HN.out] at h1 ⊢; omega)])
      rcases Nat.lt_or_ge i n with hin | hin
      · have p1 : (i : Int) < (n : Int) := by omega
        have p2 : ¬ (i : Int) < 40 := by omega
        have q1 : (30 : Int) < (n : Int) := by omega
        have HR3 := Lib.hid (show res = true by rw [HR2.out, decide_eq_true (show 30 < n by omega)]; rfl)
        clear hstop
        go_wp2_with fail
        go_ret
        rw [HR3.out]
        exact ⟨rfl, rfl⟩
      · have p1 : ¬ (i : Int) < (n : Int) := by omega
        clear hstop
        by_cases h30 : 30 < n
        · have q1 : (30 : Int) < (n : Int) := by omega
          have HR3 := Lib.hid (show res = true by rw [HR2.out, decide_eq_true h30]; rfl)
          clear h30
          go_wp2_with fail
          go_ret
          rw [HR3.out]
          exact ⟨rfl, rfl⟩
        · have q1 : ¬ (30 : Int) < (n : Int) := by omega
          by_cases h20 : 2000 < s
          · have q2 : (2000 : Int) < (s : Int) := by omega
            have HR3 := Lib.hid (show res = true by rw [HR2.out, decide_eq_true h20, Bool.or_true])
            clear h30 h20
            go_wp2_with fail
            go_ret
            rw [HR3.out]
            exact ⟨rfl, rfl⟩
          · have q2 : ¬ (2000 : Int) < (s : Int) := by omega
            have HR3 := Lib.hid (show res = false by rw [HR2.out, decide_eq_false h20, decide_eq_false h30]; rfl)
            clear h30 h20
            go_wp2_with fail
            go_ret
            rw [HR3.out]
            exact ⟨rfl, rfl⟩
/-- Each sign doubled. -/
def dbl : Bs → Bs
  | [] => []
  | c :: t => if c == 36 then 36 :: 36 :: dbl t else c :: dbl t
theorem dbl_append : ∀ (a b : Bs), dbl (a ++ b) = dbl a ++ dbl b
  | [], b => rfl
  | c :: a, b => by
    rw [List.cons_append, dbl, dbl, dbl_append a b]
    split <;> rfl
theorem dbl_len : ∀ s : Bs, (dbl s).length ≤ 2 * s.length
  | [] => Nat.le_refl _
  | c :: t => by
    have := dbl_len t
    rw [dbl]
    split <;> (simp only [List.length_cons]; omega)
theorem dbl_split : ∀ s : Bs, FreeD (dbl s) ∧ dbl s = s ∨ ∃ f r, FreeD f ∧ s = f ++ 36 :: r ∧ dbl s = f ++ 36 :: 36 :: dbl r
  | [] => .inl ⟨fun c hc => (by cases hc), rfl⟩
  | c :: t => by
    by_cases h : c = 36
    · refine .inr ⟨[], t, fun c hc => (by cases hc), by rw [h]; rfl, ?_⟩
      rw [dbl, if_pos (by rw [h]; rfl)]; rfl
    · rw [dbl, if_neg (by rw [beq_iff_eq]; exact h)]
      rcases dbl_split t with ⟨h1, h2⟩ | ⟨f, r, h1, h2, h3⟩
      · refine .inl ⟨fun x hx => ?_, by rw [h2]⟩
        rcases List.mem_cons.1 hx with rfl | hx
        · exact h
        · exact h1 x hx
      · refine .inr ⟨c :: f, r, fun x hx => ?_, by rw [h2]; rfl, by rw [h3]; rfl⟩
        rcases List.mem_cons.1 hx with rfl | hx
        · exact h
        · exact h1 x hx
theorem dbl_loop (ref : Ref) (refs : Nat) : ∀ (n : Nat) (s acc : Bs), s.length ≤ n → acc.length + s.length ≤ 16384 → loopC ref acc refs (dbl s) = .ok (acc ++ s, refs) := by
  intro n
  induction n with
  | zero =>
    intro s acc hn hl
    obtain rfl : s = [] := List.eq_nil_of_length_eq_zero (by omega)
    exact loopC_free ref acc refs (fun c hc => by cases hc) hl
  | succ n ih =>
    intro s acc hn hl
    rcases dbl_split s with ⟨h1, h2⟩ | ⟨f, r, h1, h2, h3⟩
    · rw [h2] at h1 ⊢
      exact loopC_free ref acc refs h1 hl
    · rw [h3, loopC_one ref acc refs h1 (y := [36]) (k := 1) (r' := refs) rfl (by rw [h2] at hl; simp at hl ⊢; omega)]
      rw [List.drop_one, List.tail_cons, ih r (acc ++ f ++ [36]) (by rw [h2] at hn; simp at hn; omega) (by rw [h2] at hl; simp at hl ⊢; omega), h2]
      show Except.ok _ = Except.ok _
      simp
theorem plain_text (l : List (Bs × Bs)) {s : Bs} (h : s.length ≤ 600) : expandF l [] (dbl s) = .ok s := by
  have := dbl_len s
  rw [expandF_out, textF_loop _ _ (by omega), dbl_loop _ _ _ s [] (Nat.le_refl _) (by simp; omega)]
  rfl
set_option maxRecDepth 100000 in
set_option maxHeartbeats 8000000 in
theorem macroPlain_walk (a0 : ByteArray) (a1 : Option Addr) (n1 c1 : Nat) (z1 : List (Bs × Bs)) (w : World) (h0 : a0.size ≤ 140737488351232) (h1 : IsPairs w a1 n1 c1 z1) (hsh : w.ShapedOpen Try.prog) :
    Calls Try.prog 3 #[.string a0, .slice a1 n1 c1] w fun e w' => e = .returned (.bool true) ∧ Below w.heap.size w w' := by
  have gl := gl_of hsh
  obtain ⟨bg, hbg⟩ : ∃ bg, bg = bigF z1 := ⟨_, rfl⟩
  have HBG := Lib.hid hbg
  have HP := Lib.hid h1
  clear hbg h1
  cases bg with
  | true =>
    go_enter Try.func3, Try.ntmps3
    go_wp2_with fail
    refine (alive_any w gl).mono ?_
    rintro e w1 ⟨rfl, hk⟩
    have HK1 := Lib.hid hk
    clear hk
    go_wp2_with fail
    refine (big_any a1 n1 c1 z1 w1 ⟨HP.out.1.keep HK1.out (fun _ _ _ h => h), HP.out.2⟩).mono ?_
    rintro e w2 ⟨rfl, hw2⟩
    rw [hw2, ← HBG.out]
    clear hw2
    go_wp2_with fail
    go_ret
    exact ⟨rfl, HK1.out.below0 (fun _ h => h.elim)⟩
  | false =>
    rcases Nat.lt_or_ge 600 a0.size with hl | hl
    · have q1 : (600 : Int) < (a0.size : Int) := by omega
      clear hl
      go_enter Try.func3, Try.ntmps3
      go_wp2_with fail
      refine (alive_any w gl).mono ?_
      rintro e w1 ⟨rfl, hk⟩
      have HK1 := Lib.hid hk
      clear hk
      go_wp2_with fail
      refine (big_any a1 n1 c1 z1 w1 ⟨HP.out.1.keep HK1.out (fun _ _ _ h => h), HP.out.2⟩).mono ?_
      rintro e w2 ⟨rfl, hw2⟩
      rw [hw2, ← HBG.out]
      clear hw2
      go_wp2_with fail
      go_ret
      exact ⟨rfl, HK1.out.below0 (fun _ h => h.elim)⟩
    · have q1 : ¬ (600 : Int) < (a0.size : Int) := by omega
      go_enter Try.func3, Try.ntmps3
      go_wp2_with fail
      refine (alive_any w gl).mono ?_
      rintro e w1 ⟨rfl, hk⟩
      have HK1 := Lib.hid hk
      clear hk
      go_wp2_with fail
      refine (big_any a1 n1 c1 z1 w1 ⟨HP.out.1.keep HK1.out (fun _ _ _ h => h), HP.out.2⟩).mono ?_
      rintro e w2 ⟨rfl, hw2⟩
      rw [hw2, ← HBG.out]
      clear hw2
      go_wp2_with fail
      go_loopw [7, 8] (fun d' i' wr => ∃ (i : Nat) (D : ByteArray), d' = .string D ∧ i' = .int .i64 i ∧ i ≤ a0.size ∧ Hid (D.data.toList = dbl (a0.data.toList.take i)) ∧ w1 = wr) (fun _ i' _ => a0.size - (intOf i').toNat)
      case atStart => exact ⟨0, ⟨#[]⟩, rfl, rfl, Nat.zero_le _, Lib.hid rfl, rfl⟩
      case round =>
        obtain ⟨i, D, rfl, rfl, hi, HD, hw⟩ := hrel
        subst hw
        have hDs : D.size ≤ 1200 := by
          rw [Lib.size_eq, HD.out]
          have h1 := dbl_len (a0.data.toList.take i)
          rw [List.length_take] at h1
          omega
        rcases Nat.lt_or_ge i a0.size with hlt | hge
        · have p1 : (i : Int) < (a0.size : Int) := by omega
          have hb := byteAt_in hlt
          obtain ⟨c, hc⟩ : ∃ c, c = byteAt a0 i := ⟨_, rfl⟩
          rw [← hc] at hb
          have hiL : i < a0.data.toList.length := by rw [← Lib.size_eq]; exact hlt
          have HC := Lib.hid (show a0.data.toList[i] = c by
            rw [hc]
            unfold byteAt
            rw [List.getD_eq_getElem?_getD, List.getElem?_eq_getElem hiL]; rfl)
          have HE := Lib.hid (show (a0.extract i (i + 1)).data.toList = [c] by
            rw [ex_mid, Nat.add_sub_cancel_left, List.drop_eq_getElem_cons hiL, HC.out]; rfl)
          have HT := Lib.hid (show a0.data.toList.take (i + 1) = a0.data.toList.take i ++ [c] by rw [List.take_succ_eq_append_getElem hiL, HC.out])
          have ewi : IntKind.i64.wrap ((i : Int) + 1) = (i : Int) + 1 := IntWalk.i64_in _ (by omega)
          have q2 : (i : Int) ≤ (i : Int) + 1 := by omega
          have q3 : (i : Int) + 1 ≤ (a0.size : Int) := by omega
          have q4 : ((i : Int) + 1).toNat = i + 1 := by omega
          clear hc
          by_cases t36 : c = 36
          · have f36 : ((c.toNat : Int) == 36) = true := test_yes (c := c) (k := 36) t36
            have H36 := Lib.hid t36
            clear t36
            go_wp2_with fail
            go_roundw
            case rel => exact ⟨i + 1, _, rfl, by go_num, by omega, Lib.hid (by rw [ba_append, ba_append, HD.out, HE.out, HT.out, dbl_append, H36.out]; simp [dbl]), by first | rfl | trivial⟩
            case measure => simp [intOf]; omega
          · have f36 : ((c.toNat : Int) == 36) = false := test_no (c := c) (k := 36) t36
            have H36 := Lib.hid t36
            clear t36
            go_wp2_with fail
            go_roundw
            case rel => exact ⟨i + 1, _, rfl, by go_num, by omega, Lib.hid (by rw [ba_append, HD.out, HE.out, HT.out, dbl_append]; simp [dbl, H36.out]), by first | rfl | trivial⟩
            case measure => simp [intOf]; omega
        · obtain rfl : i = a0.size := by omega
          have p1 : ¬ (a0.size : Int) < (a0.size : Int) := by omega
          have hx := expand_any D (.slice a1 n1 c1) (.slice none 0 0) z1 [] w1 (by omega) (HP.out.1.keep HK1.out (fun _ _ _ h => h)) (PairsAt.nil _ _) ⟨(bigF_no HBG.out.symm).1, small_nil⟩ (gl.keep HK1.out)
          rw [show expandF z1 [] D.data.toList = .ok a0.data.toList by
            rw [HD.out, List.take_of_length_le (by rw [← Lib.size_eq]; exact Nat.le_refl _)]
            exact plain_text z1 (by rw [← Lib.size_eq]; exact hl)] at hx
          have HX := Lib.hid hx
          have hbq : (a0.toList == a0.toList) = true := beq_self_eq_true _
          clear hx hge
          go_wp2_with fail
          refine HX.out.mono ?_
          rintro e w4 ⟨rfl, hk4⟩
          have HK4 := Lib.hid (HK1.out.trans hk4 (fun _ _ h => h))
          rw [strV_of (s := a0) rfl]
          clear hk4
          go_wp2_with fail
          refine (num_any 0 _).mono ?_
          rintro e w5 ⟨rfl, hwn⟩
          rw [hwn]
          clear hwn
          go_wp2_with fail
          go_ret
          exact ⟨rfl, HK4.out.below0 (fun _ h => h.elim)⟩
end Go.Proofs.Ytglppnpllpfaeaa
