/-
  The document's words of a text.
-/
import Derived.Test.YtglppnpllpfaeaaMacK
namespace Go.Proofs.Ytglppnpllpfaeaa
open Go.RowKit
set_option linter.unusedVariables false

theorem refBlank_any (c : UInt8) (w : World) : Calls Try.prog 49 #[.int .u8 c.toNat] w fun e w' => e = .returned (.bool (c == 32 || c == 9)) ∧ w' = w := by
  cases h1 : (c == 32) with
  | true =>
    have f1 : ((c.toNat : Int) == 32) = true := by rw [← h1]; exact u8_eq c 32
    clear h1
    go_enter Try.func49, Try.ntmps49
    go_wp2_with fail
    go_ret
    exact ⟨rfl, rfl⟩
  | false =>
    have f1 : ((c.toNat : Int) == 32) = false := by rw [← h1]; exact u8_eq c 32
    have f2 : ((c.toNat : Int) == 9) = (c == 9) := u8_eq c 9
    clear h1
    generalize hb : (c == 9) = b at f2
    clear hb
    go_enter Try.func49, Try.ntmps49
    go_wp2_with fail
    go_ret
    exact ⟨rfl, rfl⟩
/-- The piece of a text between two places. -/
def segB (s : ByteArray) (f i : Nat) : Bs := (s.data.toList.drop f).take (i - f)
theorem segB_more {s : ByteArray} {f i : Nat} (h : i < s.size) (hf : f ≤ i) : segB s f (i + 1) = segB s f i ++ [byteAt s i] := by
  unfold segB byteAt
  have h' : i < s.data.toList.length := by rw [← Lib.size_eq]; exact h
  rw [show i + 1 - f = (i - f) + 1 by omega, List.take_succ_eq_append_getElem (by rw [List.length_drop]; omega), List.getElem_drop, List.getD_eq_getElem?_getD, List.getElem?_eq_getElem h']
  congr 1
  simp only [Option.getD_some, List.cons.injEq, and_true]
  congr 1
  omega
theorem segB_self (s : ByteArray) (i : Nat) : segB s i i = [] := by unfold segB; rw [Nat.sub_self, List.take_zero]
theorem segB_empty {s : ByteArray} {f i : Nat} (h : i ≤ s.size) (hf : f ≤ i) : segB s f i = [] ↔ f = i := by
  constructor
  · intro he
    have := congrArg List.length he
    unfold segB at this
    rw [List.length_take, List.length_drop, List.length_nil, ← Lib.size_eq] at this
    omega
  · rintro rfl; exact segB_self s f
theorem extract_seg (s : ByteArray) (f i : Nat) (h : i ≤ s.size) (hf : f ≤ i) : (s.extract f i).data.toList = segB s f i := by
  unfold segB
  rw [Lib.extract_data]
def RefWordsPost (W : List Bs) (w : World) (e : Ending) (w' : World) : Prop := ∃ v, e = .returned v ∧ w'.ownsRow w.heap.size 9 1 v W.length (W.map strV) ∧ Below w.heap.size w w'
set_option maxRecDepth 100000 in
set_option maxHeartbeats 8000000 in
theorem refWords_any (s : ByteArray) (w : World) (hs : s.size ≤ 1000000000) :
    Calls Try.prog 40 #[.string s] w (RefWordsPost (wordsF s.data.toList) w) := by
  obtain ⟨i0, hi0, hz0, hz1, hz2⟩ := info_parts info_string
  obtain ⟨W, hW⟩ : ∃ W, W = wordsF s.data.toList := ⟨_, rfl⟩
  rw [← hW]
  have HW := Lib.hid (show W = wordsG (segB s 0 0) (rest s 0) from hW)
  clear hW
  go_enter Try.func40, Try.ntmps40
  go_wp2_with fail
  go_loopw [3, 4, 5] (fun v f' i' wr => ∃ (i f : Nat) (L : List Bs), f' = .int .i64 f ∧ i' = .int .i64 i ∧ i ≤ s.size + 1 ∧ f ≤ i ∧ L.length ≤ i ∧ (i = s.size + 1 → f = i) ∧ Hid (W = L ++ wordsG (segB s f i) (rest s i)) ∧ wr.ownsRow w.heap.size 9 1 v L.length (L.map strV) ∧ Hid (Below w.heap.size w wr)) (fun _ _ i' _ => s.size + 1 - (intOf i').toNat)
  case atStart => exact ⟨0, 0, [], rfl, rfl, Nat.zero_le _, Nat.le_refl _, Nat.le_refl _, fun _ => rfl, HW, World.ownsRow_nil _ _ _ _, Lib.hid (Below.refl _ _)⟩
  case round =>
    obtain ⟨i, f, L, rfl, rfl, hi, hf, hL, hfi, HI, hown, HB⟩ := hrel
    obtain ⟨n, hn⟩ : ∃ n, n = L.length := ⟨_, rfl⟩
    rw [← hn] at hown hL
    have HN := Lib.hid hn
    have hfo := row_forms hown
    have HOWN := Lib.hid hown
    obtain ⟨va, vc, rfl⟩ : ∃ (a : Option Addr) (c : Nat), u3 = .slice a n c := by
      rcases hfo with ⟨h, h0⟩ | ⟨g, cap, h⟩
      · exact ⟨none, 0, by rw [h, h0]⟩
      · exact ⟨_, _, h⟩
    clear hn hown hfo
    rcases Nat.lt_or_ge s.size i with hgt | hle
    · have p1 : ¬ (i : Int) ≤ (s.size : Int) := by omega
      have HF := Lib.hid (show W = L by
        rw [HI.out, hfi (by omega), segB_self, rest_nil (by omega)]
        show L ++ [] = L
        rw [List.append_nil])
      clear hfi
      go_wp2_with fail
      go_ret
      exact ⟨_, rfl, by rw [HF.out, ← HN.out]; exact HOWN.out, HB.out⟩
    have p1 : (i : Int) ≤ (s.size : Int) := by omega
    have ewi : IntKind.i64.wrap ((i : Int) + 1) = (i : Int) + 1 := IntWalk.i64_in _ (by omega)
    -- what the end of a word does
    have hend : ∀ r, W = L ++ (if segB s f i = [] then wordsG [] r else segB s f i :: wordsG [] r) → r = rest s (i + 1) →
        (f = i → W = L ++ wordsG (segB s (i + 1) (i + 1)) (rest s (i + 1))) ∧ (f < i → W = (L ++ [segB s f i]) ++ wordsG (segB s (i + 1) (i + 1)) (rest s (i + 1))) := fun r h hr => by
      subst hr
      rw [segB_self]
      constructor
      · intro e; rw [if_pos ((segB_empty hle hf).2 e)] at h; exact h
      · intro e
        rw [if_neg (fun x => by have := (segB_empty hle hf).1 x; omega)] at h
        rw [List.append_assoc]; exact h
    have HEND := Lib.hid hend
    clear hend
    rcases Nat.lt_or_ge i s.size with hlt | hge
    · have p2 : (i : Int) < (s.size : Int) := by omega
      have hb := byteAt_in hlt
      obtain ⟨c, hc⟩ : ∃ c, c = byteAt s i := ⟨_, rfl⟩
      rw [← hc] at hb
      have HX := Lib.hid hc
      clear hc
      cases hbl : blankB c with
      | false =>
        have hq1 : (c == 32 || c == 9) = false := by
          unfold blankB at hbl
          exact (Bool.or_eq_false_iff.1 hbl).1
        have hq2 : ((c.toNat : Int) != 10) = true := by
          unfold blankB at hbl
          rw [bne, show ((c.toNat : Int) == 10) = (c == 10) from u8_eq c 10, (Bool.or_eq_false_iff.1 hbl).2]; rfl
        have HQ1 := Lib.hid hq1
        have HNX := Lib.hid (show W = L ++ wordsG (segB s f (i + 1)) (rest s (i + 1)) by
          rw [HI.out, rest_cons hlt, segB_more hlt hf, ← HX.out]
          congr 1
          conv => lhs; unfold wordsG
          rw [hbl, if_neg (by simp)])
        clear hbl hq1
        go_wp2_with (go_at_call 49; refine (refBlank_any _ _).mono ?_; rintro e w' ⟨rfl, rfl⟩; rw [HQ1.out])
        go_roundw
        case rel => exact ⟨i + 1, f, L, rfl, by go_num, by omega, by omega, by rw [← HN.out]; omega, by omega, HNX, by rw [← HN.out]; exact HOWN.out, HB⟩
        case measure => simp [intOf]; omega
      | true =>
        have HE := Lib.hid (HEND.out (rest s (i + 1)) (by rw [HI.out, rest_cons hlt, ← HX.out, wordsG_blank _ _ _ hbl]) rfl)
        have hcc : (c == 32) || (c == 9) || (c == 10) := hbl
        have hq3 : ((c.toNat : Int) != 10) = !(c == 10) := by rw [bne, show ((c.toNat : Int) == 10) = (c == 10) from u8_eq c 10]
        cases hb1 : (c == 32 || c == 9) with
        | true =>
          have HQ1 := Lib.hid hb1
          clear hbl hcc hq3 hb1
          rcases Nat.lt_or_ge f i with hlf | hgf
          · have p3 : (f : Int) < (i : Int) := by omega
            have q1 : (0 : Int) ≤ (f : Int) := by omega
            have HSV := Lib.hid (show strV (segB s f i) = .string (s.extract f i) from strV_of (extract_seg s f i (by omega) hf))
            clear hfi
            go_wp2_with (first
              | (go_at_call 49; refine (refBlank_any _ _).mono ?_; rintro e w' ⟨rfl, rfl⟩; rw [HQ1.out])
              | (at_builtin; refine wpList_append_own _ rfl _ _ 37 rfl w.heap.size 9 i0 (.string ⟨#[]⟩) 1 16 Try.underlying37 hi0 hz0 hz1 hz2 rfl (by decide) _ _ _ rfl (HOWN.out.alloc _) ⟨_, 0, none⟩ 1 1 [.string (s.extract f i)] rfl rfl (cell_one_new _ _ _) (by simp [Value.oneCell']) (by unfold maxLen; omega) (by omega) (by have := HB.out.size; simp; omega) ?_; intro v' w1 hown1 hg1 _; have HO1 := Lib.hid hown1; have HG1 := Lib.hid hg1; clear hown1 hg1))
            go_roundw
            case rel => exact ⟨i + 1, i + 1, L ++ [segB s f i], by go_num, by go_num, by omega, Nat.le_refl _, by rw [List.length_append, ← HN.out]; simp; omega, fun _ => rfl, Lib.hid (HE.out.2 hlf), by rw [List.length_append, List.map_append, ← HN.out, List.map_singleton, HSV.out]; exact HO1.out, Lib.hid ((HB.out.alloc (HB.out.size) _).grown HG1.out (by have := HB.out.size; simp; omega) (fun g hg => (HOWN.out.lt g hg).1))⟩
            case measure => simp [intOf]; omega
          · have p3 : ¬ (f : Int) < (i : Int) := by omega
            obtain rfl : f = i := by omega
            clear hfi
            go_wp2_with (first
              | (go_at_call 49; refine (refBlank_any _ _).mono ?_; rintro e w' ⟨rfl, rfl⟩; rw [HQ1.out]))
            go_roundw
            case rel => exact ⟨f + 1, f + 1, L, by go_num, by go_num, by omega, Nat.le_refl _, by rw [← HN.out]; omega, fun _ => rfl, Lib.hid (HE.out.1 (by first | rfl | trivial)), by rw [← HN.out]; exact HOWN.out, HB⟩
            case measure => simp [intOf]; omega
        | false =>
          have HQ1 := Lib.hid hb1
          have hq2 : ((c.toNat : Int) != 10) = false := by
            rw [hb1, Bool.false_or] at hcc
            rw [hq3, hcc]; rfl
          clear hbl hcc hq3 hb1
          rcases Nat.lt_or_ge f i with hlf | hgf
          · have p3 : (f : Int) < (i : Int) := by omega
            have q1 : (0 : Int) ≤ (f : Int) := by omega
            have HSV := Lib.hid (show strV (segB s f i) = .string (s.extract f i) from strV_of (extract_seg s f i (by omega) hf))
            clear hfi
            go_wp2_with (first
              | (go_at_call 49; refine (refBlank_any _ _).mono ?_; rintro e w' ⟨rfl, rfl⟩; rw [HQ1.out])
              | (at_builtin; refine wpList_append_own _ rfl _ _ 37 rfl w.heap.size 9 i0 (.string ⟨#[]⟩) 1 16 Try.underlying37 hi0 hz0 hz1 hz2 rfl (by decide) _ _ _ rfl (HOWN.out.alloc _) ⟨_, 0, none⟩ 1 1 [.string (s.extract f i)] rfl rfl (cell_one_new _ _ _) (by simp [Value.oneCell']) (by unfold maxLen; omega) (by omega) (by have := HB.out.size; simp; omega) ?_; intro v' w1 hown1 hg1 _; have HO1 := Lib.hid hown1; have HG1 := Lib.hid hg1; clear hown1 hg1))
            go_roundw
            case rel => exact ⟨i + 1, i + 1, L ++ [segB s f i], by go_num, by go_num, by omega, Nat.le_refl _, by rw [List.length_append, ← HN.out]; simp; omega, fun _ => rfl, Lib.hid (HE.out.2 hlf), by rw [List.length_append, List.map_append, ← HN.out, List.map_singleton, HSV.out]; exact HO1.out, Lib.hid ((HB.out.alloc (HB.out.size) _).grown HG1.out (by have := HB.out.size; simp; omega) (fun g hg => (HOWN.out.lt g hg).1))⟩
            case measure => simp [intOf]; omega
          · have p3 : ¬ (f : Int) < (i : Int) := by omega
            obtain rfl : f = i := by omega
            clear hfi
            go_wp2_with (first
              | (go_at_call 49; refine (refBlank_any _ _).mono ?_; rintro e w' ⟨rfl, rfl⟩; rw [HQ1.out]))
            go_roundw
            case rel => exact ⟨f + 1, f + 1, L, by go_num, by go_num, by omega, Nat.le_refl _, by rw [← HN.out]; omega, fun _ => rfl, Lib.hid (HE.out.1 (by first | rfl | trivial)), by rw [← HN.out]; exact HOWN.out, HB⟩
            case measure => simp [intOf]; omega
    · have p2 : ¬ (i : Int) < (s.size : Int) := by omega
      have HQ1 := Lib.hid (show (0 : Nat) = 0 from rfl)
      have HE := Lib.hid (HEND.out [] (by
        rw [HI.out, rest_nil hge, wordsG_nil]
        by_cases h : segB s f i = []
        · rw [if_pos h, if_pos h]; rfl
        · rw [if_neg h, if_neg h]; rfl) (by rw [rest_nil (by omega)]))
      rcases Nat.lt_or_ge f i with hlf | hgf
      · have p3 : (f : Int) < (i : Int) := by omega
        have q1 : (0 : Int) ≤ (f : Int) := by omega
        have HSV := Lib.hid (show strV (segB s f i) = .string (s.extract f i) from strV_of (extract_seg s f i (by omega) hf))
        clear hfi
        go_wp2_with (first
          | (go_at_call 49; refine (refBlank_any _ _).mono ?_; rintro e w' ⟨rfl, rfl⟩; rw [HQ1.out])
          | (at_builtin; refine wpList_append_own _ rfl _ _ 37 rfl w.heap.size 9 i0 (.string ⟨#[]⟩) 1 16 Try.underlying37 hi0 hz0 hz1 hz2 rfl (by decide) _ _ _ rfl (HOWN.out.alloc _) ⟨_, 0, none⟩ 1 1 [.string (s.extract f i)] rfl rfl (cell_one_new _ _ _) (by simp [Value.oneCell']) (by unfold maxLen; omega) (by omega) (by have := HB.out.size; simp; omega) ?_; intro v' w1 hown1 hg1 _; have HO1 := Lib.hid hown1; have HG1 := Lib.hid hg1; clear hown1 hg1))
        go_roundw
        case rel => exact ⟨i + 1, i + 1, L ++ [segB s f i], by go_num, by go_num, by omega, Nat.le_refl _, by rw [List.length_append, ← HN.out]; simp; omega, fun _ => rfl, Lib.hid (HE.out.2 hlf), by rw [List.length_append, List.map_append, ← HN.out, List.map_singleton, HSV.out]; exact HO1.out, Lib.hid ((HB.out.alloc (HB.out.size) _).grown HG1.out (by have := HB.out.size; simp; omega) (fun g hg => (HOWN.out.lt g hg).1))⟩
        case measure => simp [intOf]; omega
      · have p3 : ¬ (f : Int) < (i : Int) := by omega
        obtain rfl : f = i := by omega
        clear hfi
        go_wp2_with (first
          | (go_at_call 49; refine (refBlank_any _ _).mono ?_; rintro e w' ⟨rfl, rfl⟩; rw [HQ1.out]))
        go_roundw
        case rel => exact ⟨f + 1, f + 1, L, by go_num, by go_num, by omega, Nat.le_refl _, by rw [← HN.out]; omega, fun _ => rfl, Lib.hid (HE.out.1 (by first | rfl | trivial)), by rw [← HN.out]; exact HOWN.out, HB⟩
        case measure => simp [intOf]; omega
end Go.Proofs.Ytglppnpllpfaeaa
