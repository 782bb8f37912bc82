/-
  The contract of calc: an expression, up to what closes it.
-/
import Derived.Test.YtnndnldpbdhkgaaLexU
import Derived.Lib.ConvBytes

namespace Go.Proofs.Ytnndnldpbdhkgaa
open Go.RowKit
set_option linter.unusedVariables false

/-- What a reader of a text within leaves: the text, or why not. -/
def TextPost (w : World) (b : Nat) (s : ByteArray) (i skip : Nat) (d : Int) (res : Option Nat) (e : Ending) (w' : World) : Prop :=
  match res with
  | some k => ∃ r : ByteArray, e = .returned (.string r) ∧ r.data.toList = (rest s i).take k ∧ ScanAt w' b s ((i + (k + skip) : Nat) : Int) d ∧ Keeps (fun k => k = b) w w'
  | none => FailPost w b 2 e w'

theorem starts_one (c : UInt8) (r : List UInt8) : startsF [c] r = headIs c r := by
  cases r with
  | nil => rfl
  | cons x t =>
    show (c == x && true) = (x == c)
    rw [Bool.and_true, Bool.eq_iff_iff, beq_iff_eq, beq_iff_eq]
    exact eq_comm
theorem keeps_bytes (S : Nat → Prop) (w : World) (T : TypeId) (R : ByteArray) : Keeps S w (Lib.bytesWorld w.drew T R) :=
  ⟨rfl, rfl, rfl, by rw [Lib.bytesWorld_size]; exact Nat.le_succ _, fun k hk _ => Lib.bytesWorld_at_old _ _ _ _ hk⟩

/-- How far the expression has come. -/
def CalcAt (l : List UInt8) (o k : Nat) : Prop := k ≤ l.length ∧ calcF 0 l = (calcF o (l.drop k)).map (· + k)
theorem CalcAt.start (l : List UInt8) : CalcAt l 0 0 := ⟨Nat.zero_le _, by rw [List.drop_zero]; cases calcF 0 l <;> rfl⟩
theorem CalcAt.step {l : List UInt8} {o o' k : Nat} {c : UInt8} (h : CalcAt l o k) (hk : l[k]? = some c) (hc : calcF o (c :: l.drop (k + 1)) = (calcF o' (l.drop (k + 1))).map (· + 1)) : CalcAt l o' (k + 1) := by
  have hlt := (List.getElem?_eq_some_iff.1 hk).1
  refine ⟨hlt, ?_⟩
  rw [h.2, drop_at hk, hc]
  cases calcF o' (l.drop (k + 1)) with
  | none => rfl
  | some n => simp; omega
theorem calcF_open (o : Nat) (t : List UInt8) : calcF o (40 :: t) = (calcF (o + 1) t).map (· + 1) := rfl
theorem calcF_shut (o : Nat) (t : List UInt8) (h : 0 < o) : calcF o (41 :: t) = (calcF (o - 1) t).map (· + 1) := by
  rw [calcF]
  rw [if_neg (by decide), if_pos (by decide), if_neg (by omega)]
theorem calcF_end (t : List UInt8) : calcF 0 (41 :: t) = if headIs 41 t then some 0 else none := rfl
theorem calcF_else (o : Nat) (c : UInt8) (t : List UInt8) (h1 : (c == 40) = false) (h2 : (c == 41) = false) : calcF o (c :: t) = (calcF o t).map (· + 1) := by
  simp only [calcF, h1, h2]
  rfl

set_option maxHeartbeats 2000000 in
theorem calc_any (b : Nat) (s : ByteArray) (i : Nat) (d : Int) (w : World) (h : ScanAt w b s i d) (hs : s.size ≤ 140737488351232) (hi : i ≤ s.size) (res : Option Nat) (hres : calcF 0 (rest s i) = res) :
    Calls Try.prog 66 #[.pointer (some ⟨b, 0, none⟩)] w (TextPost w b s i 2 d res) := by
  obtain ⟨c0, c1, c2, f1, f2⟩ := h.cells
  have lb := h.lt
  have kc := fun (w : World) (R : ByteArray) => Lib.run_convert_string_bytes (P := Try.prog) w 9 36 5 R Try.underlying9 Try.underlying36 Try.underlying5
  have HRES := Lib.hid hres
  clear hres
  go_enter Try.func66, Try.ntmps66
  go_wp2_with fail
  go_region
  clear kc
  have hw1c := fun j hj => Lib.bytesWorld_cell w.drew 5 (s.extract i s.size) j hj
  have hw1s : ScanAt (Lib.bytesWorld w.drew 5 (s.extract i s.size)) b s i d := h.keep (keeps_bytes (fun _ => False) _ _ _) (fun x => x)
  have hw1k : Keeps (fun k => k = b) w (Lib.bytesWorld w.drew 5 (s.extract i s.size)) := keeps_bytes _ _ _ _
  have hRl : (s.extract i s.size).size = s.size - i := by rw [Lib.size_eq, Lib.extract_to_end, List.length_drop, ← Lib.size_eq]
  rw [show (s.extract i s.size).data.toList = rest s i from Lib.extract_to_end _ _, hRl] at hw1c
  simp only [show w.drew.heap.size = w.heap.size from rfl] at hw1c
  obtain ⟨w1, hw1⟩ : ∃ w1, w1 = Lib.bytesWorld w.drew 5 (s.extract i s.size) := ⟨_, rfl⟩
  obtain ⟨B, hB⟩ : ∃ B, B = w.heap.size := ⟨_, rfl⟩
  obtain ⟨cp, hcp⟩ : ∃ cp, cp = grownCap w.drew (s.size - i) 0 5 := ⟨_, rfl⟩
  rw [← hw1, ← hB] at hw1c
  rw [← hw1] at hw1s hw1k
  rw [← hw1, ← hB, ← hcp]
  clear hw1 hB hcp
  obtain ⟨N, hN⟩ : ∃ N, N = s.size - i := ⟨_, rfl⟩
  rw [← hN] at hw1c ⊢
  have hN2 : N + i ≤ s.size := by omega
  have hN3 : N = (rest s i).length := by rw [rest_len, hN]
  have HN := Lib.hid hN; clear hN
  have HN3 := Lib.hid hN3; clear hN3
  have HC := Lib.hid hw1c; clear hw1c
  have HK1 := Lib.hid hw1k; clear hw1k
  have HS1 := Lib.hid hw1s
  clear h c0 c1 c2 f1 f2 hRl
  obtain ⟨c0, c1, c2, f1, f2⟩ := hw1s.cells
  clear hw1s
  go_wp2_with fail
  go_loop [3, 18] (fun o k' => ∃ n k : Nat, o = .int .i64 n ∧ k' = .int .i64 k ∧ n ≤ k ∧ k ≤ N ∧ Hid (CalcAt (rest s i) n k)) (fun _ k' => N - (intOf k').toNat)
  case atStart => exact ⟨0, 0, rfl, rfl, by omega, by omega, Lib.hid (CalcAt.start _)⟩
  case round =>
    obtain ⟨n, k, rfl, rfl, hnk, hk, HA⟩ := hrel
    by_cases hlt : k < N
    · have hcell := HC.out k hlt
      obtain ⟨c, hc⟩ : ∃ c, (rest s i)[k]? = some c := ⟨_, List.getElem?_eq_getElem (by have := HN3.out; omega)⟩
      have hgd : (rest s i).getD k 0 = c := by rw [List.getD_eq_getElem?_getD, hc]; rfl
      rw [hgd] at hcell
      have HCC := Lib.hid hc; clear hc hgd
      have p1 : (k : Int) < (N : Int) := by omega
      by_cases h40 : c = 40
      · have e1 : ((c.toNat : Int) == 40) = true := by rw [h40]; rfl
        have hn := HA.out.step (o' := n + 1) HCC.out (by rw [h40]; exact calcF_open _ _)
        have HNN := Lib.hid hn
        clear h40 hn
        go_wp2_with fail
        go_round
        case rel => exact ⟨n + 1, k + 1, by go_num, by go_num, by omega, by omega, HNN⟩
        case measure => simp [intOf]; omega
      · have e1 : ((c.toNat : Int) == 40) = false := by
          have := u8_eq (x := c) (c := 40)
          rw [beq_eq_false_iff_ne.2 h40] at this
          exact this
        by_cases h41 : c = 41
        · have e2 : ((c.toNat : Int) == 41) = true := by rw [h41]; rfl
          by_cases hn0 : 0 < n
          · have hn := HA.out.step (o' := n - 1) HCC.out (by rw [h41]; exact calcF_shut _ _ hn0)
            have HNN := Lib.hid hn
            clear h40 h41 hn
            go_wp2_with fail
            go_round
            case rel => exact ⟨n - 1, k + 1, by congr 1; omega, by go_num, by omega, by omega, HNN⟩
            case measure => simp [intOf]; omega
          · obtain rfl : n = 0 := by omega
            have w1e : IntKind.i64.wrap ((i : Int) + (k : Int)) = (i : Int) + (k : Int) := IntWalk.i64_in _ (by omega)
            have w2 : ((i : Int) + (k : Int)).toNat = i + k := by omega
            have w3 : 0 ≤ (i : Int) + (k : Int) := by omega
            have w4 : (i : Int) + (k : Int) ≤ (s.size : Int) := by omega
            have w5 : (i : Int) ≤ (i : Int) + (k : Int) := by omega
            have hd := drop_at HCC.out
            have hfin : res = if headIs 41 (rest s (i + (k + 1))) then some k else none := by
              rw [← HRES.out, HA.out.2, hd, h41, calcF_end, rest_drop]
              split <;> simp
            clear h40 h41 hd
            cases hh : headIs 41 (rest s (i + (k + 1)))
            · have hr : res = none := by rw [hfin, hh]; rfl
              have HH := Lib.hid hh
              have HR := Lib.hid hr
              clear hh hr hfin
              go_wp2_with fail
              go_quiet (fail)
              go_wp2_with fail
              have hs2 := scan_end (j' := ((i + (k + 1) : Nat) : Int)) HS1.out nq rfl
              have hk2 := keep_end w1 nq b 1 (.int .i64 ((i : Int) + ((k : Int) + 1)))
              obtain ⟨w2, hw2⟩ : ∃ w2, w2 = (w1.drewN nq).setCell ⟨b, 1, none⟩ (.int .i64 ((i : Int) + ((k : Int) + 1))) := ⟨_, rfl⟩
              rw [← hw2] at hk2
              rw [show (w1.drewN nq).setCell ⟨b, 1, none⟩ (.int .i64 (((i + (k + 1) : Nat)) : Int)) = w2 from hw2.symm] at hs2
              rw [← hw2]
              clear hw2
              have HK2 := Lib.hid hk2; clear hk2
              refine (is_no b s ⟨#[41]⟩ (i + (k + 1)) d _ hs2 (by omega) (by rw [hasPrefix_starts, starts_one]; exact HH.out)).mono ?_
              rintro e w3 ⟨rfl, q3, rfl⟩
              go_wp2_with fail
              refine (fail_any 2 _).mono ?_
              rintro e w4 ⟨rfl, rfl⟩
              go_wp2_with fail
              refine ⟨rfl, ?_⟩
              rw [HR.out]
              exact ⟨rfl, (HK1.out.trans HK2.out (fun x _ hx => hx)).drewN _⟩
            · have hr : res = some k := by rw [hfin, hh]; rfl
              have HH := Lib.hid hh
              have HR := Lib.hid hr
              clear hh hr hfin
              go_wp2_with fail
              go_quiet (fail)
              go_wp2_with fail
              have hs2 := scan_end (j' := ((i + (k + 1) : Nat) : Int)) HS1.out nq rfl
              have hk2 := keep_end w1 nq b 1 (.int .i64 ((i : Int) + ((k : Int) + 1)))
              obtain ⟨w2, hw2⟩ : ∃ w2, w2 = (w1.drewN nq).setCell ⟨b, 1, none⟩ (.int .i64 ((i : Int) + ((k : Int) + 1))) := ⟨_, rfl⟩
              rw [← hw2] at hk2
              rw [show (w1.drewN nq).setCell ⟨b, 1, none⟩ (.int .i64 (((i + (k + 1) : Nat)) : Int)) = w2 from hw2.symm] at hs2
              rw [← hw2]
              clear hw2
              have HK2 := Lib.hid hk2; clear hk2
              refine (is_yes b s ⟨#[41]⟩ (i + (k + 1)) d _ hs2 hs (by omega) (by decide) (by rw [hasPrefix_starts, starts_one]; exact HH.out)).mono ?_
              rintro e w3 ⟨rfl, hs3, hk3⟩
              have HS3 := Lib.hid hs3; have HK3 := Lib.hid hk3; clear hs3 hk3
              go_wp2_with fail
              go_ret
              show TextPost w b s i 2 d res _ _
              rw [HR.out]
              exact ⟨_, rfl, by rw [Lib.extract_data, show i + k - i = k by omega]; rfl, HS3.out, (HK1.out.trans HK2.out (fun x _ hx => hx)).trans HK3.out (fun x _ hx => hx)⟩
        · have e2 : ((c.toNat : Int) == 41) = false := by
            have := u8_eq (x := c) (c := 41)
            rw [beq_eq_false_iff_ne.2 h41] at this
            exact this
          have hn := HA.out.step (o' := n) HCC.out (calcF_else _ _ _ (beq_eq_false_iff_ne.2 h40) (beq_eq_false_iff_ne.2 h41))
          have HNN := Lib.hid hn
          clear h40 h41 hn
          go_wp2_with fail
          go_round
          case rel => exact ⟨n, k + 1, rfl, by go_num, by omega, by omega, HNN⟩
          case measure => simp [intOf]; omega
    · obtain rfl : k = N := by omega
      have hr : res = none := by
        rw [← HRES.out, HA.out.2, HN3.out, List.drop_length]; rfl
      have HR := Lib.hid hr
      clear hr
      go_wp2_with fail
      refine (fail_any 2 _).mono ?_
      rintro e w2 ⟨rfl, rfl⟩
      go_wp2_with fail
      refine ⟨rfl, ?_⟩
      rw [HR.out]
      exact ⟨rfl, HK1.out⟩
end Go.Proofs.Ytnndnldpbdhkgaa
