/-
  The document's small functions: where what is open is closed; the last pair of a name.
-/
import Derived.Test.YtglppnpllpfaeaaMacC
namespace Go.Proofs.Ytglppnpllpfaeaa
open Go.RowKit
set_option linter.unusedVariables false

def closedI (i : Nat) (o : Option Nat) : Int := match o with | some k => ((k + i : Nat) : Int) | none => -1
set_option maxRecDepth 100000 in
set_option maxHeartbeats 4000000 in
theorem refClosing_any (s : ByteArray) (i0 : Nat) (o c : UInt8) (w : World) (hs : s.size ≤ 140737488351232) (hi0 : i0 ≤ s.size) :
    Calls Try.prog 32 #[.string s, .int .i64 i0, .int .u8 o.toNat, .int .u8 c.toNat] w fun e w' => e = .returned (.int .i64 (closedI i0 (closedF o c 0 (rest s i0)))) ∧ w' = w := by
  obtain ⟨res, hres⟩ : ∃ res : Int, res = closedI i0 (closedF o c 0 (rest s i0)) := ⟨_, rfl⟩
  rw [← hres]
  have HRES := Lib.hid hres
  clear hres
  go_enter Try.func32, Try.ntmps32
  go_wp2_with fail
  go_loopw [1, 9] (fun i' n' wr => ∃ i n : Nat, i' = .int .i64 i ∧ n' = .int .i64 n ∧ i ≤ s.size ∧ n ≤ i ∧ Hid (res = closedI i (closedF o c n (rest s i))) ∧ w = wr) (fun i' _ _ => s.size - (intOf i').toNat)
  case atStart => exact ⟨i0, 0, rfl, rfl, hi0, Nat.zero_le _, HRES, rfl⟩
  case round =>
    obtain ⟨i, n, rfl, rfl, hi, hni, HI, hw⟩ := hrel
    subst hw
    rcases Nat.lt_or_ge i s.size with hlt | hge
    · have p1 : (i : Int) < (s.size : Int) := by omega
      have hb := byteAt_in hlt
      have hrc := rest_cons hlt
      obtain ⟨x, hx⟩ : ∃ x, x = byteAt s i := ⟨_, rfl⟩
      rw [← hx] at hb hrc
      have HX := Lib.hid hx
      have HRC := Lib.hid hrc
      clear hx hrc
      have ewi : IntKind.i64.wrap ((i : Int) + 1) = (i : Int) + 1 := IntWalk.i64_in _ (by omega)
      have hmap : ∀ o : Option Nat, closedI i (o.map (· + 1)) = closedI (i + 1) o := fun o => by
        cases o with
        | none => rfl
        | some k => show ((k + 1 + i : Nat) : Int) = ((k + (i + 1) : Nat) : Int); omega
      have HMAP := Lib.hid hmap
      clear hmap
      by_cases t1 : x = o
      · have f1 : ((x.toNat : Int) == (o.toNat : Int)) = true := test_yes t1
        have ewn : IntKind.i64.wrap ((n : Int) + 1) = (n : Int) + 1 := IntWalk.i64_in _ (by omega)
        have HN := Lib.hid (show res = closedI (i + 1) (closedF o c (n + 1) (rest s (i + 1))) by
          rw [HI.out, HRC.out, closedF_cons]
          rw [if_pos (by rw [t1]; exact beq_self_eq_true _)]
          exact HMAP.out _)
        clear t1
        go_wp2_with fail
        go_roundw
        case rel => exact ⟨i + 1, n + 1, by go_num, by go_num, by omega, by omega, HN, by first | rfl | trivial⟩
        case measure => simp [intOf]; omega
      · have f1 : ((x.toNat : Int) == (o.toNat : Int)) = false := test_no t1
        by_cases t2 : x = c
        · have f2 : ((x.toNat : Int) == (c.toNat : Int)) = true := test_yes t2
          by_cases t3 : n = 0
          · have f3 : ((n : Int) == 0) = true := by rw [beq_iff_eq]; omega
            have HN := Lib.hid (show res = (i : Int) by
              rw [HI.out, HRC.out, closedF_cons]
              rw [if_neg (by rw [beq_iff_eq]; exact t1), if_pos (by rw [t2]; exact beq_self_eq_true _), if_pos t3]
              show ((0 + i : Nat) : Int) = _
              rw [Nat.zero_add])
            clear t1 t2 t3
            go_wp2_with fail
            go_ret
            exact ⟨by rw [HN.out]; rfl, rfl⟩
          · have f3 : ((n : Int) == 0) = false := beq_eq_false_iff_ne.2 (by omega)
            have ewn : IntKind.i64.wrap ((n : Int) - 1) = (n : Int) - 1 := IntWalk.i64_in _ (by omega)
            have HN := Lib.hid (show res = closedI (i + 1) (closedF o c (n - 1) (rest s (i + 1))) by
              rw [HI.out, HRC.out, closedF_cons]
              rw [if_neg (by rw [beq_iff_eq]; exact t1), if_pos (by rw [t2]; exact beq_self_eq_true _), if_neg t3]
              exact HMAP.out _)
            have hn0 : 0 < n := by omega
            clear t1 t2 t3
            go_wp2_with fail
            go_roundw
            case rel => exact ⟨i + 1, n - 1, by go_num, by first | go_num | (congr 1; omega), by omega, by omega, HN, by first | rfl | trivial⟩
            case measure => simp [intOf]; omega
        · have f2 : ((x.toNat : Int) == (c.toNat : Int)) = false := test_no t2
          have HN := Lib.hid (show res = closedI (i + 1) (closedF o c n (rest s (i + 1))) by
            rw [HI.out, HRC.out, closedF_cons]
            rw [if_neg (by rw [beq_iff_eq]; exact t1), if_neg (by rw [beq_iff_eq]; exact t2)]
            exact HMAP.out _)
          clear t1 t2
          go_wp2_with fail
          go_roundw
          case rel => exact ⟨i + 1, n, by go_num, rfl, by omega, by omega, HN, by first | rfl | trivial⟩
          case measure => simp [intOf]; omega
    · have p1 : ¬ (i : Int) < (s.size : Int) := by omega
      have HN := Lib.hid (show res = -1 by rw [HI.out, rest_nil hge]; rfl)
      go_wp2_with fail
      go_ret
      exact ⟨by rw [HN.out]; rfl, rfl⟩
set_option maxRecDepth 100000 in
set_option maxHeartbeats 4000000 in
theorem refGet_any (l : List (Bs × Bs)) (v : Value) (D : Nat → Prop) (name : ByteArray) (w : World) (h : PairsAt w D v l) :
    Calls Try.prog 43 #[v, .string name] w fun e w' => e = .returned (lastV (lastF l name.data.toList)) ∧ w' = w := by
  have hc2 : Try.prog.cellsOf 35 = 2 := by kernel_rfl
  obtain ⟨a, c, rfl, hl, H⟩ := h
  obtain ⟨N, hN⟩ : ∃ N, N = name.data.toList := ⟨_, rfl⟩
  obtain ⟨res, hres⟩ : ∃ res, res = lastV (lastF l N) := ⟨_, rfl⟩
  rw [← hN, ← hres]
  have HRES := Lib.hid hres
  have HN := Lib.hid (show name.toList = N by rw [Lib.toList_data, hN])
  have HH := Lib.hid H
  obtain ⟨n, hn⟩ : ∃ n, n = l.length := ⟨_, rfl⟩
  have HNL := Lib.hid hn
  rw [← hn] at hl
  rw [← hn]
  have ew : IntKind.i64.wrap ((n : Int) - 1) = (n : Int) - 1 := IntWalk.i64_in _ (by omega)
  clear hres hN H hn
  go_enter Try.func43, Try.ntmps43
  go_wp2_with fail
  go_loopw [6] (fun i' wr => ∃ i : Nat, i' = .int .i64 ((i : Int) - 1) ∧ i ≤ n ∧ Hid (∀ j (h : j < l.length), i ≤ j → l[j].1 ≠ N) ∧ w = wr) (fun i' _ => (intOf i' + 1).toNat)
  case atStart => exact ⟨n, rfl, Nat.le_refl _, Lib.hid (fun j h1 h2 => absurd h1 (by rw [← HNL.out]; omega)), rfl⟩
  case round =>
    obtain ⟨i, rfl, hi, HNO, hw⟩ := hrel
    subst hw
    cases i with
    | zero =>
      have p1 : ¬ (0 : Int) ≤ ((0 : Nat) : Int) - 1 := by omega
      have HX := Lib.hid (show res = lastV none by rw [HRES.out, lastF_none fun j h => HNO.out j h (Nat.zero_le _)])
      go_wp2_with fail
      go_ret2
      exact ⟨by rw [HX.out]; rfl, rfl⟩
    | succ k =>
      have hk : k < l.length := by rw [← HNL.out]; omega
      obtain ⟨b, off, rfl, hb, _, c1, c2⟩ := HH.out k hk
      obtain ⟨x, hx⟩ : ∃ x, x = l[k].1 := ⟨_, rfl⟩
      obtain ⟨y, hy⟩ : ∃ y, y = l[k].2 := ⟨_, rfl⟩
      have HX := Lib.hid hx
      have HY := Lib.hid hy
      rw [← hx] at c1
      rw [← hy] at c2
      unfold strV at c1 c2
      have p1 : (0 : Int) ≤ ((k + 1 : Nat) : Int) - 1 := by omega
      have p2 : ((k + 1 : Nat) : Int) - 1 < (n : Int) := by omega
      have p3 : (((k + 1 : Nat) : Int) - 1).toNat = k := by omega
      have p4 : IntKind.i64.wrap (((k + 1 : Nat) : Int) - 1 - 1) = (k : Int) - 1 := by rw [IntWalk.i64_in _ (by omega)]; omega
      clear hx hy
      cases ht : (x == N) with
      | true =>
        have t1 : (x == name.toList) = true := by rw [HN.out]; exact ht
        have HZ := Lib.hid (show res = lastV (some y) by
          rw [HRES.out, lastF_some hk (by rw [← HX.out]; exact beq_iff_eq.1 ht) fun j h1 h2 => HNO.out j h1 (by omega), HY.out])
        clear ht
        go_wp2_with fail
        go_ret2
        exact ⟨by rw [HZ.out]; rfl, rfl⟩
      | false =>
        have t1 : (x == name.toList) = false := by rw [HN.out]; exact ht
        have HZ := Lib.hid (show l[k].1 ≠ N from fun e => ne_of_beq_false ht (by rw [HX.out]; exact e))
        clear ht
        go_wp2_with fail
        go_roundw
        case rel => exact ⟨k, by first | rfl | go_num, by omega, Lib.hid (fun j h1 h2 => by
          rcases Nat.lt_or_ge k j with h3 | h3
          · exact HNO.out j h1 (by omega)
          · obtain rfl : j = k := by omega
            exact HZ.out), by first | rfl | trivial⟩
        case measure => simp [intOf]

end Go.Proofs.Ytglppnpllpfaeaa
