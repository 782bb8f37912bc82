/-
  strconv.ParseUint of sixteen digits to base 16.
-/
import Derived.Test.YtnddnhjlaojllaaDoorRealZ
namespace Go.Proofs.YtnddnhjlaojllaaDoor
open Go.RowKit
set_option linter.unusedVariables false

theorem hexV_lt {c : UInt8} (h : hexB c = true) : hexV c < 16 := by
  unfold hexB at h
  unfold hexV
  cases hd : digB c with
  | true =>
    rw [if_pos rfl]
    simp [digB] at hd
    omega
  | false =>
    rw [if_neg (by decide)]
    rw [hd] at h
    simp at h
    omega
theorem hexN_lt : ∀ (l : Bt) (acc : Nat), l.all hexB = true → l.foldl (fun n c => n * 16 + hexV c) acc < (acc + 1) * 16 ^ l.length
  | [], acc, h => by simp
  | c :: l, acc, h => by
    simp only [List.all_cons, Bool.and_eq_true] at h
    have hc := hexV_lt h.1
    have := hexN_lt l (acc * 16 + hexV c) h.2
    rw [List.foldl_cons, List.length_cons, Nat.pow_succ]
    refine Nat.lt_of_lt_of_le this ?_
    rw [Nat.mul_comm (16 ^ l.length) 16, ← Nat.mul_assoc]
    exact Nat.mul_le_mul_right _ (by omega)
theorem hexN_take {l : Bt} {k : Nat} (h : l.all hexB = true) (hk : k ≤ 15) : hexN (l.take k) < 1152921504606846976 := by
  have h1 := hexN_lt (l.take k) 0 (by
    rw [List.all_eq_true] at h ⊢
    exact fun c hc => h c (List.mem_of_mem_take hc))
  refine Nat.lt_of_lt_of_le h1 ?_
  rw [Nat.zero_add, Nat.one_mul]
  exact Nat.le_trans (Nat.pow_le_pow_right (by decide) (show (l.take k).length ≤ 15 by rw [List.length_take]; omega)) (by decide)
theorem hexN_step {l : Bt} {k : Nat} (hk : k < l.length) : hexN (l.take (k + 1)) = hexN (l.take k) * 16 + hexV l[k] := by
  rw [List.take_succ_eq_append_getElem hk, hexN_snoc]
theorem or32 {c : UInt8} (h : 97 ≤ c.toNat) (h2 : c.toNat ≤ 102) : bits .or .u8 (c.toNat : Int) 32 = (c.toNat : Int) := by
  have : ∀ n : Fin 6, bits .or .u8 ((97 + n.val : Nat) : Int) 32 = ((97 + n.val : Nat) : Int) := by decide +kernel
  have h3 := this ⟨c.toNat - 97, by omega⟩
  rw [show 97 + (c.toNat - 97) = c.toNat by omega] at h3
  exact h3
set_option maxRecDepth 100000 in
set_option maxHeartbeats 4000000 in
theorem parse16_in (t : ByteArray) (h16 : t.size = 16) (hx : t.data.toList.all hexB = true) (w : World) :
    Calls Tryd.prog 47 #[.string t, .int .i64 16, .int .i64 64] w fun e w' => e = .returned (.tuple #[.int .u64 (hexN t.data.toList : Nat), .nilIface]) ∧ w' = Lib.bytesWorld w 5 t := by
  have hemp : t.toList.isEmpty = false := by
    rw [Lib.toList_data]
    cases h : t.data.toList with
    | nil =>
      have := Lib.size_eq t
      rw [h, h16] at this
      cases this
    | cons a l => rfl
  have hcv := Lib.run_convert_string_bytes (P := Tryd.prog) w 9 64 5 t Tryd.underlying9 Tryd.underlying64 Tryd.underlying5
  have hB : ∀ j, j < t.size → (Lib.bytesWorld w 5 t).cell? ⟨w.heap.size, j, none⟩ = some (.int .u8 (t.data.toList.getD j 0).toNat) := fun j hj => Lib.bytesWorld_cell w 5 t j hj
  obtain ⟨W1, hW1⟩ : ∃ W1, W1 = Lib.bytesWorld w 5 t := ⟨_, rfl⟩
  rw [← hW1] at hcv hB ⊢
  clear hW1
  obtain ⟨bs, hL⟩ : ∃ bs, bs = t.data.toList := ⟨_, rfl⟩
  have hLn : bs.length = 16 := by rw [hL, ← Lib.size_eq, h16]
  rw [← hL] at hB hx ⊢
  clear hL
  obtain ⟨res, hres⟩ : ∃ res : Int, res = ((hexN bs : Nat) : Int) := ⟨_, rfl⟩
  rw [← hres]
  have HRES := Lib.hid hres
  have HB := Lib.hid hB
  have HX := Lib.hid hx
  clear hres hB hx
  have i16 : (t.size : Int) = 16 := by omega
  have hmv : IntKind.u64.wrap (IntKind.u64.wrap 18446744073709551616 - 1) = 18446744073709551615 := by
    rw [IntKind.wrap_u64, IntKind.wrap_u64]
    decide
  go_enter Tryd.func47, Tryd.ntmps47
  go_wp2
  go_loopw [12, 13, 101] (fun vu vn vi wr => ∃ (k : Nat) (a : Int), vu = .bool false ∧ vn = .int .u64 a ∧ vi = .int .i64 k ∧ k ≤ 16 ∧ Hid (a = (hexN (bs.take k) : Nat)) ∧ W1 = wr)
    (fun _ _ vi _ => 16 - (intOf vi).toNat)
  case atStart => exact ⟨0, 0, rfl, rfl, rfl, by omega, Lib.hid rfl, rfl⟩
  case round =>
    obtain ⟨k, a, rfl, rfl, rfl, hk, HA, hw⟩ := hrel
    subst hw
    by_cases hkn : k < 16
    · have hc := HB.out k (by omega)
      have hkl : k < bs.length := by omega
      have hget : bs.getD k 0 = bs[k] := by rw [List.getD_eq_getElem?_getD, List.getElem?_eq_getElem hkl]; rfl
      rw [hget] at hc
      have hcx : hexB bs[k] = true := (List.all_eq_true.1 HX.out) _ (List.getElem_mem hkl)
      have HS := Lib.hid (hexN_step hkl)
      have a0 : 0 ≤ a := by rw [HA.out]; omega
      have a1 : a < 1152921504606846976 := by
        have := hexN_take HX.out (show k ≤ 15 by omega)
        rw [HA.out]; omega
      generalize hcc : bs[k] = c at hc hcx HS
      have hcx2 := hcx
      unfold hexB at hcx2
      have hc256 : c.toNat < 256 := c.toNat_lt
      have p1 : (k : Int) < 16 := by omega
      clear hget hkl hcc
      cases hd : digB c with
      | true =>
        have HV := Lib.hid (show hexV c = c.toNat - 48 by unfold hexV; rw [hd]; rfl)
        simp [digB] at hd
        obtain ⟨hd0, hd1⟩ := hd
        have f95 : ((c.toNat : Int) == 95) = false := beq_eq_false_iff_ne.2 (by omega)
        have iov : a * 16 + ((c.toNat : Int) - 48) < 18446744073709551616 := by omega
        clear hcx hcx2
        go_wp2
        go_roundw
        case rel => exact ⟨k + 1, _, rfl, rfl, by go_num, by omega, Lib.hid (by rw [HS.out, HV.out]; have := HA.out; omega), by first | rfl | trivial⟩
        case measure => simp [intOf]; omega
      | false =>
        have HV := Lib.hid (show hexV c = c.toNat - 87 by unfold hexV; rw [hd]; rfl)
        rw [hd] at hcx2
        simp at hcx2
        obtain ⟨hl0, hl1⟩ := hcx2
        have hor := or32 hl0 hl1
        have f95 : ((c.toNat : Int) == 95) = false := beq_eq_false_iff_ne.2 (by omega)
        have iov : a * 16 + ((c.toNat : Int) - 87) < 18446744073709551616 := by omega
        clear hcx hd
        go_wp2_with fail
        refine (Tryd.internal_strconv_lower _ _).mono ?_
        rintro e w' ⟨rfl, hw⟩
        rw [hw, hor]
        clear hw
        go_wp2_with fail
        refine (Tryd.internal_strconv_lower _ _).mono ?_
        rintro e w' ⟨rfl, hw⟩
        rw [hw, hor]
        clear hw
        go_wp2_with fail
        refine (Tryd.internal_strconv_lower _ _).mono ?_
        rintro e w' ⟨rfl, hw⟩
        rw [hw, hor]
        clear hw
        go_wp2_with fail
        go_roundw
        case rel => exact ⟨k + 1, _, rfl, rfl, by go_num, by omega, Lib.hid (by rw [HS.out, HV.out]; have := HA.out; omega), by first | rfl | trivial⟩
        case measure => simp [intOf]; omega
    · obtain rfl : k = 16 := by omega
      have HE := Lib.hid (show a = res by rw [HA.out, HRES.out, List.take_of_length_le (by omega)])
      go_wp2
      go_ret2
      exact ⟨by rw [HE.out]; rfl, rfl⟩
end Go.Proofs.YtnddnhjlaojllaaDoor
