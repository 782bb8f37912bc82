/-
  The contracts of float.all, float.canon, math.Copysign, math.Inf, of the law's noNumber; plain laws: sums and products from both sides.
-/
import Derived.Test.YtnddnhjlaojllaaDoorRealE
import Derived.Test.YtnddnhjlaojllaaDoorShelf
namespace Go.Proofs.YtnddnhjlaojllaaDoor
open Go.RowKit

def digB (c : UInt8) : Bool := (48 ≤ c.toNat && c.toNat ≤ 57)

theorem idx_dec : ∀ n : Fin 256, (Lib.indexByte [48, 49, 50, 51, 52, 53, 54, 55, 56, 57] (UInt8.ofNat n.val) == -1) = !(digB (UInt8.ofNat n.val)) := by decide +kernel
theorem idx_dec_of (c : UInt8) : (Lib.indexByte [48, 49, 50, 51, 52, 53, 54, 55, 56, 57] c == -1) = !digB c := by
  have h := idx_dec ⟨c.toNat, c.toNat_lt⟩
  simpa using h

theorem byte_here (s : ByteArray) (k : Nat) (hk : k < s.size) : s.data.toList[k]? = some s[k] := by
  have h' : k < s.data.toList.length := by simpa using hk
  rw [List.getElem?_eq_getElem h']
  simp
  rfl
theorem all_step {l : List UInt8} {k : Nat} {f : UInt8 → Bool} {c : UInt8} (h : (l.take k).all f = true) (hc : l[k]? = some c) : (l.take (k + 1)).all f = f c := by
  rw [List.take_add_one, hc, List.all_append, h]
  simp
theorem all_any (s m : ByteArray) (w : World) (hs : s.size ≤ 140737488351232) :
    Calls Tryd.prog 26 #[.string s, .string m] w fun e w' => e = .returned (.bool (s.data.toList.all fun c => decide (0 ≤ Lib.indexByte m.data.toList c))) ∧ w = w' := by
  obtain ⟨f, hf⟩ : ∃ f : UInt8 → Bool, f = fun c => decide (0 ≤ Lib.indexByte m.data.toList c) := ⟨_, rfl⟩
  rw [← hf]
  obtain ⟨R, hR⟩ : ∃ R, R = s.data.toList.all f := ⟨_, rfl⟩
  rw [← hR]
  have HF := Lib.hid hf; have HR := Lib.hid hR; clear hf hR
  go_enter Tryd.func26, Tryd.ntmps26
  go_wp2_with fail
  go_loop [8] (fun i => ∃ k : Nat, k ≤ s.size ∧ i = .int .i64 k ∧ Hid ((s.data.toList.take k).all f = true)) (fun i => s.size - (intOf i).toNat)
  case atStart => exact ⟨0, Nat.zero_le _, rfl, Lib.hid (by simp)⟩
  case round =>
    obtain ⟨k, hk, rfl, HALL⟩ := hrel
    by_cases hlt : k < s.size
    · have HX := Lib.hid (byte_here s k hlt)
      go_wp2_with fail
      refine (Tryd.strings_IndexByte m _ _).mono ?_
      rintro e w1 ⟨rfl, hw⟩
      subst hw
      rw [show ((s[k].toNat : Int).toNat.toUInt8) = s[k] by simp]
      obtain ⟨v, hv⟩ : ∃ v, v = Lib.indexByte m.data.toList s[k] := ⟨_, rfl⟩
      rw [← hv]
      have HV := Lib.hid hv; clear hv
      by_cases h0 : 0 ≤ v
      · go_wp2_with fail
        go_round
        case rel => exact ⟨k + 1, by omega, by go_num, Lib.hid (by rw [all_step HALL.out HX.out, HF.out]; exact decide_eq_true (HV.out ▸ h0))⟩
        case measure => simp [intOf]; omega
      · have hr : R = false := by
          rw [HR.out, List.all_eq_false]
          exact ⟨_, List.mem_of_getElem? HX.out, by rw [HF.out]; simp only [← HV.out]; simpa using h0⟩
        have HRR := Lib.hid hr; clear hr
        go_wp2_with fail
        go_ret
        exact ⟨by rw [HRR.out]; rfl, rfl⟩
    · obtain rfl : k = s.size := by omega
      have h1 := HALL.out
      rw [Lib.size_eq, List.take_length, ← HR.out] at h1
      have H1 := Lib.hid h1; clear h1
      go_wp2_with fail
      go_ret
      exact ⟨by rw [H1.out]; rfl, rfl⟩

theorem sum_comm (x y : Ieee.Datum) : x.sum y = y.sum x := by
  cases x with
  | nan s t => cases y <;> rfl
  | infinity s =>
    cases y with
    | nan _ _ => rfl
    | number _ _ _ => rfl
    | infinity t => cases s <;> cases t <;> rfl
  | number s m i =>
    cases y with
    | nan _ _ => rfl
    | infinity _ => rfl
    | number t n j =>
      simp only [Ieee.Datum.sum]
      rw [Int.min_comm, Int.add_comm, Bool.and_comm]
theorem product_comm (x y : Ieee.Datum) : x.product y = y.product x := by
  cases x with
  | nan s t => cases y <;> rfl
  | infinity s =>
    cases y with
    | nan _ _ => rfl
    | number t n _ => simp only [Ieee.Datum.product]
    | infinity t => simp only [Ieee.Datum.product]; rw [Bool.xor_comm]
  | number s m i =>
    cases y with
    | nan _ _ => rfl
    | infinity _ => simp only [Ieee.Datum.product]
    | number t n j =>
      simp only [Ieee.Datum.product]
      rw [Nat.mul_comm, Int.add_comm, Bool.xor_comm]
theorem arith_comm (op : BinOp) (h : op = .add ∨ op = .mul) (a b : Nat) : arithF op a b = arithF op b a := by
  have key : floatBits op .f64 a b = floatBits op .f64 b a := by
    rcases h with rfl | rfl
    · show ((Ieee.double.read a).sum (Ieee.double.read b)).map _ = ((Ieee.double.read b).sum (Ieee.double.read a)).map _
      rw [sum_comm]
    · show ((Ieee.double.read a).product (Ieee.double.read b)).map _ = ((Ieee.double.read b).product (Ieee.double.read a)).map _
      rw [product_comm]
  unfold arithF
  rw [key]
end Go.Proofs.YtnddnhjlaojllaaDoor
