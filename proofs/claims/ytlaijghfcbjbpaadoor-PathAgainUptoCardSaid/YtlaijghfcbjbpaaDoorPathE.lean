/-
  The contracts of slices.ContainsFunc at path.Abs's closure, and of join.
-/
import Derived.Test.YtlaijghfcbjbpaaDoorPathD
namespace Go.Proofs.YtlaijghfcbjbpaaDoor
open Go.RowKit

def RetIdx (L : List Bytes) (w : World) (e : Ending) (w' : World) : Prop := ∃ r : Int, e = .returned (.int .i64 r) ∧ decide (0 ≤ r) = longB L ∧ w = w'

theorem long_any (X : ByteArray) (w : World) :
    Calls Tryd.prog 49 #[.string X] w fun e w' => e = .returned (.bool (decide ((60 : Int) < X.size))) ∧ w = w' := by
  go_enter Tryd.func49, Tryd.ntmps49
  go_wp2
  go_ret
  exact ⟨rfl, rfl⟩

theorem lens_le {L : List Bytes} {k : Nat} {X : ByteArray} (hX : X = ⟨(L.getD k []).toArray⟩) : X.size ≤ lens L := by
  have := lens_get L k
  rw [hX, Lib.size_eq]; exact this

set_option maxHeartbeats 400000 in
theorem indexFunc_any (a : Option Addr) (n c : Nat) (L : List Bytes) (w : World) (hr : ReadsL w a n L) (hl : n ≤ 100000000) (hz : lens L ≤ 100000000) :
    Calls Tryd.prog 60 #[.slice a n c, .func (.func 49) #[] #[]] w (RetIdx L w) := by
  have HR := Lib.hid hr.2; have HN := Lib.hid hr.1; clear hr
  go_enter Tryd.func60, Tryd.ntmps60
  go_wp2
  go_loop [8] (fun i => ∃ k : Nat, k ≤ n ∧ i = .int .i64 k ∧ longB (L.take k) = false) (fun i => n - (intOf i).toNat)
  case atStart => exact ⟨0, Nat.zero_le _, rfl, rfl⟩
  case round =>
    obtain ⟨k, hk, rfl, hno⟩ := hrel
    have HNO := Lib.hid hno; clear hno
    by_cases hlt : k < n
    · obtain ⟨b, off, rfl, _, hc0⟩ := HR.out k hlt
      have hkL : k < L.length := by rw [← HN.out]; exact hlt
      obtain ⟨X, hX⟩ : ∃ X : ByteArray, X = ⟨(L.getD k []).toArray⟩ := ⟨_, rfl⟩
      have hc : w.cell? ⟨b, off + k, none⟩ = some (.string X) := by rw [hX]; exact hc0
      have hXd : X.size = (L.getD k []).length := by rw [Lib.size_eq, hX]
      have hXs : X.size ≤ 100000000 := by have := lens_le hX; omega
      have HX := Lib.hid hXd; have HKL := Lib.hid hkL
      clear hc0 hX hXd hkL
      by_cases h60 : 60 < X.size
      · have e1 : decide ((60 : Int) < (X.size : Int)) = true := by simp; omega
        have E1 := Lib.hid e1; clear e1
        go_wp2_with (go_at_call 49; refine (long_any _ _).mono ?_; rintro e w' ⟨rfl, rfl⟩; rw [E1.out])
        go_ret
        refine ⟨_, rfl, ?_, rfl⟩
        have hl : longB L = true := by
          unfold longB
          rw [List.any_eq_true]
          refine ⟨L.getD k [], ?_, by rw [decide_eq_true_eq, ← HX.out]; exact h60⟩
          have := HKL.out
          simp [this]
        rw [hl]; simp
      · have e1 : decide ((60 : Int) < (X.size : Int)) = false := by simp; omega
        have E1 := Lib.hid e1; clear e1
        go_wp2_with (go_at_call 49; refine (long_any _ _).mono ?_; rintro e w' ⟨rfl, rfl⟩; rw [E1.out])
        go_round
        case rel =>
          refine ⟨k + 1, by omega, by go_num, ?_⟩
          have h1 := HNO.out
          unfold longB at h1 ⊢
          rw [List.take_succ_eq_append_getElem HKL.out, List.any_append, h1]
          have h2 := HX.out
          rw [List.getD_eq_getElem?_getD, List.getElem?_eq_getElem HKL.out] at h2
          simp only [Option.getD_some] at h2
          simp only [List.any_cons, List.any_nil, Bool.or_false, Bool.false_or, decide_eq_false_iff_not]
          omega
        case measure => simp [intOf]; omega
    · obtain rfl : k = n := by omega
      have hl : longB L = false := by rw [← HNO.out, HN.out, List.take_length]
      have HL := Lib.hid hl; clear hl
      go_wp2
      go_ret
      exact ⟨_, rfl, by rw [HL.out]; rfl, rfl⟩

theorem contains_any (a : Option Addr) (n c : Nat) (L : List Bytes) (w : World) (hr : ReadsL w a n L) (hl : n ≤ 100000000) (hz : lens L ≤ 100000000) :
    Calls Tryd.prog 48 #[.slice a n c, .func (.func 49) #[] #[]] w fun e w' => e = .returned (.bool (longB L)) ∧ w = w' := by
  go_enter Tryd.func48, Tryd.ntmps48
  go_wp2_with fail
  refine (indexFunc_any a n c L w hr hl hz).mono ?_
  rintro e w' ⟨r, rfl, h, rfl⟩
  have H := Lib.hid h; clear h
  go_wp2
  go_ret
  exact ⟨ret_bool H.out, rfl⟩

theorem lens_sum (L : List Bytes) : (L.map List.length).sum = lens L := rfl

theorem join_any (a : Option Addr) (n c : Nat) (L : List Bytes) (w : World) (hr : ReadsL w a n L) (hl : n ≤ 100000000) (hz : lens L ≤ 100000000) (hc : n ≤ c) :
    Calls Tryd.prog 50 #[.slice a n c] w fun e w' => e = .returned (.string ⟨(writeL L).toArray⟩) ∧ Below w.heap.size w w' := by
  have hlen : (Lib.join L [47]).length ≤ 200000000 := by
    have h := congrArg List.length (join_writeL L)
    have h2 := writeL_length L
    rw [List.length_cons] at h
    have := hr.1
    omega
  have hJ : Calls Tryd.prog 61 #[.slice a n c, .string ⟨#[47]⟩] w fun e w' => e = .returned (.string ⟨(Lib.join L [47]).toArray⟩) ∧ Below w.heap.size w w' := by
    rcases Nat.eq_zero_or_pos n with h0 | h0
    · subst h0
      have hL : L = [] := List.eq_nil_of_length_eq_zero hr.1.symm
      subst hL
      refine (Tryd.strings_Join_none a c ⟨#[47]⟩ w).mono ?_
      rintro e w' ⟨rfl, rfl⟩
      exact ⟨rfl, Below.refl _ _⟩
    · obtain ⟨b, off, rfl, hb, _⟩ := hr.2 0 h0
      have hxl : (L.map fun x => (⟨x.toArray⟩ : ByteArray)).length = n := by rw [List.length_map]; exact hr.1.symm
      have hjo : Lib.join ((L.map fun x => (⟨x.toArray⟩ : ByteArray)).map (·.data.toList)) (⟨#[47]⟩ : ByteArray).data.toList = Lib.join L [47] := by
        rw [List.map_map]
        congr 1
        conv => rhs; rw [← List.map_id L]
        rfl
      have h := Tryd.strings_Join b off c (L.map fun x => (⟨x.toArray⟩ : ByteArray)) ⟨#[47]⟩ w (by
        intro j x hj
        rw [List.getElem?_map] at hj
        have hjl : j < L.length := by
          rcases Nat.lt_or_ge j L.length with h' | h'
          · exact h'
          · rw [List.getElem?_eq_none h'] at hj; cases hj
        rw [List.getElem?_eq_getElem hjl] at hj
        simp only [Option.map_some, Option.some.injEq] at hj
        obtain ⟨b', off', he, _, hc⟩ := hr.2 j (by rw [hr.1]; exact hjl)
        simp only [Option.some.injEq, Addr.mk.injEq, and_true] at he
        obtain ⟨rfl, rfl⟩ := he
        rw [hc, ← hj]
        simp [hjl]) hb (by rw [hxl]; omega) (by rw [hxl]; exact hc) (by rw [hjo]; omega)
      rw [hxl, hjo] at h
      exact h
  have HJ := Lib.hid hJ; clear hJ
  have hsz : (⟨(Lib.join L [47]).toArray⟩ : ByteArray).size ≤ 200000000 := by rw [Lib.size_eq]; exact hlen
  go_enter Tryd.func50, Tryd.ntmps50
  go_wp2_with fail
  refine HJ.out.mono ?_
  rintro e w' ⟨rfl, hb⟩
  have HB := Lib.hid hb; clear hb
  go_wp2
  go_ret
  exact ⟨ret_str (by rw [← join_writeL]; simp), HB.out⟩
end Go.Proofs.YtlaijghfcbjbpaaDoor
