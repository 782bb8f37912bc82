/-
  The contracts of gen's inner functions: dec, need, line.
-/
import Derived.Test.YtlaijghfcbjbpaaDoorGenA
import Derived.Test.YtlaijghfcbjbpaaDoorBuild
namespace Go.Proofs.YtlaijghfcbjbpaaDoor
open Go.RowKit Go.Joins

theorem dec_len (i : Nat) (hi : i < 100) : (Lib.decDigits i).length ≤ 2 := by
  rw [Lib.decDigits]
  split
  · simp
  · rw [Lib.decDigits, dif_pos (by omega)]
    simp

theorem dec_any (i : Nat) (hi : i < 100) (w : World) :
    Calls Tryd.prog 41 #[.int .i64 i] w fun e w' => (∃ D : ByteArray, e = .returned (.string D) ∧ D.data.toList = Lib.decDigits i ∧ D.size ≤ 2) ∧ w = w' := by
  have hl := dec_len i hi
  go_enter Tryd.func41, Tryd.ntmps41
  go_wp2_with (go_at_call 56; refine (Tryd.strconv_Itoa_small i hi _).mono ?_; rintro e w1 ⟨rfl, hw⟩; subst hw)
  go_ret
  exact ⟨⟨_, rfl, rfl, by simpa [ByteArray.size] using hl⟩, rfl⟩

theorem nextV3 (s : Int) : ∃ v : Nat, nextV s 3 = v ∧ v < 3 := by
  have h := nextV_bd s 3 (by decide)
  exact ⟨(nextV s 3).toNat, by omega, by omega⟩
theorem nextV4 (s : Int) : ∃ v : Nat, nextV s 4 = v ∧ v < 4 := by
  have h := nextV_bd s 4 (by decide)
  exact ⟨(nextV s 4).toNat, by omega, by omega⟩
theorem nextV6 (s : Int) : ∃ v : Nat, nextV s 6 = v ∧ v < 6 := by
  have h := nextV_bd s 6 (by decide)
  exact ⟨(nextV s 6).toNat, by omega, by omega⟩

/-- One need: its bytes and the state behind it. -/
def needF (i n : Nat) (s : Int) : List UInt8 × Int :=
  if i + 1 + (nextV s 3).toNat < n then ([32, 116] ++ Lib.decDigits (i + 1 + (nextV s 3).toNat), nextS s)
  else ([32, 115] ++ Lib.decDigits (nextV (nextS s) 3).toNat, nextS (nextS s))

theorem gtrans {a b c : World} {r : Option Nat} (h : a.grownBy b r) (k : b.grownBy c r) : a.grownBy c r :=
  ⟨k.1.trans h.1, k.2.trans h.2, k.3.trans h.3, Nat.le_trans h.4 k.4, fun x hx hne => (k.5 x (Nat.lt_of_lt_of_le hx h.4) hne).trans (h.5 x hx hne)⟩
theorem gset (w : World) (b : Nat) (v : Value) : w.grownBy (w.setCell ⟨b, 0, none⟩ v) (some b) :=
  ⟨rfl, rfl, rfl, by simp [World.setCell], fun k _ hk => Below.heap_setCell _ _ _ _ (fun e => hk (by simp [e]))⟩
theorem gdraw (w : World) (q : Nat) (r : Option Nat) : w.grownBy (w.drewN q) r := ⟨rfl, rfl, rfl, Nat.le_refl _, fun _ _ _ => rfl⟩
theorem LotAt.draw {w : World} {b : Nat} {s : Int} (h : LotAt w b s) (q : Nat) : LotAt (w.drewN q) b s := h
theorem LotAt.grown {w w' : World} {b : Nat} {s : Int} {r : Option Nat} (h : LotAt w b s) (g : w.grownBy w' r) (hne : some b ≠ r) : LotAt w' b s := by
  have hl := h.lt
  obtain ⟨T, h⟩ := h
  exact ⟨T, (g.block b hl hne).trans h⟩

theorem next_lot (b : Nat) (s n : Int) (w : World) (h : LotAt w b s) :
    Calls Tryd.prog 14 #[.pointer (some ⟨b, 0, none⟩), .int .i64 n] w fun e w' => e = .returned (.int .i64 (nextV s n)) ∧ LotAt w' b (nextS s) ∧ w.grownBy w' (some b) := by
  refine (next_any b s n w h).mono ?_
  rintro e w' ⟨rfl, rfl⟩
  exact ⟨rfl, h.set _, gset _ _ _⟩
theorem rnext_lot (b : Nat) (s n : Int) (w : World) (h : LotAt w b s) :
    Calls Tryd.prog 15 #[.pointer (some ⟨b, 0, none⟩), .int .i64 n] w fun e w' => e = .returned (.int .i64 (nextV s n)) ∧ LotAt w' b (nextS s) ∧ w.grownBy w' (some b) := by
  refine (rnext_any b s n w h).mono ?_
  rintro e w' ⟨rfl, rfl⟩
  exact ⟨rfl, h.set _, gset _ _ _⟩

theorem need_any (b i n : Nat) (s : Int) (w : World) (h : LotAt w b s) (hi : i < 50) (hn : n ≤ 50) :
    Calls Tryd.prog 42 #[.pointer (some ⟨b, 0, none⟩), .int .i64 i, .int .i64 n] w fun e w' => (∃ S : ByteArray, e = .returned (.string S) ∧ S.data.toList = (needF i n s).1) ∧ LotAt w' b (needF i n s).2 ∧ w.grownBy w' (some b) := by
  obtain ⟨v, hv, hv3⟩ := nextV3 s
  obtain ⟨u, hu, hu3⟩ := nextV3 (nextS s)
  by_cases hlt : i + 1 + v < n
  · have hF : needF i n s = ([32, 116] ++ Lib.decDigits (i + 1 + v), nextS s) := by
      unfold needF; rw [hv]; exact if_pos hlt
    have HF := Lib.hid hF; have HL := Lib.hid h; have HV := Lib.hid hv
    clear hF h hv hu
    go_enter Tryd.func42, Tryd.ntmps42
    go_wp2_with fail
    refine (next_lot b s 3 _ HL.out).mono ?_
    rintro e w1 ⟨rfl, hl1, hg1⟩
    rw [HV.out]
    have HL1 := Lib.hid hl1; have HG1 := Lib.hid hg1; clear hl1 hg1
    have e1 : (i : Int) + 1 + v = ((i + 1 + v : Nat) : Int) := by omega
    have E1 := Lib.hid e1; clear e1
    go_wp2_with (go_at_call 41; rw [E1.out]; refine (dec_any _ (by omega) _).mono ?_; rintro e w2 ⟨⟨D, rfl, hD, hDl⟩, rfl⟩; have HD := Lib.hid hD; clear hD)
    go_ret
    refine ⟨⟨_, rfl, ?_⟩, ?_⟩
    · rw [HF.out]; simp [HD.out]
    · rw [HF.out]; exact ⟨HL1.out, HG1.out⟩
  · have hF : needF i n s = ([32, 115] ++ Lib.decDigits u, nextS (nextS s)) := by
      unfold needF; rw [hv, hu]; exact if_neg hlt
    have HF := Lib.hid hF; have HL := Lib.hid h; have HV := Lib.hid hv; have HU := Lib.hid hu
    clear hF h hv hu
    go_enter Tryd.func42, Tryd.ntmps42
    go_wp2_with fail
    refine (next_lot b s 3 _ HL.out).mono ?_
    rintro e w1 ⟨rfl, hl1, hg1⟩
    rw [HV.out]
    have HL1 := Lib.hid hl1; have HG1 := Lib.hid hg1; clear hl1 hg1
    go_wp2_with fail
    refine (next_lot b _ 3 _ HL1.out).mono ?_
    rintro e w2 ⟨rfl, hl1, hg1⟩
    rw [HU.out]
    have HL2 := Lib.hid hl1; have HG2 := Lib.hid (gtrans HG1.out hg1); clear hl1 hg1
    go_wp2_with (go_at_call 41; refine (dec_any _ (by omega) _).mono ?_; rintro e w2 ⟨⟨D, rfl, hD, hDl⟩, rfl⟩; have HD := Lib.hid hD; clear hD)
    go_ret
    refine ⟨⟨_, rfl, ?_⟩, ?_⟩
    · rw [HF.out]; simp [HD.out]
    · rw [HF.out]; exact ⟨HL2.out, HG2.out⟩
end Go.Proofs.YtlaijghfcbjbpaaDoor
