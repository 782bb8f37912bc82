/-
  The contracts of path.Abs, Dir, Base, Within and of their references.
-/
import Derived.Test.YtlaijghfcbjbpaaDoorPathE
namespace Go.Proofs.YtlaijghfcbjbpaaDoor
open Go.RowKit

/-- A slice of these names, somewhere. -/
def RetL (L : List Bytes) (w : World) (e : Ending) (w' : World) : Prop :=
  ∃ a c, e = .returned (.slice a L.length c) ∧ ReadsL w' a L.length L ∧ L.length ≤ c ∧ c ≤ 9223372036854775807 ∧ Below w.heap.size w w'

theorem retL_of {L : List Bytes} {w w' : World} {e : Ending} (h : RetOwnL w.heap.size L w e w') : RetL L w e w' := by
  obtain ⟨v, rfl, hown, hb⟩ := h
  obtain ⟨a, c, rfl, h1, h2, h3⟩ := readsL_own hown rfl
  exact ⟨a, c, rfl, h3, h1, h2, hb⟩

theorem partsR (cwd p : ByteArray) (m : Int) (w : World) (hc : cwd.size ≤ 10000000) (hp : p.size ≤ 10000000) (hm : w.cell? ⟨0, 0, none⟩ = some (.int .i64 m)) :
    Calls Tryd.prog 24 #[.string cwd, .string p] w (RetL (partsL cwd.data.toList p.data.toList) w) :=
  (parts_any cwd p m w hc hp hm).mono fun _ _ h => retL_of h

theorem refPartsR (cwd p : ByteArray) (w : World) (hc : cwd.size ≤ 10000000) (hp : p.size ≤ 10000000) :
    Calls Tryd.prog 32 #[.string cwd, .string p] w (RetL (partsL cwd.data.toList p.data.toList) w) :=
  (refParts_any cwd p w hc hp).mono fun _ _ h => retL_of h

theorem partsL_bounds (cwd p : ByteArray) (hc : cwd.size ≤ 10000000) (hp : p.size ≤ 10000000) :
    (partsL cwd.data.toList p.data.toList).length ≤ 100000000 ∧ lens (partsL cwd.data.toList p.data.toList) ≤ 100000000 := by
  have h1 := partsL_length cwd.data.toList p.data.toList
  have h2 := partsL_lens cwd.data.toList p.data.toList
  rw [← Lib.size_eq, ← Lib.size_eq] at h1 h2
  omega

theorem writeL_size (L : List Bytes) (h1 : L.length ≤ 100000000) (h2 : lens L ≤ 100000000) : (⟨(writeL L).toArray⟩ : ByteArray).size ≤ 300000000 := by
  have := writeL_length L
  rw [Lib.size_eq]
  show (writeL L).length ≤ _
  omega

theorem zero_iff (l : Bytes) : (0 ≤ Lib.indexByte l 0) ↔ (0 : UInt8) ∈ l := by
  constructor
  · intro h
    obtain ⟨o, ho⟩ := Int.eq_ofNat_of_zero_le h
    exact List.mem_of_getElem? (Lib.indexByte_some ho).1
  · intro h
    have hge := Lib.indexByte_ge l 0
    by_cases x : 0 ≤ Lib.indexByte l 0
    · exact x
    · obtain ⟨k, hk⟩ := List.getElem?_of_mem h
      exact absurd hk (Lib.indexByte_none (by omega) k)

theorem contains_zero (s : ByteArray) (m : Int) (w : World) (hs : s.size ≤ 10000000) (hm : w.cell? ⟨0, 0, none⟩ = some (.int .i64 m)) :
    Calls Tryd.prog 47 #[.string s, .string ⟨#[0]⟩] w fun e w' => e = .returned (.bool (decide ((0 : UInt8) ∈ s.data.toList))) ∧ w = w' := by
  refine (Tryd.strings_Contains s ⟨#[0]⟩ m w (by omega) hm).mono ?_
  rintro e w' ⟨rfl, hw⟩
  refine ⟨?_, hw.symm⟩
  congr 2
  show decide (0 ≤ Lib.index s.data.toList [0]) = _
  rw [Lib.index_one]
  simp only [zero_iff]

theorem at_zero (s : ByteArray) (w : World) (hs : s.size ≤ 10000000) :
    Calls Tryd.prog 28 #[.string s, .int .u8 0] w fun e w' => e = .returned (.int .i64 (Lib.indexByte s.data.toList 0)) ∧ w = w' :=
  at_any s 0 w (by omega)

theorem absF_empty (cwd p : Bytes) (h : p = [] ∨ (0 : UInt8) ∈ p ∨ (0 : UInt8) ∈ cwd) : absF cwd p = ([], 1) := by unfold absF; rw [if_pos h]
theorem absF_long (cwd p : Bytes) (h : ¬ (p = [] ∨ (0 : UInt8) ∈ p ∨ (0 : UInt8) ∈ cwd)) (h2 : longB (partsL cwd p) = true ∨ 20 < (partsL cwd p).length ∨ 200 < (writeL (partsL cwd p)).length) : absF cwd p = ([], 3) := by
  unfold absF; rw [if_neg h, if_pos h2]
theorem absF_ok (cwd p : Bytes) (h : ¬ (p = [] ∨ (0 : UInt8) ∈ p ∨ (0 : UInt8) ∈ cwd)) (h2 : ¬ (longB (partsL cwd p) = true ∨ 20 < (partsL cwd p).length ∨ 200 < (writeL (partsL cwd p)).length)) : absF cwd p = (writeL (partsL cwd p), 0) := by
  unfold absF; rw [if_neg h, if_neg h2]

theorem isEmpty_no {p : ByteArray} (h : p.data.toList ≠ []) : p.toList.isEmpty = false := by
  rw [Lib.toList_data]; cases e : p.data.toList with
  | nil => exact absurd e h
  | cons a b => rfl

def RetAbs (r : Bytes × Int) (w : World) (e : Ending) (w' : World) : Prop := e = .returned (.tuple #[.string ⟨r.1.toArray⟩, .int .i64 r.2]) ∧ Below w.heap.size w w'

theorem retAbs_mk {s : ByteArray} {k : Int} {r : Bytes × Int} {w w' : World} (h : r = (s.data.toList, k)) (hb : Below w.heap.size w w') : RetAbs r w (.returned (.tuple #[.string s, .int .i64 k])) w' := by
  refine ⟨?_, hb⟩
  rw [h]

set_option maxHeartbeats 1000000 in
theorem abs_any (cwd p : ByteArray) (m : Int) (w : World) (hc : cwd.size ≤ 10000000) (hp : p.size ≤ 10000000) (hm : w.cell? ⟨0, 0, none⟩ = some (.int .i64 m)) :
    Calls Tryd.prog 26 #[.string cwd, .string p] w (RetAbs (absF cwd.data.toList p.data.toList) w) := by
  have HM := Lib.hid hm; clear hm
  obtain ⟨r, hr⟩ : ∃ r, r = absF cwd.data.toList p.data.toList := ⟨_, rfl⟩
  rw [← hr]
  by_cases h0 : p.data.toList = []
  · have e0 : p.toList.isEmpty = true := by rw [Lib.toList_data, h0]; rfl
    rw [absF_empty _ _ (Or.inl h0)] at hr
    have HX := Lib.hid hr; clear hr h0
    go_enter Tryd.func26, Tryd.ntmps26
    go_wp2
    go_ret2
    exact retAbs_mk HX.out (Below.refl _ _)
  have e0 := isEmpty_no h0
  by_cases h1 : (0 : UInt8) ∈ cwd.data.toList
  · rw [absF_empty _ _ (Or.inr (Or.inr h1))] at hr
    have d1 : decide ((0 : UInt8) ∈ cwd.data.toList) = true := by simp [h1]
    have HX := Lib.hid hr; have D1 := Lib.hid d1; clear hr h0 h1 d1
    go_enter Tryd.func26, Tryd.ntmps26
    go_wp2_with (go_at_call 47; refine (contains_zero _ m _ (by omega) HM.out).mono ?_; rintro e w' ⟨rfl, rfl⟩; rw [D1.out])
    go_ret2
    exact retAbs_mk HX.out (Below.refl _ _)
  have d1 : decide ((0 : UInt8) ∈ cwd.data.toList) = false := by simp [h1]
  by_cases h2 : (0 : UInt8) ∈ p.data.toList
  · rw [absF_empty _ _ (Or.inr (Or.inl h2))] at hr
    have d2 : decide ((0 : UInt8) ∈ p.data.toList) = true := by simp [h2]
    have HX := Lib.hid hr; have D1 := Lib.hid d1; have D2 := Lib.hid d2; clear hr h0 h1 h2 d1 d2
    go_enter Tryd.func26, Tryd.ntmps26
    go_wp2_with fail
    refine (contains_zero _ m _ (by omega) HM.out).mono ?_
    rintro e w' ⟨rfl, rfl⟩; rw [D1.out]
    go_wp2_with fail
    refine (contains_zero _ m _ (by omega) HM.out).mono ?_
    rintro e w' ⟨rfl, rfl⟩; rw [D2.out]
    go_wp2
    go_ret2
    exact retAbs_mk HX.out (Below.refl _ _)
  have d2 : decide ((0 : UInt8) ∈ p.data.toList) = false := by simp [h2]
  have hno : ¬ (p.data.toList = [] ∨ (0 : UInt8) ∈ p.data.toList ∨ (0 : UInt8) ∈ cwd.data.toList) := by rintro (h | h | h); exact h0 h; exact h2 h; exact h1 h
  obtain ⟨hbl, hbz⟩ := partsL_bounds cwd p hc hp
  have hP := partsR cwd p m w hc hp HM.out
  have HNO := Lib.hid hno; have D1 := Lib.hid d1; have D2 := Lib.hid d2; clear hno d1 d2 h0 h1 h2
  have hlong := absF_long _ _ HNO.out
  have hok := absF_ok _ _ HNO.out
  obtain ⟨L, hL⟩ : ∃ L, L = partsL cwd.data.toList p.data.toList := ⟨_, rfl⟩
  rw [← hL] at hbl hbz hP hlong hok
  have hws := writeL_size L hbl hbz
  obtain ⟨S, hS⟩ : ∃ S : ByteArray, S = ⟨(writeL L).toArray⟩ := ⟨_, rfl⟩
  have hSd : S.data.toList = writeL L := by rw [hS]
  have hSs : S.size = (writeL L).length := by rw [Lib.size_eq, hSd]
  have hJ : ∀ (a : Option Addr) (n c : Nat) (w : World), ReadsL w a n L → n ≤ c → Calls Tryd.prog 50 #[.slice a n c] w fun e w' => e = .returned (.string S) ∧ Below w.heap.size w w' := by
    intro a n c w h1 h2; rw [hS]; exact join_any a n c L w h1 (by have := h1.1; omega) hbz h2
  rw [← hS] at hws
  have hCF : ∀ (a : Option Addr) (n c : Nat) (w : World), ReadsL w a n L → Calls Tryd.prog 48 #[.slice a n c, .func (.func 49) #[] #[]] w fun e w' => e = .returned (.bool (longB L)) ∧ w = w' :=
    fun a n c w h1 => contains_any a n c L w h1 (by have := h1.1; omega) hbz
  rw [← hSs] at hlong hok
  rw [← hr] at hlong hok
  have HP := Lib.hid hP; have HJ := Lib.hid hJ; have HCF := Lib.hid hCF; have HSD := Lib.hid hSd
  have HLG := Lib.hid hlong; have HOK := Lib.hid hok
  clear hP hJ hCF hSd hSs hS hL hr hlong hok
  cases hlb : longB L
  all_goals
    have HLB := Lib.hid hlb
    by_cases h20 : L.length ≤ 20
    all_goals
      by_cases h200 : S.size ≤ 200
      all_goals
        have hres : r = (S.data.toList, 0) ∨ r = ([], 3) := by
          by_cases hh : longB L = true ∨ 20 < L.length ∨ 200 < S.size
          · exact Or.inr (HLG.out hh)
          · exact Or.inl ((HOK.out hh).trans (by rw [HSD.out]))
        have hres1 : longB L = false → L.length ≤ 20 → S.size ≤ 200 → r = (S.data.toList, 0) := fun a b c => (HOK.out (by rintro (h | h | h); rw [a] at h; cases h; omega; omega)).trans (by rw [HSD.out])
        have hres2 : (longB L = true ∨ 20 < L.length ∨ 200 < S.size) → r = ((⟨#[]⟩ : ByteArray).data.toList, 3) := fun h => HLG.out h
        have HR1 := Lib.hid hres1; have HR2 := Lib.hid hres2
        clear hlb hres hres1 hres2
        go_enter Tryd.func26, Tryd.ntmps26
        go_wp2_with fail
        refine (contains_zero _ m _ (by omega) HM.out).mono ?_
        rintro e w' ⟨rfl, rfl⟩; rw [D1.out]
        go_wp2_with fail
        refine (contains_zero _ m _ (by omega) HM.out).mono ?_
        rintro e w' ⟨rfl, rfl⟩; rw [D2.out]
        go_wp2_with fail
        refine HP.out.mono ?_
        rintro e w1 ⟨a, c, rfl, hrl, hlc, hcm, hb1⟩
        have HRL := Lib.hid hrl; have HB1 := Lib.hid hb1; clear hrl hb1
        go_wp2_with (first
          | (go_at_call 48; refine (HCF.out _ _ _ _ HRL.out).mono ?_; rintro e w' ⟨rfl, rfl⟩; rw [HLB.out])
          | (go_at_call 50; refine (HJ.out _ _ _ _ HRL.out hlc).mono ?_; rintro e w2 ⟨rfl, hb2⟩; have HB2 := Lib.hid hb2; clear hb2))
        go_ret2
        first
          | exact retAbs_mk (HR1.out HLB.out h20 h200) (HB1.out.trans (HB2.out.mono HB1.out.size))
          | exact retAbs_mk (HR2.out (Or.inl HLB.out)) (HB1.out.trans (HB2.out.mono HB1.out.size))
          | exact retAbs_mk (HR2.out (Or.inr (Or.inl (by omega)))) (HB1.out.trans (HB2.out.mono HB1.out.size))
          | exact retAbs_mk (HR2.out (Or.inr (Or.inr (by omega)))) (HB1.out.trans (HB2.out.mono HB1.out.size))
end Go.Proofs.YtlaijghfcbjbpaaDoor
