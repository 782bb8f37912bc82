/-
  The laws PathSteps and PathOrder.
-/
import Derived.Test.YtlaijghfcbjbpaaDoorPathLA
namespace Go.Proofs.YtlaijghfcbjbpaaDoor
open Go.RowKit

/-- A slice of these names, its length under a name of its own. -/
def RetN (n : Nat) (L : List Bytes) (w : World) (e : Ending) (w' : World) : Prop :=
  ∃ a c, e = .returned (.slice a n c) ∧ ReadsL w' a n L ∧ n ≤ c ∧ c ≤ 9223372036854775807 ∧ Below w.heap.size w w'

theorem partsN (cwd p : ByteArray) (A : List Bytes) (n : Nat) (m : Int) (w : World) (hc : cwd.size ≤ 10000000) (hp : p.size ≤ 10000000) (hA : A = partsL cwd.data.toList p.data.toList) (hn : n = A.length) (hm : w.cell? ⟨0, 0, none⟩ = some (.int .i64 m)) :
    Calls Tryd.prog 24 #[.string cwd, .string p] w (RetN n A w) := by
  subst hn; subst hA
  exact partsR cwd p m w hc hp hm

theorem app3 (p q : ByteArray) : (p ++ ⟨#[47]⟩ ++ q).data.toList = p.data.toList ++ 47 :: q.data.toList := by simp

theorem app3_size (p q : ByteArray) : (p ++ ⟨#[47]⟩ ++ q).size = p.size + q.size + 1 := by
  rw [Lib.size_eq, app3, List.length_append, List.length_cons, ← Lib.size_eq, ← Lib.size_eq]; omega

set_option maxHeartbeats 2000000 in
theorem pathSteps_walk (cwd p q : ByteArray) (w : World) (hc : cwd.size ≤ 140737488351232) (hp : p.size ≤ 140737488351232) (hq : q.size ≤ 140737488351232) (hsh : w.ShapedOpen Tryd.prog) :
    Calls Tryd.prog 5 #[.string cwd, .string p, .string q] w fun e w' => e = .returned (.bool true) ∧ Below w.heap.size w w' := by
  obtain ⟨m, hm⟩ := maxLen_any w hsh
  have hml := cell_lt hm
  have HM := Lib.hid hm; clear hm hsh
  by_cases h0 : 200 < cwd.size
  · go_enter Tryd.func5, Tryd.ntmps5
    go_wp2_with (first | (go_at_call 21; refine (alive_any m _ HM.out).mono ?_; rintro e w1 ⟨rfl, hb⟩; have HB := Lib.hid hb; clear hb))
    go_ret
    exact ⟨rfl, HB.out⟩
  by_cases h1 : 100 < p.size
  · go_enter Tryd.func5, Tryd.ntmps5
    go_wp2_with (first | (go_at_call 21; refine (alive_any m _ HM.out).mono ?_; rintro e w1 ⟨rfl, hb⟩; have HB := Lib.hid hb; clear hb))
    go_ret
    exact ⟨rfl, HB.out⟩
  by_cases h2 : 100 < q.size
  · go_enter Tryd.func5, Tryd.ntmps5
    go_wp2_with (first | (go_at_call 21; refine (alive_any m _ HM.out).mono ?_; rintro e w1 ⟨rfl, hb⟩; have HB := Lib.hid hb; clear hb))
    go_ret
    exact ⟨rfl, HB.out⟩
  cases hq : Lib.hasPrefix q.data.toList [47]
  · have HQ := Lib.hid hq; clear hq
    by_cases hp0 : p.data.toList = []
    · have e0 : p.toList.isEmpty = true := by rw [Lib.toList_data, hp0]; rfl
      clear hp0
      go_enter Tryd.func5, Tryd.ntmps5
      go_wp2_with (first | (go_at_call 21; refine (alive_any m _ HM.out).mono ?_; rintro e w1 ⟨rfl, hb⟩; have HB := Lib.hid hb; clear hb) | (go_at_call 22; refine (begins_any _ _ _).mono ?_; rintro e w' ⟨rfl, rfl⟩; rw [HQ.out]))
      go_ret
      exact ⟨rfl, HB.out⟩
    have e0 := isEmpty_no hp0
    have hst := steps_law cwd.data.toList p.data.toList q.data.toList HQ.out hp0
    have HST := Lib.hid hst
    have hlb := partsL_length cwd.data.toList p.data.toList
    have hlz := partsL_lens cwd.data.toList p.data.toList
    rw [← Lib.size_eq, ← Lib.size_eq] at hlb hlz
    have hsz : (⟨(writeL (partsL cwd.data.toList p.data.toList)).toArray⟩ : ByteArray).size ≤ 2000 := by
      have := writeL_length (partsL cwd.data.toList p.data.toList)
      rw [Lib.size_eq]
      show (writeL (partsL cwd.data.toList p.data.toList)).length ≤ _
      omega
    have hsz3 : (p ++ ⟨#[47]⟩ ++ q).size ≤ 300 := by rw [app3_size]; omega
    clear hp0 hlb hlz
    obtain ⟨A, hA⟩ : ∃ A, A = partsL cwd.data.toList p.data.toList := ⟨_, rfl⟩
    obtain ⟨n, hn⟩ : ∃ n, n = A.length := ⟨_, rfl⟩
    obtain ⟨hln, hzn⟩ : n ≤ 100000000 ∧ lens A ≤ 100000000 := by rw [hn, hA]; exact partsL_bounds cwd p (by omega) (by omega)
    have EA := Lib.hid hA; have En := Lib.hid hn; clear hn hA
    rw [← EA.out] at hsz hst
    obtain ⟨S, hS⟩ : ∃ S : ByteArray, S = ⟨(writeL A).toArray⟩ := ⟨_, rfl⟩
    obtain ⟨T, hT⟩ : ∃ T : ByteArray, T = p ++ ⟨#[47]⟩ ++ q := ⟨_, rfl⟩
    have hSd : S.data.toList = writeL A := by rw [hS]
    have hTd : T.data.toList = p.data.toList ++ 47 :: q.data.toList := by rw [hT, app3]
    rw [← hS] at hsz
    rw [← hT] at hsz3
    rw [← hSd, ← hTd] at hst
    have hw : ∀ (a : Option Addr) (c : Nat) (W : World), ReadsL W a n A → Calls Tryd.prog 23 #[.slice a n c] W fun e w' => e = .returned (.string S) ∧ W = w' := fun a c W h => by rw [hS]; exact write_any a n c A W h hln hzn
    have HT := Lib.hid hT; have HW := Lib.hid hw; have HST := Lib.hid hst
    clear hS hT hSd hTd hw hst
    obtain ⟨B, hB⟩ : ∃ B, B = partsL S.data.toList q.data.toList := ⟨_, rfl⟩
    obtain ⟨k, hk⟩ : ∃ k, k = B.length := ⟨_, rfl⟩
    obtain ⟨hlk, hzk⟩ : k ≤ 100000000 ∧ lens B ≤ 100000000 := by rw [hk, hB]; exact partsL_bounds S q (by omega) (by omega)
    have EB := Lib.hid hB; have Ek := Lib.hid hk; clear hk hB
    obtain ⟨C, hC⟩ : ∃ C, C = partsL cwd.data.toList T.data.toList := ⟨_, rfl⟩
    obtain ⟨j, hj⟩ : ∃ j, j = C.length := ⟨_, rfl⟩
    obtain ⟨hlj, hzj⟩ : j ≤ 100000000 ∧ lens C ≤ 100000000 := by rw [hj, hC]; exact partsL_bounds cwd T (by omega) (by omega)
    have EC := Lib.hid hC; have Ej := Lib.hid hj; clear hj hC
    go_enter Tryd.func5, Tryd.ntmps5
    go_wp2_with (first | (go_at_call 21; refine (alive_any m _ HM.out).mono ?_; rintro e w1 ⟨rfl, hb⟩; have HB := Lib.hid hb; clear hb) | (go_at_call 22; refine (begins_any _ _ _).mono ?_; rintro e w' ⟨rfl, rfl⟩; rw [HQ.out]))
    refine (partsN cwd p _ _ m _ (by omega) (by omega) EA.out En.out ((HB.out.cell (p := ⟨0, 0, none⟩) hml).trans HM.out)).mono ?_
    rintro e w_HA ⟨a_HA, c_HA, rfl, hrl, hlc_HA, hcc_HA, hb⟩
    have HA := Lib.hid hrl; clear hrl
    replace HB := Lib.hid (HB.out.trans (hb.mono HB.out.size)); clear hb
    go_wp2_with (go_at_call 23; refine (HW.out _ _ _ HA.out).mono ?_; rintro e w' ⟨rfl, rfl⟩)
    refine (partsN S q _ _ m _ (by omega) (by omega) EB.out Ek.out ((HB.out.cell (p := ⟨0, 0, none⟩) hml).trans HM.out)).mono ?_
    rintro e w_HB2 ⟨a_HB2, c_HB2, rfl, hrl, hlc_HB2, hcc_HB2, hb⟩
    have HB2 := Lib.hid hrl; clear hrl
    replace HB := Lib.hid (HB.out.trans (hb.mono HB.out.size)); clear hb
    go_wp2_with fail
    rw [← HT.out]
    refine (partsN cwd T _ _ m _ (by omega) (by omega) EC.out Ej.out ((HB.out.cell (p := ⟨0, 0, none⟩) hml).trans HM.out)).mono ?_
    rintro e w_HC ⟨a_HC, c_HC, rfl, hrl, hlc_HC, hcc_HC, hb⟩
    replace HB2 := Lib.hid (HB2.out.below hb)
    have HC := Lib.hid hrl; clear hrl
    replace HB := Lib.hid (HB.out.trans (hb.mono HB.out.size)); clear hb
    go_wp2_with fail
    refine (sameL _ _ _ _ _ _ _ _ _ HB2.out HC.out hlk hlj).mono ?_
    rintro e w5 ⟨rfl, q5, rfl⟩
    rw [decide_eq_true (by rw [EB.out, EC.out]; exact HST.out)]
    replace HB := Lib.hid (HB.out.trans ((drewN_below _ q5).mono HB.out.size))
    go_wp2
    go_ret
    exact ⟨rfl, HB.out⟩
  · have HQ := Lib.hid hq; clear hq
    go_enter Tryd.func5, Tryd.ntmps5
    go_wp2_with (first | (go_at_call 21; refine (alive_any m _ HM.out).mono ?_; rintro e w1 ⟨rfl, hb⟩; have HB := Lib.hid hb; clear hb) | (go_at_call 22; refine (begins_any _ _ _).mono ?_; rintro e w' ⟨rfl, rfl⟩; rw [HQ.out]))
    go_ret
    exact ⟨rfl, HB.out⟩


theorem within_refl (p : Bytes) : withinF p p = true := (withinF_iff p p).2 ⟨[], by simp⟩
theorem within_trans {p q r : Bytes} (h1 : withinF p q = true) (h2 : withinF q r = true) : withinF p r = true := by
  obtain ⟨a, ha⟩ := (withinF_iff p q).1 h1
  obtain ⟨b, hb⟩ := (withinF_iff q r).1 h2
  exact (withinF_iff p r).2 ⟨a ++ b, by rw [hb, ha, List.append_assoc]⟩
theorem within_anti {p q : Bytes} (h1 : withinF p q = true) : withinF q p = decide (partsL [47] p = partsL [47] q) := by
  obtain ⟨a, ha⟩ := (withinF_iff p q).1 h1
  by_cases h : partsL [47] p = partsL [47] q
  · rw [decide_eq_true h]
    exact (withinF_iff q p).2 ⟨[], by rw [h]; simp⟩
  · rw [decide_eq_false h]
    cases hq : withinF q p
    · rfl
    · obtain ⟨b, hb⟩ := (withinF_iff q p).1 hq
      have := congrArg List.length ha
      have h2 := congrArg List.length hb
      rw [List.length_append] at this h2
      have hz : a = [] := List.eq_nil_of_length_eq_zero (by omega)
      rw [hz, List.append_nil] at ha
      exact absurd ha.symm h
theorem within_dir (p : Bytes) : withinF (dirF p) p = true := by
  refine (withinF_iff _ _).2 ⟨(partsL [47] p).drop ((partsL [47] p).length - 1), ?_⟩
  unfold dirF
  rw [partsL_write (fun x hx => partsL_plain [47] p x (by rw [List.dropLast_eq_take] at hx; exact List.mem_of_mem_take hx)), List.dropLast_eq_take, List.take_append_drop]
theorem dirF_size (p : ByteArray) (h : p.size ≤ 10000) : (⟨(dirF p.data.toList).toArray⟩ : ByteArray).size ≤ 100000 := by
  have h1 := partsL_length [47] p.data.toList
  have h2 := partsL_lens [47] p.data.toList
  have h3 := writeL_length (partsL [47] p.data.toList).dropLast
  have h4 := lens_dropLast (partsL [47] p.data.toList)
  rw [← Lib.size_eq] at h1 h2
  rw [List.length_dropLast] at h3
  simp only [List.length_cons, List.length_nil] at h1 h2
  rw [Lib.size_eq]
  show (writeL (partsL [47] p.data.toList).dropLast).length ≤ _
  omega

theorem withinB (p q : ByteArray) (b : Bool) (m : Int) (w : World) (hp : p.size ≤ 10000000) (hq : q.size ≤ 10000000) (hm : w.cell? ⟨0, 0, none⟩ = some (.int .i64 m)) (h : withinF p.data.toList q.data.toList = b) :
    Calls Tryd.prog 29 #[.string p, .string q] w (RetB (.bool b) w) := by
  subst h; exact within_any p q m w hp hq hm

end Go.Proofs.YtlaijghfcbjbpaaDoor
