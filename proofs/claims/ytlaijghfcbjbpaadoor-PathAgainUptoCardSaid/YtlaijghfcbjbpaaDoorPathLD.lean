/-
  The law PathDots.
-/
import Derived.Test.YtlaijghfcbjbpaaDoorPathLC
namespace Go.Proofs.YtlaijghfcbjbpaaDoor
open Go.RowKit

theorem name_plain {s : ByteArray} (h0 : s.data.toList ≠ []) (h1 : s.data.toList ≠ [46]) (h2 : s.data.toList ≠ [46, 46]) (h3 : ¬ 0 ≤ Lib.indexByte s.data.toList 47) : Plain s.data.toList := by
  refine ⟨h0, h1, h2, fun h => h3 ?_⟩
  obtain ⟨k, hk⟩ := List.getElem?_of_mem h
  by_cases x : 0 ≤ Lib.indexByte s.data.toList 47
  · exact x
  · exact absurd hk (Lib.indexByte_none (by have := Lib.indexByte_ge s.data.toList 47; omega) k)

theorem at_slash (s : ByteArray) (w : World) (hs : s.size ≤ 10000000) :
    Calls Tryd.prog 28 #[.string s, .int .u8 47] w fun e w' => e = .returned (.int .i64 (Lib.indexByte s.data.toList 47)) ∧ w = w' :=
  at_any s 47 w (by omega)

theorem dots_more {cwd p s : Bytes} (hp : p ≠ []) (hs : Plain s) : partsL cwd (p ++ 47 :: s) = partsL cwd p ++ [s] := by
  rw [partsL_slash _ _ _ hp, namesL_name hs]

theorem dots_dot {cwd p : Bytes} (hp : p ≠ []) : partsL cwd (p ++ [47, 46, 47]) = partsL cwd p := by
  rw [show p ++ [47, 46, 47] = p ++ 47 :: ([46] ++ 47 :: []) from rfl, partsL_slash _ _ _ hp, namesL_slash]
  rfl

theorem dots_up {cwd p s : Bytes} (hp : p ≠ []) (hs : Plain s) : partsL cwd (p ++ 47 :: 47 :: (s ++ [47, 46, 46])) = partsL cwd p := by
  rw [show p ++ 47 :: 47 :: (s ++ [47, 46, 46]) = p ++ 47 :: ([] ++ 47 :: (s ++ 47 :: [46, 46])) from rfl, partsL_slash _ _ _ hp, namesL_slash, namesL_slash]
  have e1 : namesL (partsL cwd p) [] = partsL cwd p := rfl
  rw [e1, namesL_name hs]
  show seg (partsL cwd p ++ [s]) [46, 46] = _
  rw [seg_up rfl, List.dropLast_concat]

set_option maxHeartbeats 2000000 in
theorem pathDots_walk (cwd p s : ByteArray) (w : World) (hc : cwd.size ≤ 140737488351232) (hp : p.size ≤ 140737488351232) (hs : s.size ≤ 140737488351232) (hsh : w.ShapedOpen Tryd.prog) :
    Calls Tryd.prog 7 #[.string cwd, .string p, .string s] w fun e w' => e = .returned (.bool true) ∧ Below w.heap.size w w' := by
  obtain ⟨m, hm⟩ := maxLen_any w hsh
  have hml := cell_lt hm
  have HM := Lib.hid hm; clear hm hsh
  by_cases h0 : 100 < cwd.size
  · go_enter Tryd.func7, Tryd.ntmps7
    go_wp2_with (first | (go_at_call 21; refine (alive_any m _ HM.out).mono ?_; rintro e w1 ⟨rfl, hb⟩; have HB := Lib.hid hb; clear hb))
    go_ret
    exact ⟨rfl, HB.out⟩
  by_cases h1 : 100 < p.size
  · go_enter Tryd.func7, Tryd.ntmps7
    go_wp2_with (first | (go_at_call 21; refine (alive_any m _ HM.out).mono ?_; rintro e w1 ⟨rfl, hb⟩; have HB := Lib.hid hb; clear hb))
    go_ret
    exact ⟨rfl, HB.out⟩
  by_cases hp0 : p.data.toList = []
  · have e0 : p.toList.isEmpty = true := by rw [Lib.toList_data, hp0]; rfl
    clear hp0
    go_enter Tryd.func7, Tryd.ntmps7
    go_wp2_with (first | (go_at_call 21; refine (alive_any m _ HM.out).mono ?_; rintro e w1 ⟨rfl, hb⟩; have HB := Lib.hid hb; clear hb))
    go_ret
    exact ⟨rfl, HB.out⟩
  have e0 := isEmpty_no hp0
  by_cases hs0 : s.data.toList = []
  · have e1 : s.toList.isEmpty = true := by rw [Lib.toList_data, hs0]; rfl
    clear hp0 hs0
    go_enter Tryd.func7, Tryd.ntmps7
    go_wp2_with (first | (go_at_call 21; refine (alive_any m _ HM.out).mono ?_; rintro e w1 ⟨rfl, hb⟩; have HB := Lib.hid hb; clear hb))
    go_ret
    exact ⟨rfl, HB.out⟩
  have e1 := isEmpty_no hs0
  by_cases hs1 : s.data.toList = [46]
  · have e2 : (s.toList == [46]) = true := by rw [Lib.toList_data, hs1]; rfl
    clear hp0 hs0 hs1
    go_enter Tryd.func7, Tryd.ntmps7
    go_wp2_with (first | (go_at_call 21; refine (alive_any m _ HM.out).mono ?_; rintro e w1 ⟨rfl, hb⟩; have HB := Lib.hid hb; clear hb))
    go_ret
    exact ⟨rfl, HB.out⟩
  have e2 : (s.toList == [46]) = false := by rw [Lib.toList_data]; exact beq_no hs1
  by_cases hs2 : s.data.toList = [46, 46]
  · have e3 : (s.toList == [46, 46]) = true := by rw [Lib.toList_data, hs2]; rfl
    clear hp0 hs0 hs1 hs2
    go_enter Tryd.func7, Tryd.ntmps7
    go_wp2_with (first | (go_at_call 21; refine (alive_any m _ HM.out).mono ?_; rintro e w1 ⟨rfl, hb⟩; have HB := Lib.hid hb; clear hb))
    go_ret
    exact ⟨rfl, HB.out⟩
  have e3 : (s.toList == [46, 46]) = false := by rw [Lib.toList_data]; exact beq_no hs2
  by_cases h60 : 60 < s.size
  · clear hp0 hs0 hs1 hs2
    go_enter Tryd.func7, Tryd.ntmps7
    go_wp2_with (first | (go_at_call 21; refine (alive_any m _ HM.out).mono ?_; rintro e w1 ⟨rfl, hb⟩; have HB := Lib.hid hb; clear hb))
    go_ret
    exact ⟨rfl, HB.out⟩
  by_cases hsl : 0 ≤ Lib.indexByte s.data.toList 47
  · clear hp0 hs0 hs1 hs2
    go_enter Tryd.func7, Tryd.ntmps7
    go_wp2_with (first | (go_at_call 21; refine (alive_any m _ HM.out).mono ?_; rintro e w1 ⟨rfl, hb⟩; have HB := Lib.hid hb; clear hb) | (go_at_call 28; refine (at_slash _ _ (by omega)).mono ?_; rintro e w' ⟨rfl, rfl⟩))
    go_ret
    exact ⟨rfl, HB.out⟩
  have hpl := name_plain hs0 hs1 hs2 hsl
  have hm1 := dots_more (cwd := cwd.data.toList) hp0 hpl
  have hm2 := dots_dot (cwd := cwd.data.toList) hp0
  have hm3 := dots_up (cwd := cwd.data.toList) hp0 hpl
  obtain ⟨T1, hT1⟩ : ∃ T : ByteArray, T = p ++ ⟨#[47]⟩ ++ s := ⟨_, rfl⟩
  obtain ⟨T2, hT2⟩ : ∃ T : ByteArray, T = p ++ ⟨#[47, 46, 47]⟩ := ⟨_, rfl⟩
  obtain ⟨T3, hT3⟩ : ∃ T : ByteArray, T = p ++ ⟨#[47, 47]⟩ ++ s ++ ⟨#[47, 46, 46]⟩ := ⟨_, rfl⟩
  have d1 : T1.data.toList = p.data.toList ++ 47 :: s.data.toList := by rw [hT1, app3]
  have d2 : T2.data.toList = p.data.toList ++ [47, 46, 47] := by rw [hT2]; simp
  have d3 : T3.data.toList = p.data.toList ++ 47 :: 47 :: (s.data.toList ++ [47, 46, 46]) := by rw [hT3]; simp
  have z1 : T1.size ≤ 1000 := by rw [Lib.size_eq, d1, List.length_append, List.length_cons, ← Lib.size_eq, ← Lib.size_eq]; omega
  have z2 : T2.size ≤ 1000 := by rw [Lib.size_eq, d2, List.length_append, ← Lib.size_eq]; simp only [List.length_cons, List.length_nil]; omega
  have z3 : T3.size ≤ 1000 := by rw [Lib.size_eq, d3]; simp only [List.length_append, List.length_cons, List.length_nil]; rw [← Lib.size_eq, ← Lib.size_eq]; omega
  rw [← d1] at hm1
  rw [← d2] at hm2
  rw [← d3] at hm3
  have HT1 := Lib.hid hT1; have HT2 := Lib.hid hT2; have HT3 := Lib.hid hT3
  clear hT1 hT2 hT3 d1 d2 d3 hp0 hs0 hs1 hs2 hpl
  obtain ⟨A, hA⟩ : ∃ A, A = partsL cwd.data.toList p.data.toList := ⟨_, rfl⟩
  obtain ⟨n, hn⟩ : ∃ n, n = A.length := ⟨_, rfl⟩
  obtain ⟨hln, hzn⟩ : n ≤ 100000000 ∧ lens A ≤ 100000000 := by rw [hn, hA]; exact partsL_bounds cwd p (by omega) (by omega)
  have EA := Lib.hid hA; have En := Lib.hid hn; clear hn hA
  rw [← EA.out] at hm1 hm2 hm3
  obtain ⟨C, hC⟩ : ∃ C, C = partsL cwd.data.toList T1.data.toList := ⟨_, rfl⟩
  obtain ⟨k, hk⟩ : ∃ k, k = C.length := ⟨_, rfl⟩
  obtain ⟨hlk, hzk⟩ : k ≤ 100000000 ∧ lens C ≤ 100000000 := by rw [hk, hC]; exact partsL_bounds cwd T1 (by omega) (by omega)
  have EC := Lib.hid hC; have Ek := Lib.hid hk; clear hk hC
  rw [← EC.out] at hm1
  have hkn : k = n + 1 := by rw [Ek.out, hm1, List.length_append, ← En.out]; rfl
  subst hkn
  have HC1 := Lib.hid hm1
  have E2 := Lib.hid hm2.symm; have E3 := Lib.hid hm3.symm
  have hCn : C.getD n [] = s.data.toList := by rw [hm1, En.out]; simp
  have hCt : C.take n = A := by rw [hm1, En.out, List.take_left]
  have HCN := Lib.hid hCn; have HCT := Lib.hid hCt
  clear hm1 hm2 hm3 hCn hCt
  go_enter Tryd.func7, Tryd.ntmps7
  go_wp2_with (first | (go_at_call 21; refine (alive_any m _ HM.out).mono ?_; rintro e w1 ⟨rfl, hb⟩; have HB := Lib.hid hb; clear hb) | (go_at_call 28; refine (at_slash _ _ (by omega)).mono ?_; rintro e w' ⟨rfl, rfl⟩))
  refine (partsN cwd p _ _ m _ (by omega) (by omega) EA.out En.out ((HB.out.cell (p := ⟨0, 0, none⟩) hml).trans HM.out)).mono ?_
  rintro e w_HA ⟨a_HA, c_HA, rfl, hrl, hlc_HA, hcc_HA, hb⟩
  have HA := Lib.hid hrl; clear hrl
  replace HB := Lib.hid (HB.out.trans (hb.mono HB.out.size)); clear hb
  go_wp2_with fail
  rw [← HT1.out]
  refine (partsN cwd T1 _ _ m _ (by omega) (by omega) EC.out Ek.out ((HB.out.cell (p := ⟨0, 0, none⟩) hml).trans HM.out)).mono ?_
  rintro e w_HC ⟨a_HC, c_HC, rfl, hrl, hlc_HC, hcc_HC, hb⟩
  replace HA := Lib.hid (HA.out.below hb)
  have HC := Lib.hid hrl; clear hrl
  replace HB := Lib.hid (HB.out.trans (hb.mono HB.out.size)); clear hb
  obtain ⟨b, off, rfl, _, hc0⟩ := HC.out.2 n (by omega)
  have hcell : w_HC.cell? ⟨b, off + n, none⟩ = some (.string s) := by
    rw [hc0]
    show some (Value.string ⟨(C.getD n []).toArray⟩) = _
    rw [HCN.out, Lib.mk_data]
  clear hc0
  go_wp2_with fail
  rw [← HT2.out]
  refine (partsN cwd T2 _ _ m _ (by omega) (by omega) E2.out En.out ((HB.out.cell (p := ⟨0, 0, none⟩) hml).trans HM.out)).mono ?_
  rintro e w_HD ⟨a_HD, c_HD, rfl, hrl, hlc_HD, hcc_HD, hb⟩
  replace HA := Lib.hid (HA.out.below hb)
  replace HC := Lib.hid (HC.out.below hb)
  have HD := Lib.hid hrl; clear hrl
  replace HB := Lib.hid (HB.out.trans (hb.mono HB.out.size)); clear hb
  go_wp2_with fail
  refine (sameL _ _ _ _ _ _ _ _ _ HD.out HA.out hln hln).mono ?_
  rintro e w5 ⟨rfl, q5, rfl⟩
  rw [decide_eq_true rfl]
  replace HB := Lib.hid (HB.out.trans ((drewN_below _ q5).mono HB.out.size))
  replace HA := Lib.hid (HA.out.drewN (m := q5)); replace HC := Lib.hid (HC.out.drewN (m := q5))
  go_wp2_with fail
  rw [← HT3.out]
  refine (partsN cwd T3 _ _ m _ (by omega) (by omega) E3.out En.out ((HB.out.cell (p := ⟨0, 0, none⟩) hml).trans HM.out)).mono ?_
  rintro e w_HE ⟨a_HE, c_HE, rfl, hrl, hlc_HE, hcc_HE, hb⟩
  replace HA := Lib.hid (HA.out.below hb)
  replace HC := Lib.hid (HC.out.below hb)
  have HE := Lib.hid hrl; clear hrl
  replace HB := Lib.hid (HB.out.trans (hb.mono HB.out.size)); clear hb
  go_wp2_with fail
  refine (sameL _ _ _ _ _ _ _ _ _ HE.out HA.out hln hln).mono ?_
  rintro e w6 ⟨rfl, q6, rfl⟩
  rw [decide_eq_true rfl]
  replace HB := Lib.hid (HB.out.trans ((drewN_below _ q6).mono HB.out.size))
  replace HA := Lib.hid (HA.out.drewN (m := q6)); replace HC := Lib.hid (HC.out.drewN (m := q6))
  have hct := HC.out.take (m := n) (by omega)
  rw [HCT.out] at hct
  have HCt := Lib.hid hct; clear hct
  go_wp2_with fail
  refine (sameL _ _ _ _ _ _ _ _ _ HCt.out HA.out hln hln).mono ?_
  rintro e w7 ⟨rfl, q7, rfl⟩
  rw [decide_eq_true rfl]
  replace HB := Lib.hid (HB.out.trans ((drewN_below _ q7).mono HB.out.size))
  go_wp2
  go_ret
  exact ⟨rfl, by have h := HB.out; rw [World.drewN_drewN] at h; exact h⟩

end Go.Proofs.YtlaijghfcbjbpaaDoor
