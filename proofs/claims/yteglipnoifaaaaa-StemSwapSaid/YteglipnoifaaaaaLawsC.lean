/-
  The walk of the law StemSwap, out of the contracts.
-/
import Derived.Test.YteglipnoifaaaaaSwapC
import Derived.Test.YteglipnoifaaaaaLawsA
import Derived.Maps.AppendAt
import Derived.Laws.AppendOwnNone
namespace Go.Proofs.Yteglipnoifaaaaa
open Go.RowKit

theorem quiet_below {w w' : World} {q : Nat} (h : w' = w.drewN q) : Below w.heap.size w w' := by rw [h]; exact drewN_below w q

theorem own_slice {w : World} {B n : Nat} {v : Value} {z : Nat → ByteArray} (h : w.ownsRow B 9 1 v n (strCells n z)) : ∃ a c, v = .slice a n c ∧ Reads w a n (fun k => .string (z k)) := by
  rcases own_forms h with ⟨rfl, rfl⟩ | ⟨g, cap, rfl⟩
  · exact ⟨_, _, rfl, reads_none _⟩
  · exact ⟨_, _, rfl, reads_own h⟩

/-- The cells of a slice that came in, as the law of append asks for them. -/
theorem reads_cells {w : World} {ad : Addr} {n : Nat} {z : Nat → ByteArray} (h : Reads w (some ad) n (fun k => .string (z k))) : ∀ j u, (strCells n z)[j]? = some u → w.cell? (ad.add j) = some u := by
  intro j u hj
  have hlt : j < n := by
    rcases Nat.lt_or_ge j n with x | x
    · exact x
    · rw [List.getElem?_eq_none (by rw [strCells_length]; exact x)] at hj; cases hj
  rw [strCells_at hlt] at hj
  obtain ⟨b, off, he, _, hc⟩ := h j hlt
  obtain rfl := Option.some.inj he
  rw [Go.WideShapes.add_plain, hc]; exact hj

theorem append_toList (a b : ByteArray) : (a ++ b).data.toList = a.data.toList ++ b.data.toList := by
  simp

theorem swapB_size (f t s : ByteArray) : (swapB f t s).size ≤ s.size + t.size := by
  unfold swapB
  split
  · rw [Lib.size_eq, append_toList, List.length_append, ← Lib.size_eq, ← Lib.size_eq, Lib.size_eq, Lib.extract_data, List.length_take]
    rw [List.length_drop, ← Lib.size_eq]; omega
  · omega

/-- What is exchanged back is as it was. -/
theorem swapB_back (f t s : ByteArray) (h : Lib.hasSuffix s.data.toList f.data.toList = true) : swapB t f (swapB f t s) = s := by
  have hsz := hasSuffix_size h
  obtain ⟨pre, hp⟩ := List.isSuffixOf_iff_suffix.1 h
  have hl : pre.length + f.size = s.size := by rw [Lib.size_eq, Lib.size_eq, ← hp, List.length_append]
  have e1 : (swapB f t s).data.toList = pre ++ t.data.toList := by
    unfold swapB
    rw [if_pos h, append_toList, Lib.extract_data, ← hp]
    simp only [List.drop_zero, Nat.sub_zero]
    rw [show s.size - f.size = pre.length by omega, List.take_left]
  have h2 : Lib.hasSuffix (swapB f t s).data.toList t.data.toList = true := by
    unfold Lib.hasSuffix
    rw [List.isSuffixOf_iff_suffix, e1]
    exact List.suffix_append _ _
  have hl2 : (swapB f t s).size = pre.length + t.size := by rw [Lib.size_eq, e1, List.length_append, ← Lib.size_eq]
  have e2 : (swapB t f (swapB f t s)).data.toList = s.data.toList := by
    rw [swapB, if_pos h2, append_toList, Lib.extract_data, e1, hl2, ← hp]
    simp only [List.drop_zero, Nat.sub_zero]
    rw [show pre.length + t.size - t.size = pre.length by omega, List.take_left]
  rw [← Lib.mk_data (swapB t f (swapB f t s)), e2, Lib.mk_data]

set_option maxHeartbeats 800000 in
theorem stemSwap_walk0 (a : Option Addr) (n c : Nat) (z : Nat → ByteArray) (f t : ByteArray) (m : Int) (w : World) (hm : w.cell? ⟨0, 0, none⟩ = some (.int .i64 m)) (hn : n ≤ 9223372036854775807) (hz : ∀ k, (z k).size ≤ 140737488351232) (hf : f.size ≤ 9223372036854775807) (ht : t.size ≤ 9223372036854775807) (hr : Reads w a n (fun k => .string (z k))) (hc0 : a = none → c = 0) :
    Calls Try.prog 6 #[.slice a n c, .string f, .string t] w fun e w' => e = .returned (.bool true) ∧ Below w.heap.size w w' := by
  have HM := Lib.hid hm; clear hm
  by_cases h1 : 40 < n
  · go_enter Try.func6, Try.ntmps6
    go_wp2_with (go_at_call 7; refine (alive_any m _ HM.out).mono ?_; rintro e w' ⟨rfl, n, rfl⟩)
    go_ret
    exact ⟨rfl, drewN_below _ _⟩
  by_cases h2 : 40 < f.size
  · go_enter Try.func6, Try.ntmps6
    go_wp2_with (go_at_call 7; refine (alive_any m _ HM.out).mono ?_; rintro e w' ⟨rfl, n, rfl⟩)
    go_ret
    exact ⟨rfl, drewN_below _ _⟩
  by_cases h3 : 40 < t.size
  · go_enter Try.func6, Try.ntmps6
    go_wp2_with (go_at_call 7; refine (alive_any m _ HM.out).mono ?_; rintro e w' ⟨rfl, n, rfl⟩)
    go_ret
    exact ⟨rfl, drewN_below _ _⟩
  obtain ⟨i0, hi, hz0, hz1, hz2⟩ := info_parts infoStr
  have HR := Lib.hid hr; have HZ := Lib.hid hz; clear hr hz
  have hz2' : ∀ k, (z k).size ≤ 1000000000000000 := fun k => by have := HZ.out k; omega
  have hz3' : ∀ k, (swapB f t (z k)).size ≤ 1000000000000000 := fun k => by have := HZ.out k; have := swapB_size f t (z k); omega
  have HZ2 := Lib.hid hz2'; have HZ3 := Lib.hid hz3'; clear hz2' hz3'
  cases a with
  | none =>
    obtain rfl : n = 0 := by
      rcases Nat.eq_zero_or_pos n with h | h
      · exact h
      · obtain ⟨b, off, he, _⟩ := HR.out 0 h; cases he
    obtain rfl : c = 0 := hc0 rfl
    clear hc0
    have hr0 : ∀ (W : World) (b : Option Addr), Reads W b 0 (fun k => .string (z k)) := fun W b => reads_none b
    have HR0 := Lib.hid hr0; clear hr0
    go_enter Try.func6, Try.ntmps6
    go_wp2_with (first
      | (go_at_call 7; refine (alive_any m _ HM.out).mono ?_; rintro e w' ⟨rfl, nq, rfl⟩)
      | (at_builtin; go_loud (refine wpList_append_own_none rfl _ _ 22 rfl w.heap.size 9 i0 1 Try.underlying22 hi _ 0 [] rfl (World.ownsRow_nil _ _ _ _) rfl ?_; have HO1 := Lib.hid (HR0.out (w.drewN nq) none); have HBW1 := Lib.hid (drewN_below w nq))))
    go_wp2_with (first
      | (go_at_call 17; refine (swap_any _ _ _ z f t _ (by omega) HZ2.out (by omega) (by omega) HO1.out).mono ?_; rintro e w2 ⟨a2, c2, rfl, hr2, hb2⟩; have HO2 := Lib.hid hr2; have hbw2 : Below w.heap.size w w2 := HBW1.out.trans (hb2.mono HBW1.out.size); have HBW2 := Lib.hid hbw2; clear hr2 hb2 hbw2)
      | (go_at_call 19; refine (refSwap_any _ _ _ z f t _ (by omega) HZ2.out (by omega) (by omega) (reads_below HR.out HBW2.out)).mono ?_; rintro e w3 ⟨a3, c3, rfl, hr3, hb3⟩; have HO3 := Lib.hid hr3; have HO23 := Lib.hid (reads_below HO2.out hb3); have hbw3 : Below w.heap.size w w3 := HBW2.out.trans (hb3.mono HBW2.out.size); have HBW3 := Lib.hid hbw3; clear hr3 hb3 hbw3)
      | (go_at_call 18; refine (same_any _ _ _ _ _ _ (fun k => swapB f t (z k)) (fun k => swapB f t (z k)) true _ (by omega) (by omega) HO23.out HO3.out ⟨fun _ => ⟨rfl, fun _ _ => rfl⟩, fun _ => rfl⟩).mono ?_; rintro e w4 ⟨rfl, q4, rfl⟩))
    go_loop [9] (fun i => ∃ k : Nat, k ≤ 0 ∧ i = .int .i64 k ∧ ∀ j, j < k → Lib.hasSuffix (z j).data.toList f.data.toList = true) (fun i => 0 - (intOf i).toNat)
    case atStart => exact ⟨0, Nat.zero_le _, rfl, fun j hj => absurd hj (Nat.not_lt_zero j)⟩
    case round =>
      obtain ⟨k, hk, rfl, hall⟩ := hrel
      have HALL := Lib.hid hall; clear hall
      obtain rfl : k = 0 := by omega
      have HO24 := Lib.hid (reads_drewN (m := q4) HO23.out)
      have hbw4 : Below w.heap.size w (w3.drewN q4) := HBW3.out.trans ((drewN_below w3 q4).mono HBW3.out.size)
      have HBW4 := Lib.hid hbw4; clear hbw4
      go_wp2_with (first
        | (go_at_call 17; refine (swap_any _ _ _ (fun k => swapB f t (z k)) t f _ (by omega) HZ3.out (by omega) (by omega) HO24.out).mono ?_; rintro e w5 ⟨a5, c5, rfl, hr5, hb5⟩; have HO5 := Lib.hid hr5; have hbw5 : Below w.heap.size w w5 := HBW4.out.trans (hb5.mono HBW4.out.size); have HBW5 := Lib.hid hbw5; clear hr5 hb5 hbw5)
        | (go_at_call 18; refine (same_any _ _ _ _ _ _ (fun j => swapB t f (swapB f t (z j))) z true _ (by omega) (by omega) HO5.out (reads_below HR.out HBW5.out) ⟨fun _ => ⟨rfl, fun j hj => swapB_back f t (z j) (HALL.out j hj)⟩, fun _ => rfl⟩).mono ?_; rintro e w6 ⟨rfl, q6, rfl⟩))
      go_ret
      exact ⟨rfl, (HBW5.out.trans ((drewN_below w5 q6).mono HBW5.out.size))⟩
  | some ad =>
    have hap : ∀ q, Reads (w.drewN q) (some ad) n (fun k => .string (z k)) := fun q => reads_drewN HR.out
    have HAP := Lib.hid hap; clear hap
    go_enter Try.func6, Try.ntmps6
    go_wp2_with (first
      | (go_at_call 7; refine (alive_any m _ HM.out).mono ?_; rintro e w' ⟨rfl, nq, rfl⟩)
      | (at_builtin; go_loud (refine wpList_append_own _ rfl _ _ 22 rfl w.heap.size 9 i0 (.string ⟨#[]⟩) 1 16 Try.underlying22 hi hz0 hz1 hz2 rfl (by decide) _ 0 [] rfl (World.ownsRow_nil _ _ _ _) ad n c (strCells n z) rfl (by rw [strCells_length, Nat.mul_one]) (reads_cells (HAP.out _)) (strCells_oneCell n z) (by unfold maxLen; omega) (by omega) (by simp) ?_; intro v' w1 hown1 hg1 _; have HG1 := Lib.hid hg1; clear hg1; rw [Nat.zero_add, List.nil_append] at hown1; obtain ⟨a1, c1, rfl, hr1⟩ := own_slice hown1; have HO1 := Lib.hid hr1; clear hown1 hr1; have hbw1 : Below w.heap.size w w1 := (drewN_below w nq).grown HG1.out (by simp) (fun g hg => by cases hg); have HBW1 := Lib.hid hbw1; clear hbw1)))
    go_wp2_with (first
      | (go_at_call 17; refine (swap_any _ _ _ z f t _ (by omega) HZ2.out (by omega) (by omega) HO1.out).mono ?_; rintro e w2 ⟨a2, c2, rfl, hr2, hb2⟩; have HO2 := Lib.hid hr2; have hbw2 : Below w.heap.size w w2 := HBW1.out.trans (hb2.mono HBW1.out.size); have HBW2 := Lib.hid hbw2; clear hr2 hb2 hbw2)
      | (go_at_call 19; refine (refSwap_any _ _ _ z f t _ (by omega) HZ2.out (by omega) (by omega) (reads_below HR.out HBW2.out)).mono ?_; rintro e w3 ⟨a3, c3, rfl, hr3, hb3⟩; have HO3 := Lib.hid hr3; have HO23 := Lib.hid (reads_below HO2.out hb3); have hbw3 : Below w.heap.size w w3 := HBW2.out.trans (hb3.mono HBW2.out.size); have HBW3 := Lib.hid hbw3; clear hr3 hb3 hbw3)
      | (go_at_call 18; refine (same_any _ _ _ _ _ _ (fun k => swapB f t (z k)) (fun k => swapB f t (z k)) true _ (by omega) (by omega) HO23.out HO3.out ⟨fun _ => ⟨rfl, fun _ _ => rfl⟩, fun _ => rfl⟩).mono ?_; rintro e w4 ⟨rfl, q4, rfl⟩))
    go_loop [9] (fun i => ∃ k : Nat, k ≤ n ∧ i = .int .i64 k ∧ ∀ j, j < k → Lib.hasSuffix (z j).data.toList f.data.toList = true) (fun i => n - (intOf i).toNat)
    case atStart => exact ⟨0, Nat.zero_le _, rfl, fun j hj => absurd hj (Nat.not_lt_zero j)⟩
    case round =>
      obtain ⟨k, hk, rfl, hall⟩ := hrel
      have HALL := Lib.hid hall; clear hall
      by_cases hlt : k < n
      · obtain ⟨b, off, he, hbl, hc0⟩ := HR.out k hlt
        obtain ⟨x, hx⟩ : ∃ x, x = z k := ⟨_, rfl⟩
        have hc : (w3.drewN q4).cell? ⟨b, off + k, none⟩ = some (.string x) := by
          show w3.cell? ⟨b, off + k, none⟩ = _
          rw [HBW3.out.cell (p := ⟨b, off + k, none⟩) hbl, hc0, hx]
        have hxs := HZ.out k
        rw [← hx] at hxs
        have HX := Lib.hid hx
        clear hc0 hx
        obtain rfl := Option.some.inj he
        cases hs : Lib.hasSuffix x.data.toList f.data.toList
        · have HS := Lib.hid hs; clear hs
          go_wp2_with (go_at_call 10; refine (ends_any _ _ _ (by omega)).mono ?_; rintro e w' ⟨rfl, rfl⟩; rw [HS.out])
          go_ret
          exact ⟨rfl, (HBW3.out.trans ((drewN_below w3 q4).mono HBW3.out.size))⟩
        · have HS := Lib.hid hs; clear hs
          go_wp2_with (go_at_call 10; refine (ends_any _ _ _ (by omega)).mono ?_; rintro e w' ⟨rfl, rfl⟩; rw [HS.out])
          go_round
          case rel =>
            refine ⟨k + 1, by omega, by go_num, fun j hj => ?_⟩
            rcases Nat.lt_succ_iff_lt_or_eq.1 hj with hj' | rfl
            · exact HALL.out j hj'
            · rw [← HX.out]; exact HS.out
          case measure => simp [intOf]; omega
      · obtain rfl : k = n := by omega
        have HO24 := Lib.hid (reads_drewN (m := q4) HO23.out)
        have hbw4 : Below w.heap.size w (w3.drewN q4) := HBW3.out.trans ((drewN_below w3 q4).mono HBW3.out.size)
        have HBW4 := Lib.hid hbw4; clear hbw4
        go_wp2_with (first
          | (go_at_call 17; refine (swap_any _ _ _ (fun k => swapB f t (z k)) t f _ (by omega) HZ3.out (by omega) (by omega) HO24.out).mono ?_; rintro e w5 ⟨a5, c5, rfl, hr5, hb5⟩; have HO5 := Lib.hid hr5; have hbw5 : Below w.heap.size w w5 := HBW4.out.trans (hb5.mono HBW4.out.size); have HBW5 := Lib.hid hbw5; clear hr5 hb5 hbw5)
          | (go_at_call 18; refine (same_any _ _ _ _ _ _ (fun j => swapB t f (swapB f t (z j))) z true _ (by omega) (by omega) HO5.out (reads_below HR.out HBW5.out) ⟨fun _ => ⟨rfl, fun j hj => swapB_back f t (z j) (HALL.out j hj)⟩, fun _ => rfl⟩).mono ?_; rintro e w6 ⟨rfl, q6, rfl⟩))
        go_ret
        exact ⟨rfl, (HBW5.out.trans ((drewN_below w5 q6).mono HBW5.out.size))⟩

theorem stemSwap_walk (a : Option Addr) (n c : Nat) (zs : List ByteArray) (f t : ByteArray) (w : World) (hz : IsStrs w a n c zs) (wf : f.size ≤ 140737488351232) (wt : t.size ≤ 140737488351232) (hsh : w.ShapedOpen Try.prog) :
    Calls Try.prog 6 #[.slice a n c, .string f, .string t] w fun e w' => e = .returned (.bool true) ∧ Below w.heap.size w w' := by
  obtain ⟨m, hm⟩ := Try.laysM145.s1_3 w hsh
  exact stemSwap_walk0 a n c (fun k => zs.getD k ByteArray.empty) f t m w hm (by have := isStrs_cap hz; omega) (isStrs_size hz) (by omega) (by omega) (isStrs_reads hz) (by
    rintro rfl
    rcases hz with ⟨_, _, h, _⟩ | ⟨x, h, _⟩
    · exact h
    · cases h)
end Go.Proofs.Yteglipnoifaaaaa
