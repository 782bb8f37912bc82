/-
  LexComments' walk.
-/
import Derived.Test.YtnndnldpbdhkgaaLexR6
import Derived.Test.YtnndnldpbdhkgaaLexP1
import Derived.Test.YtnndnldpbdhkgaaLexBD
namespace Go.Proofs.Ytnndnldpbdhkgaa
open Go.RowKit
set_option linter.unusedVariables false

theorem own_tk (w : World) (x : Tk) (wv : Value) (n : Nat) (h : PtsAt w (fun _ => True) n x.word wv) (cs : Array Value) (hcs : cs.toList = cellsK x wv) : OwnTks (w.alloc (.cells cs 34 (0, 0))) (fun _ => True) (.slice (some ⟨w.heap.size, 0, none⟩) 1 1) [x] := by
  refine ⟨[wv], n, rfl, ?_, fun i h1 h2 => ?_⟩
  · have h3 := World.ownsRow_lit (base := 0) (e := 34) (size := 3) w cs 1 (Nat.zero_le _) (by unfold maxLen; omega) (by rw [← Array.length_toList, hcs]; rfl)
    rw [hcs] at h3
    show World.ownsRow _ _ _ _ _ _ (cellsK x wv ++ [])
    rw [List.append_nil]
    exact h3
  · obtain rfl : i = 0 := by simp at h1; omega
    have h3 : PtsAt w (fun b => b < w.heap.size) n x.word wv := h.mono fun b hb _ => hb
    exact (h3.keep ((Keeps.refl (fun _ => False) w).alloc _) (fun _ _ _ h => h)).mono fun b _ hb => ⟨trivial, fun e => by
      obtain rfl : w.heap.size = b := Option.some.inj e
      omega⟩
set_option maxRecDepth 100000 in
set_option maxHeartbeats 16000000 in
theorem lexComments_walk (a0 a1 : ByteArray) (w : World) (h0 : a0.size ≤ 140737488351232) (h1 : a1.size ≤ 140737488351232) (hsh : w.ShapedOpen Try.prog) :
    Calls Try.prog 8 #[.string a0, .string a1] w fun e w' => e = .returned (.bool true) ∧ Below w.heap.size w w' := by
  have hc3 := cells_token
  have hc6 := cells_part
  obtain ⟨i0, hi0, hz0, hz1, hz2⟩ := info_parts info_token
  obtain ⟨resB, hresB⟩ : ∃ res, res = tokensF a1.data.toList := ⟨_, rfl⟩
  have hb := fun w => rtoks_any a1 w h1
  rw [← hresB] at hb
  have HRB := Lib.hid hb
  have HB := Lib.hid hresB.symm
  clear hb hresB
  rcases Nat.lt_or_ge 200 a0.size with hl0 | hl0
  · have q1 : (200 : Int) < (a0.size : Int) := by omega
    clear hl0
    go_enter Try.func8, Try.ntmps8
    go_wp2_with fail
    refine (alive_any w).mono ?_
    rintro e w1 ⟨rfl, hk⟩
    have HK1 := Lib.hid hk
    clear hk
    go_wp2_with fail
    go_ret
    exact ⟨rfl, HK1.out.below0 (fun _ h => h.elim)⟩
  have q1 : ¬ (200 : Int) < (a0.size : Int) := by omega
  rcases Nat.lt_or_ge 200 a1.size with hl1 | hl1
  · have q2 : (200 : Int) < (a1.size : Int) := by omega
    clear hl1
    go_enter Try.func8, Try.ntmps8
    go_wp2_with fail
    refine (alive_any w).mono ?_
    rintro e w1 ⟨rfl, hk⟩
    have HK1 := Lib.hid hk
    clear hk
    go_wp2_with fail
    go_ret
    exact ⟨rfl, HK1.out.below0 (fun _ h => h.elim)⟩
  have q2 : ¬ (200 : Int) < (a1.size : Int) := by omega
  go_enter Try.func8, Try.ntmps8
  go_wp2_with fail
  refine (alive_any w).mono ?_
  rintro e w1 ⟨rfl, hk⟩
  have HK1 := Lib.hid hk
  clear hk
  go_wp2_with fail
  go_loopw [6] (fun k' wr => ∃ k : Nat, k' = .int .i64 k ∧ k ≤ a0.size ∧ Hid (∀ j, j < k → (byteAt a0 j == 10) = false ∧ (byteAt a0 j == 0) = false) ∧ w1 = wr) (fun k' _ => a0.size - (intOf k').toNat)
  case atStart => exact ⟨0, rfl, Nat.zero_le _, Lib.hid (fun j hj => absurd hj (Nat.not_lt_zero _)), rfl⟩
  case round =>
    obtain ⟨k, rfl, hk, HL, hwr⟩ := hrel
    subst hwr
    rcases Nat.lt_or_ge k a0.size with hlt | hge
    · have p1 : (k : Int) < (a0.size : Int) := by omega
      have hb := byteAt_in hlt
      obtain ⟨c, hc⟩ : ∃ c, c = byteAt a0 k := ⟨_, rfl⟩
      rw [← hc] at hb
      have HX := Lib.hid hc
      clear hc
      by_cases t10 : c = 10
      · have f10 : ((c.toNat : Int) == 10) = true := test_yes (c := c) (k := 10) t10
        clear t10
        go_wp2_with fail
        go_ret
        exact ⟨rfl, HK1.out.below0 (fun _ h => h.elim)⟩
      have f10 : ((c.toNat : Int) == 10) = false := test_no (c := c) (k := 10) t10
      by_cases t0 : c = 0
      · have f0 : ((c.toNat : Int) == 0) = true := test_yes (c := c) (k := 0) t0
        clear t10 t0
        go_wp2_with fail
        go_ret
        exact ⟨rfl, HK1.out.below0 (fun _ h => h.elim)⟩
      have f0 : ((c.toNat : Int) == 0) = false := test_no (c := c) (k := 0) t0
      have HL2 := Lib.hid (show (c == 10) = false ∧ (c == 0) = false from ⟨beq_eq_false_iff_ne.2 t10, beq_eq_false_iff_ne.2 t0⟩)
      clear t10 t0
      go_wp2_with fail
      go_roundw
      case rel => exact ⟨k + 1, by go_num, by omega, Lib.hid (fun j hj => by
        rcases Nat.lt_or_ge j k with h | h
        · exact HL.out j h
        · obtain rfl : j = k := by omega
          rw [← HX.out]; exact HL2.out), by first | rfl | trivial⟩
      case measure => simp [intOf]; omega
    · obtain rfl : k = a0.size := by omega
      have hall : ∀ c ∈ a0.data.toList, (c == 10) = false ∧ (c == 0) = false := fun c hc => by
        obtain ⟨j, hj⟩ := List.mem_iff_getElem?.1 hc
        have h2 := HL.out j (by rw [Lib.size_eq]; exact (List.getElem?_eq_some_iff.1 hj).1)
        unfold byteAt at h2
        rw [List.getD_eq_getElem?_getD, hj] at h2
        exact h2
      have HFR := Lib.hid (show (∀ c ∈ a0.data.toList, (c == 10) = false) ∧ a0.data.toList.contains 0 = false from ⟨fun c hc => (hall c hc).1, by
        rw [List.contains_eq_mem, decide_eq_false_iff_not]
        intro h
        exact absurd (hall 0 h).2 (by decide)⟩)
      have p1 : ¬ (a0.size : Int) < (a0.size : Int) := by omega
      clear hge HL hall
      go_wp2_with fail
      refine (HRB.out w1).mono ?_
      intro e w2 hp
      cases resB with
      | error x =>
        obtain ⟨hx0, rfl, hk2⟩ := hp
        have b0 : ((x : Int) != 0) = true := by rw [bne_iff_ne]; omega
        have HK2 := Lib.hid (HK1.out.trans hk2 (fun _ _ h => h))
        clear hk2 hx0
        go_wp2_with fail
        go_ret
        exact ⟨rfl, HK2.out.below0 (fun _ h => h.elim)⟩
      | ok y =>
        obtain ⟨v, rfl, hv, hvl, hk2⟩ := hp
        obtain ⟨ya, yc, rfl, _, _⟩ := hv.shape
        have HU := Lib.hid hv
        have HUL := Lib.hid hvl
        have HK12 := Lib.hid (HK1.out.trans hk2 (fun _ _ h => h))
        obtain ⟨yn, hyn⟩ : ∃ yn, yn = y.length := ⟨_, rfl⟩
        have HYN := Lib.hid hyn
        rw [← hyn] at HU HUL
        rw [← hyn]
        clear hk2 hv hvl hyn
        have HYB := Lib.hid (show yn ≤ 200 by rw [HYN.out]; have := tokC_count _ _ (may_ok HB.out).2; rw [← Lib.size_eq] at this; omega)
        obtain ⟨S, hS⟩ : ∃ S, S = (⟨#[35]⟩ : ByteArray) ++ a0 ++ (⟨#[10]⟩ : ByteArray) ++ a1 := ⟨_, rfl⟩
        obtain ⟨U, hU⟩ : ∃ U, U = (⟨#[120, 32, 35]⟩ : ByteArray) ++ a0 := ⟨_, rfl⟩
        have hT1 := fun W => tokens_any S W (by rw [hS, ba_size, ba_size, ba_size]; show 1 + a0.size + 1 + a1.size ≤ _; omega)
        rw [show tokensF S.data.toList = .ok (⟨2, [10], []⟩ :: y) by rw [hS, ba_append, ba_append, ba_append]; exact comm_line HB.out HFR.out.1 HFR.out.2 (by rw [← Lib.size_eq, ← Lib.size_eq]; omega)] at hT1
        have hT2 := fun W => tokens_any U W (by rw [hU, ba_size]; show 3 + a0.size ≤ _; omega)
        rw [show tokensF U.data.toList = .ok [⟨1, [], [txtP [120]]⟩] by rw [hU, ba_append]; exact comm_word HFR.out.1 HFR.out.2 (by rw [← Lib.size_eq]; omega)] at hT2
        have hT3 := fun W => tokens_any ⟨#[120, 35, 121]⟩ W (by decide)
        rw [show tokensF (⟨#[120, 35, 121]⟩ : ByteArray).data.toList = .ok [⟨1, [], [txtP [120, 35, 121]]⟩] from comm_in] at hT3
        have HT1 := Lib.hid hT1
        have HT2 := Lib.hid hT2
        have HT3 := Lib.hid hT3
        have HS := Lib.hid hS
        have HV := Lib.hid hU
        clear hT1 hT2 hT3 hS hU
        go_wp2_with fail
        rw [← HS.out]
        refine (HT1.out _).mono ?_
        rintro e w3 ⟨t, n1, rfl, ht, hk⟩
        obtain ⟨ta, tc, rfl, _, _⟩ := ht.shape
        obtain ⟨tn, htn⟩ : ∃ tn, tn = ((⟨2, [10], []⟩ : Tk) :: y).length := ⟨_, rfl⟩
        rw [← htn] at ht
        rw [← htn]
        have H3 := Lib.hid ht
        have HK3 := Lib.hid hk
        clear ht hk htn
        go_wp2_with fail
        rw [← HV.out]
        refine (HT2.out _).mono ?_
        rintro e w4 ⟨t, n2, rfl, ht, hk⟩
        obtain ⟨ua, uc, rfl, _, _⟩ := ht.shape
        rw [show ([(⟨1, [], [txtP [120]]⟩ : Tk)] : List Tk).length = 1 from rfl]
        have H4 := Lib.hid (show TksAt w4 _ _ [(⟨1, [], [txtP [120]]⟩ : Tk)] (.slice ua 1 uc) from ht)
        have HK4 := Lib.hid hk
        clear ht hk
        go_wp2_with fail
        refine (HT3.out _).mono ?_
        rintro e w5 ⟨t, n3, rfl, ht, hk⟩
        obtain ⟨va, vc, rfl, _, _⟩ := ht.shape
        rw [show ([(⟨1, [], [txtP [120, 35, 121]]⟩ : Tk)] : List Tk).length = 1 from rfl]
        obtain ⟨g, o, xa, xl, xc, rfl, ⟨q0, q1, q2⟩, hx, hg⟩ := ht.at (Keeps.refl _ _) (i := 0) (Nat.succ_pos _)
        obtain ⟨xc2, hxe⟩ : ∃ c, xl = 1 := by obtain ⟨a, c, e, _⟩ := hx.shape; injection e with e1 e2 e3; exact ⟨c, e2⟩
        subst hxe
        obtain ⟨g2, o2, za, zl, zc, rfl, ⟨s0, s1, s2, s3, s4, s5⟩, _, _, hg2⟩ := hx.at (Keeps.refl _ _) (i := 0) (Nat.succ_pos _)
        have HQ := Lib.hid (show w5.cell? ⟨g, o + 2, none⟩ = some (.slice (some ⟨g2, o2, none⟩) 1 xc) ∧ w5.cell? ⟨g2, o2 + 1, none⟩ = some (.string ⟨#[120, 35, 121]⟩) ∧ g < w5.heap.size ∧ g2 < w5.heap.size from ⟨q2, s1, hg, hg2⟩)
        have HK5 := Lib.hid hk
        have HK35 := Lib.hid (HK4.out.trans HK5.out (fun _ _ h => h))
        have HK25 := Lib.hid (HK3.out.trans HK35.out (fun _ _ h => h))
        have HKW := Lib.hid (HK12.out.trans HK25.out (fun _ _ h => h))
        clear ht hk hx q0 q1 q2 s0 s1 s2 s3 s4 s5 hg hg2
        obtain ⟨WA, hWA⟩ : ∃ W, W = (w5.alloc (.cells #[.int .i64 1, .string ⟨#[120]⟩, .string ⟨#[]⟩, .string ⟨#[]⟩, .slice none 0 0, .bool false] 39)).alloc (.cells #[.int .i64 1, .string ⟨#[]⟩, .slice (some ⟨w5.heap.size, 0, none⟩) 1 1] 34) := ⟨_, rfl⟩
        obtain ⟨n4, hn4⟩ := one_reads w5 1 ⟨#[120]⟩ false
        have HP4 := Lib.hid (show PtsAt WA (fun _ => True) n4 [txtP [120]] (.slice (some ⟨w5.heap.size, 0, none⟩) 1 1) by rw [hWA]; exact hn4.keep ((Keeps.refl (fun _ => False) _).alloc _) (fun _ _ _ h => h))
        have hsz : WA.heap.size = w5.heap.size + 2 := by rw [hWA]; simp
        have HTB := Lib.hid (show WA.heap[w5.heap.size + 1]? = some (.cells #[.int .i64 1, .string ⟨#[]⟩, .slice (some ⟨w5.heap.size, 0, none⟩) 1 1] 34 (0, 0)) by
          have h := heap_alloc_new (w5.alloc (.cells #[.int .i64 1, .string ⟨#[120]⟩, .string ⟨#[]⟩, .string ⟨#[]⟩, .slice none 0 0, .bool false] 39)) (.cells #[.int .i64 1, .string ⟨#[]⟩, .slice (some ⟨w5.heap.size, 0, none⟩) 1 1] 34)
          rw [hWA]
          simpa using h)
        have HKA := Lib.hid (show Keeps (fun _ => False) w5 WA by rw [hWA]; exact ((Keeps.refl _ _).alloc _).alloc _)
        have HWA := Lib.hid hWA
        clear hWA hn4
        go_wp2_with fail
        refine (num_any 0 _).mono ?_
        rintro e w6 ⟨rfl, hw6⟩
        rw [hw6, ← HWA.out]
        clear hw6
        obtain ⟨B, hB⟩ : ∃ B, B = w5.heap.size := ⟨_, rfl⟩
        rw [← hB] at HP4 HTB hsz
        rw [← hB]
        have HBE := Lib.hid hB
        clear hB
        have HSZ := Lib.hid hsz
        have HOW := Lib.hid (own_tk WA ⟨2, [10], []⟩ (.slice none 0 0) 0 (PtsAt.nil WA _ 0) #[.int .i64 2, .string ⟨#[10]⟩, .slice none 0 0] rfl)
        rw [hsz] at HOW
        rcases Nat.eq_zero_or_pos yn with hy0 | hy0
        · have HYE := Lib.hid (show y = [] from List.eq_nil_of_length_eq_zero (by rw [← HYN.out]; exact hy0))
          obtain rfl : yn = 0 := hy0
          obtain ⟨m1, hm1⟩ := HOW.out.reads (fun _ _ => trivial)
          obtain ⟨W7, hW7⟩ : ∃ W, W = WA.alloc (.cells #[.int .i64 2, .string ⟨#[10]⟩, .slice none 0 0] 34) := ⟨_, rfl⟩
          have HA7 := Lib.hid (show Keeps (fun _ => False) WA W7 by rw [hW7]; exact (Keeps.refl _ _).alloc _)
          have hsm := sametokens_any _ m1 _ _ _ _ _ _ W7 (H3.out.keep (HK35.out.trans (HKA.out.trans HA7.out (fun _ _ h => h)) (fun _ _ h => h)) (fun _ _ _ h => h)) (hW7 ▸ hm1)
          rw [HYE.out] at hsm
          have HM := Lib.hid hsm
          have HW7 := Lib.hid hW7
          clear hsm hm1 hW7
          go_wp2_with (at_builtin; refine wpList_append_none (by rfl) (.tmp 81) (.tmp 82) _ rfl 34 i0 Try.underlying23 hi0 (some ⟨B + 2, 0, none⟩) 1 1 rfl (Nat.le_refl _) ya yc rfl ?_)
          clear hsz
          rw [← HW7.out]
          refine HM.out.mono ?_
          rintro e w8 ⟨r, rfl, hr, hk8⟩
          obtain rfl : r = true := hr.2 (by first | rfl | trivial)
          have HA8 := Lib.hid (HA7.out.trans hk8 (fun _ _ h => h))
          have HK58 := Lib.hid (HKA.out.trans HA8.out (fun _ _ h => h))
          clear hr hk8
          have hb8 := (HA8.out.block (B + 1) (by have := HSZ.out; omega) (fun h => h)).trans HTB.out
          have c0 := cell_of_row _ _ 0 _ _ _ hb8
          have c1 := cell_of_row _ _ 1 _ _ _ hb8
          have c2 := cell_of_row _ _ 2 _ _ _ hb8
          simp at c0 c1 c2
          have HO8 := Lib.hid (own_tk w8 ⟨1, [], [txtP [120]]⟩ _ n4 (HP4.out.keep HA8.out (fun _ _ _ h => h)) #[.int .i64 1, .string ⟨#[]⟩, .slice (some ⟨B, 0, none⟩) 1 1] rfl)
          obtain ⟨m2, hm2⟩ := HO8.out.reads (fun _ _ => trivial)
          have hsm2 := sametokens_any _ m2 _ _ _ _ _ _ _ (H4.out.keep (HK5.out.trans (HK58.out.alloc _) (fun _ _ h => h)) (fun _ _ _ h => h)) hm2
          have HM2 := Lib.hid hsm2
          clear hsm2 hm2 hb8
          go_wp2_with fail
          refine (num_any 0 _).mono ?_
          rintro e w9 ⟨rfl, hw9⟩
          rw [hw9]
          clear hw9
          go_wp2_with fail
          refine HM2.out.mono ?_
          rintro e wa ⟨r, rfl, hr, hka⟩
          obtain rfl : r = true := hr.2 (by first | rfl | trivial)
          have HK5a := Lib.hid ((HK58.out.alloc _).trans hka (fun _ _ h => h))
          clear hr hka c0 c1 c2
          go_wp2_with fail
          refine (num_any 0 _).mono ?_
          rintro e wb ⟨rfl, hwb⟩
          rw [hwb]
          clear hwb
          have d2 := (World.cell?_of_block (a := ⟨g, o + 2, none⟩) (HK5a.out.block g HQ.out.2.2.1 (fun h => h))).trans HQ.out.1
          have d1 := (World.cell?_of_block (a := ⟨g2, o2 + 1, none⟩) (HK5a.out.block g2 HQ.out.2.2.2 (fun h => h))).trans HQ.out.2.1
          go_wp2_with fail
          go_ret
          exact ⟨rfl, (HKW.out.trans HK5a.out (fun _ _ h => h)).below0 (fun _ h => h.elim)⟩
        · obtain ⟨hyn2, ad, xs, news, rfl, hown, hnl, hnc, hn1, hF⟩ := HOW.out.join (HU.out.bound.keep (HK25.out.trans (HKA.out.alloc _) (fun _ _ h => h)) (fun _ _ _ h => h) (fun _ _ h => h)) (by rw [← HYN.out]; exact hy0) (fun b hb e => by
            obtain rfl : B + 2 = b := Option.some.inj e
            have := hb.2; have := HK25.out.size; rw [← HBE.out] at this; omega)
          rw [← HYN.out] at hnl hF
          have HF := Lib.hid hF
          have hb2 := HYB.out
          clear hF hyn2
          go_wp2_with (at_builtin; refine wpList_append_g (by rfl) (.tmp 81) (.tmp 82) _ rfl 0 34 i0 _ 3 48 Try.underlying23 hi0 hz0 hz1 hz2 rfl (by omega) (.slice (some ⟨B + 2, 0, none⟩) 1 1) 1 xs rfl hown ad yn yc news rfl hnl hnc hn1 hy0 (by unfold maxLen; omega) (by omega) (by simp) (B + 3) (by simp [hsz]) ?_; intro gg cap W7 hown6 hgrow6 hat6 hlt6; have HJ := Lib.hid (HF.out gg cap W7 hown6 hgrow6 (by simpa [hsz] using hat6)))
          obtain ⟨⟨m1, hm1⟩, hkj⟩ := HJ.out
          have HA7 := Lib.hid (show Keeps (fun _ => False) WA W7 from ((Keeps.refl (fun _ => False) WA).alloc _).trans hkj (fun b hb e => by
            obtain rfl : B + 2 = b := Option.some.inj e
            omega))
          have hsm := sametokens_any _ m1 _ _ _ _ _ _ W7 (H3.out.keep (HK35.out.trans (HKA.out.trans HA7.out (fun _ _ h => h)) (fun _ _ h => h)) (fun _ _ _ h => h)) hm1
          have HM := Lib.hid hsm
          clear hsm hm1 hkj hsz hown hnc hnl hn1
          refine HM.out.mono ?_
          rintro e w8 ⟨r, rfl, hr, hk8⟩
          obtain rfl : r = true := hr.2 (by first | rfl | trivial)
          have HA8 := Lib.hid (HA7.out.trans hk8 (fun _ _ h => h))
          have HK58 := Lib.hid (HKA.out.trans HA8.out (fun _ _ h => h))
          clear hr hk8
          have hb8 := (HA8.out.block (B + 1) (by have := HSZ.out; omega) (fun h => h)).trans HTB.out
          have c0 := cell_of_row _ _ 0 _ _ _ hb8
          have c1 := cell_of_row _ _ 1 _ _ _ hb8
          have c2 := cell_of_row _ _ 2 _ _ _ hb8
          simp at c0 c1 c2
          have HO8 := Lib.hid (own_tk w8 ⟨1, [], [txtP [120]]⟩ _ n4 (HP4.out.keep HA8.out (fun _ _ _ h => h)) #[.int .i64 1, .string ⟨#[]⟩, .slice (some ⟨B, 0, none⟩) 1 1] rfl)
          obtain ⟨m2, hm2⟩ := HO8.out.reads (fun _ _ => trivial)
          have hsm2 := sametokens_any _ m2 _ _ _ _ _ _ _ (H4.out.keep (HK5.out.trans (HK58.out.alloc _) (fun _ _ h => h)) (fun _ _ _ h => h)) hm2
          have HM2 := Lib.hid hsm2
          clear hsm2 hm2 hb8
          go_wp2_with fail
          refine (num_any 0 _).mono ?_
          rintro e w9 ⟨rfl, hw9⟩
          rw [hw9]
          clear hw9
          go_wp2_with fail
          refine HM2.out.mono ?_
          rintro e wa ⟨r, rfl, hr, hka⟩
          obtain rfl : r = true := hr.2 (by first | rfl | trivial)
          have HK5a := Lib.hid ((HK58.out.alloc _).trans hka (fun _ _ h => h))
          clear hr hka c0 c1 c2
          go_wp2_with fail
          refine (num_any 0 _).mono ?_
          rintro e wb ⟨rfl, hwb⟩
          rw [hwb]
          clear hwb
          have d2 := (World.cell?_of_block (a := ⟨g, o + 2, none⟩) (HK5a.out.block g HQ.out.2.2.1 (fun h => h))).trans HQ.out.1
          have d1 := (World.cell?_of_block (a := ⟨g2, o2 + 1, none⟩) (HK5a.out.block g2 HQ.out.2.2.2 (fun h => h))).trans HQ.out.2.1
          go_wp2_with fail
          go_ret
          exact ⟨rfl, (HKW.out.trans HK5a.out (fun _ _ h => h)).below0 (fun _ h => h.elim)⟩
end Go.Proofs.Ytnndnldpbdhkgaa
