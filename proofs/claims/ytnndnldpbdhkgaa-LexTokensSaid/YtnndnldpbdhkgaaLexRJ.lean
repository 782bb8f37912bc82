/-
  The document's own reader: what stands at a dollar sign.
-/
import Derived.Test.YtnndnldpbdhkgaaLexRI
namespace Go.Proofs.Ytnndnldpbdhkgaa
open Go.RowKit
set_option linter.unusedVariables false

theorem RPost.from {w w1 w' : World} {B cs bd : Nat} {s : ByteArray} {raw : List Pt} {res : Res} {e : Ending} (h : RPost w1 B cs s bd raw res e w') (hk : Keeps (fun b => b = cs) w w1) : ∃ (a : Option Addr) (n c : Nat), e = .returned (.slice a n c) ∧ RPost w B cs s bd raw res (.returned (.slice a n c)) w' := by
  cases res with
  | error x =>
    obtain ⟨h0, v, i, raw', he, h1, h2, h3, h4, h5⟩ := h
    obtain ⟨a, c, rfl, _, _⟩ := h3.shape
    exact ⟨a, _, c, he, h0, _, i, raw', rfl, h1, h2, h3, h4, (hk.mono fun _ _ e => .inl e).trans h5 fun _ _ e => e⟩
  | ok lr =>
    obtain ⟨l, r⟩ := lr
    obtain ⟨v, i, he, h1, h2, h3, h4, h5, h6⟩ := h
    obtain ⟨a, c, rfl, _, _⟩ := h4.shape
    exact ⟨a, _, c, he, _, i, rfl, h1, h2, h3, h4, h5, (hk.mono fun _ _ e => .inl e).trans h6 fun _ _ e => e⟩
set_option maxRecDepth 100000 in
set_option maxHeartbeats 8000000 in
theorem rdollar_any (N : Nat) (IH : BraceOK N) : DolOK N := by
  intro B cs s I d q v raw w h hI hs hd hr hcB hB hl hN
  obtain ⟨res, hres⟩ : ∃ res, res = lexC (.dol q) d (rest s (I + 1)) := ⟨_, rfl⟩
  rw [← hres]
  rw [lexC_dol, rest_tail] at hres
  obtain ⟨va, vc, rfl, _, _⟩ := hr.shape
  obtain ⟨R0, hR0⟩ : ∃ R0, R0 = raw.length := ⟨_, rfl⟩
  have hlw := wtF_len raw
  rw [← hR0] at hr hlw ⊢
  obtain ⟨i0, hi0, hz0, hz1, hz2⟩ := info_parts info_part
  have hc6 := cells_part
  have lcs := h.lt
  obtain ⟨c0, c1, c2, f1, f2⟩ := h.cells
  obtain ⟨w1, hw1, hs1, hk1⟩ := scan_moved0 h ((I : Int) + 1)
  have HW1 := Lib.hid hw1
  have HS1 := Lib.hid (show ScanAt w1 cs s ((I + 1 : Nat) : Int) ((0 : Nat) : Int) from hs1)
  have HK1 := Lib.hid hk1
  have HROW := Lib.hid hr
  have HR0 := Lib.hid hR0
  have HRES := Lib.hid hres
  obtain ⟨c, hc⟩ : ∃ c, c = byteAt s (I + 1) := ⟨_, rfl⟩
  have HC := Lib.hid hc.symm
  obtain ⟨K, hK⟩ : ∃ K, K = runF (rest s (I + 1)) := ⟨_, rfl⟩
  have HRUN := Lib.hid hK.symm
  have hKl : K ≤ s.size - (I + 1) := by rw [hK, ← rest_len]; exact runF_le _
  have HHD := Lib.hid (show ∀ k : UInt8, k ≠ 0 → headIs k (rest s (I + 1)) = (c == k) from fun k hk => by
    rw [hc]
    rcases Nat.lt_or_ge (I + 1) s.size with h | h
    · rw [rest_cons h]; rfl
    · rw [rest_nil h]
      unfold byteAt
      rw [List.getD_eq_getElem?_getD, List.getElem?_eq_none (by rw [← Lib.size_eq]; omega)]
      exact (beq_eq_false_iff_ne.2 (fun e => hk e.symm)).symm)
  have HNAME := Lib.hid (show nameF false (rest s (I + 1)) = if K > 0 then K else if digitB c then 1 else if specialB c then 1 else 0 by
    unfold nameF
    rw [← hK]
    split
    · rfl
    · rcases Nat.lt_or_ge (I + 1) s.size with h | h
      · rw [rest_cons h, ← hc]
        rfl
      · rw [rest_nil h]
        have h0 : c = 0 := by
          rw [hc]; unfold byteAt
          rw [List.getD_eq_getElem?_getD, List.getElem?_eq_none (by rw [← Lib.size_eq]; omega)]; rfl
        rw [h0]; rfl)
  have HRUNC := Lib.hid (show 0 < K → letterB c = true from fun hpos => by
    rw [hc]
    rcases Nat.lt_or_ge (I + 1) s.size with h | h
    · rw [hK, rest_cons h, runF_cons] at hpos
      cases hl2 : letterB (byteAt s (I + 1)) with
      | true => rfl
      | false => rw [hl2] at hpos; simp at hpos
    · rw [hK, rest_nil h] at hpos; exact absurd hpos (by decide))
  have HIN := Lib.hid (show c ≠ 0 → I + 1 < s.size from fun hc0 => by
    rcases Nat.lt_or_ge (I + 1) s.size with h | h
    · exact h
    · exfalso; apply hc0
      rw [hc]; unfold byteAt
      rw [List.getD_eq_getElem?_getD, List.getElem?_eq_none (by rw [← Lib.size_eq]; omega)]; rfl)
  have HVAR0 := Lib.hid (show (letterB c || digitB c || specialB c) = true → ∀ k, k = nameF false (rest s (I + 1)) → k ≠ 0 → res = .ok ([.mk 3 [] ((rest s (I + 1)).take k) [] [] q], (rest s (I + 1)).drop k) from fun hcl k hk hk0 => by
    have hcc := all_u8 (P := fun c => !(letterB c || digitB c || specialB c) || (!(c == 123) && !(c == 40))) (by decide +kernel) c
    rw [hcl] at hcc
    simp only [Bool.not_true, Bool.false_or, Bool.and_eq_true, Bool.not_eq_true'] at hcc
    rw [HRES.out, HHD.out 123 (by decide), hcc.1, if_neg (by simp), if_neg, HHD.out 40 (by decide), hcc.2, if_neg (by simp), ← hk, if_neg hk0]
    intro h2
    have h3 : headIs 40 (rest s (I + 1)) = true := by
      cases hr2 : rest s (I + 1) with
      | nil => rw [hr2] at h2; cases h2
      | cons a b =>
        rw [hr2] at h2
        unfold startsF at h2
        simp only [Bool.and_eq_true, beq_iff_eq] at h2
        rw [← h2.1]; rfl
    rw [HHD.out 40 (by decide), hcc.2] at h3
    cases h3)
  clear h hr hres hR0 hw1 hs1 hk1 hc hK
  by_cases hpos : 0 < K
  · have HVAR := Lib.hid (HVAR0.out (by rw [HRUNC.out hpos]; rfl) K (by rw [HNAME.out, if_pos hpos]) (by omega))
    have p1 : (0 : Int) < (K : Int) := by omega
    have p2 : (I : Int) + 1 + (K : Int) ≤ (s.size : Int) := by omega
    have p3 : (I : Int) + 1 ≤ (I : Int) + 1 + (K : Int) := by omega
    have p4 : ((I : Int) + 1 + (K : Int)).toNat = I + 1 + K := by omega
    have p5 : ((I : Int) + 1).toNat = I + 1 := by omega
    go_enter Try.func51, Try.ntmps51
    go_wp2_with fail
    rw [← HW1.out]
    refine (see0_any cs s (I + 1) _ _ HS1.out (by omega) (by omega)).mono ?_
    rintro e w2 ⟨rfl, q2, rfl⟩
    rw [HC.out]
    obtain ⟨W2, hW2⟩ : ∃ W2, W2 = w1.drewN q2 := ⟨_, rfl⟩
    rw [← hW2]
    have hs2 : ScanAt W2 cs s ((I + 1 : Nat) : Int) ((0 : Nat) : Int) := by rw [hW2]; exact HS1.out.drewN _
    have HK2 := Lib.hid (show Keeps (fun b => b = cs) w W2 by rw [hW2]; exact HK1.out.drewN _)
    obtain ⟨d0, d1, d2, g1, g2⟩ := hs2.cells
    clear hW2
    go_wp2_with fail
    go_quiet ((go_at_call 59; exact Calls.quiet_of_same ((nameLen_any s (I + 1) _ (by omega) (by omega)).mono (fun e w' hh => ⟨by rw [hh.1, HRUN.out], hh.2.symm⟩))))
    obtain ⟨W3, hW3⟩ : ∃ W3, W3 = W2.drewN nq := ⟨_, rfl⟩
    rw [← hW3]
    have hs3 : ScanAt W3 cs s ((I + 1 : Nat) : Int) ((0 : Nat) : Int) := by rw [hW3]; exact hs2.drewN _
    have HK3 := Lib.hid (show Keeps (fun b => b = cs) w W3 by rw [hW3]; exact HK2.out.drewN _)
    clear hW3 d0 d1 d2 g1 g2 hs2
    have HOK := Lib.hid (show res = .ok ([.mk 3 [] ((rest s (I + 1)).take K) [] [] q], rest s (I + 1 + K)) by rw [HVAR.out, rest_drop])
    obtain ⟨c0, c1, c2, f1, f2⟩ := hs3.cells
    go_wp2_with fail
    go_quiet (fail)
    obtain ⟨W4, hW4⟩ : ∃ W4, W4 = W3.drewN nq := ⟨_, rfl⟩
    rw [← hW4]
    have hs4 : ScanAt W4 cs s ((I + 1 : Nat) : Int) ((0 : Nat) : Int) := by rw [hW4]; exact hs3.drewN _
    have HK4 := Lib.hid (show Keeps (fun b => b = cs) w W4 by rw [hW4]; exact HK3.out.drewN _)
    clear hW4 c0 c1 c2 f1 f2
    obtain ⟨c0, c1, c2, f1, f2⟩ := hs4.cells
    have ltW := hs4.lt
    obtain ⟨hs5, hk5⟩ := rmoved hs4 (j := (I : Int) + 1 + (K : Int)) (J := I + 1 + K) (by omega)
    have HK5 := Lib.hid (HK4.out.trans hk5 (fun _ _ e => e))
    have hB5 : B ≤ (W4.setCell ⟨cs, 1, none⟩ (.int .i64 ((I : Int) + 1 + (K : Int)))).heap.size := Nat.le_trans hB HK5.out.size
    have hR5 := HROW.out.keep HK5.out (fun _ _ e => by omega)
    obtain ⟨xs, hown, hF⟩ := hR5.more0 hB5 (Keeps.refl _ _) (x := .mk 3 [] ((rest s (I + 1)).take K) [] [] q) rfl
    have e1 : strV ((rest s (I + 1)).take K) = .string (s.extract (I + 1) (I + 1 + K)) := strV_of (by rw [Lib.extract_data]; unfold rest; rw [show I + 1 + K - (I + 1) = K by omega])
    simp only [cellsP, Pt.kind, Pt.text, Pt.name, Pt.op, Pt.quoted, e1] at hF
    have HF := Lib.hid hF
    have HS5 := Lib.hid hs5
    rw [← HR0.out] at hown HF
    have hz5 : (W4.setCell ⟨cs, 1, none⟩ (.int .i64 ((I : Int) + 1 + (K : Int)))).heap.size = W4.heap.size := by simp [World.setCell]
    have hb2 := heap_alloc_new (W4.setCell ⟨cs, 1, none⟩ (.int .i64 ((I : Int) + 1 + (K : Int)))) (.cells #[.int .i64 3, .string ⟨#[]⟩, .string (s.extract (I + 1) (I + 1 + K)), .string ⟨#[]⟩, .slice none 0 0, .bool q] 39)
    rw [hz5] at hb2
    have HB2 := Lib.hid hb2
    clear hs5 hk5 hR5 hF e1 hb2 hz5
    go_wp2_with (at_builtin; refine wpList_append_lies _ rfl (.tmp 131) (.tmp 135) _ rfl 0 39 i0 _ 6 88 Try.underlying32 hi0 hz0 hz1 hz2 rfl (by omega) (.slice va R0 vc) R0 xs rfl (hown.alloc _) ⟨W4.heap.size, 0, none⟩ 1 1 [.int .i64 3, .string ⟨#[]⟩, .string (s.extract (I + 1) (I + 1 + K)), .string ⟨#[]⟩, .slice none 0 0, .bool q] rfl rfl (World.news_of_block (cs := #[.int .i64 3, .string ⟨#[]⟩, .string (s.extract (I + 1) (I + 1 + K)), .string ⟨#[]⟩, .slice none 0 0, .bool q]) (t := 39) (fr := (0, 0)) HB2.out) (by simp [Value.oneCell']) (by omega) (by unfold maxLen; omega) (by omega) (by simp) (W4.heap.size + 1) (by simp [World.setCell]) ?_; intro gg cap w5 hown2 hgrow hat hlt2)
    go_ret
    obtain ⟨hrow, hkeep⟩ := HF.out gg cap w5 _ hown2 hgrow (by simpa [World.setCell] using hat)
    rw [HOK.out]
    exact ⟨_, I + 1 + K, rfl, by omega, rfl, HS5.out.keep hkeep (fun e => by omega), hrow, by rw [wtF_append]; simp only [wtF, Pt.text, List.length_nil]; omega, (HK5.out.mono fun _ _ e => .inl e).trans hkeep (fun _ _ e => .inr e)⟩
  have hK0 : K = 0 := by omega
  subst hK0
  clear hpos
  by_cases hsp : (digitB c || specialB c) = true
  · have HVAR := Lib.hid (HVAR0.out (by rw [Bool.or_assoc, hsp, Bool.or_true]) 1 (by
      rw [HNAME.out, if_neg (by omega)]
      cases hd2 : digitB c with
      | true => rfl
      | false =>
        rw [hd2] at hsp
        rw [show specialB c = true by simpa using hsp]; rfl) (by omega))
    have hin := HIN.out (by rintro rfl; exact absurd hsp (by decide))
    have p2 : (I : Int) + 1 + 1 ≤ (s.size : Int) := by omega
    have p4 : ((I : Int) + 1 + 1).toNat = I + 1 + 1 := by omega
    have p5 : ((I : Int) + 1).toNat = I + 1 := by omega
    cases hdg : digitB c with
    | true =>
      have HD := Lib.hid hdg
      clear hdg hsp
      go_enter Try.func51, Try.ntmps51
      go_wp2_with fail
      rw [← HW1.out]
      refine (see0_any cs s (I + 1) _ _ HS1.out (by omega) (by omega)).mono ?_
      rintro e w2 ⟨rfl, q2, rfl⟩
      rw [HC.out]
      obtain ⟨W2, hW2⟩ : ∃ W2, W2 = w1.drewN q2 := ⟨_, rfl⟩
      rw [← hW2]
      have hs2 : ScanAt W2 cs s ((I + 1 : Nat) : Int) ((0 : Nat) : Int) := by rw [hW2]; exact HS1.out.drewN _
      have HK2 := Lib.hid (show Keeps (fun b => b = cs) w W2 by rw [hW2]; exact HK1.out.drewN _)
      obtain ⟨d0, d1, d2, g1, g2⟩ := hs2.cells
      clear hW2
      go_wp2_with fail
      go_quiet ((go_at_call 59; exact Calls.quiet_of_same ((nameLen_any s (I + 1) _ (by omega) (by omega)).mono (fun e w' hh => ⟨by rw [hh.1, HRUN.out], hh.2.symm⟩))))
      obtain ⟨W3, hW3⟩ : ∃ W3, W3 = W2.drewN nq := ⟨_, rfl⟩
      rw [← hW3]
      have hs3 : ScanAt W3 cs s ((I + 1 : Nat) : Int) ((0 : Nat) : Int) := by rw [hW3]; exact hs2.drewN _
      have HK3 := Lib.hid (show Keeps (fun b => b = cs) w W3 by rw [hW3]; exact HK2.out.drewN _)
      clear hW3 d0 d1 d2 g1 g2 hs2
      go_wp2_with fail
      refine (rdigit_any' c _).mono ?_
      rintro e w4 ⟨rfl, hw4⟩
      rw [HD.out, hw4]
      clear hw4
      have HOK := Lib.hid (show res = .ok ([.mk 3 [] ((rest s (I + 1)).take 1) [] [] q], rest s (I + 1 + 1)) by rw [HVAR.out, rest_drop])
      obtain ⟨c0, c1, c2, f1, f2⟩ := hs3.cells
      go_wp2_with fail
      go_quiet (fail)
      obtain ⟨W4, hW4⟩ : ∃ W4, W4 = W3.drewN nq := ⟨_, rfl⟩
      rw [← hW4]
      have hs4 : ScanAt W4 cs s ((I + 1 : Nat) : Int) ((0 : Nat) : Int) := by rw [hW4]; exact hs3.drewN _
      have HK4 := Lib.hid (show Keeps (fun b => b = cs) w W4 by rw [hW4]; exact HK3.out.drewN _)
      clear hW4 c0 c1 c2 f1 f2
      obtain ⟨c0, c1, c2, f1, f2⟩ := hs4.cells
      have ltW := hs4.lt
      obtain ⟨hs5, hk5⟩ := rmoved hs4 (j := (I : Int) + 1 + 1) (J := I + 1 + 1) (by omega)
      have HK5 := Lib.hid (HK4.out.trans hk5 (fun _ _ e => e))
      have hB5 : B ≤ (W4.setCell ⟨cs, 1, none⟩ (.int .i64 ((I : Int) + 1 + 1))).heap.size := Nat.le_trans hB HK5.out.size
      have hR5 := HROW.out.keep HK5.out (fun _ _ e => by omega)
      obtain ⟨xs, hown, hF⟩ := hR5.more0 hB5 (Keeps.refl _ _) (x := .mk 3 [] ((rest s (I + 1)).take 1) [] [] q) rfl
      have e1 : strV ((rest s (I + 1)).take 1) = .string (s.extract (I + 1) (I + 1 + 1)) := strV_of (by rw [Lib.extract_data]; unfold rest; rw [show I + 1 + 1 - (I + 1) = 1 by omega])
      simp only [cellsP, Pt.kind, Pt.text, Pt.name, Pt.op, Pt.quoted, e1] at hF
      have HF := Lib.hid hF
      have HS5 := Lib.hid hs5
      rw [← HR0.out] at hown HF
      have hz5 : (W4.setCell ⟨cs, 1, none⟩ (.int .i64 ((I : Int) + 1 + 1))).heap.size = W4.heap.size := by simp [World.setCell]
      have hb2 := heap_alloc_new (W4.setCell ⟨cs, 1, none⟩ (.int .i64 ((I : Int) + 1 + 1))) (.cells #[.int .i64 3, .string ⟨#[]⟩, .string (s.extract (I + 1) (I + 1 + 1)), .string ⟨#[]⟩, .slice none 0 0, .bool q] 39)
      rw [hz5] at hb2
      have HB2 := Lib.hid hb2
      clear hs5 hk5 hR5 hF e1 hb2 hz5
      go_wp2_with (at_builtin; refine wpList_append_lies _ rfl (.tmp 131) (.tmp 135) _ rfl 0 39 i0 _ 6 88 Try.underlying32 hi0 hz0 hz1 hz2 rfl (by omega) (.slice va R0 vc) R0 xs rfl (hown.alloc _) ⟨W4.heap.size, 0, none⟩ 1 1 [.int .i64 3, .string ⟨#[]⟩, .string (s.extract (I + 1) (I + 1 + 1)), .string ⟨#[]⟩, .slice none 0 0, .bool q] rfl rfl (World.news_of_block (cs := #[.int .i64 3, .string ⟨#[]⟩, .string (s.extract (I + 1) (I + 1 + 1)), .string ⟨#[]⟩, .slice none 0 0, .bool q]) (t := 39) (fr := (0, 0)) HB2.out) (by simp [Value.oneCell']) (by omega) (by unfold maxLen; omega) (by omega) (by simp) (W4.heap.size + 1) (by simp [World.setCell]) ?_; intro gg cap w5 hown2 hgrow hat hlt2)
      go_ret
      obtain ⟨hrow, hkeep⟩ := HF.out gg cap w5 _ hown2 hgrow (by simpa [World.setCell] using hat)
      rw [HOK.out]
      exact ⟨_, I + 1 + 1, rfl, by omega, rfl, HS5.out.keep hkeep (fun e => by omega), hrow, by rw [wtF_append]; simp only [wtF, Pt.text, List.length_nil]; omega, (HK5.out.mono fun _ _ e => .inl e).trans hkeep (fun _ _ e => .inr e)⟩
    | false =>
      have hsp2 : specialB c = true := by rw [hdg] at hsp; simpa using hsp
      have hcs : ((c.toNat : Int) == 63) = true ∨ (((c.toNat : Int) == 63) = false ∧ ((c.toNat : Int) == 35) = true) ∨ (((c.toNat : Int) == 63) = false ∧ ((c.toNat : Int) == 35) = false ∧ ((c.toNat : Int) == 64) = true) ∨ (((c.toNat : Int) == 63) = false ∧ ((c.toNat : Int) == 35) = false ∧ ((c.toNat : Int) == 64) = false ∧ ((c.toNat : Int) == 42) = true) := by
        simp only [specialB, Bool.or_eq_true, beq_iff_eq] at hsp2
        rcases hsp2 with ((h | h) | h) | h <;> rw [h]
        · exact .inl rfl
        · exact .inr (.inl ⟨rfl, rfl⟩)
        · exact .inr (.inr (.inl ⟨rfl, rfl, rfl⟩))
        · exact .inr (.inr (.inr ⟨rfl, rfl, rfl, rfl⟩))
      have HD := Lib.hid hdg
      clear hdg hsp hsp2
      rcases hcs with x1 | ⟨x1, x2⟩ | ⟨x1, x2, x3⟩ | ⟨x1, x2, x3, x4⟩
      all_goals
        go_enter Try.func51, Try.ntmps51
        go_wp2_with fail
        rw [← HW1.out]
        refine (see0_any cs s (I + 1) _ _ HS1.out (by omega) (by omega)).mono ?_
        rintro e w2 ⟨rfl, q2, rfl⟩
        rw [HC.out]
        obtain ⟨W2, hW2⟩ : ∃ W2, W2 = w1.drewN q2 := ⟨_, rfl⟩
        rw [← hW2]
        have hs2 : ScanAt W2 cs s ((I + 1 : Nat) : Int) ((0 : Nat) : Int) := by rw [hW2]; exact HS1.out.drewN _
        have HK2 := Lib.hid (show Keeps (fun b => b = cs) w W2 by rw [hW2]; exact HK1.out.drewN _)
        obtain ⟨d0, d1, d2, g1, g2⟩ := hs2.cells
        clear hW2
        go_wp2_with fail
        go_quiet ((go_at_call 59; exact Calls.quiet_of_same ((nameLen_any s (I + 1) _ (by omega) (by omega)).mono (fun e w' hh => ⟨by rw [hh.1, HRUN.out], hh.2.symm⟩))))
        obtain ⟨W3, hW3⟩ : ∃ W3, W3 = W2.drewN nq := ⟨_, rfl⟩
        rw [← hW3]
        have hs3 : ScanAt W3 cs s ((I + 1 : Nat) : Int) ((0 : Nat) : Int) := by rw [hW3]; exact hs2.drewN _
        have HK3 := Lib.hid (show Keeps (fun b => b = cs) w W3 by rw [hW3]; exact HK2.out.drewN _)
        clear hW3 d0 d1 d2 g1 g2 hs2
        go_wp2_with fail
        refine (rdigit_any' c _).mono ?_
        rintro e w4 ⟨rfl, hw4⟩
        rw [HD.out, hw4]
        clear hw4
        have HOK := Lib.hid (show res = .ok ([.mk 3 [] ((rest s (I + 1)).take 1) [] [] q], rest s (I + 1 + 1)) by rw [HVAR.out, rest_drop])
        obtain ⟨c0, c1, c2, f1, f2⟩ := hs3.cells
        go_wp2_with fail
        go_quiet (fail)
        obtain ⟨W4, hW4⟩ : ∃ W4, W4 = W3.drewN nq := ⟨_, rfl⟩
        rw [← hW4]
        have hs4 : ScanAt W4 cs s ((I + 1 : Nat) : Int) ((0 : Nat) : Int) := by rw [hW4]; exact hs3.drewN _
        have HK4 := Lib.hid (show Keeps (fun b => b = cs) w W4 by rw [hW4]; exact HK3.out.drewN _)
        clear hW4 c0 c1 c2 f1 f2
        obtain ⟨c0, c1, c2, f1, f2⟩ := hs4.cells
        have ltW := hs4.lt
        obtain ⟨hs5, hk5⟩ := rmoved hs4 (j := (I : Int) + 1 + 1) (J := I + 1 + 1) (by omega)
        have HK5 := Lib.hid (HK4.out.trans hk5 (fun _ _ e => e))
        have hB5 : B ≤ (W4.setCell ⟨cs, 1, none⟩ (.int .i64 ((I : Int) + 1 + 1))).heap.size := Nat.le_trans hB HK5.out.size
        have hR5 := HROW.out.keep HK5.out (fun _ _ e => by omega)
        obtain ⟨xs, hown, hF⟩ := hR5.more0 hB5 (Keeps.refl _ _) (x := .mk 3 [] ((rest s (I + 1)).take 1) [] [] q) rfl
        have e1 : strV ((rest s (I + 1)).take 1) = .string (s.extract (I + 1) (I + 1 + 1)) := strV_of (by rw [Lib.extract_data]; unfold rest; rw [show I + 1 + 1 - (I + 1) = 1 by omega])
        simp only [cellsP, Pt.kind, Pt.text, Pt.name, Pt.op, Pt.quoted, e1] at hF
        have HF := Lib.hid hF
        have HS5 := Lib.hid hs5
        rw [← HR0.out] at hown HF
        have hz5 : (W4.setCell ⟨cs, 1, none⟩ (.int .i64 ((I : Int) + 1 + 1))).heap.size = W4.heap.size := by simp [World.setCell]
        have hb2 := heap_alloc_new (W4.setCell ⟨cs, 1, none⟩ (.int .i64 ((I : Int) + 1 + 1))) (.cells #[.int .i64 3, .string ⟨#[]⟩, .string (s.extract (I + 1) (I + 1 + 1)), .string ⟨#[]⟩, .slice none 0 0, .bool q] 39)
        rw [hz5] at hb2
        have HB2 := Lib.hid hb2
        clear hs5 hk5 hR5 hF e1 hb2 hz5
        go_wp2_with (at_builtin; refine wpList_append_lies _ rfl (.tmp 131) (.tmp 135) _ rfl 0 39 i0 _ 6 88 Try.underlying32 hi0 hz0 hz1 hz2 rfl (by omega) (.slice va R0 vc) R0 xs rfl (hown.alloc _) ⟨W4.heap.size, 0, none⟩ 1 1 [.int .i64 3, .string ⟨#[]⟩, .string (s.extract (I + 1) (I + 1 + 1)), .string ⟨#[]⟩, .slice none 0 0, .bool q] rfl rfl (World.news_of_block (cs := #[.int .i64 3, .string ⟨#[]⟩, .string (s.extract (I + 1) (I + 1 + 1)), .string ⟨#[]⟩, .slice none 0 0, .bool q]) (t := 39) (fr := (0, 0)) HB2.out) (by simp [Value.oneCell']) (by omega) (by unfold maxLen; omega) (by omega) (by simp) (W4.heap.size + 1) (by simp [World.setCell]) ?_; intro gg cap w5 hown2 hgrow hat hlt2)
        go_ret
        obtain ⟨hrow, hkeep⟩ := HF.out gg cap w5 _ hown2 hgrow (by simpa [World.setCell] using hat)
        rw [HOK.out]
        exact ⟨_, I + 1 + 1, rfl, by omega, rfl, HS5.out.keep hkeep (fun e => by omega), hrow, by rw [wtF_append]; simp only [wtF, Pt.text, List.length_nil]; omega, (HK5.out.mono fun _ _ e => .inl e).trans hkeep (fun _ _ e => .inr e)⟩
  · have hdg : digitB c = false := by cases h : digitB c with | false => rfl | true => rw [h] at hsp; simp at hsp
    have hsp2 : specialB c = false := by cases h : specialB c with | false => rfl | true => rw [h] at hsp; simp at hsp
    obtain ⟨x1, x2, x3, x4⟩ := special_no hsp2
    have HD := Lib.hid hdg
    have HN0 := Lib.hid (show nameF false (rest s (I + 1)) = 0 by rw [HNAME.out, if_neg (by omega), hdg, hsp2]; rfl)
    clear hsp hdg hsp2
    by_cases t123 : c = 123
    · have f123 : ((c.toNat : Int) == 123) = true := test_yes (c := c) (k := 123) t123
      have hin := HIN.out (by rw [t123]; decide)
      have HRB := Lib.hid (show res = lexC (.brace q) d (rest s (I + 2)) by rw [HRES.out, HHD.out 123 (by decide), t123]; rfl)
      clear t123
      go_enter Try.func51, Try.ntmps51
      go_wp2_with fail
      rw [← HW1.out]
      refine (see0_any cs s (I + 1) _ _ HS1.out (by omega) (by omega)).mono ?_
      rintro e w2 ⟨rfl, q2, rfl⟩
      rw [HC.out]
      obtain ⟨W2, hW2⟩ : ∃ W2, W2 = w1.drewN q2 := ⟨_, rfl⟩
      rw [← hW2]
      have hs2 : ScanAt W2 cs s ((I + 1 : Nat) : Int) ((0 : Nat) : Int) := by rw [hW2]; exact HS1.out.drewN _
      have HK2 := Lib.hid (show Keeps (fun b => b = cs) w W2 by rw [hW2]; exact HK1.out.drewN _)
      obtain ⟨d0, d1, d2, g1, g2⟩ := hs2.cells
      clear hW2
      go_wp2_with fail
      go_quiet ((go_at_call 59; exact Calls.quiet_of_same ((nameLen_any s (I + 1) _ (by omega) (by omega)).mono (fun e w' hh => ⟨by rw [hh.1, HRUN.out], hh.2.symm⟩))))
      obtain ⟨W3, hW3⟩ : ∃ W3, W3 = W2.drewN nq := ⟨_, rfl⟩
      rw [← hW3]
      have hs3 : ScanAt W3 cs s ((I + 1 : Nat) : Int) ((0 : Nat) : Int) := by rw [hW3]; exact hs2.drewN _
      have HK3 := Lib.hid (show Keeps (fun b => b = cs) w W3 by rw [hW3]; exact HK2.out.drewN _)
      clear hW3 d0 d1 d2 g1 g2 hs2
      go_wp2_with fail
      refine (rdigit_any' c _).mono ?_
      rintro e w4 ⟨rfl, hw4⟩
      rw [HD.out, hw4]
      clear hw4
      obtain ⟨d0, d1, d2, g1, g2⟩ := hs3.cells
      obtain ⟨w5, hw5, hs5, hk5⟩ := scan_moved0 hs3 ((I : Int) + 1 + 1)
      have HK5 := Lib.hid (HK3.out.trans hk5 (fun _ _ e => e))
      have hcall := IH B cs s (I + 2) d q (.slice va R0 vc) raw w5 (by have h := hs5; rwa [show (I : Int) + 1 + 1 = ((I + 2 : Nat) : Int) by omega] at h) (by omega) hs hd (HROW.out.keep HK5.out (fun _ _ e => by omega)) hcB (Nat.le_trans hB HK5.out.size) (by omega) (by omega)
      have HCALL := Lib.hid hcall
      have HW5 := Lib.hid hw5
      clear hcall hw5 hs5 hk5
      go_wp2_with fail
      rw [← HW5.out]
      refine HCALL.out.mono ?_
      intro e w6 hp
      rw [← HRB.out] at hp
      obtain ⟨a, n, cc, rfl, hp2⟩ := hp.from HK5.out
      have HP := Lib.hid hp2
      clear hp hp2
      go_wp2_with fail
      go_ret
      exact HP.out
    have f123 : ((c.toNat : Int) == 123) = false := test_no (c := c) (k := 123) t123
    have G123 := Lib.hid (show headIs 123 (rest s (I + 1)) = false by rw [HHD.out 123 (by decide)]; exact beq_eq_false_iff_ne.2 t123)
    clear t123
    by_cases t40 : c = 40
    · have f40 : ((c.toNat : Int) == 40) = true := test_yes (c := c) (k := 40) t40
      have hin := HIN.out (by rw [t40]; decide)
      obtain ⟨x, hx⟩ : ∃ x, x = byteAt s (I + 1 + 1) := ⟨_, rfl⟩
      have HX := Lib.hid hx.symm
      have HST := Lib.hid (show startsF [40, 40] (rest s (I + 1)) = (x == 40) by
        rw [rest_cons hin, HC.out, t40, hx]
        rcases Nat.lt_or_ge (I + 1 + 1) s.size with h | h
        · rw [rest_cons h]
          show ((40 : UInt8) == 40 && ((40 : UInt8) == byteAt s (I + 1 + 1) && true)) = (byteAt s (I + 1 + 1) == 40)
          rw [Bool.eq_iff_iff]
          simp only [beq_self_eq_true, Bool.true_and, Bool.and_true, beq_iff_eq]
          exact ⟨Eq.symm, Eq.symm⟩
        · rw [rest_nil h]
          unfold byteAt
          rw [List.getD_eq_getElem?_getD, List.getElem?_eq_none (by rw [← Lib.size_eq]; omega)]; rfl)
      have HH40 := Lib.hid (show headIs 40 (rest s (I + 1)) = true by rw [HHD.out 40 (by decide), t40]; rfl)
      clear t40 hx
      by_cases tx : x = 40
      · have fx : ((x.toNat : Int) == 40) = true := test_yes (c := x) (k := 40) tx
        have hin2 : I + 3 ≤ s.size := by
          rcases Nat.lt_or_ge (I + 1 + 1) s.size with h | h
          · omega
          · exfalso
            have h0 : x = 0 := by
              rw [← HX.out]; unfold byteAt
              rw [List.getD_eq_getElem?_getD, List.getElem?_eq_none (by rw [← Lib.size_eq]; omega)]; rfl
            rw [h0] at tx; exact absurd tx (by decide)
        have HRB := Lib.hid (show res = calcRes q (rest s (I + 3)) by
          rw [HRES.out, G123.out, if_neg (by simp), HST.out, tx, if_pos (by rfl), rest_drop]
          rfl)
        clear tx
        go_enter Try.func51, Try.ntmps51
        go_wp2_with fail
        rw [← HW1.out]
        refine (see0_any cs s (I + 1) _ _ HS1.out (by omega) (by omega)).mono ?_
        rintro e w2 ⟨rfl, q2, rfl⟩
        rw [HC.out]
        obtain ⟨W2, hW2⟩ : ∃ W2, W2 = w1.drewN q2 := ⟨_, rfl⟩
        rw [← hW2]
        have hs2 : ScanAt W2 cs s ((I + 1 : Nat) : Int) ((0 : Nat) : Int) := by rw [hW2]; exact HS1.out.drewN _
        have HK2 := Lib.hid (show Keeps (fun b => b = cs) w W2 by rw [hW2]; exact HK1.out.drewN _)
        obtain ⟨d0, d1, d2, g1, g2⟩ := hs2.cells
        clear hW2
        go_wp2_with fail
        go_quiet ((go_at_call 59; exact Calls.quiet_of_same ((nameLen_any s (I + 1) _ (by omega) (by omega)).mono (fun e w' hh => ⟨by rw [hh.1, HRUN.out], hh.2.symm⟩))))
        obtain ⟨W3, hW3⟩ : ∃ W3, W3 = W2.drewN nq := ⟨_, rfl⟩
        rw [← hW3]
        have hs3 : ScanAt W3 cs s ((I + 1 : Nat) : Int) ((0 : Nat) : Int) := by rw [hW3]; exact hs2.drewN _
        have HK3 := Lib.hid (show Keeps (fun b => b = cs) w W3 by rw [hW3]; exact HK2.out.drewN _)
        clear hW3 d0 d1 d2 g1 g2 hs2
        go_wp2_with fail
        refine (rdigit_any' c _).mono ?_
        rintro e w4 ⟨rfl, hw4⟩
        rw [HD.out, hw4]
        clear hw4
        go_wp2_with fail
        refine (see1_any cs s (I + 1) _ _ hs3 (by omega) (by omega)).mono ?_
        rintro e w4 ⟨rfl, q4, rfl⟩
        rw [HX.out]
        obtain ⟨W4, hW4⟩ : ∃ W4, W4 = W3.drewN q4 := ⟨_, rfl⟩
        rw [← hW4]
        have hs4 : ScanAt W4 cs s ((I + 1 : Nat) : Int) ((0 : Nat) : Int) := by rw [hW4]; exact hs3.drewN _
        have HK4 := Lib.hid (show Keeps (fun b => b = cs) w W4 by rw [hW4]; exact HK3.out.drewN _)
        clear hW4
        obtain ⟨d0, d1, d2, g1, g2⟩ := hs4.cells
        obtain ⟨w5, hw5, hs5, hk5⟩ := scan_moved0 hs4 ((I : Int) + 1 + 2)
        have HK5 := Lib.hid (HK4.out.trans hk5 (fun _ _ e => e))
        have hcall := rcalc_any B cs s (I + 3) q (.slice va R0 vc) raw w5 (by have h := hs5; rwa [show (I : Int) + 1 + 2 = ((I + 3 : Nat) : Int) by omega] at h) hs (by omega) (HROW.out.keep HK5.out (fun _ _ e => by omega)) hcB (Nat.le_trans hB HK5.out.size) (by omega) (100 - d)
        have HCALL := Lib.hid hcall
        have HW5 := Lib.hid hw5
        clear hcall hw5 hs5 hk5
        go_wp2_with fail
        rw [← HW5.out]
        refine HCALL.out.mono ?_
        intro e w6 hp
        rw [← HRB.out] at hp
        obtain ⟨a, n, cc, rfl, hp2⟩ := hp.from HK5.out
        have HP := Lib.hid hp2
        clear hp hp2
        go_wp2_with fail
        go_ret
        exact HP.out
      · have fx : ((x.toNat : Int) == 40) = false := test_no (c := x) (k := 40) tx
        have HRB := Lib.hid (show res = subRes q (rest s (I + 2)) by
          rw [HRES.out, G123.out, if_neg (by simp), HST.out, beq_eq_false_iff_ne.2 tx, if_neg (by simp), HH40.out, if_pos (by rfl)]
          rfl)
        clear tx
        go_enter Try.func51, Try.ntmps51
        go_wp2_with fail
        rw [← HW1.out]
        refine (see0_any cs s (I + 1) _ _ HS1.out (by omega) (by omega)).mono ?_
        rintro e w2 ⟨rfl, q2, rfl⟩
        rw [HC.out]
        obtain ⟨W2, hW2⟩ : ∃ W2, W2 = w1.drewN q2 := ⟨_, rfl⟩
        rw [← hW2]
        have hs2 : ScanAt W2 cs s ((I + 1 : Nat) : Int) ((0 : Nat) : Int) := by rw [hW2]; exact HS1.out.drewN _
        have HK2 := Lib.hid (show Keeps (fun b => b = cs) w W2 by rw [hW2]; exact HK1.out.drewN _)
        obtain ⟨d0, d1, d2, g1, g2⟩ := hs2.cells
        clear hW2
        go_wp2_with fail
        go_quiet ((go_at_call 59; exact Calls.quiet_of_same ((nameLen_any s (I + 1) _ (by omega) (by omega)).mono (fun e w' hh => ⟨by rw [hh.1, HRUN.out], hh.2.symm⟩))))
        obtain ⟨W3, hW3⟩ : ∃ W3, W3 = W2.drewN nq := ⟨_, rfl⟩
        rw [← hW3]
        have hs3 : ScanAt W3 cs s ((I + 1 : Nat) : Int) ((0 : Nat) : Int) := by rw [hW3]; exact hs2.drewN _
        have HK3 := Lib.hid (show Keeps (fun b => b = cs) w W3 by rw [hW3]; exact HK2.out.drewN _)
        clear hW3 d0 d1 d2 g1 g2 hs2
        go_wp2_with fail
        refine (rdigit_any' c _).mono ?_
        rintro e w4 ⟨rfl, hw4⟩
        rw [HD.out, hw4]
        clear hw4
        go_wp2_with fail
        refine (see1_any cs s (I + 1) _ _ hs3 (by omega) (by omega)).mono ?_
        rintro e w4 ⟨rfl, q4, rfl⟩
        rw [HX.out]
        obtain ⟨W4, hW4⟩ : ∃ W4, W4 = W3.drewN q4 := ⟨_, rfl⟩
        rw [← hW4]
        have hs4 : ScanAt W4 cs s ((I + 1 : Nat) : Int) ((0 : Nat) : Int) := by rw [hW4]; exact hs3.drewN _
        have HK4 := Lib.hid (show Keeps (fun b => b = cs) w W4 by rw [hW4]; exact HK3.out.drewN _)
        clear hW4
        obtain ⟨d0, d1, d2, g1, g2⟩ := hs4.cells
        obtain ⟨w5, hw5, hs5, hk5⟩ := scan_moved0 hs4 ((I : Int) + 1 + 1)
        have HK5 := Lib.hid (HK4.out.trans hk5 (fun _ _ e => e))
        have hcall := rsub_any B cs s (I + 2) q (.slice va R0 vc) raw w5 (by have h := hs5; rwa [show (I : Int) + 1 + 1 = ((I + 2 : Nat) : Int) by omega] at h) hs (by omega) (HROW.out.keep HK5.out (fun _ _ e => by omega)) hcB (Nat.le_trans hB HK5.out.size) (by omega) (100 - d) (by omega)
        have HCALL := Lib.hid hcall
        have HW5 := Lib.hid hw5
        clear hcall hw5 hs5 hk5
        go_wp2_with fail
        rw [← HW5.out]
        refine HCALL.out.mono ?_
        intro e w6 hp
        rw [← HRB.out] at hp
        obtain ⟨a, n, cc, rfl, hp2⟩ := hp.from HK5.out
        have HP := Lib.hid hp2
        clear hp hp2
        go_wp2_with fail
        go_ret
        exact HP.out
    · have f40 : ((c.toNat : Int) == 40) = false := test_no (c := c) (k := 40) t40
      have HRB := Lib.hid (show res = .ok ([if q then quoP [36] else txtP [36]], rest s (I + 1)) by
        have h40 : headIs 40 (rest s (I + 1)) = false := by rw [HHD.out 40 (by decide)]; exact beq_eq_false_iff_ne.2 t40
        have h44 : startsF [40, 40] (rest s (I + 1)) = false := by
          cases hr2 : rest s (I + 1) with
          | nil => rfl
          | cons a b =>
            rw [hr2] at h40
            unfold startsF
            rw [show ((40 : UInt8) == a) = false by rw [beq_eq_false_iff_ne]; have : (a == 40) = false := h40; rw [beq_eq_false_iff_ne] at this; exact fun e => this e.symm]
            rfl
        rw [HRES.out, G123.out, if_neg (by simp), h44, if_neg (by simp), h40, if_neg (by simp), HN0.out, if_pos rfl])
      clear t40
      cases q with
      | true =>
        go_enter Try.func51, Try.ntmps51
        go_wp2_with fail
        rw [← HW1.out]
        refine (see0_any cs s (I + 1) _ _ HS1.out (by omega) (by omega)).mono ?_
        rintro e w2 ⟨rfl, q2, rfl⟩
        rw [HC.out]
        obtain ⟨W2, hW2⟩ : ∃ W2, W2 = w1.drewN q2 := ⟨_, rfl⟩
        rw [← hW2]
        have hs2 : ScanAt W2 cs s ((I + 1 : Nat) : Int) ((0 : Nat) : Int) := by rw [hW2]; exact HS1.out.drewN _
        have HK2 := Lib.hid (show Keeps (fun b => b = cs) w W2 by rw [hW2]; exact HK1.out.drewN _)
        obtain ⟨d0, d1, d2, g1, g2⟩ := hs2.cells
        clear hW2
        go_wp2_with fail
        go_quiet ((go_at_call 59; exact Calls.quiet_of_same ((nameLen_any s (I + 1) _ (by omega) (by omega)).mono (fun e w' hh => ⟨by rw [hh.1, HRUN.out], hh.2.symm⟩))))
        obtain ⟨W3, hW3⟩ : ∃ W3, W3 = W2.drewN nq := ⟨_, rfl⟩
        rw [← hW3]
        have hs3 : ScanAt W3 cs s ((I + 1 : Nat) : Int) ((0 : Nat) : Int) := by rw [hW3]; exact hs2.drewN _
        have HK3 := Lib.hid (show Keeps (fun b => b = cs) w W3 by rw [hW3]; exact HK2.out.drewN _)
        clear hW3 d0 d1 d2 g1 g2 hs2
        go_wp2_with fail
        refine (rdigit_any' c _).mono ?_
        rintro e w4 ⟨rfl, hw4⟩
        rw [HD.out, hw4]
        clear hw4
        have hR3 := HROW.out.keep HK3.out (fun _ _ e => by omega)
        have hput := rput_any B 2 ⟨#[36]⟩ _ raw W3 hR3 (Nat.le_trans hB HK3.out.size) (by have := HR0.out; omega) (.inl rfl)
        have HPUT := Lib.hid hput
        clear hR3 hput
        go_wp2_with fail
        refine HPUT.out.mono ?_
        rintro e w6 ⟨v6, rfl, hrow, hkeep⟩
        obtain ⟨a6, n6, c6, rfl⟩ : ∃ a n c, v6 = .slice a n c := by obtain ⟨a, c, e, _⟩ := hrow.shape; exact ⟨a, _, c, e⟩
        have HROW6 := Lib.hid hrow
        have HKEEP := Lib.hid hkeep
        clear hrow hkeep
        go_wp2_with fail
        go_ret
        rw [HRB.out]
        exact ⟨_, I + 1, rfl, by omega, rfl, hs3.keep HKEEP.out (fun e => by omega), HROW6.out, by rw [wtF_append]; show wtF raw + (1 + 1 + 0) ≤ _; omega, (HK3.out.mono fun _ _ e => .inl e).trans HKEEP.out (fun _ _ e => .inr e)⟩
      | false =>
        go_enter Try.func51, Try.ntmps51
        go_wp2_with fail
        rw [← HW1.out]
        refine (see0_any cs s (I + 1) _ _ HS1.out (by omega) (by omega)).mono ?_
        rintro e w2 ⟨rfl, q2, rfl⟩
        rw [HC.out]
        obtain ⟨W2, hW2⟩ : ∃ W2, W2 = w1.drewN q2 := ⟨_, rfl⟩
        rw [← hW2]
        have hs2 : ScanAt W2 cs s ((I + 1 : Nat) : Int) ((0 : Nat) : Int) := by rw [hW2]; exact HS1.out.drewN _
        have HK2 := Lib.hid (show Keeps (fun b => b = cs) w W2 by rw [hW2]; exact HK1.out.drewN _)
        obtain ⟨d0, d1, d2, g1, g2⟩ := hs2.cells
        clear hW2
        go_wp2_with fail
        go_quiet ((go_at_call 59; exact Calls.quiet_of_same ((nameLen_any s (I + 1) _ (by omega) (by omega)).mono (fun e w' hh => ⟨by rw [hh.1, HRUN.out], hh.2.symm⟩))))
        obtain ⟨W3, hW3⟩ : ∃ W3, W3 = W2.drewN nq := ⟨_, rfl⟩
        rw [← hW3]
        have hs3 : ScanAt W3 cs s ((I + 1 : Nat) : Int) ((0 : Nat) : Int) := by rw [hW3]; exact hs2.drewN _
        have HK3 := Lib.hid (show Keeps (fun b => b = cs) w W3 by rw [hW3]; exact HK2.out.drewN _)
        clear hW3 d0 d1 d2 g1 g2 hs2
        go_wp2_with fail
        refine (rdigit_any' c _).mono ?_
        rintro e w4 ⟨rfl, hw4⟩
        rw [HD.out, hw4]
        clear hw4
        have hR3 := HROW.out.keep HK3.out (fun _ _ e => by omega)
        have hput := rput_any B 1 ⟨#[36]⟩ _ raw W3 hR3 (Nat.le_trans hB HK3.out.size) (by have := HR0.out; omega) (.inr ⟨rfl, by decide⟩)
        have HPUT := Lib.hid hput
        clear hR3 hput
        go_wp2_with fail
        refine HPUT.out.mono ?_
        rintro e w6 ⟨v6, rfl, hrow, hkeep⟩
        obtain ⟨a6, n6, c6, rfl⟩ : ∃ a n c, v6 = .slice a n c := by obtain ⟨a, c, e, _⟩ := hrow.shape; exact ⟨a, _, c, e⟩
        have HROW6 := Lib.hid hrow
        have HKEEP := Lib.hid hkeep
        clear hrow hkeep
        go_wp2_with fail
        go_ret
        rw [HRB.out]
        exact ⟨_, I + 1, rfl, by omega, rfl, hs3.keep HKEEP.out (fun e => by omega), HROW6.out, by rw [wtF_append]; show wtF raw + (1 + 1 + 0) ≤ _; omega, (HK3.out.mono fun _ _ e => .inl e).trans HKEEP.out (fun _ _ e => .inr e)⟩
end Go.Proofs.Ytnndnldpbdhkgaa
